/-
  What the translation makes of any operation does what the operation does.
-/
import Derived.Test.YtbefkepinpollaaGreatDoorAmIfc
import Derived.Test.YtbefkepinpollaaGreatDoorAmCopy
namespace Go.Am
set_option linter.unusedSimpArgs false
set_option linter.unusedVariables false
open Go Go.RowKit
variable {P : Program} {o : Oper}

theorem some_inj {α : Type} {a b : α} (h : some a = some b) : a = b := Option.some.inj h
theorem size_eq {t : TypeId} {n : Nat} (h : szOf P t = some n) : ∃ i, P.info? t = some i ∧ i.size = n := by
  unfold szOf at h
  exact Option.map_eq_some_iff.1 h

set_option maxHeartbeats 1000000 in
theorem compOp_ok {a : AOp} (h : compOp P o = some a) : AopOK P o a := by
  unfold compOp at h
  split at h
  · rename_i x hop
    obtain ⟨d, hd, h⟩ := bind_some h
    cases some_inj h
    exact .pure (ok_mov hd (.inl hop))
  · rename_i x hop
    obtain ⟨d, hd, h⟩ := bind_some h
    cases some_inj h
    exact .pure (ok_mov hd (.inr hop))
  · rename_i c x y hop
    obtain ⟨dc, hc, h⟩ := bind_some h
    obtain ⟨da, ha, h⟩ := bind_some h
    obtain ⟨db, hb, h⟩ := bind_some h
    cases some_inj h
    exact .pure (ok_pick hc ha hb hop)
  · rename_i t hop
    obtain ⟨n, hn, h⟩ := bind_some h
    obtain ⟨z, hz, h⟩ := bind_some h
    cases some_inj h
    obtain ⟨i, Z, h1, h2, h3⟩ := zeroV_gam hz
    exact .act (ok_alloc hop h1 h2 h3)
  · rename_i t x hop
    obtain ⟨n, hn, h⟩ := bind_some h
    obtain ⟨d, hd, h⟩ := bind_some h
    cases some_inj h
    exact .act (ok_box hd hop)
  · rename_i t parts hop
    obtain ⟨z, hz, h⟩ := bind_some h
    obtain ⟨dsc, ht, h⟩ := bind_some h
    obtain ⟨i, Z, h1, h2, h3, h4⟩ := zeroL_gam hz
    cases dsc <;> try (simp at h; done)
    case struct fs =>
      obtain ⟨pl, hpl, h⟩ := bind_some h
      obtain ⟨ap, hap, h⟩ := bind_some h
      cases some_inj h
      exact .pure (ok_build hop hap h3 h4 (built_struct h1 h2 ht hpl))
    case array k e =>
      obtain ⟨n, hn, h⟩ := bind_some h
      obtain ⟨ap, hap, h⟩ := bind_some h
      cases some_inj h
      exact .pure (ok_build hop hap h3 h4 (built_array h1 h2 ht hn))
  · rename_i t len parts hop
    obtain ⟨dsc, ht, h⟩ := bind_some h
    cases dsc <;> try (simp at h; done)
    case slice e =>
      obtain ⟨⟨n, b, u8, z⟩, he, h⟩ := bind_some h
      obtain ⟨E⟩ := elemOf_ok he
      simp only at h
      split at h
      · simp at h
      · rename_i hle
        obtain ⟨ap, hap, h⟩ := bind_some h
        cases some_inj h
        exact .act (ok_bslice hop ht E (by simpa using hle) hap)
  · rename_i t x hop
    obtain ⟨g, hg, h⟩ := bind_some h
    cases g with
    | true =>
      obtain ⟨n, hn, h⟩ := bind_some h
      obtain ⟨d, hd, h⟩ := bind_some h
      cases some_inj h
      exact .read (ok_loadA hd hop hg hn)
    | false =>
      obtain ⟨d, hd, h⟩ := bind_some h
      cases some_inj h
      exact .read (ok_load2 hd hop hg)
  · rename_i t x y hop
    obtain ⟨n, hn, h⟩ := bind_some h
    cases n with
    | zero => simp at h
    | succ n =>
      obtain ⟨dx, hx, h⟩ := bind_some h
      obtain ⟨dy, hy, h⟩ := bind_some h
      cases some_inj h
      exact .act (ok_store hx hy hop hn)
  · rename_i x hop
    obtain ⟨d, hd, h⟩ := bind_some h
    cases some_inj h
    exact .pure (ok_nilck hd hop)
  · rename_i op xt x y yt hop
    split at h
    · rename_i hi
      obtain ⟨dx, hx, h⟩ := bind_some h
      obtain ⟨dy, hy, h⟩ := bind_some h
      cases some_inj h
      exact .pure (ok_eqI (.inl ⟨rfl, rfl⟩) hi hx hy hop)
    · rename_i hi
      obtain ⟨dx, hx, h⟩ := bind_some h
      obtain ⟨dy, hy, h⟩ := bind_some h
      cases some_inj h
      exact .pure (ok_eqI (.inr ⟨rfl, rfl⟩) hi hx hy hop)
    · obtain ⟨dx, hx, h⟩ := bind_some h
      obtain ⟨dy, hy, h⟩ := bind_some h
      exact compBin_ok hx hy hop h
  · rename_i t x hop
    obtain ⟨d, hd, h⟩ := bind_some h
    cases some_inj h
    exact .pure (ok_not hd hop)
  · rename_i t x hop
    obtain ⟨d, hd, h⟩ := bind_some h
    cases some_inj h
    exact .pure (ok_neg hd hop)
  · rename_i t x hop
    obtain ⟨d, hd, h⟩ := bind_some h
    cases some_inj h
    exact .pure (ok_com hd hop)
  · rename_i s t x hop
    obtain ⟨ds, hs, h⟩ := bind_some h
    obtain ⟨dt, ht, h⟩ := bind_some h
    split at h
    · obtain ⟨d, hd, h⟩ := bind_some h
      cases some_inj h
      exact .pure (ok_toInt hd hop hs ht)
    · obtain ⟨de, he, h⟩ := bind_some h
      split at h
      · split at h
        · rename_i hst
          have hst' : s = t := by simpa using hst
          obtain ⟨d, hd, h⟩ := bind_some h
          cases some_inj h
          exact .act (ok_strish (e' := 0) hd (by rw [hop, hst']) (hst' ▸ hs) he)
        · simp at h
      · simp at h
    · obtain ⟨d, hd, h⟩ := bind_some h
      cases some_inj h
      exact .pure (ok_strId hd hop hs ht)
    · obtain ⟨de, he, h⟩ := bind_some h
      split at h
      · obtain ⟨d, hd, h⟩ := bind_some h
        cases some_inj h
        exact .act (ok_toBytes hd hop hs ht he)
      · simp at h
    · obtain ⟨de, he, h⟩ := bind_some h
      split at h
      · obtain ⟨d, hd, h⟩ := bind_some h
        cases some_inj h
        exact .read (ok_toStr hd hop hs he ht)
      · simp at h
    · obtain ⟨d, hd, h⟩ := bind_some h
      cases some_inj h
      exact .pure (ok_runeS hd hop hs ht)
    · simp at h
  · rename_i f x y hop
    obtain ⟨da, ha, h⟩ := bind_some h
    obtain ⟨dc, hc, h⟩ := bind_some h
    cases some_inj h
    exact .pure (ok_func ha hc hop)
  · rename_i t l c hop
    obtain ⟨dsc, ht, h⟩ := bind_some h
    cases dsc <;> try (simp at h; done)
    case slice e =>
      obtain ⟨⟨n, b, u8, z⟩, he, h⟩ := bind_some h
      obtain ⟨E⟩ := elemOf_ok he
      obtain ⟨dl, hl, h⟩ := bind_some h
      obtain ⟨dc, hc, h⟩ := bind_some h
      cases some_inj h
      exact .act (ok_mkSlice hl hc hop ht E)
  · rename_i t hop
    cases some_inj h
    exact .act (ok_mkMap hop)
  · rename_i t m x ok hop
    obtain ⟨dsc, ht, h⟩ := bind_some h
    cases dsc <;> try (simp at h; done)
    case map k e =>
      obtain ⟨kf, hkf, h⟩ := bind_some h
      obtain ⟨z, hz, h⟩ := bind_some h
      obtain ⟨dm, hm, h⟩ := bind_some h
      obtain ⟨dx, hx, h⟩ := bind_some h
      cases some_inj h
      obtain ⟨i, Z, h1, h2, h3⟩ := zeroV_gam hz
      exact .read (ok_lookup hm hx hop ht (keyFn_ok hkf) h1 h2 h3)
  · rename_i t m x v hop
    obtain ⟨dsc, ht, h⟩ := bind_some h
    cases dsc <;> try (simp at h; done)
    case map k e =>
      obtain ⟨kf, hkf, h⟩ := bind_some h
      obtain ⟨dm, hm, h⟩ := bind_some h
      obtain ⟨dx, hx, h⟩ := bind_some h
      obtain ⟨dv, hv, h⟩ := bind_some h
      cases some_inj h
      exact .act (ok_mapSet hm hx hv hop ht (keyFn_ok hkf))
  · rename_i t x hop
    obtain ⟨dsc, ht, h⟩ := bind_some h
    cases dsc <;> try (simp at h; done)
    case string =>
      obtain ⟨d, hd, h⟩ := bind_some h
      cases some_inj h
      exact .act (ok_rangeS hd hop ht)
    case map k e =>
      obtain ⟨d, hd, h⟩ := bind_some h
      cases some_inj h
      exact .act (ok_rangeM hd hop ht)
  · rename_i x hop
    obtain ⟨d, hd, h⟩ := bind_some h
    cases some_inj h
    exact .act (ok_nextS hd hop)
  · rename_i x hop
    obtain ⟨d, hd, h⟩ := bind_some h
    cases some_inj h
    exact ok_nextM hd hop
  · rename_i x hop
    obtain ⟨d, hd, h⟩ := bind_some h
    cases some_inj h
    exact .read (ok_entry hd hop)
  · rename_i t x hop
    obtain ⟨dsc, ht, h⟩ := bind_some h
    split at h
    · simp at h
    · rename_i hni
      obtain ⟨d, hd, h⟩ := bind_some h
      cases some_inj h
      exact .pure (ok_iface hd hop ht hni)
  · rename_i x xt t ok hop
    obtain ⟨dsc, ht, h⟩ := bind_some h
    split at h
    · simp at h
    · rename_i hni
      obtain ⟨z, hz, h⟩ := bind_some h
      obtain ⟨d, hd, h⟩ := bind_some h
      cases some_inj h
      exact .pure (ok_assert hd hop ht hni hz)
  · rename_i t x lo hi hop
    obtain ⟨dsc, ht, h⟩ := bind_some h
    cases dsc <;> try (simp at h; done)
    case slice e =>
      obtain ⟨n, hn, h⟩ := bind_some h
      obtain ⟨d, hd, h⟩ := bind_some h
      obtain ⟨dl, hl, h⟩ := bind_some h
      obtain ⟨dh, hh, h⟩ := bind_some h
      cases some_inj h
      exact .pure (ok_slice2 hd hl hh hop ht hn)
    case string =>
      obtain ⟨d, hd, h⟩ := bind_some h
      obtain ⟨dl, hl, h⟩ := bind_some h
      obtain ⟨dh, hh, h⟩ := bind_some h
      cases some_inj h
      exact .pure (ok_sliceS hd hl hh hop ht)
    case array k e =>
      obtain ⟨n, hn, h⟩ := bind_some h
      obtain ⟨d, hd, h⟩ := bind_some h
      obtain ⟨dl, hl, h⟩ := bind_some h
      obtain ⟨dh, hh, h⟩ := bind_some h
      cases some_inj h
      exact .pure (ok_sliceA hd hl hh hop ht hn)
  · rename_i t x lo hi mx hop
    obtain ⟨dsc, ht, h⟩ := bind_some h
    cases dsc <;> try (simp at h; done)
    case slice e =>
      obtain ⟨n, hn, h⟩ := bind_some h
      obtain ⟨d, hd, h⟩ := bind_some h
      obtain ⟨l, hl, h⟩ := bind_some h
      obtain ⟨hh', hh, h⟩ := bind_some h
      obtain ⟨m, hm, h⟩ := bind_some h
      cases some_inj h
      exact .pure (ok_slice3 hd hl hh hm hop ht hn)
  · rename_i t x i hop
    obtain ⟨dsc, ht, h⟩ := bind_some h
    cases dsc <;> try (simp at h; done)
    case struct fs =>
      obtain ⟨f, hf, h⟩ := bind_some h
      obtain ⟨n, hn, h⟩ := bind_some h
      cases n with
      | zero => simp at h
      | succ n =>
        obtain ⟨d, hd, h⟩ := bind_some h
        cases some_inj h
        exact .pure (ok_faddr hd hop ht hf hn)
  · rename_i t x i hop
    obtain ⟨dsc, ht, h⟩ := bind_some h
    cases dsc <;> try (simp at h; done)
    case struct fs =>
      obtain ⟨f, hf, h⟩ := bind_some h
      obtain ⟨g, hg, h⟩ := bind_some h
      cases g with
      | true =>
        obtain ⟨n, hn, h⟩ := bind_some h
        obtain ⟨d, hd, h⟩ := bind_some h
        cases some_inj h
        exact .pure (ok_fieldA hd hop ht hf hg hn)
      | false =>
        obtain ⟨d, hd, h⟩ := bind_some h
        cases some_inj h
        exact .pure (ok_field hd hop ht hf hg)
  · rename_i t x i hop
    obtain ⟨dsc, ht, h⟩ := bind_some h
    cases dsc <;> try (simp at h; done)
    case slice e =>
      obtain ⟨n, hn, h⟩ := bind_some h
      obtain ⟨d, hd, h⟩ := bind_some h
      obtain ⟨di, hi, h⟩ := bind_some h
      cases some_inj h
      exact .pure (ok_iaddr hd hi hop ht hn)
    case array k e =>
      obtain ⟨n, hn, h⟩ := bind_some h
      obtain ⟨d, hd, h⟩ := bind_some h
      obtain ⟨di, hi, h⟩ := bind_some h
      cases some_inj h
      exact .pure (ok_iaddrA hd hi hop ht hn)
  · rename_i t x i hop
    obtain ⟨dsc, ht, h⟩ := bind_some h
    cases dsc <;> try (simp at h; done)
    case string =>
      obtain ⟨d, hd, h⟩ := bind_some h
      obtain ⟨di, hi, h⟩ := bind_some h
      cases some_inj h
      exact .pure (ok_idxS hd hi hop ht)
    case array k e =>
      obtain ⟨g, hg, h⟩ := bind_some h
      cases g with
      | true =>
        obtain ⟨n, hn, h⟩ := bind_some h
        obtain ⟨d, hd, h⟩ := bind_some h
        obtain ⟨di, hi, h⟩ := bind_some h
        cases some_inj h
        exact .pure (ok_idxA hd hi hop ht hg hn)
      | false =>
        obtain ⟨n, hn, h⟩ := bind_some h
        split at h
        · obtain ⟨d, hd, h⟩ := bind_some h
          obtain ⟨di, hi, h⟩ := bind_some h
          cases some_inj h
          exact .pure (ok_idx hd hi hop ht hg hn)
        · simp at h
  · rename_i x i hop
    obtain ⟨d, hd, h⟩ := bind_some h
    cases some_inj h
    exact .pure (ok_extract hd hop)
  · rename_i c hop
    split at h
    · rename_i hc
      split at h
      · rename_i x t h1 h2
        have h1' : c.args = #[x] := Array.toList_inj.1 h1
        have h2' : c.argTypes = #[t] := Array.toList_inj.1 h2
        obtain ⟨dsc, ht, h⟩ := bind_some h
        cases dsc <;> try (simp at h; done)
        case string =>
          obtain ⟨d, hd, h⟩ := bind_some h
          cases some_inj h
          exact .pure (ok_lenS hd hop hc h1' h2' ht)
        case slice e =>
          obtain ⟨d, hd, h⟩ := bind_some h
          cases some_inj h
          exact .pure (ok_lenL2 hd hop hc h1' h2' ht)
        case map k e =>
          obtain ⟨d, hd, h⟩ := bind_some h
          cases some_inj h
          exact .read (ok_lenM hd hop hc h1' h2' ht)
      · simp at h
    · rename_i hc
      split at h
      · rename_i x y h1
        have h1' : c.args = #[x, y] := Array.toList_inj.1 h1
        obtain ⟨dx, hx, h⟩ := bind_some h
        obtain ⟨dy, hy, h⟩ := bind_some h
        cases some_inj h
        exact .pure (ok_min false hx hy hop hc h1')
      · simp at h
    · rename_i hc
      split at h
      · rename_i x y h1
        have h1' : c.args = #[x, y] := Array.toList_inj.1 h1
        obtain ⟨dx, hx, h⟩ := bind_some h
        obtain ⟨dy, hy, h⟩ := bind_some h
        cases some_inj h
        exact .pure (ok_min true hx hy hop hc h1')
      · simp at h
    · rename_i hc
      split at h
      · rename_i m x t ts h1 h2
        have h1' : c.args = #[m, x] := Array.toList_inj.1 h1
        obtain ⟨dt, ht, h⟩ := bind_some h
        split at h
        · obtain ⟨kf, hkf, h⟩ := bind_some h
          obtain ⟨dm, hm, h⟩ := bind_some h
          obtain ⟨dx, hx, h⟩ := bind_some h
          cases some_inj h
          exact .act (ok_mapDel hm hx hop hc h1' h2 ht (keyFn_ok hkf))
        · simp at h
      · simp at h
    · rename_i hc
      split at h
      · rename_i s x t xt h1 h2
        have h1' : c.args = #[s, x] := Array.toList_inj.1 h1
        have h2' : c.argTypes = #[t, xt] := Array.toList_inj.1 h2
        obtain ⟨dt, ht, h⟩ := bind_some h
        obtain ⟨du, hu, h⟩ := bind_some h
        split at h
        · rename_i e k0
          obtain ⟨⟨n, b, u8, z⟩, he, h⟩ := bind_some h
          obtain ⟨E⟩ := elemOf_ok he
          simp only at h
          split at h
          · obtain ⟨ds, hs, h⟩ := bind_some h
            obtain ⟨dx, hx, h⟩ := bind_some h
            cases some_inj h
            exact .act (ok_appendZ hs hx hop hc h1' h2' ht hu E (by omega) (by omega))
          · simp at h
        · rename_i e e'
          obtain ⟨⟨n, b, u8, z⟩, he, h⟩ := bind_some h
          obtain ⟨E⟩ := elemOf_ok he
          simp only at h
          split at h
          · obtain ⟨ds, hs, h⟩ := bind_some h
            obtain ⟨dx, hx, h⟩ := bind_some h
            cases some_inj h
            exact .act (ok_append2 hs hx hop hc h1' h2' ht hu (.inl ⟨_, rfl⟩) E (by omega) (by omega))
          · simp at h
        · rename_i e
          obtain ⟨⟨n, b, u8, z⟩, he, h⟩ := bind_some h
          obtain ⟨E⟩ := elemOf_ok he
          simp only at h
          split at h
          · obtain ⟨ds, hs, h⟩ := bind_some h
            obtain ⟨dx, hx, h⟩ := bind_some h
            cases some_inj h
            exact .act (ok_append2 hs hx hop hc h1' h2' ht hu (.inr rfl) E (by omega) (by omega))
          · simp at h
        · simp at h
      · simp at h
    · rename_i hc
      split at h
      · rename_i s x t ts h1 h2
        have h1' : c.args = #[s, x] := Array.toList_inj.1 h1
        have h2' : c.argTypes[0]? = some t := by
          have := congrArg (fun l : List TypeId => l[0]?) h2
          simpa using this
        obtain ⟨dt, ht, h⟩ := bind_some h
        split at h
        · rename_i e
          obtain ⟨⟨n, b, u8, z⟩, he, h⟩ := bind_some h
          obtain ⟨E⟩ := elemOf_ok he
          simp only at h
          split at h
          · obtain ⟨ds, hs, h⟩ := bind_some h
            obtain ⟨dx, hx, h⟩ := bind_some h
            cases some_inj h
            exact .act (ok_copy hs hx hop hc h1' h2' ht E (by omega))
          · simp at h
        · simp at h
      · simp at h
    · rename_i f hc
      split at h
      · rename_i hi
        split at h
        · rename_i s x h1
          have h1' : c.args = #[s, x] := Array.toList_inj.1 h1
          obtain ⟨ds, hs, h⟩ := bind_some h
          obtain ⟨dx, hx, h⟩ := bind_some h
          cases some_inj h
          exact .pure (ok_idxB hi hs hx hop hc h1')
        · simp at h
      · split at h
        · rename_i hi
          split at h
          · rename_i s x h1
            have h1' : c.args = #[s, x] := Array.toList_inj.1 h1
            obtain ⟨ds, hs, h⟩ := bind_some h
            obtain ⟨dx, hx, h⟩ := bind_some h
            cases some_inj h
            exact .pure (ok_cntB hi hs hx hop hc h1')
          · simp at h
        · obtain ⟨args, ha, h⟩ := bind_some h
          cases some_inj h
          exact ⟨c, hop, ⟨_, hc, rfl⟩, ha⟩
    · rename_i x _ hc
      obtain ⟨d, hd, h⟩ := bind_some h
      obtain ⟨args, ha, h⟩ := bind_some h
      cases some_inj h
      exact ⟨c, x, hop, hc, hd, ha⟩
    · rename_i recv name hc
      obtain ⟨d, hd, h⟩ := bind_some h
      obtain ⟨args, ha, h⟩ := bind_some h
      cases some_inj h
      exact ⟨c, recv, name, hop, hc, hd, rfl, ha⟩
    · simp at h
  · simp at h

end Go.Am
