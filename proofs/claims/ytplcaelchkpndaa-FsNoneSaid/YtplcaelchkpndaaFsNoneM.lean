/- The arguments, heaps and answers of the pieces of 'FsNone'. No condition. -/
import Derived.Test.YtplcaelchkpndaaFsNoneH2
namespace Go.Proofs.Ytplcaelchkpndaa.fsNoneMem
open Go Go.Am T
set_option maxRecDepth 100000
noncomputable def a0 : List AV := [.nilptr]
noncomputable def h0 : Hp := ⟨lf, 0⟩
noncomputable def v0 : AV := (.tup [.nilptr, (.int .i64 (.ofNat 22))])
noncomputable def k0 : Hp := ⟨lf, 0⟩
noncomputable def a1 : List AV := [(.ptr 232 0)]
noncomputable def h1 : Hp := ⟨t7, 246⟩
noncomputable def v1 : AV := (.int .i64 (.ofNat 0))
noncomputable def k1 : Hp := ⟨t17, 359⟩
noncomputable def a2 : List AV := [(.ptr 1 0)]
noncomputable def h2 : Hp := ⟨(nd (nd lf (.some (.mk .true 5 (.row [(.slice 0 0 400 .true 400), (.bool .false), (.int .i64 (.ofNat 0)), (.bool .false), (.int .i64 (.ofNat 0))]))) lf) (.some (.mk .true 3 (.big 1200 lf [.nilslice, .nilslice, (.bool .false)]))) lf), 2⟩
noncomputable def v2 : AV := (.int .i64 (.ofNat 0))
noncomputable def k2 : Hp := ⟨t17, 359⟩
noncomputable def a3 : List AV := [(.ptr 1 0)]
noncomputable def h3 : Hp := ⟨t17, 359⟩
noncomputable def v3 : AV := (.tup [(.ptr 487 0), (.int .i64 (.ofNat 0))])
noncomputable def k3 : Hp := ⟨t37, 784⟩
noncomputable def a4 : List AV := [(.ptr 487 0)]
noncomputable def h4 : Hp := ⟨t57, 817⟩
noncomputable def v4 : AV := (.int .i64 (.ofNat 0))
noncomputable def k4 : Hp := ⟨t80, 930⟩
noncomputable def a5 : List AV := [(.ptr 931 0)]
noncomputable def h5 : Hp := ⟨t120, 1332⟩
noncomputable def v5 : AV := (.tup [(.ptr 1449 0), (.int .i64 (.ofNat 0))])
noncomputable def k5 : Hp := ⟨t164, 1753⟩
noncomputable def a6 : List AV := [.nilptr]
noncomputable def h6 : Hp := ⟨t175, 1759⟩
noncomputable def v6 : AV := (.int .i64 (.ofNat 5))
noncomputable def k6 : Hp := ⟨t175, 1759⟩
noncomputable def a7 : List AV := [.nilptr]
noncomputable def h7 : Hp := ⟨t175, 1759⟩
noncomputable def v7 : AV := (.int .i64 (.ofNat 22))
noncomputable def k7 : Hp := ⟨t175, 1759⟩
end Go.Proofs.Ytplcaelchkpndaa.fsNoneMem
