/-
 bF 19 of the proof of Pb: the engine and the walks, in their order.
-/
import Derived.Test.YtlaefellhnkfbaaGreatPb5
import Derived.Test.YtlaefellhnkfbaaGreatPb16
import Derived.Test.YtlaefellhnkfbaaGreatPb17
import Derived.Test.YtlaefellhnkfbaaGreatPb18
set_option linter.unusedSimpArgs false
set_option linter.unusedVariables false
set_option maxRecDepth 10000
namespace Go.Eng
def aP (s : GSpan) : List DV := [.v (.int .i32 s.a), .v (.int .i32 s.b)]
def ah (d : GDesc) : List DV := [.v (.int .u8 d.node.toNat), .v (.int .u16 d.inc.toNat), .v (.int .u8 d.age.toNat), .fz 2 (d.filter.map aP)]
def fzD (l : List GDesc) : DV := .fz 4 (l.map ah)
end Go.Eng
namespace Go.Proofs.YtlaefellhnkfbaaGreat.V
open Go.Eng
attribute [local go_sem] aP ah fzD plR
end Go.Proofs.YtlaefellhnkfbaaGreat.V

set_option maxRecDepth 10000
namespace Go.Proofs.YtlaefellhnkfbaaGreat.V
open Go.Eng
attribute [local go_sem] aP plR
theorem gq : Con2 Tryz.prog 208 [] (· = plR (.agg (aP ⟨1, 0⟩))) := by
 refine af Ty.mixed Tryz.func208 rfl (by kernel_rfl) (by kernel_rfl) rfl [.cell 0 145] rfl ?_
 refine g2_ ?_
 refine g2_ ?_
 exact ⟨_, rfl, ac [] ws_⟩
theorem j5 (s : GSpan) : Con2 Tryz.prog 207 [.agg (aP s)] (· = plR (.agg (aP (im s)))) := by
 refine af Ty.mixed Tryz.func207 rfl (by kernel_rfl) (by kernel_rfl) rfl [.cell 2 145] rfl ?_
 refine g2_ ?_
 refine g2_ ?_
 unfold im
 refine bc (fun h => ?_) (fun h => ?_)
 ·rw [if_pos h]
  refine g2_ ?_
  refine CallS.eq gq ws_ (.inl ws_) ?_
  refine g2_ ?_
  exact ⟨_, rfl, ac [] ws_⟩
 ·rw [if_neg h]
  refine g2_ ?_
  exact ⟨_, rfl, ac [] ws_⟩
theorem z5 (x y : GSpan) : Con2 Tryz.prog 195 [.agg (aP x), .agg (aP y)] (· = plR (.tup [.agg (aP (if fP (eB x y) = true then ⟨0, 0⟩ else eB x y)), .v (.bool (!fP (eB x y)))])) := by
 refine af Ty.mixed Tryz.func195 rfl (by kernel_rfl) (by kernel_rfl) rfl [.cell 4 145, .tmp 5] rfl ?_
 refine g2_ ?_
 refine g2_ ?_
 refine CallS.eq (j5 (eB x y)) (by simp -implicitDefEqProofs only [go_sem, aa, eB]) (.inl ws_) ?_
 refine g2_ ?_
 refine .inl ⟨[(0, false), (1, true), (2, false)], by kernel_rfl, ?_⟩
 refine g2_ ?_
 refine CallS.eq gq ws_ (.inl ws_) ?_
 repeat first | simp -implicitDefEqProofs only [go_sem, aa, lF] | with_reducible first | refine gl_ ?_ | refine ga_ ?_ | refine gn_ ?_
 cases h : fP (eB x y) with
 | true =>
  refine g2_ ?_
  exact ⟨_, rfl, ac [] ws_⟩
 | false =>
  have h2 : im (eB x y) = eB x y := by unfold im; rw [if_neg (by simpa [fP] using h)]
  repeat first | simp -implicitDefEqProofs only [go_sem, aa, h2] | with_reducible first | refine gl_ ?_ | refine ga_ ?_ | refine gn_ ?_
  exact ⟨_, rfl, ac [] (by simp -implicitDefEqProofs only [go_sem, aa, if_false])⟩
theorem adV (x y : GSpan) : Con2 Tryz.prog 155 [.agg (aP x), .agg (aP y)] (· = plR (.v (.bool (afN x y)))) := by
 refine af Ty.mixed Tryz.func155 rfl (by kernel_rfl) (by kernel_rfl) rfl [.tmp 4] rfl ?_
 refine g2_ ?_
 refine g2_ ?_
 refine CallS.eq (j5 y) ws_ (.inl ws_) ?_
 refine g2_ ?_
 refine CallS.eq gq ws_ (.inl ws_) ?_
 repeat first | simp -implicitDefEqProofs only [go_sem, aa, lF] | with_reducible first | refine gl_ ?_ | refine ga_ ?_ | refine gn_ ?_
 unfold afN
 cases h : fP y with
 | true =>
  refine g2_ ?_
  exact ⟨_, rfl, ac [] ws_⟩
 | false =>
  refine g2_ ?_
  refine nJ (fun h1 => ?_) (fun h1 => ?_)
  all_goals
   repeat first | simp -implicitDefEqProofs only [go_sem, aa, h1] | with_reducible first | refine gl_ ?_ | refine ga_ ?_ | refine gn_ ?_
   exact ⟨_, rfl, ac [] (by simp -implicitDefEqProofs only [go_sem, aa, h1])⟩
end Go.Proofs.YtlaefellhnkfbaaGreat.V
