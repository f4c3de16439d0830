/-
 Part 19 of the proof of Pj: the engine and the walks, in their order.
-/
import Derived.Test.YtlaefellhnkfbaaGreatPj5
import Derived.Test.YtlaefellhnkfbaaGreatPj16
import Derived.Test.YtlaefellhnkfbaaGreatPj17
import Derived.Test.YtlaefellhnkfbaaGreatPj18
set_option linter.unusedSimpArgs false
set_option linter.unusedVariables false
set_option maxRecDepth 10000
namespace Go.Eng
def aU (s : GSpan) : List DV := [.v (.int .i32 s.a), .v (.int .i32 s.b)]
def ah (d : GDesc) : List DV := [.v (.int .u8 d.node.toNat), .v (.int .u16 d.inc.toNat), .v (.int .u8 d.age.toNat), .fz 2 (d.filter.map aU)]
def fzD (l : List GDesc) : DV := .fz 4 (l.map ah)
end Go.Eng
namespace Go.Proofs.YtlaefellhnkfbaaGreat.V
open Go.Eng
attribute [local go_sem] aU ah fzD plR
end Go.Proofs.YtlaefellhnkfbaaGreat.V

set_option maxRecDepth 10000
namespace Go.Proofs.YtlaefellhnkfbaaGreat.V
open Go.Eng
attribute [local go_sem] aU plR
theorem gS : Con2 Tryz.prog 208 [] (· = plR (.agg (aU ⟨1, 0⟩))) := by
 refine af Ty.mixed Tryz.func208 rfl (by kernel_rfl) (by kernel_rfl) rfl [.cell 0 145] rfl ?_
 refine g2_ ?_
 refine g2_ ?_
 exact ⟨_, rfl, ab [] ws_⟩
theorem kF (s : GSpan) : Con2 Tryz.prog 207 [.agg (aU s)] (· = plR (.agg (aU (iU s)))) := by
 refine af Ty.mixed Tryz.func207 rfl (by kernel_rfl) (by kernel_rfl) rfl [.cell 2 145] rfl ?_
 refine g2_ ?_
 refine g2_ ?_
 unfold iU
 refine bm (fun h => ?_) (fun h => ?_)
 ·rw [if_pos h]
  refine g2_ ?_
  refine CallS.eq gS ws_ (.inl ws_) ?_
  refine g2_ ?_
  exact ⟨_, rfl, ab [] ws_⟩
 ·rw [if_neg h]
  refine g2_ ?_
  exact ⟨_, rfl, ab [] ws_⟩
theorem abD (x y : GSpan) : Con2 Tryz.prog 195 [.agg (aU x), .agg (aU y)] (· = plR (.tup [.agg (aU (if gB (fc x y) = true then ⟨0, 0⟩ else fc x y)), .v (.bool (!gB (fc x y)))])) := by
 refine af Ty.mixed Tryz.func195 rfl (by kernel_rfl) (by kernel_rfl) rfl [.cell 4 145, .tmp 5] rfl ?_
 refine g2_ ?_
 refine g2_ ?_
 refine CallS.eq (kF (fc x y)) (by simp -implicitDefEqProofs only [go_sem, aa, fc]) (.inl ws_) ?_
 refine g2_ ?_
 refine .inl ⟨[(0, false), (1, true), (2, false)], by kernel_rfl, ?_⟩
 refine g2_ ?_
 refine CallS.eq gS ws_ (.inl ws_) ?_
 refine gf_ @mW ?_
 cases h : gB (fc x y) with
 | true =>
  refine g2_ ?_
  exact ⟨_, rfl, ab [] ws_⟩
 | false =>
  have h2 : iU (fc x y) = fc x y := by unfold iU; rw [if_neg (by simpa [gB] using h)]
  refine gf_ h2 ?_
  exact ⟨_, rfl, ab [] wx_⟩
theorem adC (x y : GSpan) : Con2 Tryz.prog 155 [.agg (aU x), .agg (aU y)] (· = plR (.v (.bool (ai1 x y)))) := by
 refine af Ty.mixed Tryz.func155 rfl (by kernel_rfl) (by kernel_rfl) rfl [.tmp 4] rfl ?_
 refine g2_ ?_
 refine g2_ ?_
 refine CallS.eq (kF y) ws_ (.inl ws_) ?_
 refine g2_ ?_
 refine CallS.eq gS ws_ (.inl ws_) ?_
 refine gf_ @mW ?_
 unfold ai1
 cases h : gB y with
 | true =>
  refine g2_ ?_
  exact ⟨_, rfl, ab [] ws_⟩
 | false =>
  refine g2_ ?_
  refine qa (fun h1 => ?_) (fun h1 => ?_)
  all_goals
   refine gf_ h1 ?_
   exact ⟨_, rfl, ab [] (wf_ h1)⟩
end Go.Proofs.YtlaefellhnkfbaaGreat.V
