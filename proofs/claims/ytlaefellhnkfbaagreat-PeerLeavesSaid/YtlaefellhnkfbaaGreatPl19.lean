/-
  Part 19 of the proof of Pl: the engine and the walks, in their order.
-/
import Derived.Test.YtlaefellhnkfbaaGreatPl5
import Derived.Test.YtlaefellhnkfbaaGreatPl16
import Derived.Test.YtlaefellhnkfbaaGreatPl17
import Derived.Test.YtlaefellhnkfbaaGreatPl18
set_option linter.unusedSimpArgs false
set_option linter.unusedVariables false
set_option maxRecDepth 10000
namespace Go.Eng
def encS (s : GSpan) : List DV := [.v (.int .i32 s.a), .v (.int .i32 s.b)]
def encDD (d : GDesc) : List DV := [.v (.int .u8 d.node.toNat), .v (.int .u16 d.inc.toNat), .v (.int .u8 d.age.toNat), .fz 2 (d.filter.map encS)]
def fzD (l : List GDesc) : DV := .fz 4 (l.map encDD)
theorem gdesc_dec (x y : GDesc) : decide (x = y) = (((x.node.toNat : Int) == y.node.toNat) && ((x.inc.toNat : Int) == y.inc.toNat) && ((x.age.toNat : Int) == y.age.toNat) && decide (x.filter = y.filter)) := by
  rw [u8_beq, u16_beq, u8_beq]
  cases x; cases y
  rw [Bool.eq_iff_iff]
  simp [and_comm, and_left_comm, and_assoc]
end Go.Eng
namespace Go.Proofs.YtlaefellhnkfbaaGreat.V
open Go.Eng
attribute [local go_sem] encS encDD fzD plR
theorem lSpans_con (l m : List GSpan) (hl : l.length ≤ 9223372036854775807) : Con2 Tryz.prog 51 [.fz 2 (l.map encS), .fz 2 (m.map encS)] (· = plR (.v (.bool (decide (l = m))))) := by
  refine con2_of Ty.mixed Tryz.func51 rfl (by kernel_rfl) (by kernel_rfl) rfl [.tmp 4] rfl ?_
  refine g2_ ?_
  refine cond2_ne (fun h => ?_) (fun h => ?_)
  · refine g2_ ?_
    have hne : l ≠ m := fun e => h (by rw [e])
    exact ⟨_, rfl, le2_of [] (by simp -implicitDefEqProofs only [go_sem, vc2_blk, hne])⟩
  · refine g2_ ?_
    have hlm : l.length = m.length := by omega
    refine vc2_rangeA l.length (fun k => []) (fun _ => []) (fun k => []) 0 (fun k => l.take k = m.take k) (le2_of [] ?_) rfl (fun g k => by simp -implicitDefEqProofs only [go_sem, vc2_blk]) (by omega) (fun g => by simp -implicitDefEqProofs only [go_sem, vc2_blk]) (fun k hk hF => ?_) (fun hF => ?_)
    · refine g2_ ?_
      first | rfl | exact ⟨rfl, rfl⟩
    · have hk2 : k < m.length := by omega
      refine g2_ ?_
      refine .inl ⟨[(0, false), (1, false), (4, false), (5, false), (2, false), (6, false), (3, false), (7, false), (8, false)], by kernel_rfl, ?_⟩
      repeat first | simp -implicitDefEqProofs only [go_sem, vc2_blk, mapE_get hk, mapE_get hk2] | with_reducible first | refine gl_ ?_ | refine ga_ ?_ | refine gn_ ?_
      refine cond2_dec (fun he => ?_) (fun he => ?_)
      · refine g2_ ?_
        refine ⟨k + 1, le2_of [] ws_, rfl, ?_⟩
        rw [List.take_add_one, List.take_add_one, List.getElem?_eq_getElem hk, List.getElem?_eq_getElem hk2, he, hF]
      · refine g2_ ?_
        have hne : l ≠ m := fun e => he (by subst e; rfl)
        exact ⟨_, rfl, le2_of [] (by simp -implicitDefEqProofs only [go_sem, vc2_blk, hne])⟩
    · refine g2_ ?_
      have hee : l = m := by
        have := hF
        rwa [List.take_of_length_le (Nat.le_refl _), List.take_of_length_le (by omega)] at this
      exact ⟨_, rfl, le2_of [] (by simp -implicitDefEqProofs only [go_sem, vc2_blk, hee])⟩
theorem lDesc_con (a b : GDesc) (ha : a.filter.length ≤ 9223372036854775807) : Con2 Tryz.prog 33 [.agg (encDD a), .agg (encDD b)] (· = plR (.v (.bool (decide (a = b))))) := by
  refine con2_of Ty.mixed Tryz.func33 rfl (by kernel_rfl) (by kernel_rfl) rfl [.tmp 4] rfl ?_
  refine g2_ ?_
  refine guard2 (fun h1 => ?_) (fun h1 => ?_)
  · repeat first | simp -implicitDefEqProofs only [go_sem, vc2_blk, h1] | with_reducible first | refine gl_ ?_ | refine ga_ ?_ | refine gn_ ?_
    refine guard2 (fun h2 => ?_) (fun h2 => ?_)
    · repeat first | simp -implicitDefEqProofs only [go_sem, vc2_blk, h2] | with_reducible first | refine gl_ ?_ | refine ga_ ?_ | refine gn_ ?_
      refine guard2 (fun h3 => ?_) (fun h3 => ?_)
      · repeat first | simp -implicitDefEqProofs only [go_sem, vc2_blk, h3] | with_reducible first | refine gl_ ?_ | refine ga_ ?_ | refine gn_ ?_
        refine CallS.eq (lSpans_con a.filter b.filter ha) ws_ (.inl ws_) ?_
        refine g2_ ?_
        exact ⟨_, rfl, le2_of [] (by simp -implicitDefEqProofs only [go_sem, vc2_blk, gdesc_dec, h1, h2, h3])⟩
      · repeat first | simp -implicitDefEqProofs only [go_sem, vc2_blk, h3] | with_reducible first | refine gl_ ?_ | refine ga_ ?_ | refine gn_ ?_
        exact ⟨_, rfl, le2_of [] (by simp -implicitDefEqProofs only [go_sem, vc2_blk, gdesc_dec, h1, h2, h3])⟩
    · repeat first | simp -implicitDefEqProofs only [go_sem, vc2_blk, h2] | with_reducible first | refine gl_ ?_ | refine ga_ ?_ | refine gn_ ?_
      exact ⟨_, rfl, le2_of [] (by simp -implicitDefEqProofs only [go_sem, vc2_blk, gdesc_dec, h1, h2])⟩
  · repeat first | simp -implicitDefEqProofs only [go_sem, vc2_blk, h1] | with_reducible first | refine gl_ ?_ | refine ga_ ?_ | refine gn_ ?_
    exact ⟨_, rfl, le2_of [] (by simp -implicitDefEqProofs only [go_sem, vc2_blk, gdesc_dec, h1])⟩
end Go.Proofs.YtlaefellhnkfbaaGreat.V

set_option maxRecDepth 10000
namespace Go.Proofs.YtlaefellhnkfbaaGreat.V
open Go.Eng
attribute [local go_sem] encS plR
theorem nothing_con : Con2 Tryz.prog 208 [] (· = plR (.agg (encS ⟨1, 0⟩))) := by
  refine con2_of Ty.mixed Tryz.func208 rfl (by kernel_rfl) (by kernel_rfl) rfl [.cell 0 145] rfl ?_
  refine g2_ ?_
  refine g2_ ?_
  exact ⟨_, rfl, le2_of [] ws_⟩
theorem splain_con (s : GSpan) : Con2 Tryz.prog 207 [.agg (encS s)] (· = plR (.agg (encS (sPlain s)))) := by
  refine con2_of Ty.mixed Tryz.func207 rfl (by kernel_rfl) (by kernel_rfl) rfl [.cell 2 145] rfl ?_
  refine g2_ ?_
  refine g2_ ?_
  unfold sPlain
  refine cond2_dec (fun h => ?_) (fun h => ?_)
  · rw [if_pos h]
    refine g2_ ?_
    refine CallS.eq nothing_con ws_ (.inl ws_) ?_
    refine g2_ ?_
    exact ⟨_, rfl, le2_of [] ws_⟩
  · rw [if_neg h]
    refine g2_ ?_
    exact ⟨_, rfl, le2_of [] ws_⟩
theorem smeet_con (x y : GSpan) : Con2 Tryz.prog 195 [.agg (encS x), .agg (encS y)] (· = plR (.tup [.agg (encS (if sNone (sMeet x y) = true then ⟨0, 0⟩ else sMeet x y)), .v (.bool (!sNone (sMeet x y)))])) := by
  refine con2_of Ty.mixed Tryz.func195 rfl (by kernel_rfl) (by kernel_rfl) rfl [.cell 4 145, .tmp 5] rfl ?_
  refine g2_ ?_
  refine g2_ ?_
  refine CallS.eq (splain_con (sMeet x y)) (by simp -implicitDefEqProofs only [go_sem, vc2_blk, sMeet]) (.inl ws_) ?_
  refine g2_ ?_
  refine .inl ⟨[(0, false), (1, true), (2, false)], by kernel_rfl, ?_⟩
  refine g2_ ?_
  refine CallS.eq nothing_con ws_ (.inl ws_) ?_
  repeat first | simp -implicitDefEqProofs only [go_sem, vc2_blk, sPlain_eq] | with_reducible first | refine gl_ ?_ | refine ga_ ?_ | refine gn_ ?_
  cases h : sNone (sMeet x y) with
  | true =>
    refine g2_ ?_
    exact ⟨_, rfl, le2_of [] ws_⟩
  | false =>
    have h2 : sPlain (sMeet x y) = sMeet x y := by unfold sPlain; rw [if_neg (by simpa [sNone] using h)]
    repeat first | simp -implicitDefEqProofs only [go_sem, vc2_blk, h2] | with_reducible first | refine gl_ ?_ | refine ga_ ?_ | refine gn_ ?_
    exact ⟨_, rfl, le2_of [] (by simp -implicitDefEqProofs only [go_sem, vc2_blk, if_false])⟩
theorem scov_con (x y : GSpan) : Con2 Tryz.prog 155 [.agg (encS x), .agg (encS y)] (· = plR (.v (.bool (sCov x y)))) := by
  refine con2_of Ty.mixed Tryz.func155 rfl (by kernel_rfl) (by kernel_rfl) rfl [.tmp 4] rfl ?_
  refine g2_ ?_
  refine g2_ ?_
  refine CallS.eq (splain_con y) ws_ (.inl ws_) ?_
  refine g2_ ?_
  refine CallS.eq nothing_con ws_ (.inl ws_) ?_
  repeat first | simp -implicitDefEqProofs only [go_sem, vc2_blk, sPlain_eq] | with_reducible first | refine gl_ ?_ | refine ga_ ?_ | refine gn_ ?_
  unfold sCov
  cases h : sNone y with
  | true =>
    refine g2_ ?_
    exact ⟨_, rfl, le2_of [] ws_⟩
  | false =>
    refine g2_ ?_
    refine guard2 (fun h1 => ?_) (fun h1 => ?_)
    all_goals
      repeat first | simp -implicitDefEqProofs only [go_sem, vc2_blk, h1] | with_reducible first | refine gl_ ?_ | refine ga_ ?_ | refine gn_ ?_
      exact ⟨_, rfl, le2_of [] (by simp -implicitDefEqProofs only [go_sem, vc2_blk, h1])⟩
end Go.Proofs.YtlaefellhnkfbaaGreat.V
