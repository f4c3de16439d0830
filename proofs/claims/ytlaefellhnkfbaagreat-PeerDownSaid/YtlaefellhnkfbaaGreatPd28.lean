/-
  Part 28 of the proof of Pd: the engine and the walks, in their order.
-/
import Derived.Test.YtlaefellhnkfbaaGreatPd22
import Derived.Test.YtlaefellhnkfbaaGreatPd27
set_option linter.unusedSimpArgs false
set_option linter.unusedVariables false
set_option maxRecDepth 10000
namespace Go.Proofs.YtlaefellhnkfbaaGreat.V
open Go.Eng
attribute [local go_sem] encS encDD fzD plR rowR putR
theorem oldest_con (l : List GDesc) (hn : l.length ≤ 9223372036854775807) : Con2 Tryz.prog 193 [fzD l] (· = plR (.v (.int .i64 (dOldest l)))) := by
  refine con2_of Ty.mixed Tryz.func193 rfl (by kernel_rfl) (by kernel_rfl) rfl [.tmp 2] rfl ?_
  refine g2_ ?_
  refine vc2_range (γ := Int) l.length (fun g => [(3, .d (.v (.int .i64 g)))]) (fun _ => []) (fun k => []) 0
    (fun k g => (k = 0 ∧ g = -1) ∨ ∃ i : Nat, g = i ∧ ∃ (hi : i < l.length), i < k ∧ (∀ j y, j < k → l[j]? = some y → y.age ≤ l[i].age) ∧ ∀ j y, j < i → l[j]? = some y → y.age < l[i].age) (-1) (le2_of [] ?_) (.inl ⟨rfl, rfl⟩) (fun g k => by simp -implicitDefEqProofs only [go_sem, vc2_blk]) (by omega) (fun g => by simp -implicitDefEqProofs only [go_sem, vc2_blk]) (fun k g hk hF => ?_) (fun g hF => ?_)
  · refine g2_ ?_
    first | rfl | exact ⟨rfl, rfl⟩
  · have hx : l[k]? = some l[k] := List.getElem?_eq_getElem hk
    repeat first | simp -implicitDefEqProofs only [go_sem, vc2_blk, mapE_get hk] | with_reducible first | refine gl_ ?_ | refine ga_ ?_ | refine gn_ ?_
    refine .inl ⟨[(0, false), (1, false), (2, false), (3, false), (5, false), (6, false), (4, false), (7, false), (8, false), (9, false), (10, false), (11, false)], by kernel_rfl, ?_⟩
    refine g2_ ?_
    rcases hF with ⟨rfl, rfl⟩ | ⟨i, rfl, hi, hik, hm, hlt⟩
    · rw [decide_eq_true (show (-1 : Int) < 0 by omega)]
      refine g2_ ?_
      refine ⟨((0 : Nat) : Int), le2_of [] ws_, .inr ⟨0, rfl, hk, by omega, fun j y hj hy => ?_, fun j y hj => by omega⟩⟩
      obtain rfl : j = 0 := by omega
      obtain rfl := Option.some.inj (hx.symm.trans hy)
      exact UInt8.le_refl _
    · rw [decide_eq_false (show ¬ (i : Int) < 0 by omega)]
      repeat first | simp -implicitDefEqProofs only [go_sem, vc2_blk, mapE_get hi] | with_reducible first | refine gl_ ?_ | refine ga_ ?_ | refine gn_ ?_
      refine cond2_dec (fun h => ?_) (fun h => ?_)
      · refine g2_ ?_
        refine ⟨((k : Nat) : Int), le2_of [] ws_, .inr ⟨k, rfl, hk, by omega, fun j y hj hy => ?_, fun j y hj hy => ?_⟩⟩
        · by_cases hjk : j = k
          · subst hjk
            obtain rfl := Option.some.inj (hx.symm.trans hy)
            exact UInt8.le_refl _
          · have := hm j y (by omega) hy
            rw [UInt8.le_iff_toNat_le] at this ⊢
            omega
        · have := hm j y hj hy
          rw [UInt8.le_iff_toNat_le] at this
          rw [UInt8.lt_iff_toNat_lt]
          omega
      · refine g2_ ?_
        refine ⟨((i : Nat) : Int), le2_of [] ws_, .inr ⟨i, rfl, hi, by omega, fun j y hj hy => ?_, hlt⟩⟩
        by_cases hjk : j = k
        · subst hjk
          obtain rfl := Option.some.inj (hx.symm.trans hy)
          rw [UInt8.le_iff_toNat_le]
          omega
        · exact hm j y (by omega) hy
  · refine g2_ ?_
    have e : g = dOldest l := by
      rcases hF with ⟨h0, rfl⟩ | ⟨i, rfl, hi, _, hm, hlt⟩
      · have : l = [] := List.eq_nil_of_length_eq_zero h0
        subst this; rfl
      · unfold dOldest
        rw [old_mk (List.getElem?_eq_getElem hi) (fun e he => by
          obtain ⟨j, hj, rfl⟩ := List.getElem_of_mem he
          exact hm j _ hj (List.getElem?_eq_getElem hj)) hlt]
    exact ⟨_, rfl, le2_of [] (by simp -implicitDefEqProofs only [go_sem, vc2_blk, e])⟩
end Go.Proofs.YtlaefellhnkfbaaGreat.V
