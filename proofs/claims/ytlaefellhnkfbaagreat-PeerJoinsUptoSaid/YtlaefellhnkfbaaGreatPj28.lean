/-
 Part 28 of the proof of Pj: the engine and the walks, in their order.
-/
import Derived.Test.YtlaefellhnkfbaaGreatPj22
import Derived.Test.YtlaefellhnkfbaaGreatPj27
set_option linter.unusedSimpArgs false
set_option linter.unusedVariables false
set_option maxRecDepth 10000
namespace Go.Proofs.YtlaefellhnkfbaaGreat.V
open Go.Eng
attribute [local go_sem] aU ah fzD plR bH akG
theorem rZ (l : List GDesc) (self : UInt8) (room : Int) (hn : l.length ≤ 9223372036854775807) : Con2 Tryz.prog 90 [fzD l, .v (.int .u8 self.toNat), .v (.int .i64 room)] (· = plR (.v (.bool (dM l self room)))) := by
 refine af Ty.mixed Tryz.func90 rfl (by kernel_rfl) (by kernel_rfl) rfl [.tmp 6] rfl ?_
 refine g2_ ?_
 by_cases h0 : room < 0
 ·rw [decide_eq_true h0]
  refine g2_ ?_
  have e : dM l self room = false := by rw [dM, decide_eq_false (by omega)]
  exact ⟨_, rfl, ab [] (wf_ e)⟩
 rw [decide_eq_false h0]
 refine g2_ ?_
 refine bm (fun h => ?_) (fun h => ?_)
 ·refine g2_ ?_
  have e : dM l self room = false := by rw [dM, decide_eq_false (by omega)]
  exact ⟨_, rfl, ab [] (wf_ e)⟩
 refine g2_ ?_
 refine aB l.length (fun k => []) (fun _ => []) (fun k => []) 0 (fun k => ∀ i, i < k → okD self l i) (ab [] ?_) (fun i hi => by omega) (fun g k => by simp -implicitDefEqProofs only [go_sem, aa]) (by omega) (fun g => by simp -implicitDefEqProofs only [go_sem, aa]) (fun k hk hF => ?_) (fun hF => ?_)
 ·refine g2_ ?_
  first | rfl | exact ⟨rfl, rfl⟩
 ·have hx : l[k]? = some l[k] := List.getElem?_eq_getElem hk
  repeat first | simp -implicitDefEqProofs only [go_sem, aa, aw hk] | with_reducible first | refine gl_ ?_ | refine ga_ ?_ | refine gn_ ?_
  rw [cM]
  by_cases h1 : l[k].node = self
  ·rw [decide_eq_true h1]
   refine g2_ ?_
   have e : dM l self room = false := gz hk (fun ok => (ok _ hx).1.1 h1)
   exact ⟨_, rfl, ab [] (wf_ e)⟩
  rw [decide_eq_false h1]
  refine g2_ ?_
  rw [nY]
  refine bm (fun h2 => ?_) (fun h2 => ?_)
  ·refine g2_ ?_
   have e : dM l self room = false := gz hk (fun ok => (ok _ hx).1.2 h2)
   exact ⟨_, rfl, ab [] (wf_ e)⟩
  refine g2_ ?_
  refine .inl ⟨oF [0, 1, 2, 3, 4, 9, 5, 10, 6, 7, 8, 11, 12] [], by kernel_rfl, ?_⟩
  refine g2_ ?_
  by_cases hk0 : k = 0
  ·rw [decide_eq_false (show ¬ (0 : Int) < (k : Int) by omega)]
   refine g2_ ?_
   refine ⟨k + 1, ab [] ws_, rfl, fun i hi => ?_⟩
   obtain rfl : i = k := by subst hk0; omega
   intro d hd
   obtain rfl := Option.some.inj (hx.symm.trans hd)
   exact ⟨⟨h1, h2⟩, fun e h0 => absurd hk0 h0⟩
  ·rw [decide_eq_true (show (0 : Int) < (k : Int) by omega)]
   have hk1 : k - 1 < l.length := by omega
   refine g2_ ?_
   rw [show (k : Int) - 1 = ((k - 1 : Nat) : Int) by omega]
   repeat first | simp -implicitDefEqProofs only [go_sem, aa, aw hk1] | with_reducible first | refine gl_ ?_ | refine ga_ ?_ | refine gn_ ?_
   refine bm (fun h3 => ?_) (fun h3 => ?_)
   ·refine g2_ ?_
    have e : dM l self room = false := gz hk (fun ok => by
     have := (ok _ hx).2 _ hk0 (List.getElem?_eq_getElem hk1)
     rw [UInt8.lt_iff_toNat_lt] at this
     omega)
    exact ⟨_, rfl, ab [] (wf_ e)⟩
   ·refine g2_ ?_
    refine ⟨k + 1, ab [] ws_, rfl, fun i hi => ?_⟩
    by_cases hik : i = k
    ·subst hik
     intro d hd
     obtain rfl := Option.some.inj (hx.symm.trans hd)
     refine ⟨⟨h1, h2⟩, fun e _ he => ?_⟩
     obtain rfl := Option.some.inj ((List.getElem?_eq_getElem hk1).symm.trans he)
     rw [UInt8.lt_iff_toNat_lt]
     omega
    ·exact hF i (by omega)
 ·refine g2_ ?_
  have e : dM l self room = true := af6 (ad3.2 hF) (by omega) (by omega)
  exact ⟨_, rfl, ab [] (wf_ e)⟩
theorem oK (l : List GDesc) (hn : l.length ≤ 9223372036854775807) : Con2 Tryz.prog 193 [fzD l] (· = plR (.v (.int .i64 (lP l)))) := by
 refine af Ty.mixed Tryz.func193 rfl (by kernel_rfl) (by kernel_rfl) rfl [.tmp 2] rfl ?_
 refine g2_ ?_
 refine rS (γ := Int) l.length (fun g => [(3, .d (.v (.int .i64 g)))]) (fun _ => []) (fun k => []) 0
  (fun k g => (k = 0 ∧ g = -1) ∨ ∃ i : Nat, g = i ∧ ∃ (hi : i < l.length), i < k ∧ (∀ j y, j < k → l[j]? = some y → y.age ≤ l[i].age) ∧ ∀ j y, j < i → l[j]? = some y → y.age < l[i].age) (-1) (ab [] ?_) (.inl ⟨rfl, rfl⟩) (fun g k => by simp -implicitDefEqProofs only [go_sem, aa]) (by omega) (fun g => by simp -implicitDefEqProofs only [go_sem, aa]) (fun k g hk hF => ?_) (fun g hF => ?_)
 ·refine g2_ ?_
  first | rfl | exact ⟨rfl, rfl⟩
 ·have hx : l[k]? = some l[k] := List.getElem?_eq_getElem hk
  repeat first | simp -implicitDefEqProofs only [go_sem, aa, aw hk] | with_reducible first | refine gl_ ?_ | refine ga_ ?_ | refine gn_ ?_
  refine .inl ⟨oF [0, 1, 2, 3, 5, 6, 4, 7, 8, 9, 10, 11] [], by kernel_rfl, ?_⟩
  refine g2_ ?_
  rcases hF with ⟨rfl, rfl⟩ | ⟨i, rfl, hi, hik, hm, hlt⟩
  ·rw [decide_eq_true (show (-1 : Int) < 0 by omega)]
   refine g2_ ?_
   refine ⟨((0 : Nat) : Int), ab [] ws_, .inr ⟨0, rfl, hk, by omega, fun j y hj hy => ?_, fun j y hj => by omega⟩⟩
   obtain rfl : j = 0 := by omega
   obtain rfl := Option.some.inj (hx.symm.trans hy)
   exact UInt8.le_refl _
  ·rw [decide_eq_false (show ¬ (i : Int) < 0 by omega)]
   repeat first | simp -implicitDefEqProofs only [go_sem, aa, aw hi] | with_reducible first | refine gl_ ?_ | refine ga_ ?_ | refine gn_ ?_
   refine bm (fun h => ?_) (fun h => ?_)
   ·refine g2_ ?_
    refine ⟨((k : Nat) : Int), ab [] ws_, .inr ⟨k, rfl, hk, by omega, fun j y hj hy => ?_, fun j y hj hy => ?_⟩⟩
    ·by_cases hjk : j = k
     ·subst hjk
      obtain rfl := Option.some.inj (hx.symm.trans hy)
      exact UInt8.le_refl _
     ·have := hm j y (by omega) hy
      rw [UInt8.le_iff_toNat_le] at this ⊢
      omega
    ·have := hm j y hj hy
     rw [UInt8.le_iff_toNat_le] at this
     rw [UInt8.lt_iff_toNat_lt]
     omega
   ·refine g2_ ?_
    refine ⟨((i : Nat) : Int), ab [] ws_, .inr ⟨i, rfl, hi, by omega, fun j y hj hy => ?_, hlt⟩⟩
    by_cases hjk : j = k
    ·subst hjk
     obtain rfl := Option.some.inj (hx.symm.trans hy)
     rw [UInt8.le_iff_toNat_le]
     omega
    ·exact hm j y (by omega) hy
 ·refine g2_ ?_
  have e : g = lP l := by
   rcases hF with ⟨h0, rfl⟩ | ⟨i, rfl, hi, _, hm, hlt⟩
   ·have : l = [] := List.eq_nil_of_length_eq_zero h0
    subst this; rfl
   ·unfold lP
    rw [akS (List.getElem?_eq_getElem hi) (fun e he => by
     obtain ⟨j, hj, rfl⟩ := List.getElem_of_mem he
     exact hm j _ hj (List.getElem?_eq_getElem hj)) hlt]
  exact ⟨_, rfl, ab [] (wf_ e)⟩
end Go.Proofs.YtlaefellhnkfbaaGreat.V
