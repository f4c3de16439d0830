/-
  Part 23 of the proof of W: the engine and the walks, in their order.
-/
import Derived.Test.YtcfkcmalkbdphaaW21
import Derived.Test.YtcfkcmalkbdphaaW22
set_option linter.unusedSimpArgs false
set_option linter.unusedVariables false
/-
  Descriptors as data: views that are right; the oldest; lists that are the same.
-/
set_option linter.unusedSimpArgs false
set_option linter.unusedVariables false
namespace Go.Proofs.Ytcfkcmalkbdphaa.V
open Go.Eng
attribute [local go_sem] encS encDD fzD plR rowR putR

theorem right_con (l : List GDesc) (self : UInt8) (room : Int) (hn : l.length ≤ 9223372036854775807) : Con2 Try.prog 24 [fzD l, .v (.int .u8 self.toNat), .v (.int .i64 room)] (· = plR (.v (.bool (dRight l self room)))) := by
  refine con2_of Ty.mixed Try.func24 rfl (by kernel_rfl) (by kernel_rfl) rfl [.tmp 6] rfl ?_
  ((try (with_reducible refine leK2_refl ?_)); simp -implicitDefEqProofs only [go_sem, vc2_blk]; repeat ((with_reducible refine leK2_refl ?_); simp -implicitDefEqProofs only [go_sem, vc2_blk]))
  by_cases h0 : room < 0
  · rw [decide_eq_true h0]
    ((try (with_reducible refine leK2_refl ?_)); (try simp -implicitDefEqProofs only [go_sem, vc2_blk]); repeat ((first | (with_reducible refine leK2_refl ?_) | (with_reducible refine ar_i64 (by omega) ?_) | (with_reducible refine And.intro (by omega) ?_)); (try simp -implicitDefEqProofs only [go_sem, vc2_blk])))
    have e : dRight l self room = false := by rw [dRight, decide_eq_false (by omega)]
    exact ⟨_, rfl, le2_of [] (by simp -implicitDefEqProofs only [go_sem, vc2_blk, e])⟩
  rw [decide_eq_false h0]
  ((try (with_reducible refine leK2_refl ?_)); (try simp -implicitDefEqProofs only [go_sem, vc2_blk]); repeat ((first | (with_reducible refine leK2_refl ?_) | (with_reducible refine ar_i64 (by omega) ?_) | (with_reducible refine And.intro (by omega) ?_)); (try simp -implicitDefEqProofs only [go_sem, vc2_blk])))
  refine cond2_dec (fun h => ?_) (fun h => ?_)
  · ((try (with_reducible refine leK2_refl ?_)); (try simp -implicitDefEqProofs only [go_sem, vc2_blk]); repeat ((first | (with_reducible refine leK2_refl ?_) | (with_reducible refine ar_i64 (by omega) ?_) | (with_reducible refine And.intro (by omega) ?_)); (try simp -implicitDefEqProofs only [go_sem, vc2_blk])))
    have e : dRight l self room = false := by rw [dRight, decide_eq_false (by omega)]
    exact ⟨_, rfl, le2_of [] (by simp -implicitDefEqProofs only [go_sem, vc2_blk, e])⟩
  ((try (with_reducible refine leK2_refl ?_)); (try simp -implicitDefEqProofs only [go_sem, vc2_blk]); repeat ((first | (with_reducible refine leK2_refl ?_) | (with_reducible refine ar_i64 (by omega) ?_) | (with_reducible refine And.intro (by omega) ?_)); (try simp -implicitDefEqProofs only [go_sem, vc2_blk])))
  refine vc2_rangeA l.length (fun k => []) (fun _ => []) (fun k => []) 0 (fun k => ∀ i, i < k → okD self l i) (le2_of [] ?_) (fun i hi => by omega) (fun g k => by simp -implicitDefEqProofs only [go_sem, vc2_blk]) (by omega) (fun g => by simp -implicitDefEqProofs only [go_sem, vc2_blk]) (fun k hk hF => ?_) (fun hF => ?_)
  · ((try (with_reducible refine leK2_refl ?_)); simp -implicitDefEqProofs only [go_sem, vc2_blk]; repeat ((with_reducible refine leK2_refl ?_); simp -implicitDefEqProofs only [go_sem, vc2_blk]))
    first | rfl | exact ⟨rfl, rfl⟩
  · have hx : l[k]? = some l[k] := List.getElem?_eq_getElem hk
    ((try (with_reducible refine leK2_refl ?_)); (try simp -implicitDefEqProofs only [go_sem, vc2_blk, mapE_get hk]); repeat ((first | (with_reducible refine leK2_refl ?_) | (with_reducible refine ar_i64 (by omega) ?_) | (with_reducible refine And.intro (by omega) ?_)); (try simp -implicitDefEqProofs only [go_sem, vc2_blk, mapE_get hk])))
    rw [u8_beq]
    by_cases h1 : l[k].node = self
    · rw [decide_eq_true h1]
      ((try (with_reducible refine leK2_refl ?_)); (try simp -implicitDefEqProofs only [go_sem, vc2_blk]); repeat ((first | (with_reducible refine leK2_refl ?_) | (with_reducible refine ar_i64 (by omega) ?_) | (with_reducible refine And.intro (by omega) ?_)); (try simp -implicitDefEqProofs only [go_sem, vc2_blk])))
      have e : dRight l self room = false := right_false_of hk (fun ok => (ok _ hx).1.1 h1)
      exact ⟨_, rfl, le2_of [] (by simp -implicitDefEqProofs only [go_sem, vc2_blk, e])⟩
    rw [decide_eq_false h1]
    ((try (with_reducible refine leK2_refl ?_)); (try simp -implicitDefEqProofs only [go_sem, vc2_blk]); repeat ((first | (with_reducible refine leK2_refl ?_) | (with_reducible refine ar_i64 (by omega) ?_) | (with_reducible refine And.intro (by omega) ?_)); (try simp -implicitDefEqProofs only [go_sem, vc2_blk])))
    rw [u16_eq0]
    refine cond2_dec (fun h2 => ?_) (fun h2 => ?_)
    · ((try (with_reducible refine leK2_refl ?_)); (try simp -implicitDefEqProofs only [go_sem, vc2_blk]); repeat ((first | (with_reducible refine leK2_refl ?_) | (with_reducible refine ar_i64 (by omega) ?_) | (with_reducible refine And.intro (by omega) ?_)); (try simp -implicitDefEqProofs only [go_sem, vc2_blk])))
      have e : dRight l self room = false := right_false_of hk (fun ok => (ok _ hx).1.2 h2)
      exact ⟨_, rfl, le2_of [] (by simp -implicitDefEqProofs only [go_sem, vc2_blk, e])⟩
    ((try (with_reducible refine leK2_refl ?_)); (try simp -implicitDefEqProofs only [go_sem, vc2_blk]); repeat ((first | (with_reducible refine leK2_refl ?_) | (with_reducible refine ar_i64 (by omega) ?_) | (with_reducible refine And.intro (by omega) ?_)); (try simp -implicitDefEqProofs only [go_sem, vc2_blk])))
    refine .inl ⟨[(0, false), (1, false), (2, false), (3, false), (4, false), (9, false), (5, false), (10, false), (6, false), (7, false), (8, false), (11, false), (12, false)], by kernel_rfl, ?_⟩
    ((try (with_reducible refine leK2_refl ?_)); (try simp -implicitDefEqProofs only [go_sem, vc2_blk]); repeat ((first | (with_reducible refine leK2_refl ?_) | (with_reducible refine ar_i64 (by omega) ?_) | (with_reducible refine And.intro (by omega) ?_)); (try simp -implicitDefEqProofs only [go_sem, vc2_blk])))
    by_cases hk0 : k = 0
    · rw [decide_eq_false (show ¬ (0 : Int) < (k : Int) by omega)]
      ((try (with_reducible refine leK2_refl ?_)); (try simp -implicitDefEqProofs only [go_sem, vc2_blk]); repeat ((first | (with_reducible refine leK2_refl ?_) | (with_reducible refine ar_i64 (by omega) ?_) | (with_reducible refine And.intro (by omega) ?_)); (try simp -implicitDefEqProofs only [go_sem, vc2_blk])))
      refine ⟨k + 1, le2_of [] (by simp -implicitDefEqProofs only [go_sem, vc2_blk]), rfl, fun i hi => ?_⟩
      obtain rfl : i = k := by subst hk0; omega
      intro d hd
      obtain rfl := Option.some.inj (hx.symm.trans hd)
      exact ⟨⟨h1, h2⟩, fun e h0 => absurd hk0 h0⟩
    · rw [decide_eq_true (show (0 : Int) < (k : Int) by omega)]
      have hk1 : k - 1 < l.length := by omega
      ((try (with_reducible refine leK2_refl ?_)); (try simp -implicitDefEqProofs only [go_sem, vc2_blk]); repeat ((first | (with_reducible refine leK2_refl ?_) | (with_reducible refine ar_i64 (by omega) ?_) | (with_reducible refine And.intro (by omega) ?_)); (try simp -implicitDefEqProofs only [go_sem, vc2_blk])))
      rw [show (k : Int) - 1 = ((k - 1 : Nat) : Int) by omega]
      ((try (with_reducible refine leK2_refl ?_)); (try simp -implicitDefEqProofs only [go_sem, vc2_blk, mapE_get hk1]); repeat ((first | (with_reducible refine leK2_refl ?_) | (with_reducible refine ar_i64 (by omega) ?_) | (with_reducible refine And.intro (by omega) ?_)); (try simp -implicitDefEqProofs only [go_sem, vc2_blk, mapE_get hk1])))
      refine cond2_dec (fun h3 => ?_) (fun h3 => ?_)
      · ((try (with_reducible refine leK2_refl ?_)); (try simp -implicitDefEqProofs only [go_sem, vc2_blk]); repeat ((first | (with_reducible refine leK2_refl ?_) | (with_reducible refine ar_i64 (by omega) ?_) | (with_reducible refine And.intro (by omega) ?_)); (try simp -implicitDefEqProofs only [go_sem, vc2_blk])))
        have e : dRight l self room = false := right_false_of hk (fun ok => by
          have := (ok _ hx).2 _ hk0 (List.getElem?_eq_getElem hk1)
          rw [UInt8.lt_iff_toNat_lt] at this
          omega)
        exact ⟨_, rfl, le2_of [] (by simp -implicitDefEqProofs only [go_sem, vc2_blk, e])⟩
      · ((try (with_reducible refine leK2_refl ?_)); (try simp -implicitDefEqProofs only [go_sem, vc2_blk]); repeat ((first | (with_reducible refine leK2_refl ?_) | (with_reducible refine ar_i64 (by omega) ?_) | (with_reducible refine And.intro (by omega) ?_)); (try simp -implicitDefEqProofs only [go_sem, vc2_blk])))
        refine ⟨k + 1, le2_of [] (by simp -implicitDefEqProofs only [go_sem, vc2_blk]), rfl, fun i hi => ?_⟩
        by_cases hik : i = k
        · subst hik
          intro d hd
          obtain rfl := Option.some.inj (hx.symm.trans hd)
          refine ⟨⟨h1, h2⟩, fun e _ he => ?_⟩
          obtain rfl := Option.some.inj ((List.getElem?_eq_getElem hk1).symm.trans he)
          rw [UInt8.lt_iff_toNat_lt]
          omega
        · exact hF i (by omega)
  · ((try (with_reducible refine leK2_refl ?_)); (try simp -implicitDefEqProofs only [go_sem, vc2_blk]); repeat ((first | (with_reducible refine leK2_refl ?_) | (with_reducible refine ar_i64 (by omega) ?_) | (with_reducible refine And.intro (by omega) ?_)); (try simp -implicitDefEqProofs only [go_sem, vc2_blk])))
    have e : dRight l self room = true := right_vw (vw_okD.2 hF) (by omega) (by omega)
    exact ⟨_, rfl, le2_of [] (by simp -implicitDefEqProofs only [go_sem, vc2_blk, e])⟩

theorem oldest_con (l : List GDesc) (hn : l.length ≤ 9223372036854775807) : Con2 Try.prog 17 [fzD l] (· = plR (.v (.int .i64 (dOldest l)))) := by
  refine con2_of Ty.mixed Try.func17 rfl (by kernel_rfl) (by kernel_rfl) rfl [.tmp 2] rfl ?_
  ((try (with_reducible refine leK2_refl ?_)); simp -implicitDefEqProofs only [go_sem, vc2_blk]; repeat ((with_reducible refine leK2_refl ?_); simp -implicitDefEqProofs only [go_sem, vc2_blk]))
  refine vc2_range (γ := Int) l.length (fun g => [(3, .d (.v (.int .i64 g)))]) (fun _ => []) (fun k => []) 0
    (fun k g => (k = 0 ∧ g = -1) ∨ ∃ i : Nat, g = i ∧ ∃ (hi : i < l.length), i < k ∧ (∀ j y, j < k → l[j]? = some y → y.age ≤ l[i].age) ∧ ∀ j y, j < i → l[j]? = some y → y.age < l[i].age) (-1) (le2_of [] ?_) (.inl ⟨rfl, rfl⟩) (fun g k => by simp -implicitDefEqProofs only [go_sem, vc2_blk]) (by omega) (fun g => by simp -implicitDefEqProofs only [go_sem, vc2_blk]) (fun k g hk hF => ?_) (fun g hF => ?_)
  · ((try (with_reducible refine leK2_refl ?_)); simp -implicitDefEqProofs only [go_sem, vc2_blk]; repeat ((with_reducible refine leK2_refl ?_); simp -implicitDefEqProofs only [go_sem, vc2_blk]))
    first | rfl | exact ⟨rfl, rfl⟩
  · have hx : l[k]? = some l[k] := List.getElem?_eq_getElem hk
    ((try (with_reducible refine leK2_refl ?_)); (try simp -implicitDefEqProofs only [go_sem, vc2_blk, mapE_get hk]); repeat ((first | (with_reducible refine leK2_refl ?_) | (with_reducible refine ar_i64 (by omega) ?_) | (with_reducible refine And.intro (by omega) ?_)); (try simp -implicitDefEqProofs only [go_sem, vc2_blk, mapE_get hk])))
    refine .inl ⟨[(0, false), (1, false), (2, false), (3, false), (5, false), (6, false), (4, false), (7, false), (8, false), (9, false), (10, false), (11, false)], by kernel_rfl, ?_⟩
    ((try (with_reducible refine leK2_refl ?_)); (try simp -implicitDefEqProofs only [go_sem, vc2_blk]); repeat ((first | (with_reducible refine leK2_refl ?_) | (with_reducible refine ar_i64 (by omega) ?_) | (with_reducible refine And.intro (by omega) ?_)); (try simp -implicitDefEqProofs only [go_sem, vc2_blk])))
    rcases hF with ⟨rfl, rfl⟩ | ⟨i, rfl, hi, hik, hm, hlt⟩
    · rw [decide_eq_true (show (-1 : Int) < 0 by omega)]
      ((try (with_reducible refine leK2_refl ?_)); (try simp -implicitDefEqProofs only [go_sem, vc2_blk]); repeat ((first | (with_reducible refine leK2_refl ?_) | (with_reducible refine ar_i64 (by omega) ?_) | (with_reducible refine And.intro (by omega) ?_)); (try simp -implicitDefEqProofs only [go_sem, vc2_blk])))
      refine ⟨((0 : Nat) : Int), le2_of [] (by simp -implicitDefEqProofs only [go_sem, vc2_blk]), .inr ⟨0, rfl, hk, by omega, fun j y hj hy => ?_, fun j y hj => by omega⟩⟩
      obtain rfl : j = 0 := by omega
      obtain rfl := Option.some.inj (hx.symm.trans hy)
      exact UInt8.le_refl _
    · rw [decide_eq_false (show ¬ (i : Int) < 0 by omega)]
      ((try (with_reducible refine leK2_refl ?_)); (try simp -implicitDefEqProofs only [go_sem, vc2_blk, mapE_get hi]); repeat ((first | (with_reducible refine leK2_refl ?_) | (with_reducible refine ar_i64 (by omega) ?_) | (with_reducible refine And.intro (by omega) ?_)); (try simp -implicitDefEqProofs only [go_sem, vc2_blk, mapE_get hi])))
      refine cond2_dec (fun h => ?_) (fun h => ?_)
      · ((try (with_reducible refine leK2_refl ?_)); (try simp -implicitDefEqProofs only [go_sem, vc2_blk]); repeat ((first | (with_reducible refine leK2_refl ?_) | (with_reducible refine ar_i64 (by omega) ?_) | (with_reducible refine And.intro (by omega) ?_)); (try simp -implicitDefEqProofs only [go_sem, vc2_blk])))
        refine ⟨((k : Nat) : Int), le2_of [] (by simp -implicitDefEqProofs only [go_sem, vc2_blk]), .inr ⟨k, rfl, hk, by omega, fun j y hj hy => ?_, fun j y hj hy => ?_⟩⟩
        · by_cases hjk : j = k
          · subst hjk
            obtain rfl := Option.some.inj (hx.symm.trans hy)
            exact UInt8.le_refl _
          · have := hm j y (by omega) hy
            rw [UInt8.le_iff_toNat_le] at this ⊢
            omega
        · have := hm j y hj hy
          rw [UInt8.le_iff_toNat_le] at this
          rw [UInt8.lt_iff_toNat_lt]
          omega
      · ((try (with_reducible refine leK2_refl ?_)); (try simp -implicitDefEqProofs only [go_sem, vc2_blk]); repeat ((first | (with_reducible refine leK2_refl ?_) | (with_reducible refine ar_i64 (by omega) ?_) | (with_reducible refine And.intro (by omega) ?_)); (try simp -implicitDefEqProofs only [go_sem, vc2_blk])))
        refine ⟨((i : Nat) : Int), le2_of [] (by simp -implicitDefEqProofs only [go_sem, vc2_blk]), .inr ⟨i, rfl, hi, by omega, fun j y hj hy => ?_, hlt⟩⟩
        by_cases hjk : j = k
        · subst hjk
          obtain rfl := Option.some.inj (hx.symm.trans hy)
          rw [UInt8.le_iff_toNat_le]
          omega
        · exact hm j y (by omega) hy
  · ((try (with_reducible refine leK2_refl ?_)); (try simp -implicitDefEqProofs only [go_sem, vc2_blk]); repeat ((first | (with_reducible refine leK2_refl ?_) | (with_reducible refine ar_i64 (by omega) ?_) | (with_reducible refine And.intro (by omega) ?_)); (try simp -implicitDefEqProofs only [go_sem, vc2_blk])))
    have e : g = dOldest l := by
      rcases hF with ⟨h0, rfl⟩ | ⟨i, rfl, hi, _, hm, hlt⟩
      · have : l = [] := List.eq_nil_of_length_eq_zero h0
        subst this; rfl
      · unfold dOldest
        rw [old_mk (List.getElem?_eq_getElem hi) (fun e he => by
          obtain ⟨j, hj, rfl⟩ := List.getElem_of_mem he
          exact hm j _ hj (List.getElem?_eq_getElem hj)) hlt]
    exact ⟨_, rfl, le2_of [] (by simp -implicitDefEqProofs only [go_sem, vc2_blk, e])⟩
end Go.Proofs.Ytcfkcmalkbdphaa.V

/-
  The document's lists of descriptors, by definition.
-/
set_option linter.unusedSimpArgs false
set_option linter.unusedVariables false
namespace Go.Eng
theorem drop_snoc {l : List GDesc} {node : UInt8} {k : Nat} (h : k < l.length) : dDrop (l.take (k + 1)) node = dDrop (l.take k) node ++ (if l[k].node = node then [] else [l[k]]) := by
  rw [List.take_add_one, List.getElem?_eq_getElem h]
  simp only [dDrop, List.filter_append, Option.toList_some]
  by_cases e : l[k].node = node <;> simp [e]
theorem drop_tl (l : List GDesc) (node : UInt8) (k : Nat) : (dDrop (l.take k) node).length ≤ k := Nat.le_trans (drop_len_le _ _) (by simp; omega)
end Go.Eng
namespace Go.Proofs.Ytcfkcmalkbdphaa.V
open Go.Eng
attribute [local go_sem] encS encDD fzD plR rowR putR

theorem rfind_con (l : List GDesc) (node : UInt8) (hn : l.length ≤ 9223372036854775807) : Con2 Try.prog 30 [fzD l, .v (.int .u8 node.toNat)] (· = plR (.v (.int .i64 (dFind l node)))) := by
  refine con2_of Ty.mixed Try.func30 rfl (by kernel_rfl) (by kernel_rfl) rfl [.tmp 4] rfl ?_
  ((try (with_reducible refine leK2_refl ?_)); simp -implicitDefEqProofs only [go_sem, vc2_blk]; repeat ((with_reducible refine leK2_refl ?_); simp -implicitDefEqProofs only [go_sem, vc2_blk]))
  refine vc2_forA (γ := Nat) (fun i => [(5, .d (.v (.int .i64 (i : Nat))))]) (fun _ => []) (fun _ => []) 0 (fun i => i ≤ l.length ∧ ∀ j y, j < i → l[j]? = some y → y.node ≠ node) (fun i => l.length - i) 0 (le2_of [] ?_) ⟨by omega, fun j y h => by omega⟩ (fun i hi => ?_)
  · ((try (with_reducible refine leK2_refl ?_)); simp -implicitDefEqProofs only [go_sem, vc2_blk]; repeat ((with_reducible refine leK2_refl ?_); simp -implicitDefEqProofs only [go_sem, vc2_blk]))
    first | rfl | exact ⟨rfl, rfl⟩
  · obtain ⟨hi, hF⟩ := hi
    ((try (with_reducible refine leK2_refl ?_)); (try simp -implicitDefEqProofs only [go_sem, vc2_blk]); repeat ((first | (with_reducible refine leK2_refl ?_) | (with_reducible refine ar_i64 (by omega) ?_) | (with_reducible refine And.intro (by omega) ?_)); (try simp -implicitDefEqProofs only [go_sem, vc2_blk])))
    refine cond2_dec (fun h => ?_) (fun h => ?_)
    · have hk : i < l.length := by omega
      ((try (with_reducible refine leK2_refl ?_)); (try simp -implicitDefEqProofs only [go_sem, vc2_blk, mapE_get hk]); repeat ((first | (with_reducible refine leK2_refl ?_) | (with_reducible refine ar_i64 (by omega) ?_) | (with_reducible refine And.intro (by omega) ?_)); (try simp -implicitDefEqProofs only [go_sem, vc2_blk, mapE_get hk])))
      rw [u8_beq]
      by_cases h1 : l[i].node = node
      · rw [decide_eq_true h1]
        ((try (with_reducible refine leK2_refl ?_)); (try simp -implicitDefEqProofs only [go_sem, vc2_blk]); repeat ((first | (with_reducible refine leK2_refl ?_) | (with_reducible refine ar_i64 (by omega) ?_) | (with_reducible refine And.intro (by omega) ?_)); (try simp -implicitDefEqProofs only [go_sem, vc2_blk])))
        have e : dFind l node = i := by
          have : dIdx l node = some i := by
            unfold dIdx
            rw [List.findIdx?_eq_some_iff_getElem]
            exact ⟨hk, by simpa using h1, fun j hj => by simpa using hF j _ hj (List.getElem?_eq_getElem (by omega))⟩
          unfold dFind
          rw [this]
        exact ⟨_, rfl, le2_of [] (by simp -implicitDefEqProofs only [go_sem, vc2_blk, e])⟩
      · rw [decide_eq_false h1]
        ((try (with_reducible refine leK2_refl ?_)); (try simp -implicitDefEqProofs only [go_sem, vc2_blk]); repeat ((first | (with_reducible refine leK2_refl ?_) | (with_reducible refine ar_i64 (by omega) ?_) | (with_reducible refine And.intro (by omega) ?_)); (try simp -implicitDefEqProofs only [go_sem, vc2_blk])))
        refine ⟨i + 1, le2_of [] (by simp -implicitDefEqProofs only [go_sem, vc2_blk]; rfl), ⟨by omega, fun j y hj hy => ?_⟩, by omega⟩
        by_cases hji : j = i
        · subst hji
          obtain rfl := Option.some.inj ((List.getElem?_eq_getElem hk).symm.trans hy)
          exact h1
        · exact hF j y (by omega) hy
    · ((try (with_reducible refine leK2_refl ?_)); (try simp -implicitDefEqProofs only [go_sem, vc2_blk]); repeat ((first | (with_reducible refine leK2_refl ?_) | (with_reducible refine ar_i64 (by omega) ?_) | (with_reducible refine And.intro (by omega) ?_)); (try simp -implicitDefEqProofs only [go_sem, vc2_blk])))
      have e : dFind l node = -1 := by
        have : dIdx l node = none := by
          unfold dIdx
          rw [List.findIdx?_eq_none_iff]
          intro x hx
          obtain ⟨j, hj, rfl⟩ := List.getElem_of_mem hx
          simpa using hF j _ (by omega) (List.getElem?_eq_getElem hj)
        unfold dFind
        rw [this]
      exact ⟨_, rfl, le2_of [] (by simp -implicitDefEqProofs only [go_sem, vc2_blk, e])⟩

theorem rdrop_con (l : List GDesc) (node : UInt8) (hl : okDs l) : Con2 Try.prog 31 [fzD l, .v (.int .u8 node.toNat)] (· = rowR 32 4 ((dDrop l node).map encDD)) := by
  have hb := hl.1
  refine con2_of Ty.mixed Try.func31 rfl (by kernel_rfl) (by kernel_rfl) rfl [.tmp 4] rfl ?_
  ((try (with_reducible refine leK2_refl ?_)); simp -implicitDefEqProofs only [go_sem, vc2_blk]; repeat ((with_reducible refine leK2_refl ?_); simp -implicitDefEqProofs only [go_sem, vc2_blk]))
  refine vc2_forA (γ := Nat) (fun i => [(6, .d (.v (.int .i64 (i : Nat)))), (5, .d (.rf 0 0 (dDrop (l.take i) node).length))]) (fun _ => []) (fun i => [(0, .arr 32 4 ((dDrop (l.take i) node).map encDD) false)]) 1 (fun i => i ≤ l.length) (fun i => l.length - i) 0 (le2_of [(0, .nil 4)] ?_) (by omega) (fun i hi => ?_)
  · ((try (with_reducible refine leK2_refl ?_)); simp -implicitDefEqProofs only [go_sem, vc2_blk, List.take_zero, dDrop, List.filter_nil]; repeat ((with_reducible refine leK2_refl ?_); simp -implicitDefEqProofs only [go_sem, vc2_blk, List.take_zero, dDrop, List.filter_nil]))
    first | rfl | exact ⟨rfl, rfl⟩
  · have hdl := drop_tl l node i
    ((try (with_reducible refine leK2_refl ?_)); (try simp -implicitDefEqProofs only [go_sem, vc2_blk]); repeat ((first | (with_reducible refine leK2_refl ?_) | (with_reducible refine ar_i64 (by omega) ?_) | (with_reducible refine And.intro (by omega) ?_)); (try simp -implicitDefEqProofs only [go_sem, vc2_blk])))
    refine cond2_dec (fun h => ?_) (fun h => ?_)
    · have hk : i < l.length := by omega
      ((try (with_reducible refine leK2_refl ?_)); (try simp -implicitDefEqProofs only [go_sem, vc2_blk, mapE_get hk]); repeat ((first | (with_reducible refine leK2_refl ?_) | (with_reducible refine ar_i64 (by omega) ?_) | (with_reducible refine And.intro (by omega) ?_)); (try simp -implicitDefEqProofs only [go_sem, vc2_blk, mapE_get hk])))
      rw [u8_bne]
      by_cases h1 : l[i].node = node
      · rw [decide_eq_true h1]
        ((try (with_reducible refine leK2_refl ?_)); (try simp -implicitDefEqProofs only [go_sem, vc2_blk]); repeat ((first | (with_reducible refine leK2_refl ?_) | (with_reducible refine ar_i64 (by omega) ?_) | (with_reducible refine And.intro (by omega) ?_)); (try simp -implicitDefEqProofs only [go_sem, vc2_blk])))
        refine ⟨i + 1, le2_of [] ?_, by omega, by omega⟩
        ((try (with_reducible refine leK2_refl ?_)); simp -implicitDefEqProofs only [go_sem, vc2_blk, drop_snoc hk, h1, if_true, List.append_nil]; repeat ((with_reducible refine leK2_refl ?_); simp -implicitDefEqProofs only [go_sem, vc2_blk, drop_snoc hk, h1, if_true, List.append_nil]))
        rfl
      · rw [decide_eq_false h1]
        ((try (with_reducible refine leK2_refl ?_)); (try simp -implicitDefEqProofs only [go_sem, vc2_blk, mapE_get hk, List.length_map]); repeat ((first | (with_reducible refine leK2_refl ?_) | (with_reducible refine ar_i64 (by omega) ?_) | (with_reducible refine And.intro (by omega) ?_)); (try simp -implicitDefEqProofs only [go_sem, vc2_blk, mapE_get hk, List.length_map])))
        refine ⟨i + 1, le2_of [(0, .to 2)] ?_, by omega, by omega⟩
        ((try (with_reducible refine leK2_refl ?_)); simp -implicitDefEqProofs only [go_sem, vc2_blk, drop_snoc hk, h1, if_false, List.length_append]; repeat ((with_reducible refine leK2_refl ?_); simp -implicitDefEqProofs only [go_sem, vc2_blk, drop_snoc hk, h1, if_false, List.length_append]))
        exact ⟨rfl, by simp [encDD]⟩
    · have he : l.take i = l := List.take_of_length_le (by omega)
      ((try (with_reducible refine leK2_refl ?_)); (try simp -implicitDefEqProofs only [go_sem, vc2_blk]); repeat ((first | (with_reducible refine leK2_refl ?_) | (with_reducible refine ar_i64 (by omega) ?_) | (with_reducible refine And.intro (by omega) ?_)); (try simp -implicitDefEqProofs only [go_sem, vc2_blk])))
      exact ⟨_, rfl, le2_of [] (by simp -implicitDefEqProofs only [go_sem, vc2_blk, he])⟩

theorem rolder_con (l : List GDesc) (hl : okDs l) : Con2 Try.prog 32 [fzD l] (· = rowR 32 4 ((dOlder l).map encDD)) := by
  have hb := hl.1
  refine con2_of Ty.mixed Try.func32 rfl (by kernel_rfl) (by kernel_rfl) rfl [.tmp 2] rfl ?_
  ((try (with_reducible refine leK2_refl ?_)); simp -implicitDefEqProofs only [go_sem, vc2_blk]; repeat ((with_reducible refine leK2_refl ?_); simp -implicitDefEqProofs only [go_sem, vc2_blk]))
  refine vc2_forA (γ := Nat) (fun i => [(4, .d (.v (.int .i64 (i : Nat)))), (3, .d (.rf 0 0 i))]) (fun _ => []) (fun i => [(0, .arr 32 4 ((dOlder (l.take i)).map encDD) false)]) 1 (fun i => i ≤ l.length) (fun i => l.length - i) 0 (le2_of [(0, .nil 4)] ?_) (by omega) (fun i hi => ?_)
  · ((try (with_reducible refine leK2_refl ?_)); simp -implicitDefEqProofs only [go_sem, vc2_blk, List.take_zero, dOlder, List.map_nil]; repeat ((with_reducible refine leK2_refl ?_); simp -implicitDefEqProofs only [go_sem, vc2_blk, List.take_zero, dOlder, List.map_nil]))
    first | rfl | exact ⟨rfl, rfl⟩
  · have hlen : (dOlder (l.take i)).length = i := by simp [dOlder]; omega
    have hsn : ∀ hk : i < l.length, (dOlder (l.take (i + 1))).map encDD = (dOlder (l.take i)).map encDD ++ [encDD l[i].older] := fun hk => by
      rw [List.take_add_one, List.getElem?_eq_getElem hk, dOlder, List.map_append, List.map_append]; rfl
    ((try (with_reducible refine leK2_refl ?_)); (try simp -implicitDefEqProofs only [go_sem, vc2_blk]); repeat ((first | (with_reducible refine leK2_refl ?_) | (with_reducible refine ar_i64 (by omega) ?_) | (with_reducible refine And.intro (by omega) ?_)); (try simp -implicitDefEqProofs only [go_sem, vc2_blk])))
    refine cond2_dec (fun h => ?_) (fun h => ?_)
    · have hk : i < l.length := by omega
      ((try (with_reducible refine leK2_refl ?_)); (try simp -implicitDefEqProofs only [go_sem, vc2_blk, mapE_get hk]); repeat ((first | (with_reducible refine leK2_refl ?_) | (with_reducible refine ar_i64 (by omega) ?_) | (with_reducible refine And.intro (by omega) ?_)); (try simp -implicitDefEqProofs only [go_sem, vc2_blk, mapE_get hk])))
      by_cases h1 : (l[i].age.toNat : Int) = 255
      · rw [show ((l[i].age.toNat : Int) != 255) = false from by simp [h1]]
        ((try (with_reducible refine leK2_refl ?_)); (try simp -implicitDefEqProofs only [go_sem, vc2_blk, List.length_map, hlen]); repeat ((first | (with_reducible refine leK2_refl ?_) | (with_reducible refine ar_i64 (by omega) ?_) | (with_reducible refine And.intro (by omega) ?_)); (try simp -implicitDefEqProofs only [go_sem, vc2_blk, List.length_map, hlen])))
        refine ⟨i + 1, le2_of [(0, .to 2)] ?_, by omega, by omega⟩
        ((try (with_reducible refine leK2_refl ?_)); simp -implicitDefEqProofs only [go_sem, vc2_blk]; repeat ((with_reducible refine leK2_refl ?_); simp -implicitDefEqProofs only [go_sem, vc2_blk]))
        exact ⟨rfl, by rw [hsn hk, older_no (by omega)]; rfl⟩
      · have hab := l[i].age.toNat_lt
        rw [show ((l[i].age.toNat : Int) != 255) = true from by simpa using h1]
        ((try (with_reducible refine leK2_refl ?_)); (try simp -implicitDefEqProofs only [go_sem, vc2_blk]); repeat ((first | (with_reducible refine leK2_refl ?_) | (with_reducible refine ar_i64 (by omega) ?_) | (with_reducible refine And.intro (by omega) ?_)); (try simp -implicitDefEqProofs only [go_sem, vc2_blk])))
        refine ar_u8 (by omega) ?_
        ((try (with_reducible refine leK2_refl ?_)); (try simp -implicitDefEqProofs only [go_sem, vc2_blk, List.length_map, hlen]); repeat ((first | (with_reducible refine leK2_refl ?_) | (with_reducible refine ar_i64 (by omega) ?_) | (with_reducible refine And.intro (by omega) ?_)); (try simp -implicitDefEqProofs only [go_sem, vc2_blk, List.length_map, hlen])))
        refine ⟨i + 1, le2_of [(0, .to 2)] ?_, by omega, by omega⟩
        ((try (with_reducible refine leK2_refl ?_)); simp -implicitDefEqProofs only [go_sem, vc2_blk]; repeat ((with_reducible refine leK2_refl ?_); simp -implicitDefEqProofs only [go_sem, vc2_blk]))
        exact ⟨rfl, by rw [hsn hk, older_yes (by omega)]⟩
    · have he : l.take i = l := List.take_of_length_le (by omega)
      rw [he] at hlen
      ((try (with_reducible refine leK2_refl ?_)); (try simp -implicitDefEqProofs only [go_sem, vc2_blk]); repeat ((first | (with_reducible refine leK2_refl ?_) | (with_reducible refine ar_i64 (by omega) ?_) | (with_reducible refine And.intro (by omega) ?_)); (try simp -implicitDefEqProofs only [go_sem, vc2_blk])))
      exact ⟨_, rfl, le2_of [] (by simp -implicitDefEqProofs only [go_sem, vc2_blk, he, hlen])⟩

theorem roldest_con (l : List GDesc) (hn : l.length ≤ 9223372036854775807) : Con2 Try.prog 33 [fzD l] (· = plR (.v (.int .i64 (dOldest l)))) := by
  refine con2_of Ty.mixed Try.func33 rfl (by kernel_rfl) (by kernel_rfl) rfl [.tmp 2] rfl ?_
  ((try (with_reducible refine leK2_refl ?_)); simp -implicitDefEqProofs only [go_sem, vc2_blk]; repeat ((with_reducible refine leK2_refl ?_); simp -implicitDefEqProofs only [go_sem, vc2_blk]))
  refine vc2_forA (γ := Nat) (fun a => [(3, .d (.v (.int .i64 ((a : Nat) - 1 : Int)))), (4, .unk)]) (fun _ => []) (fun _ => []) 0 (fun a => a ≤ 256 ∧ ∀ x ∈ l, x.age.toNat < a) (fun a => a) 256 (le2_of [] ?_) ⟨by omega, fun x _ => x.age.toNat_lt⟩ (fun a ha => ?_)
  · ((try (with_reducible refine leK2_refl ?_)); simp -implicitDefEqProofs only [go_sem, vc2_blk]; repeat ((with_reducible refine leK2_refl ?_); simp -implicitDefEqProofs only [go_sem, vc2_blk]))
    first | rfl | exact ⟨rfl, rfl⟩
  · obtain ⟨ha, hF⟩ := ha
    ((try (with_reducible refine leK2_refl ?_)); (try simp -implicitDefEqProofs only [go_sem, vc2_blk]); repeat ((first | (with_reducible refine leK2_refl ?_) | (with_reducible refine ar_i64 (by omega) ?_) | (with_reducible refine And.intro (by omega) ?_)); (try simp -implicitDefEqProofs only [go_sem, vc2_blk])))
    refine cond2_dec (fun h => ?_) (fun h => ?_)
    · ((try (with_reducible refine leK2_refl ?_)); (try simp -implicitDefEqProofs only [go_sem, vc2_blk]); repeat ((first | (with_reducible refine leK2_refl ?_) | (with_reducible refine ar_i64 (by omega) ?_) | (with_reducible refine And.intro (by omega) ?_)); (try simp -implicitDefEqProofs only [go_sem, vc2_blk])))
      refine vc2_forA (γ := Nat) (fun i => [(4, .d (.v (.int .i64 (i : Nat))))]) (fun _ => []) (fun _ => []) 0 (fun i => i ≤ l.length ∧ ∀ j y, j < i → l[j]? = some y → y.age.toNat + 1 < a) (fun i => l.length - i) 0 (le2_of [] ?_) ⟨by omega, fun j y h => by omega⟩ (fun i hi => ?_)
      · ((try (with_reducible refine leK2_refl ?_)); simp -implicitDefEqProofs only [go_sem, vc2_blk]; repeat ((with_reducible refine leK2_refl ?_); simp -implicitDefEqProofs only [go_sem, vc2_blk]))
        first | rfl | exact ⟨rfl, rfl⟩
      · obtain ⟨hi, hG⟩ := hi
        ((try (with_reducible refine leK2_refl ?_)); (try simp -implicitDefEqProofs only [go_sem, vc2_blk]); repeat ((first | (with_reducible refine leK2_refl ?_) | (with_reducible refine ar_i64 (by omega) ?_) | (with_reducible refine And.intro (by omega) ?_)); (try simp -implicitDefEqProofs only [go_sem, vc2_blk])))
        refine cond2_dec (fun h2 => ?_) (fun h2 => ?_)
        · have hk : i < l.length := by omega
          have hab := l[i].age.toNat_lt
          have hla := hF _ (List.getElem_mem hk)
          ((try (with_reducible refine leK2_refl ?_)); (try simp -implicitDefEqProofs only [go_sem, vc2_blk, mapE_get hk]); repeat ((first | (with_reducible refine leK2_refl ?_) | (with_reducible refine ar_i64 (by omega) ?_) | (with_reducible refine And.intro (by omega) ?_)); (try simp -implicitDefEqProofs only [go_sem, vc2_blk, mapE_get hk])))
          refine cond2_eq (fun h3 => ?_) (fun h3 => ?_)
          · ((try (with_reducible refine leK2_refl ?_)); (try simp -implicitDefEqProofs only [go_sem, vc2_blk]); repeat ((first | (with_reducible refine leK2_refl ?_) | (with_reducible refine ar_i64 (by omega) ?_) | (with_reducible refine And.intro (by omega) ?_)); (try simp -implicitDefEqProofs only [go_sem, vc2_blk])))
            have e : dOldest l = i := by
              unfold dOldest
              rw [old_mk (List.getElem?_eq_getElem hk) (fun e he => ?_) (fun j y hj hy => ?_)]
              · have := hF e he
                rw [UInt8.le_iff_toNat_le]; omega
              · have := hG j y hj hy
                rw [UInt8.lt_iff_toNat_lt]; omega
            exact ⟨_, rfl, le2_of [] (by simp -implicitDefEqProofs only [go_sem, vc2_blk, e])⟩
          · ((try (with_reducible refine leK2_refl ?_)); (try simp -implicitDefEqProofs only [go_sem, vc2_blk]); repeat ((first | (with_reducible refine leK2_refl ?_) | (with_reducible refine ar_i64 (by omega) ?_) | (with_reducible refine And.intro (by omega) ?_)); (try simp -implicitDefEqProofs only [go_sem, vc2_blk])))
            refine ⟨i + 1, le2_of [] (by simp -implicitDefEqProofs only [go_sem, vc2_blk]; rfl), ⟨by omega, fun j y hj hy => ?_⟩, by omega⟩
            by_cases hji : j = i
            · subst hji
              obtain rfl := Option.some.inj ((List.getElem?_eq_getElem hk).symm.trans hy)
              omega
            · exact hG j y (by omega) hy
        · ((try (with_reducible refine leK2_refl ?_)); (try simp -implicitDefEqProofs only [go_sem, vc2_blk]); repeat ((first | (with_reducible refine leK2_refl ?_) | (with_reducible refine ar_i64 (by omega) ?_) | (with_reducible refine And.intro (by omega) ?_)); (try simp -implicitDefEqProofs only [go_sem, vc2_blk])))
          refine ⟨a - 1, le2_of [] ?_, ⟨by omega, fun x hx => ?_⟩, by omega⟩
          · ((try (with_reducible refine leK2_refl ?_)); simp -implicitDefEqProofs only [go_sem, vc2_blk]; repeat ((with_reducible refine leK2_refl ?_); simp -implicitDefEqProofs only [go_sem, vc2_blk]))
            rw [show ((a - 1 : Nat) : Int) = (a : Int) - 1 by omega]
          · obtain ⟨j, hj, rfl⟩ := List.getElem_of_mem hx
            have := hG j _ (by omega) (List.getElem?_eq_getElem hj)
            omega
    · ((try (with_reducible refine leK2_refl ?_)); (try simp -implicitDefEqProofs only [go_sem, vc2_blk]); repeat ((first | (with_reducible refine leK2_refl ?_) | (with_reducible refine ar_i64 (by omega) ?_) | (with_reducible refine And.intro (by omega) ?_)); (try simp -implicitDefEqProofs only [go_sem, vc2_blk])))
      have e : dOldest l = -1 := by
        have : l = [] := by
          cases l with
          | nil => rfl
          | cons x r => have := hF x List.mem_cons_self; omega
        subst this; rfl
      exact ⟨_, rfl, le2_of [] (by simp -implicitDefEqProofs only [go_sem, vc2_blk, e])⟩
end Go.Proofs.Ytcfkcmalkbdphaa.V

/-
  The document's views, and what is put, by definition.
-/
set_option linter.unusedSimpArgs false
set_option linter.unusedVariables false
namespace Go.Eng
/-- What the document puts: as far as the i-th. -/
def pL (l : List GDesc) (d : GDesc) (i : Nat) : List GDesc :=
  if i ≤ dPlace l d.node then l.take i else l.take (dPlace l d.node) ++ [d] ++ dDrop ((l.take i).drop (dPlace l d.node)) d.node
theorem pL_lt {l : List GDesc} {d : GDesc} {i : Nat} (h : i < dPlace l d.node) (hi : i < l.length) : pL l d (i + 1) = pL l d i ++ [l[i]] := by
  unfold pL
  rw [if_pos (by omega), if_pos (by omega), List.take_add_one, List.getElem?_eq_getElem hi]
  rfl
theorem pL_eq {l : List GDesc} {d : GDesc} (hi : dPlace l d.node < l.length) : pL l d (dPlace l d.node + 1) = pL l d (dPlace l d.node) ++ [d] ++ (if l[dPlace l d.node].node = d.node then [] else [l[dPlace l d.node]]) := by
  unfold pL
  rw [if_neg (by omega), if_pos (Nat.le_refl _), List.take_add_one, List.getElem?_eq_getElem hi, List.drop_append_of_le_length (by rw [List.length_take]; omega), List.drop_of_length_le (by rw [List.length_take]; omega)]
  by_cases e : l[dPlace l d.node].node = d.node <;> simp [dDrop, e]
theorem pL_gt {l : List GDesc} {d : GDesc} {i : Nat} (h : dPlace l d.node < i) (hi : i < l.length) : pL l d (i + 1) = pL l d i ++ (if l[i].node = d.node then [] else [l[i]]) := by
  unfold pL
  rw [if_neg (by omega), if_neg (by omega), List.take_add_one, List.getElem?_eq_getElem hi, List.drop_append_of_le_length (by simp; omega)]
  by_cases e : l[i].node = d.node <;> simp [dDrop, e]
theorem pL_len {l : List GDesc} {d : GDesc} {i : Nat} : (pL l d i).length ≤ l.length + 1 := by
  unfold pL
  split
  · simp; omega
  · have := drop_len_le ((l.take i).drop (dPlace l d.node)) d.node
    simp at this ⊢; omega
theorem pL_end {l : List GDesc} {d : GDesc} (hu : Up dKey l) : (if l.length ≤ dPlace l d.node then pL l d l.length ++ [d] else pL l d l.length) = l.take (dPlace l d.node) ++ [d] ++ dDrop (l.drop (dPlace l d.node)) d.node := by
  have hp := place_le l d.node
  unfold pL
  rw [List.take_of_length_le (Nat.le_refl _)]
  by_cases h : l.length ≤ dPlace l d.node
  · rw [if_pos h, if_pos h, List.take_of_length_le h, List.drop_of_length_le h]; simp [dDrop]
  · rw [if_neg h, if_neg h]
theorem put_ref {l : List GDesc} {d : GDesc} (hu : Up dKey l) : l.take (dPlace l d.node) ++ [d] ++ dDrop (l.drop (dPlace l d.node)) d.node = (match dIdx l d.node with | some i => l.set i d | none => kIns dKey l d) := by
  cases hi : dIdx l d.node with
  | none =>
    simp only
    have : dDrop (l.drop (dPlace l d.node)) d.node = l.drop (dPlace l d.node) := by
      unfold dDrop
      rw [List.filter_eq_self]
      intro a ha
      simpa using dIdx_none hi a (List.mem_of_mem_drop ha)
    rw [this, kIns, place_kAt hi]
  | some i =>
    simp only
    obtain ⟨o, ho, hn⟩ := dIdx_some hi
    obtain ⟨hil, rfl⟩ := List.getElem?_eq_some_iff.1 ho
    rw [place_some hu hi, List.drop_eq_getElem_cons hil]
    have : dDrop (l[i] :: l.drop (i + 1)) d.node = l.drop (i + 1) := by
      unfold dDrop
      rw [List.filter_cons_of_neg (by simpa using hn), List.filter_eq_self]
      intro a ha
      obtain ⟨j, hj, rfl⟩ := List.getElem_of_mem ha
      rw [List.getElem_drop]
      have hj2 : i + 1 + j < l.length := by simp at hj; omega
      have := List.pairwise_iff_getElem.1 hu i (i + 1 + j) hil hj2 (by omega)
      simp only [Bool.not_eq_true', decide_eq_false_iff_not]
      intro e
      rw [← hn] at e
      unfold dKey at this
      rw [e] at this
      omega
    rw [this, List.set_eq_take_append_cons_drop, if_pos hil]
    simp
end Go.Eng
namespace Go.Proofs.Ytcfkcmalkbdphaa.V
open Go.Eng
attribute [local go_sem] encS encDD fzD plR rowR putR

theorem rright_con (l : List GDesc) (self : UInt8) (room : Int) (hn : l.length ≤ 1000) : Con2 Try.prog 25 [fzD l, .v (.int .u8 self.toNat), .v (.int .i64 room)] (· = plR (.v (.bool (dRight l self room)))) := by
  refine con2_of Ty.mixed Try.func25 rfl (by kernel_rfl) (by kernel_rfl) rfl [.tmp 6] rfl ?_
  ((try (with_reducible refine leK2_refl ?_)); simp -implicitDefEqProofs only [go_sem, vc2_blk]; repeat ((with_reducible refine leK2_refl ?_); simp -implicitDefEqProofs only [go_sem, vc2_blk]))
  refine vc2_forA (γ := Nat) (fun i => [(7, .d (.v (.int .i64 (i : Nat)))), (8, .unk)]) (fun _ => []) (fun _ => []) 0 (fun i => i ≤ l.length ∧ ∀ j, j < i → okR self l j) (fun i => l.length - i) 0 (le2_of [] ?_) ⟨by omega, fun j h => by omega⟩ (fun i hi => ?_)
  · ((try (with_reducible refine leK2_refl ?_)); simp -implicitDefEqProofs only [go_sem, vc2_blk]; repeat ((with_reducible refine leK2_refl ?_); simp -implicitDefEqProofs only [go_sem, vc2_blk]))
    first | rfl | exact ⟨rfl, rfl⟩
  · obtain ⟨hi, hF⟩ := hi
    ((try (with_reducible refine leK2_refl ?_)); (try simp -implicitDefEqProofs only [go_sem, vc2_blk]); repeat ((first | (with_reducible refine leK2_refl ?_) | (with_reducible refine ar_i64 (by omega) ?_) | (with_reducible refine And.intro (by omega) ?_)); (try simp -implicitDefEqProofs only [go_sem, vc2_blk])))
    refine cond2_dec (fun h => ?_) (fun h => ?_)
    · have hk : i < l.length := by omega
      have hx : l[i]? = some l[i] := List.getElem?_eq_getElem hk
      ((try (with_reducible refine leK2_refl ?_)); (try simp -implicitDefEqProofs only [go_sem, vc2_blk, mapE_get hk]); repeat ((first | (with_reducible refine leK2_refl ?_) | (with_reducible refine ar_i64 (by omega) ?_) | (with_reducible refine And.intro (by omega) ?_)); (try simp -implicitDefEqProofs only [go_sem, vc2_blk, mapE_get hk])))
      rw [u8_beq]
      by_cases h1 : l[i].node = self
      · rw [decide_eq_true h1]
        ((try (with_reducible refine leK2_refl ?_)); (try simp -implicitDefEqProofs only [go_sem, vc2_blk]); repeat ((first | (with_reducible refine leK2_refl ?_) | (with_reducible refine ar_i64 (by omega) ?_) | (with_reducible refine And.intro (by omega) ?_)); (try simp -implicitDefEqProofs only [go_sem, vc2_blk])))
        have e : dRight l self room = false := right_false_ofR hk (fun ok => (ok _ hx).1.1 h1)
        exact ⟨_, rfl, le2_of [] (by simp -implicitDefEqProofs only [go_sem, vc2_blk, e])⟩
      rw [decide_eq_false h1]
      ((try (with_reducible refine leK2_refl ?_)); (try simp -implicitDefEqProofs only [go_sem, vc2_blk, mapE_get hk]); repeat ((first | (with_reducible refine leK2_refl ?_) | (with_reducible refine ar_i64 (by omega) ?_) | (with_reducible refine And.intro (by omega) ?_)); (try simp -implicitDefEqProofs only [go_sem, vc2_blk, mapE_get hk])))
      rw [u16_eq0]
      refine cond2_dec (fun h2 => ?_) (fun h2 => ?_)
      · ((try (with_reducible refine leK2_refl ?_)); (try simp -implicitDefEqProofs only [go_sem, vc2_blk]); repeat ((first | (with_reducible refine leK2_refl ?_) | (with_reducible refine ar_i64 (by omega) ?_) | (with_reducible refine And.intro (by omega) ?_)); (try simp -implicitDefEqProofs only [go_sem, vc2_blk])))
        have e : dRight l self room = false := right_false_ofR hk (fun ok => (ok _ hx).1.2 h2)
        exact ⟨_, rfl, le2_of [] (by simp -implicitDefEqProofs only [go_sem, vc2_blk, e])⟩
      ((try (with_reducible refine leK2_refl ?_)); (try simp -implicitDefEqProofs only [go_sem, vc2_blk]); repeat ((first | (with_reducible refine leK2_refl ?_) | (with_reducible refine ar_i64 (by omega) ?_) | (with_reducible refine And.intro (by omega) ?_)); (try simp -implicitDefEqProofs only [go_sem, vc2_blk])))
      refine vc2_forA (γ := Nat) (fun k => [(8, .d (.v (.int .i64 (k : Nat))))]) (fun _ => []) (fun _ => []) 0 (fun k => k ≤ i ∧ ∀ j y, j < k → l[j]? = some y → y.node < l[i].node) (fun k => i - k) 0 (le2_of [] ?_) ⟨by omega, fun j y h => by omega⟩ (fun k hk2 => ?_)
      · ((try (with_reducible refine leK2_refl ?_)); simp -implicitDefEqProofs only [go_sem, vc2_blk]; repeat ((with_reducible refine leK2_refl ?_); simp -implicitDefEqProofs only [go_sem, vc2_blk]))
        first | rfl | exact ⟨rfl, rfl⟩
      · obtain ⟨hki, hG⟩ := hk2
        ((try (with_reducible refine leK2_refl ?_)); (try simp -implicitDefEqProofs only [go_sem, vc2_blk]); repeat ((first | (with_reducible refine leK2_refl ?_) | (with_reducible refine ar_i64 (by omega) ?_) | (with_reducible refine And.intro (by omega) ?_)); (try simp -implicitDefEqProofs only [go_sem, vc2_blk])))
        refine cond2_dec (fun h3 => ?_) (fun h3 => ?_)
        · have hkl : k < l.length := by omega
          ((try (with_reducible refine leK2_refl ?_)); (try simp -implicitDefEqProofs only [go_sem, vc2_blk]); repeat ((first | (with_reducible refine leK2_refl ?_) | (with_reducible refine ar_i64 (by omega) ?_) | (with_reducible refine And.intro (by omega) ?_)); (try simp -implicitDefEqProofs only [go_sem, vc2_blk])))
          refine .inl ⟨[(0, false), (1, false), (5, false), (6, false), (2, false), (7, false), (3, false), (8, false), (4, false), (9, false), (10, false)], by kernel_rfl, ?_⟩
          ((try (with_reducible refine leK2_refl ?_)); (try simp -implicitDefEqProofs only [go_sem, vc2_blk, mapE_get hk, mapE_get hkl]); repeat ((first | (with_reducible refine leK2_refl ?_) | (with_reducible refine ar_i64 (by omega) ?_) | (with_reducible refine And.intro (by omega) ?_)); (try simp -implicitDefEqProofs only [go_sem, vc2_blk, mapE_get hk, mapE_get hkl])))
          refine cond2_dec (fun h4 => ?_) (fun h4 => ?_)
          · ((try (with_reducible refine leK2_refl ?_)); (try simp -implicitDefEqProofs only [go_sem, vc2_blk]); repeat ((first | (with_reducible refine leK2_refl ?_) | (with_reducible refine ar_i64 (by omega) ?_) | (with_reducible refine And.intro (by omega) ?_)); (try simp -implicitDefEqProofs only [go_sem, vc2_blk])))
            have e : dRight l self room = false := right_false_ofR hk (fun ok => by
              have := (ok _ hx).2 k _ (by omega) (List.getElem?_eq_getElem hkl)
              rw [UInt8.lt_iff_toNat_lt] at this
              omega)
            exact ⟨_, rfl, le2_of [] (by simp -implicitDefEqProofs only [go_sem, vc2_blk, e])⟩
          · ((try (with_reducible refine leK2_refl ?_)); (try simp -implicitDefEqProofs only [go_sem, vc2_blk]); repeat ((first | (with_reducible refine leK2_refl ?_) | (with_reducible refine ar_i64 (by omega) ?_) | (with_reducible refine And.intro (by omega) ?_)); (try simp -implicitDefEqProofs only [go_sem, vc2_blk])))
            refine ⟨k + 1, le2_of [] (by simp -implicitDefEqProofs only [go_sem, vc2_blk]; rfl), ⟨by omega, fun j y hj hy => ?_⟩, by omega⟩
            by_cases hjk : j = k
            · subst hjk
              obtain rfl := Option.some.inj ((List.getElem?_eq_getElem hkl).symm.trans hy)
              rw [UInt8.lt_iff_toNat_lt]; omega
            · exact hG j y (by omega) hy
        · ((try (with_reducible refine leK2_refl ?_)); (try simp -implicitDefEqProofs only [go_sem, vc2_blk]); repeat ((first | (with_reducible refine leK2_refl ?_) | (with_reducible refine ar_i64 (by omega) ?_) | (with_reducible refine And.intro (by omega) ?_)); (try simp -implicitDefEqProofs only [go_sem, vc2_blk])))
          refine ⟨i + 1, le2_of [] (by simp -implicitDefEqProofs only [go_sem, vc2_blk]; rfl), ⟨by omega, fun j hj => ?_⟩, by omega⟩
          by_cases hji : j = i
          · subst hji
            intro d hd
            obtain rfl := Option.some.inj (hx.symm.trans hd)
            exact ⟨⟨h1, h2⟩, fun q e hq he => hG q e (by omega) he⟩
          · exact hF j (by omega)
    · have hv : Vw self l := vw_okR.2 (fun j hj => hF j (by omega))
      ((try (with_reducible refine leK2_refl ?_)); (try simp -implicitDefEqProofs only [go_sem, vc2_blk]); repeat ((first | (with_reducible refine leK2_refl ?_) | (with_reducible refine ar_i64 (by omega) ?_) | (with_reducible refine And.intro (by omega) ?_)); (try simp -implicitDefEqProofs only [go_sem, vc2_blk])))
      by_cases h0 : 0 ≤ room
      · rw [decide_eq_true h0]
        have e : dRight l self room = decide ((l.length : Int) ≤ room) := by simp [dRight, h0, hv]
        ((try (with_reducible refine leK2_refl ?_)); (try simp -implicitDefEqProofs only [go_sem, vc2_blk]); repeat ((first | (with_reducible refine leK2_refl ?_) | (with_reducible refine ar_i64 (by omega) ?_) | (with_reducible refine And.intro (by omega) ?_)); (try simp -implicitDefEqProofs only [go_sem, vc2_blk])))
        exact ⟨_, rfl, le2_of [] (by simp -implicitDefEqProofs only [go_sem, vc2_blk, e])⟩
      · rw [decide_eq_false h0]
        have e : dRight l self room = false := by simp [dRight, h0]
        ((try (with_reducible refine leK2_refl ?_)); (try simp -implicitDefEqProofs only [go_sem, vc2_blk]); repeat ((first | (with_reducible refine leK2_refl ?_) | (with_reducible refine ar_i64 (by omega) ?_) | (with_reducible refine And.intro (by omega) ?_)); (try simp -implicitDefEqProofs only [go_sem, vc2_blk])))
        exact ⟨_, rfl, le2_of [] (by simp -implicitDefEqProofs only [go_sem, vc2_blk, e])⟩
end Go.Proofs.Ytcfkcmalkbdphaa.V

/-
  What the document puts, by definition.
-/
set_option linter.unusedSimpArgs false
set_option linter.unusedVariables false
namespace Go.Eng
theorem put_no {l : List GDesc} {d : GDesc} {self : UInt8} {room : Int} (h : (dPut l d self room).2 = false) : (dPut l d self room).1 = l := by
  unfold dPut at h ⊢
  split
  · rfl
  · rename_i h1
    rw [if_neg h1] at h
    cases hi : dIdx l d.node with
    | some i =>
      simp only [hi] at h ⊢
      cases ho : l[i]? with
      | none => rfl
      | some o =>
        simp only [ho] at h ⊢
        split at h
        · cases h
        · rename_i h2; rw [if_neg h2]
    | none =>
      simp only [hi] at h ⊢
      split at h
      · rename_i h2; rw [if_pos h2]
      · cases h
theorem put_yes {l : List GDesc} {d : GDesc} {self : UInt8} {room : Int} (h : (dPut l d self room).2 = true) : (dPut l d self room).1 = (match dIdx l d.node with | some i => l.set i d | none => kIns dKey l d) := by
  unfold dPut at h ⊢
  split
  · rename_i h1; rw [if_pos h1] at h; cases h
  · rename_i h1
    rw [if_neg h1] at h
    cases hi : dIdx l d.node with
    | some i =>
      simp only [hi] at h ⊢
      cases ho : l[i]? with
      | none => rw [ho] at h; cases h
      | some o =>
        simp only [ho] at h ⊢
        split at h
        · rename_i h2; rw [if_pos h2]
        · cases h
    | none =>
      simp only [hi] at h ⊢
      split at h
      · cases h
      · rename_i h2; rw [if_neg h2]
end Go.Eng
namespace Go.Proofs.Ytcfkcmalkbdphaa.V
open Go.Eng
attribute [local go_sem] encS encDD fzD plR rowR putR

theorem rput_con (l : List GDesc) (hu : Up dKey l) (d : GDesc) (self : UInt8) (room : Int) (hl : okDs l) (hd : d.filter.length ≤ 1000) : Con2 Try.prog 28 [fzD l, .agg (encDD d), .v (.int .u8 self.toNat), .v (.int .i64 room)] (· = putR 32 (dPut l d self room)) := by
  have hb := hl.1
  refine con2_of Ty.mixed Try.func28 rfl (by kernel_rfl) (by kernel_rfl) rfl [.tmp 8, .tmp 9] rfl ?_
  ((try (with_reducible refine leK2_refl ?_)); simp -implicitDefEqProofs only [go_sem, vc2_blk]; repeat ((with_reducible refine leK2_refl ?_); simp -implicitDefEqProofs only [go_sem, vc2_blk]))
  refine CallS.eq (rfind_con l d.node (by omega)) (by simp -implicitDefEqProofs only [go_sem, vc2_blk]) (.inl (by simp -implicitDefEqProofs only [go_sem, vc2_blk])) ?_
  ((try (with_reducible refine leK2_refl ?_)); (try simp -implicitDefEqProofs only [go_sem, vc2_blk]); repeat ((first | (with_reducible refine leK2_refl ?_) | (with_reducible refine ar_i64 (by omega) ?_) | (with_reducible refine And.intro (by omega) ?_)); (try simp -implicitDefEqProofs only [go_sem, vc2_blk])))
  refine join_ (.fl 0 (.fl 2 (.fl 1 (.fl 3 (.fl 4 (.fl 5 (.fl 6 (.fl 7 (.fl 8 (.fl 9 (.fl 10 (.fl 11 (.fl 12 (.fl 13 (.fl 14 (.fl 15 (.fl 16 (.fl 17 (.eff 18 false (.fl 19 (.fl 20 (.fl 21 (.fl 22 (.fl 23 (.fl 24 (.fl 25 (.fl 26 (.fl 28 (.fl 27 (.fl 29 (.fl 30 (.fl 31 .done))))))))))))) .no))))))))))))))))))) [(50, .d (.v (.bool (!(dPut l d self room).2))))] ?_ ?_
  · ((try (with_reducible refine leK2_refl ?_)); (try simp -implicitDefEqProofs only [go_sem, vc2_blk]); repeat ((first | (with_reducible refine leK2_refl ?_) | (with_reducible refine ar_i64 (by omega) ?_) | (with_reducible refine And.intro (by omega) ?_)); (try simp -implicitDefEqProofs only [go_sem, vc2_blk])))
    rw [u8_beq]
    by_cases h1 : d.node = self
    · rw [decide_eq_true h1]
      have hB : (dPut l d self room).2 = false := by rw [dPut, if_pos (.inl h1)]
      ((try (with_reducible refine leK2_refl ?_)); (try simp -implicitDefEqProofs only [go_sem, vc2_blk]); repeat ((first | (with_reducible refine leK2_refl ?_) | (with_reducible refine ar_i64 (by omega) ?_) | (with_reducible refine And.intro (by omega) ?_)); (try simp -implicitDefEqProofs only [go_sem, vc2_blk])))
      exact le2_of [] (by simp -implicitDefEqProofs only [go_sem, vc2_blk, hB])
    rw [decide_eq_false h1]
    ((try (with_reducible refine leK2_refl ?_)); (try simp -implicitDefEqProofs only [go_sem, vc2_blk]); repeat ((first | (with_reducible refine leK2_refl ?_) | (with_reducible refine ar_i64 (by omega) ?_) | (with_reducible refine And.intro (by omega) ?_)); (try simp -implicitDefEqProofs only [go_sem, vc2_blk])))
    rw [u16_eq0]
    by_cases h2 : d.inc = 0
    · rw [decide_eq_true h2]
      have hB : (dPut l d self room).2 = false := by rw [dPut, if_pos (.inr h2)]
      ((try (with_reducible refine leK2_refl ?_)); (try simp -implicitDefEqProofs only [go_sem, vc2_blk]); repeat ((first | (with_reducible refine leK2_refl ?_) | (with_reducible refine ar_i64 (by omega) ?_) | (with_reducible refine And.intro (by omega) ?_)); (try simp -implicitDefEqProofs only [go_sem, vc2_blk])))
      exact le2_of [] (by simp -implicitDefEqProofs only [go_sem, vc2_blk, hB])
    rw [decide_eq_false h2]
    have hP : dPut l d self room = (match dIdx l d.node with | some i => (match l[i]? with | some o => if dNewer d o = true then (l.set i d, true) else (l, false) | none => (l, false)) | none => if room ≤ (l.length : Int) then (l, false) else (kIns dKey l d, true)) := by rw [dPut, if_neg (not_or.2 ⟨h1, h2⟩)]; rfl
    cases hi : dIdx l d.node with
    | some i =>
      have hfi : dFind l d.node = (i : Int) := by unfold dFind; rw [hi]
      obtain ⟨o, ho, _⟩ := dIdx_some hi
      obtain ⟨hil, rfl⟩ := List.getElem?_eq_some_iff.1 ho
      rw [hi] at hP
      simp only [ho] at hP
      have e0 : decide ((0 : Int) ≤ (i : Int)) = true := by simp
      have e1 : decide ((i : Int) < 0) = false := by simp
      ((try (with_reducible refine leK2_refl ?_)); (try simp -implicitDefEqProofs only [go_sem, vc2_blk, hfi, e0]); repeat ((first | (with_reducible refine leK2_refl ?_) | (with_reducible refine ar_i64 (by omega) ?_) | (with_reducible refine And.intro (by omega) ?_)); (try simp -implicitDefEqProofs only [go_sem, vc2_blk, hfi, e0])))
      ((try (with_reducible refine leK2_refl ?_)); (try simp -implicitDefEqProofs only [go_sem, vc2_blk, mapE_get hil]); repeat ((first | (with_reducible refine leK2_refl ?_) | (with_reducible refine ar_i64 (by omega) ?_) | (with_reducible refine And.intro (by omega) ?_)); (try simp -implicitDefEqProofs only [go_sem, vc2_blk, mapE_get hil])))
      refine CallS.eq (rnewer_con d l[i]) (by simp -implicitDefEqProofs only [go_sem, vc2_blk]) (.inl (by simp -implicitDefEqProofs only [go_sem, vc2_blk])) ?_
      cases hnw : dNewer d l[i] with
      | false =>
        have hB : (dPut l d self room).2 = false := by rw [hP, hnw]; rfl
        ((try (with_reducible refine leK2_refl ?_)); (try simp -implicitDefEqProofs only [go_sem, vc2_blk]); repeat ((first | (with_reducible refine leK2_refl ?_) | (with_reducible refine ar_i64 (by omega) ?_) | (with_reducible refine And.intro (by omega) ?_)); (try simp -implicitDefEqProofs only [go_sem, vc2_blk])))
        exact le2_of [] (by simp -implicitDefEqProofs only [go_sem, vc2_blk, hB])
      | true =>
        have hB : (dPut l d self room).2 = true := by rw [hP, hnw]; rfl
        ((try (with_reducible refine leK2_refl ?_)); (try simp -implicitDefEqProofs only [go_sem, vc2_blk, e1]); repeat ((first | (with_reducible refine leK2_refl ?_) | (with_reducible refine ar_i64 (by omega) ?_) | (with_reducible refine And.intro (by omega) ?_)); (try simp -implicitDefEqProofs only [go_sem, vc2_blk, e1])))
        exact le2_of [] (by simp -implicitDefEqProofs only [go_sem, vc2_blk, hB])
    | none =>
      have hfi : dFind l d.node = -1 := by unfold dFind; rw [hi]
      rw [hi] at hP
      simp only at hP
      have e0 : decide ((0 : Int) ≤ -1) = false := rfl
      have e1 : decide ((-1 : Int) < 0) = true := rfl
      ((try (with_reducible refine leK2_refl ?_)); (try simp -implicitDefEqProofs only [go_sem, vc2_blk, hfi, e0, e1]); repeat ((first | (with_reducible refine leK2_refl ?_) | (with_reducible refine ar_i64 (by omega) ?_) | (with_reducible refine And.intro (by omega) ?_)); (try simp -implicitDefEqProofs only [go_sem, vc2_blk, hfi, e0, e1])))
      by_cases h3 : room ≤ (l.length : Int)
      · rw [if_pos h3] at hP
        have e3 : decide (room ≤ (l.length : Int)) = true := decide_eq_true h3
        have hB : (dPut l d self room).2 = false := by rw [hP]
        exact le2_of [] (by simp -implicitDefEqProofs only [go_sem, vc2_blk, hB, e3])
      · rw [if_neg h3] at hP
        have e3 : decide (room ≤ (l.length : Int)) = false := decide_eq_false h3
        have hB : (dPut l d self room).2 = true := by rw [hP]
        exact le2_of [] (by simp -implicitDefEqProofs only [go_sem, vc2_blk, hB, e3])
  · cases hB : (dPut l d self room).2 with
    | false =>
      have hP := put_no hB
      ((try (with_reducible refine leK2_refl ?_)); (try simp -implicitDefEqProofs only [go_sem, vc2_blk, List.length_map]); repeat ((first | (with_reducible refine leK2_refl ?_) | (with_reducible refine ar_i64 (by omega) ?_) | (with_reducible refine And.intro (by omega) ?_)); (try simp -implicitDefEqProofs only [go_sem, vc2_blk, List.length_map])))
      refine ⟨_, rfl, le2_of [] ?_⟩
      ((try (with_reducible refine leK2_refl ?_)); simp -implicitDefEqProofs only [go_sem, vc2_blk, hP, hB]; repeat ((with_reducible refine leK2_refl ?_); simp -implicitDefEqProofs only [go_sem, vc2_blk, hP, hB]))
    | true =>
      have hP := put_yes hB
      have hend := (pL_end (d := d) hu).trans ((put_ref hu).trans hP.symm)
      ((try (with_reducible refine leK2_refl ?_)); (try simp -implicitDefEqProofs only [go_sem, vc2_blk]); repeat ((first | (with_reducible refine leK2_refl ?_) | (with_reducible refine ar_i64 (by omega) ?_) | (with_reducible refine And.intro (by omega) ?_)); (try simp -implicitDefEqProofs only [go_sem, vc2_blk])))
      refine vc2_forA (γ := Nat) (fun i => [(14, .d (.v (.int .i64 (i : Nat)))), (13, .d (.v (.bool (decide (dPlace l d.node < i))))), (12, .d (.rf 0 0 (pL l d i).length))]) (fun _ => []) (fun i => [(0, .arr 32 4 ((pL l d i).map encDD) false)]) 1 (fun i => i ≤ l.length) (fun i => l.length - i) 0 (le2_of [(0, .nil 4)] ?_) (by omega) (fun i hi => ?_)
      · have e0 : pL l d 0 = [] := by unfold pL; rw [if_pos (Nat.zero_le _)]; rfl
        ((try (with_reducible refine leK2_refl ?_)); simp -implicitDefEqProofs only [go_sem, vc2_blk, e0, Nat.not_lt_zero, decide_false]; repeat ((with_reducible refine leK2_refl ?_); simp -implicitDefEqProofs only [go_sem, vc2_blk, e0, Nat.not_lt_zero, decide_false]))
        first | rfl | exact ⟨rfl, rfl⟩
      · have hpl : (pL l d i).length ≤ l.length + 1 := pL_len
        ((try (with_reducible refine leK2_refl ?_)); (try simp -implicitDefEqProofs only [go_sem, vc2_blk]); repeat ((first | (with_reducible refine leK2_refl ?_) | (with_reducible refine ar_i64 (by omega) ?_) | (with_reducible refine And.intro (by omega) ?_)); (try simp -implicitDefEqProofs only [go_sem, vc2_blk])))
        refine cond2_dec (fun h => ?_) (fun h => ?_)
        · have hk : i < l.length := by omega
          have hx : l[i]? = some l[i] := List.getElem?_eq_getElem hk
          have hiff := place_iff (node := d.node) hu hx
          rw [UInt8.le_iff_toNat_le] at hiff
          ((try (with_reducible refine leK2_refl ?_)); (try simp -implicitDefEqProofs only [go_sem, vc2_blk]); repeat ((first | (with_reducible refine leK2_refl ?_) | (with_reducible refine ar_i64 (by omega) ?_) | (with_reducible refine And.intro (by omega) ?_)); (try simp -implicitDefEqProofs only [go_sem, vc2_blk])))
          refine .inl ⟨[(0, false), (1, false), (2, false), (3, false), (4, false), (8, false), (5, false), (9, false), (6, false), (7, false), (10, false), (11, false)], by kernel_rfl, ?_⟩
          rcases Nat.lt_trichotomy i (dPlace l d.node) with hip | hip | hip
          · have e1 : decide (dPlace l d.node < i) = false := decide_eq_false (by omega)
            have e2 : decide ((d.node.toNat : Int) ≤ (l[i].node.toNat : Int)) = false := decide_eq_false (by omega)
            have e3 : ((l[i].node.toNat : Int) != (d.node.toNat : Int)) = true := by simp; omega
            ((try (with_reducible refine leK2_refl ?_)); (try simp -implicitDefEqProofs only [go_sem, vc2_blk, e1, mapE_get hk]); repeat ((first | (with_reducible refine leK2_refl ?_) | (with_reducible refine ar_i64 (by omega) ?_) | (with_reducible refine And.intro (by omega) ?_)); (try simp -implicitDefEqProofs only [go_sem, vc2_blk, e1, mapE_get hk])))
            rw [e2]
            ((try (with_reducible refine leK2_refl ?_)); (try simp -implicitDefEqProofs only [go_sem, vc2_blk]); repeat ((first | (with_reducible refine leK2_refl ?_) | (with_reducible refine ar_i64 (by omega) ?_) | (with_reducible refine And.intro (by omega) ?_)); (try simp -implicitDefEqProofs only [go_sem, vc2_blk])))
            refine .inl ⟨[(0, false), (1, false), (5, false), (2, false), (6, false), (3, false), (4, false), (7, false)], by kernel_rfl, ?_⟩
            ((try (with_reducible refine leK2_refl ?_)); (try simp -implicitDefEqProofs only [go_sem, vc2_blk, mapE_get hk]); repeat ((first | (with_reducible refine leK2_refl ?_) | (with_reducible refine ar_i64 (by omega) ?_) | (with_reducible refine And.intro (by omega) ?_)); (try simp -implicitDefEqProofs only [go_sem, vc2_blk, mapE_get hk])))
            rw [e3]
            ((try (with_reducible refine leK2_refl ?_)); (try simp -implicitDefEqProofs only [go_sem, vc2_blk, mapE_get hk, List.length_map]); repeat ((first | (with_reducible refine leK2_refl ?_) | (with_reducible refine ar_i64 (by omega) ?_) | (with_reducible refine And.intro (by omega) ?_)); (try simp -implicitDefEqProofs only [go_sem, vc2_blk, mapE_get hk, List.length_map])))
            refine ⟨i + 1, le2_of [(0, .to 2)] ?_, by omega, by omega⟩
            have e4 : decide (dPlace l d.node < i + 1) = false := decide_eq_false (by omega)
            ((try (with_reducible refine leK2_refl ?_)); simp -implicitDefEqProofs only [go_sem, vc2_blk, pL_lt hip hk, List.length_append, e4]; repeat ((with_reducible refine leK2_refl ?_); simp -implicitDefEqProofs only [go_sem, vc2_blk, pL_lt hip hk, List.length_append, e4]))
            exact ⟨rfl, by simp [encDD]⟩
          · have e1 : decide (dPlace l d.node < i) = false := decide_eq_false (by omega)
            have e2 : decide ((d.node.toNat : Int) ≤ (l[i].node.toNat : Int)) = true := decide_eq_true (by omega)
            have e4 : decide (dPlace l d.node < i + 1) = true := decide_eq_true (by omega)
            have hpe : pL l d (i + 1) = pL l d i ++ [d] ++ (if l[i].node = d.node then [] else [l[i]]) := by subst hip; exact pL_eq hk
            ((try (with_reducible refine leK2_refl ?_)); (try simp -implicitDefEqProofs only [go_sem, vc2_blk, e1, mapE_get hk]); repeat ((first | (with_reducible refine leK2_refl ?_) | (with_reducible refine ar_i64 (by omega) ?_) | (with_reducible refine And.intro (by omega) ?_)); (try simp -implicitDefEqProofs only [go_sem, vc2_blk, e1, mapE_get hk])))
            rw [e2]
            ((try (with_reducible refine leK2_refl ?_)); (try simp -implicitDefEqProofs only [go_sem, vc2_blk, List.length_map]); repeat ((first | (with_reducible refine leK2_refl ?_) | (with_reducible refine ar_i64 (by omega) ?_) | (with_reducible refine And.intro (by omega) ?_)); (try simp -implicitDefEqProofs only [go_sem, vc2_blk, List.length_map])))
            refine .inl ⟨[(0, false), (1, false), (5, false), (2, false), (6, false), (3, false), (4, false), (7, false)], by kernel_rfl, ?_⟩
            ((try (with_reducible refine leK2_refl ?_)); (try simp -implicitDefEqProofs only [go_sem, vc2_blk, mapE_get hk]); repeat ((first | (with_reducible refine leK2_refl ?_) | (with_reducible refine ar_i64 (by omega) ?_) | (with_reducible refine And.intro (by omega) ?_)); (try simp -implicitDefEqProofs only [go_sem, vc2_blk, mapE_get hk])))
            by_cases h5 : l[i].node = d.node
            · have e3 : ((l[i].node.toNat : Int) != (d.node.toNat : Int)) = false := by simp [h5]
              have hpe' := hpe
              rw [if_pos h5, List.append_nil] at hpe'
              rw [e3]
              ((try (with_reducible refine leK2_refl ?_)); (try simp -implicitDefEqProofs only [go_sem, vc2_blk]); repeat ((first | (with_reducible refine leK2_refl ?_) | (with_reducible refine ar_i64 (by omega) ?_) | (with_reducible refine And.intro (by omega) ?_)); (try simp -implicitDefEqProofs only [go_sem, vc2_blk])))
              refine ⟨i + 1, le2_of [(0, .to 2)] ?_, by omega, by omega⟩
              ((try (with_reducible refine leK2_refl ?_)); simp -implicitDefEqProofs only [go_sem, vc2_blk, hpe', List.length_append, e4]; repeat ((with_reducible refine leK2_refl ?_); simp -implicitDefEqProofs only [go_sem, vc2_blk, hpe', List.length_append, e4]))
              exact ⟨rfl, by simp [encDD]⟩
            · have e3 : ((l[i].node.toNat : Int) != (d.node.toNat : Int)) = true := by
                simp; intro e; exact h5 (UInt8.toNat_inj.1 (by exact_mod_cast e))
              have hpe' := hpe
              rw [if_neg h5] at hpe'
              rw [e3]
              ((try (with_reducible refine leK2_refl ?_)); (try simp -implicitDefEqProofs only [go_sem, vc2_blk, mapE_get hk, List.length_map, List.length_append]); repeat ((first | (with_reducible refine leK2_refl ?_) | (with_reducible refine ar_i64 (by omega) ?_) | (with_reducible refine And.intro (by omega) ?_)); (try simp -implicitDefEqProofs only [go_sem, vc2_blk, mapE_get hk, List.length_map, List.length_append])))
              refine ⟨i + 1, le2_of [(0, .to 4)] ?_, by omega, by omega⟩
              ((try (with_reducible refine leK2_refl ?_)); simp -implicitDefEqProofs only [go_sem, vc2_blk, hpe', List.length_append, e4]; repeat ((with_reducible refine leK2_refl ?_); simp -implicitDefEqProofs only [go_sem, vc2_blk, hpe', List.length_append, e4]))
              exact ⟨rfl, by simp [encDD]⟩
          · have e1 : decide (dPlace l d.node < i) = true := decide_eq_true (by omega)
            have e4 : decide (dPlace l d.node < i + 1) = true := decide_eq_true (by omega)
            have hpe := pL_gt (d := d) hip hk
            ((try (with_reducible refine leK2_refl ?_)); (try simp -implicitDefEqProofs only [go_sem, vc2_blk, e1]); repeat ((first | (with_reducible refine leK2_refl ?_) | (with_reducible refine ar_i64 (by omega) ?_) | (with_reducible refine And.intro (by omega) ?_)); (try simp -implicitDefEqProofs only [go_sem, vc2_blk, e1])))
            refine .inl ⟨[(0, false), (1, false), (5, false), (2, false), (6, false), (3, false), (4, false), (7, false)], by kernel_rfl, ?_⟩
            ((try (with_reducible refine leK2_refl ?_)); (try simp -implicitDefEqProofs only [go_sem, vc2_blk, mapE_get hk]); repeat ((first | (with_reducible refine leK2_refl ?_) | (with_reducible refine ar_i64 (by omega) ?_) | (with_reducible refine And.intro (by omega) ?_)); (try simp -implicitDefEqProofs only [go_sem, vc2_blk, mapE_get hk])))
            by_cases h5 : l[i].node = d.node
            · have e3 : ((l[i].node.toNat : Int) != (d.node.toNat : Int)) = false := by simp [h5]
              have hpe' := hpe
              rw [if_pos h5, List.append_nil] at hpe'
              rw [e3]
              ((try (with_reducible refine leK2_refl ?_)); (try simp -implicitDefEqProofs only [go_sem, vc2_blk]); repeat ((first | (with_reducible refine leK2_refl ?_) | (with_reducible refine ar_i64 (by omega) ?_) | (with_reducible refine And.intro (by omega) ?_)); (try simp -implicitDefEqProofs only [go_sem, vc2_blk])))
              refine ⟨i + 1, le2_of [] ?_, by omega, by omega⟩
              ((try (with_reducible refine leK2_refl ?_)); simp -implicitDefEqProofs only [go_sem, vc2_blk, hpe', List.length_append, e4]; repeat ((with_reducible refine leK2_refl ?_); simp -implicitDefEqProofs only [go_sem, vc2_blk, hpe', List.length_append, e4]))
              rfl
            · have e3 : ((l[i].node.toNat : Int) != (d.node.toNat : Int)) = true := by
                simp; intro e; exact h5 (UInt8.toNat_inj.1 (by exact_mod_cast e))
              have hpe' := hpe
              rw [if_neg h5] at hpe'
              rw [e3]
              ((try (with_reducible refine leK2_refl ?_)); (try simp -implicitDefEqProofs only [go_sem, vc2_blk, mapE_get hk, List.length_map, List.length_append]); repeat ((first | (with_reducible refine leK2_refl ?_) | (with_reducible refine ar_i64 (by omega) ?_) | (with_reducible refine And.intro (by omega) ?_)); (try simp -implicitDefEqProofs only [go_sem, vc2_blk, mapE_get hk, List.length_map, List.length_append])))
              refine ⟨i + 1, le2_of [(0, .to 2)] ?_, by omega, by omega⟩
              ((try (with_reducible refine leK2_refl ?_)); simp -implicitDefEqProofs only [go_sem, vc2_blk, hpe', List.length_append, e4]; repeat ((with_reducible refine leK2_refl ?_); simp -implicitDefEqProofs only [go_sem, vc2_blk, hpe', List.length_append, e4]))
              exact ⟨rfl, by simp [encDD]⟩
        · have he : i = l.length := by omega
          subst he
          by_cases hp : l.length ≤ dPlace l d.node
          · have e1 : decide (dPlace l d.node < l.length) = false := decide_eq_false (by omega)
            rw [if_pos hp] at hend
            ((try (with_reducible refine leK2_refl ?_)); (try simp -implicitDefEqProofs only [go_sem, vc2_blk, e1, List.length_map]); repeat ((first | (with_reducible refine leK2_refl ?_) | (with_reducible refine ar_i64 (by omega) ?_) | (with_reducible refine And.intro (by omega) ?_)); (try simp -implicitDefEqProofs only [go_sem, vc2_blk, e1, List.length_map])))
            refine ⟨_, rfl, le2_of [(0, .to 2)] ?_⟩
            ((try (with_reducible refine leK2_refl ?_)); simp -implicitDefEqProofs only [go_sem, vc2_blk, ← hend, hB, List.length_append]; repeat ((with_reducible refine leK2_refl ?_); simp -implicitDefEqProofs only [go_sem, vc2_blk, ← hend, hB, List.length_append]))
            simp [encDD]
          · have e1 : decide (dPlace l d.node < l.length) = true := decide_eq_true (by omega)
            rw [if_neg hp] at hend
            ((try (with_reducible refine leK2_refl ?_)); (try simp -implicitDefEqProofs only [go_sem, vc2_blk, e1]); repeat ((first | (with_reducible refine leK2_refl ?_) | (with_reducible refine ar_i64 (by omega) ?_) | (with_reducible refine And.intro (by omega) ?_)); (try simp -implicitDefEqProofs only [go_sem, vc2_blk, e1])))
            exact ⟨_, rfl, le2_of [] (by simp -implicitDefEqProofs only [go_sem, vc2_blk, ← hend, hB])⟩
end Go.Proofs.Ytcfkcmalkbdphaa.V

/-
  Descriptors of the laws: few, a view that a list makes, in memory of their own, the same.
-/
set_option linter.unusedSimpArgs false
set_option linter.unusedVariables false
namespace Go.Eng
def fewD (l : List GDesc) : Bool := l.all (fun d => decide (d.filter.length ≤ 8)) && decide ((l.length : Int) ≤ 20)
theorem fewD_ok {l : List GDesc} (h : fewD l = true) : l.length ≤ 20 ∧ ∀ d ∈ l, d.filter.length ≤ 8 := by
  simp only [fewD, Bool.and_eq_true, List.all_eq_true, decide_eq_true_eq] at h
  exact ⟨by omega, h.1⟩
def inc1 (i : UInt16) : UInt16 := if i = 0 then 1 else i
theorem inc1_int (i : UInt16) : (if (i.toNat : Int) < 1 then 1 else (i.toNat : Int)) = ((inc1 i).toNat : Int) := by
  unfold inc1
  by_cases h : i = 0
  · subst h; rfl
  · have : i.toNat ≠ 0 := fun e => h (UInt16.toNat_inj.1 e)
    rw [if_neg h, if_neg (by omega)]
theorem inc1_ne (i : UInt16) : inc1 i ≠ 0 := by
  unfold inc1
  split
  · decide
  · assumption
/-- One that comes into the view at a number. -/
def vOk (self : UInt8) (room : Int) (out : List GDesc) (n : Nat) (d : GDesc) : Bool := decide (d.node.toNat = n) && !decide (d.node = self) && decide ((out.length : Int) < room)
def vIn (d : GDesc) : GDesc := ⟨d.node, inc1 d.inc, d.age, d.filter⟩
def dView (l : List GDesc) (self : UInt8) (room : Int) : Nat → List GDesc
  | 0 => []
  | n + 1 => match l.find? (vOk self room (dView l self room n) n) with
    | some d => dView l self room n ++ [vIn d]
    | none => dView l self room n
theorem dView_yes {l : List GDesc} {self : UInt8} {room : Int} {n k : Nat} (hk : k < l.length) (h : vOk self room (dView l self room n) n l[k] = true) (hF : ∀ j y, j < k → l[j]? = some y → vOk self room (dView l self room n) n y = false) :
    dView l self room (n + 1) = dView l self room n ++ [vIn l[k]] := by
  have : l.find? (vOk self room (dView l self room n) n) = some l[k] := by
    rw [List.find?_eq_some_iff_getElem]
    exact ⟨h, k, hk, rfl, fun j hj => by simpa using hF j _ hj (List.getElem?_eq_getElem (by omega))⟩
  simp only [dView, this]
theorem dView_no {l : List GDesc} {self : UInt8} {room : Int} {n : Nat} (hF : ∀ j y, j < l.length → l[j]? = some y → vOk self room (dView l self room n) n y = false) : dView l self room (n + 1) = dView l self room n := by
  have : l.find? (vOk self room (dView l self room n) n) = none := by
    rw [List.find?_eq_none]
    intro x hx
    obtain ⟨j, hj, rfl⟩ := List.getElem_of_mem hx
    simpa using hF j _ hj (List.getElem?_eq_getElem hj)
  simp only [dView, this]
theorem dView_len (l : List GDesc) (self : UInt8) (room : Int) : ∀ n, (dView l self room n).length ≤ n
  | 0 => Nat.le_refl _
  | n + 1 => by
    have := dView_len l self room n
    simp only [dView]
    split <;> simp <;> omega
theorem dView_room (l : List GDesc) (self : UInt8) (room : Int) : ∀ n, ((dView l self room n).length : Int) ≤ room ∨ dView l self room n = []
  | 0 => .inr rfl
  | n + 1 => by
    have ih := dView_room l self room n
    simp only [dView]
    split
    · rename_i d hd
      have := List.find?_some hd
      simp only [vOk, Bool.and_eq_true, decide_eq_true_eq] at this
      left; simp; omega
    · exact ih
theorem dView_mem {l : List GDesc} {self : UInt8} {room : Int} : ∀ n, ∀ e ∈ dView l self room n, e.node.toNat < n ∧ e.node ≠ self ∧ e.inc ≠ 0 ∧ ∃ d ∈ l, e.filter = d.filter
  | 0, e, h => by cases h
  | n + 1, e, h => by
    simp only [dView] at h
    split at h
    · rename_i d hd
      rcases List.mem_append.1 h with h | h
      · have := dView_mem n e h; exact ⟨by omega, this.2⟩
      · simp at h; subst h
        have h1 := List.find?_some hd
        simp only [vOk, Bool.and_eq_true, decide_eq_true_eq, Bool.not_eq_true', decide_eq_false_iff_not] at h1
        exact ⟨by simp only [vIn]; omega, h1.1.2, inc1_ne _, d, List.mem_of_find?_eq_some hd, rfl⟩
    · have := dView_mem n e h; exact ⟨by omega, this.2⟩
theorem dView_up (l : List GDesc) (self : UInt8) (room : Int) : ∀ n, Up dKey (dView l self room n)
  | 0 => List.Pairwise.nil
  | n + 1 => by
    simp only [dView]
    split
    · rename_i d hd
      rw [Up, List.pairwise_append]
      refine ⟨dView_up l self room n, by simp, fun a ha b hb => ?_⟩
      simp at hb; subst hb
      have h1 := List.find?_some hd
      simp only [vOk, Bool.and_eq_true, decide_eq_true_eq] at h1
      have := (dView_mem n a ha).1
      show a.node.toNat < d.node.toNat
      omega
    · exact dView_up l self room n
end Go.Eng
namespace Go.Proofs.Ytcfkcmalkbdphaa.V
open Go.Eng
attribute [local go_sem] encS encDD fzD plR rowR putR

theorem fewD_con (l : List GDesc) (hl : l.length ≤ 9223372036854775807) (hf : ∀ d ∈ l, d.filter.length ≤ 9223372036854775807) : Con2 Try.prog 13 [fzD l] (· = plR (.v (.bool (fewD l)))) := by
  refine con2_of Ty.mixed Try.func13 rfl (by kernel_rfl) (by kernel_rfl) rfl [.tmp 2] rfl ?_
  ((try (with_reducible refine leK2_refl ?_)); simp -implicitDefEqProofs only [go_sem, vc2_blk]; repeat ((with_reducible refine leK2_refl ?_); simp -implicitDefEqProofs only [go_sem, vc2_blk]))
  refine vc2_rangeA l.length (fun k => []) (fun _ => []) (fun k => []) 0 (fun k => ∀ d ∈ l.take k, d.filter.length ≤ 8) (le2_of [] ?_) (by simp) (fun g k => by simp -implicitDefEqProofs only [go_sem, vc2_blk]) (by omega) (fun g => by simp -implicitDefEqProofs only [go_sem, vc2_blk]) (fun k hk hF => ?_) (fun hF => ?_)
  · ((try (with_reducible refine leK2_refl ?_)); simp -implicitDefEqProofs only [go_sem, vc2_blk]; repeat ((with_reducible refine leK2_refl ?_); simp -implicitDefEqProofs only [go_sem, vc2_blk]))
    first | rfl | exact ⟨rfl, rfl⟩
  · have hfk := hf _ (List.getElem_mem hk)
    ((try (with_reducible refine leK2_refl ?_)); (try simp -implicitDefEqProofs only [go_sem, vc2_blk, mapE_get hk]); repeat ((first | (with_reducible refine leK2_refl ?_) | (with_reducible refine ar_i64 (by omega) ?_) | (with_reducible refine And.intro (by omega) ?_)); (try simp -implicitDefEqProofs only [go_sem, vc2_blk, mapE_get hk])))
    refine cond2_dec (fun h => ?_) (fun h => ?_)
    · ((try (with_reducible refine leK2_refl ?_)); (try simp -implicitDefEqProofs only [go_sem, vc2_blk]); repeat ((first | (with_reducible refine leK2_refl ?_) | (with_reducible refine ar_i64 (by omega) ?_) | (with_reducible refine And.intro (by omega) ?_)); (try simp -implicitDefEqProofs only [go_sem, vc2_blk])))
      have hno : fewD l = false := by
        simp only [fewD, Bool.and_eq_false_iff]
        exact .inl (by rw [List.all_eq_false]; exact ⟨l[k], List.getElem_mem hk, by simp; omega⟩)
      exact ⟨_, rfl, le2_of [] (by simp -implicitDefEqProofs only [go_sem, vc2_blk, hno])⟩
    · ((try (with_reducible refine leK2_refl ?_)); (try simp -implicitDefEqProofs only [go_sem, vc2_blk]); repeat ((first | (with_reducible refine leK2_refl ?_) | (with_reducible refine ar_i64 (by omega) ?_) | (with_reducible refine And.intro (by omega) ?_)); (try simp -implicitDefEqProofs only [go_sem, vc2_blk])))
      refine ⟨k + 1, le2_of [] (by simp -implicitDefEqProofs only [go_sem, vc2_blk]), rfl, fun p hp => ?_⟩
      rw [List.take_add_one, List.getElem?_eq_getElem hk] at hp
      rcases List.mem_append.1 hp with hp | hp
      · exact hF p hp
      · simp at hp; subst hp; omega
  · ((try (with_reducible refine leK2_refl ?_)); (try simp -implicitDefEqProofs only [go_sem, vc2_blk]); repeat ((first | (with_reducible refine leK2_refl ?_) | (with_reducible refine ar_i64 (by omega) ?_) | (with_reducible refine And.intro (by omega) ?_)); (try simp -implicitDefEqProofs only [go_sem, vc2_blk])))
    have hall : l.all (fun d => decide (d.filter.length ≤ 8)) = true := by
      rw [List.all_eq_true]; intro p hp
      have := hF p (by rw [List.take_of_length_le (Nat.le_refl _)]; exact hp)
      simpa using this
    exact ⟨_, rfl, le2_of [] (by simp -implicitDefEqProofs only [go_sem, vc2_blk, fewD, hall])⟩

theorem lDescs_con (l m : List GDesc) (hl : l.length ≤ 9223372036854775807) (hf : ∀ d ∈ l, d.filter.length ≤ 9223372036854775807) : Con2 Try.prog 22 [fzD l, fzD m] (· = plR (.v (.bool (decide (l = m))))) := by
  refine con2_of Ty.mixed Try.func22 rfl (by kernel_rfl) (by kernel_rfl) rfl [.tmp 4] rfl ?_
  ((try (with_reducible refine leK2_refl ?_)); simp -implicitDefEqProofs only [go_sem, vc2_blk]; repeat ((with_reducible refine leK2_refl ?_); simp -implicitDefEqProofs only [go_sem, vc2_blk]))
  refine cond2_ne (fun h => ?_) (fun h => ?_)
  · ((try (with_reducible refine leK2_refl ?_)); (try simp -implicitDefEqProofs only [go_sem, vc2_blk]); repeat ((first | (with_reducible refine leK2_refl ?_) | (with_reducible refine ar_i64 (by omega) ?_) | (with_reducible refine And.intro (by omega) ?_)); (try simp -implicitDefEqProofs only [go_sem, vc2_blk])))
    have hne : l ≠ m := fun e => h (by rw [e])
    exact ⟨_, rfl, le2_of [] (by simp -implicitDefEqProofs only [go_sem, vc2_blk, hne])⟩
  · ((try (with_reducible refine leK2_refl ?_)); (try simp -implicitDefEqProofs only [go_sem, vc2_blk]); repeat ((first | (with_reducible refine leK2_refl ?_) | (with_reducible refine ar_i64 (by omega) ?_) | (with_reducible refine And.intro (by omega) ?_)); (try simp -implicitDefEqProofs only [go_sem, vc2_blk])))
    have hlm : l.length = m.length := by omega
    refine vc2_rangeA l.length (fun k => []) (fun _ => []) (fun k => []) 0 (fun k => l.take k = m.take k) (le2_of [] ?_) rfl (fun g k => by simp -implicitDefEqProofs only [go_sem, vc2_blk]) (by omega) (fun g => by simp -implicitDefEqProofs only [go_sem, vc2_blk]) (fun k hk hF => ?_) (fun hF => ?_)
    · ((try (with_reducible refine leK2_refl ?_)); simp -implicitDefEqProofs only [go_sem, vc2_blk]; repeat ((with_reducible refine leK2_refl ?_); simp -implicitDefEqProofs only [go_sem, vc2_blk]))
      first | rfl | exact ⟨rfl, rfl⟩
    · have hk2 : k < m.length := by omega
      ((try (with_reducible refine leK2_refl ?_)); (try simp -implicitDefEqProofs only [go_sem, vc2_blk]); repeat ((first | (with_reducible refine leK2_refl ?_) | (with_reducible refine ar_i64 (by omega) ?_) | (with_reducible refine And.intro (by omega) ?_)); (try simp -implicitDefEqProofs only [go_sem, vc2_blk])))
      refine .inl ⟨[(0, false), (1, false), (4, false), (5, false), (2, false), (6, false), (3, false), (7, false), (8, false), (9, false)], by kernel_rfl, ?_⟩
      ((try (with_reducible refine leK2_refl ?_)); (try simp -implicitDefEqProofs only [go_sem, vc2_blk, mapE_get hk, mapE_get hk2]); repeat ((first | (with_reducible refine leK2_refl ?_) | (with_reducible refine ar_i64 (by omega) ?_) | (with_reducible refine And.intro (by omega) ?_)); (try simp -implicitDefEqProofs only [go_sem, vc2_blk, mapE_get hk, mapE_get hk2])))
      refine CallS.eq (lDesc_con l[k] m[k] (hf _ (List.getElem_mem hk))) (by simp -implicitDefEqProofs only [go_sem, vc2_blk]) (.inl (by simp -implicitDefEqProofs only [go_sem, vc2_blk])) ?_
      ((try (with_reducible refine leK2_refl ?_)); (try simp -implicitDefEqProofs only [go_sem, vc2_blk]); repeat ((first | (with_reducible refine leK2_refl ?_) | (with_reducible refine ar_i64 (by omega) ?_) | (with_reducible refine And.intro (by omega) ?_)); (try simp -implicitDefEqProofs only [go_sem, vc2_blk])))
      refine cond2_dec (fun he => ?_) (fun he => ?_)
      · ((try (with_reducible refine leK2_refl ?_)); (try simp -implicitDefEqProofs only [go_sem, vc2_blk]); repeat ((first | (with_reducible refine leK2_refl ?_) | (with_reducible refine ar_i64 (by omega) ?_) | (with_reducible refine And.intro (by omega) ?_)); (try simp -implicitDefEqProofs only [go_sem, vc2_blk])))
        refine ⟨k + 1, le2_of [] (by simp -implicitDefEqProofs only [go_sem, vc2_blk]), rfl, ?_⟩
        rw [List.take_add_one, List.take_add_one, List.getElem?_eq_getElem hk, List.getElem?_eq_getElem hk2, he, hF]
      · ((try (with_reducible refine leK2_refl ?_)); (try simp -implicitDefEqProofs only [go_sem, vc2_blk]); repeat ((first | (with_reducible refine leK2_refl ?_) | (with_reducible refine ar_i64 (by omega) ?_) | (with_reducible refine And.intro (by omega) ?_)); (try simp -implicitDefEqProofs only [go_sem, vc2_blk])))
        have hne : l ≠ m := fun e => he (by subst e; rfl)
        exact ⟨_, rfl, le2_of [] (by simp -implicitDefEqProofs only [go_sem, vc2_blk, hne])⟩
    · ((try (with_reducible refine leK2_refl ?_)); (try simp -implicitDefEqProofs only [go_sem, vc2_blk]); repeat ((first | (with_reducible refine leK2_refl ?_) | (with_reducible refine ar_i64 (by omega) ?_) | (with_reducible refine And.intro (by omega) ?_)); (try simp -implicitDefEqProofs only [go_sem, vc2_blk])))
      have hee : l = m := by
        have := hF
        rwa [List.take_of_length_le (Nat.le_refl _), List.take_of_length_le (by omega)] at this
      exact ⟨_, rfl, le2_of [] (by simp -implicitDefEqProofs only [go_sem, vc2_blk, hee])⟩
end Go.Proofs.Ytcfkcmalkbdphaa.V

/-
  Descriptors of the laws: a view that a list makes; in memory of their own.
-/
set_option linter.unusedSimpArgs false
set_option linter.unusedVariables false
namespace Go.Proofs.Ytcfkcmalkbdphaa.V
open Go.Eng
attribute [local go_sem] encS encDD fzD plR rowR putR

theorem view_con (l : List GDesc) (self : UInt8) (room : Int) (hl : l.length ≤ 1000) : Con2 Try.prog 15 [fzD l, .v (.int .u8 self.toNat), .v (.int .i64 room)] (· = rowR 32 4 ((dView l self room 256).map encDD)) := by
  refine con2_of Ty.mixed Try.func15 rfl (by kernel_rfl) (by kernel_rfl) rfl [.tmp 6] rfl ?_
  ((try (with_reducible refine leK2_refl ?_)); simp -implicitDefEqProofs only [go_sem, vc2_blk]; repeat ((with_reducible refine leK2_refl ?_); simp -implicitDefEqProofs only [go_sem, vc2_blk]))
  refine vc2_rangeA 256 (fun n => [(7, .d (.rf 0 0 (dView l self room n).length)), (16, .unk)]) (fun _ => []) (fun n => [(0, .arr 32 4 ((dView l self room n).map encDD) false)]) 1 (fun _ => True) (le2_of [(0, .nil 4)] ?_) trivial (fun g k => by simp -implicitDefEqProofs only [go_sem, vc2_blk]; first | rfl | trivial) (by omega) (fun g => by simp -implicitDefEqProofs only [go_sem, vc2_blk]) (fun n hn _ => ?_) (fun _ => ?_)
  · ((try (with_reducible refine leK2_refl ?_)); simp -implicitDefEqProofs only [go_sem, vc2_blk, dView]; repeat ((with_reducible refine leK2_refl ?_); simp -implicitDefEqProofs only [go_sem, vc2_blk, dView]))
    first | rfl | exact ⟨rfl, rfl⟩
  · have hvl := dView_len l self room n
    ((try (with_reducible refine leK2_refl ?_)); (try simp -implicitDefEqProofs only [go_sem, vc2_blk]); repeat ((first | (with_reducible refine leK2_refl ?_) | (with_reducible refine ar_i64 (by omega) ?_) | (with_reducible refine And.intro (by omega) ?_)); (try simp -implicitDefEqProofs only [go_sem, vc2_blk])))
    refine vc2_rangeA l.length (fun k => []) (fun _ => []) (fun _ => [(0, .arr 32 4 ((dView l self room n).map encDD) false)]) 1 (fun k => ∀ j y, j < k → l[j]? = some y → vOk self room (dView l self room n) n y = false) (le2_of [] ?_) (fun j y h => by omega) (fun g k => by simp -implicitDefEqProofs only [go_sem, vc2_blk]) (by omega) (fun g => by simp -implicitDefEqProofs only [go_sem, vc2_blk]) (fun k hk hF => ?_) (fun hF => ?_)
    · ((try (with_reducible refine leK2_refl ?_)); simp -implicitDefEqProofs only [go_sem, vc2_blk]; repeat ((with_reducible refine leK2_refl ?_); simp -implicitDefEqProofs only [go_sem, vc2_blk]))
      first | rfl | exact ⟨rfl, rfl⟩
    · have hx : l[k]? = some l[k] := List.getElem?_eq_getElem hk
      have hnb := l[k].node.toNat_lt
      have step : vOk self room (dView l self room n) n l[k] = false → ∀ j y, j < k + 1 → l[j]? = some y → vOk self room (dView l self room n) n y = false := fun h j y hj hy => by
        by_cases hjk : j = k
        · subst hjk
          obtain rfl := Option.some.inj (hx.symm.trans hy)
          exact h
        · exact hF j y (by omega) hy
      ((try (with_reducible refine leK2_refl ?_)); (try simp -implicitDefEqProofs only [go_sem, vc2_blk, mapE_get hk]); repeat ((first | (with_reducible refine leK2_refl ?_) | (with_reducible refine ar_i64 (by omega) ?_) | (with_reducible refine And.intro (by omega) ?_)); (try simp -implicitDefEqProofs only [go_sem, vc2_blk, mapE_get hk])))
      by_cases h1 : l[k].node.toNat = n
      · rw [show ((l[k].node.toNat : Int) == (n : Int)) = true from by simp; omega]
        ((try (with_reducible refine leK2_refl ?_)); (try simp -implicitDefEqProofs only [go_sem, vc2_blk]); repeat ((first | (with_reducible refine leK2_refl ?_) | (with_reducible refine ar_i64 (by omega) ?_) | (with_reducible refine And.intro (by omega) ?_)); (try simp -implicitDefEqProofs only [go_sem, vc2_blk])))
        rw [u8_bne]
        by_cases h2 : l[k].node = self
        · rw [decide_eq_true h2]
          ((try (with_reducible refine leK2_refl ?_)); (try simp -implicitDefEqProofs only [go_sem, vc2_blk]); repeat ((first | (with_reducible refine leK2_refl ?_) | (with_reducible refine ar_i64 (by omega) ?_) | (with_reducible refine And.intro (by omega) ?_)); (try simp -implicitDefEqProofs only [go_sem, vc2_blk])))
          exact ⟨k + 1, le2_of [] (by simp -implicitDefEqProofs only [go_sem, vc2_blk]), rfl, step (by simp [vOk, h2])⟩
        · rw [decide_eq_false h2]
          ((try (with_reducible refine leK2_refl ?_)); (try simp -implicitDefEqProofs only [go_sem, vc2_blk]); repeat ((first | (with_reducible refine leK2_refl ?_) | (with_reducible refine ar_i64 (by omega) ?_) | (with_reducible refine And.intro (by omega) ?_)); (try simp -implicitDefEqProofs only [go_sem, vc2_blk])))
          refine cond2_dec (fun h3 => ?_) (fun h3 => ?_)
          · have hy := dView_yes hk (by simp [vOk, h1, h2, h3]) hF
            ((try (with_reducible refine leK2_refl ?_)); (try simp -implicitDefEqProofs only [go_sem, vc2_blk, inc1_int, List.length_map]); repeat ((first | (with_reducible refine leK2_refl ?_) | (with_reducible refine ar_i64 (by omega) ?_) | (with_reducible refine And.intro (by omega) ?_)); (try simp -implicitDefEqProofs only [go_sem, vc2_blk, inc1_int, List.length_map])))
            refine ⟨n + 1, le2_of [(0, .to 2)] ?_, rfl⟩
            ((try (with_reducible refine leK2_refl ?_)); simp -implicitDefEqProofs only [go_sem, vc2_blk, hy, List.length_append]; repeat ((with_reducible refine leK2_refl ?_); simp -implicitDefEqProofs only [go_sem, vc2_blk, hy, List.length_append]))
            simp [vIn, encDD]
          · ((try (with_reducible refine leK2_refl ?_)); (try simp -implicitDefEqProofs only [go_sem, vc2_blk]); repeat ((first | (with_reducible refine leK2_refl ?_) | (with_reducible refine ar_i64 (by omega) ?_) | (with_reducible refine And.intro (by omega) ?_)); (try simp -implicitDefEqProofs only [go_sem, vc2_blk])))
            exact ⟨k + 1, le2_of [] (by simp -implicitDefEqProofs only [go_sem, vc2_blk]), rfl, step (by simp [vOk, h3])⟩
      · rw [show ((l[k].node.toNat : Int) == (n : Int)) = false from by simp; omega]
        ((try (with_reducible refine leK2_refl ?_)); (try simp -implicitDefEqProofs only [go_sem, vc2_blk]); repeat ((first | (with_reducible refine leK2_refl ?_) | (with_reducible refine ar_i64 (by omega) ?_) | (with_reducible refine And.intro (by omega) ?_)); (try simp -implicitDefEqProofs only [go_sem, vc2_blk])))
        exact ⟨k + 1, le2_of [] (by simp -implicitDefEqProofs only [go_sem, vc2_blk]), rfl, step (by simp [vOk, h1])⟩
    · have hy := dView_no hF
      ((try (with_reducible refine leK2_refl ?_)); (try simp -implicitDefEqProofs only [go_sem, vc2_blk]); repeat ((first | (with_reducible refine leK2_refl ?_) | (with_reducible refine ar_i64 (by omega) ?_) | (with_reducible refine And.intro (by omega) ?_)); (try simp -implicitDefEqProofs only [go_sem, vc2_blk])))
      refine ⟨n + 1, le2_of [] ?_, rfl⟩
      ((try (with_reducible refine leK2_refl ?_)); simp -implicitDefEqProofs only [go_sem, vc2_blk, hy]; repeat ((with_reducible refine leK2_refl ?_); simp -implicitDefEqProofs only [go_sem, vc2_blk, hy]))
  · ((try (with_reducible refine leK2_refl ?_)); (try simp -implicitDefEqProofs only [go_sem, vc2_blk]); repeat ((first | (with_reducible refine leK2_refl ?_) | (with_reducible refine ar_i64 (by omega) ?_) | (with_reducible refine And.intro (by omega) ?_)); (try simp -implicitDefEqProofs only [go_sem, vc2_blk])))
    exact ⟨_, rfl, le2_of [] (by simp -implicitDefEqProofs only [go_sem, vc2_blk])⟩

theorem anew_con (l : List GDesc) (hl : okDs l) : Con2 Try.prog 18 [fzD l] (· = rowR 32 4 (l.map encDD)) := by
  have hb := hl.1
  refine con2_of Ty.mixed Try.func18 rfl (by kernel_rfl) (by kernel_rfl) rfl [.tmp 2] rfl ?_
  ((try (with_reducible refine leK2_refl ?_)); simp -implicitDefEqProofs only [go_sem, vc2_blk]; repeat ((with_reducible refine leK2_refl ?_); simp -implicitDefEqProofs only [go_sem, vc2_blk]))
  refine vc2_rangeA l.length (fun k => [(3, .d (.rf 0 0 k))]) (fun _ => []) (fun k => [(0, .arr 32 4 ((l.take k).map encDD) false)]) 1 (fun _ => True) (le2_of [(0, .nil 4)] ?_) trivial (fun g k => by simp -implicitDefEqProofs only [go_sem, vc2_blk]) (by omega) (fun g => by simp -implicitDefEqProofs only [go_sem, vc2_blk]) (fun k hk _ => ?_) (fun _ => ?_)
  · ((try (with_reducible refine leK2_refl ?_)); simp -implicitDefEqProofs only [go_sem, vc2_blk]; repeat ((with_reducible refine leK2_refl ?_); simp -implicitDefEqProofs only [go_sem, vc2_blk]))
    first | rfl | exact ⟨rfl, rfl⟩
  · have hfk := hl.2 _ (List.getElem_mem hk)
    ((try (with_reducible refine leK2_refl ?_)); (try simp -implicitDefEqProofs only [go_sem, vc2_blk, mapE_get hk, List.length_map, take_len_le (Nat.le_of_lt hk)]); repeat ((first | (with_reducible refine leK2_refl ?_) | (with_reducible refine ar_i64 (by omega) ?_) | (with_reducible refine And.intro (by omega) ?_)); (try simp -implicitDefEqProofs only [go_sem, vc2_blk, mapE_get hk, List.length_map, take_len_le (Nat.le_of_lt hk)])))
    refine ⟨k + 1, le2_of [(0, .to 3)] ?_, rfl⟩
    ((try (with_reducible refine leK2_refl ?_)); simp -implicitDefEqProofs only [go_sem, vc2_blk]; repeat ((with_reducible refine leK2_refl ?_); simp -implicitDefEqProofs only [go_sem, vc2_blk]))
    exact map_take_succ hk
  · ((try (with_reducible refine leK2_refl ?_)); (try simp -implicitDefEqProofs only [go_sem, vc2_blk]); repeat ((first | (with_reducible refine leK2_refl ?_) | (with_reducible refine ar_i64 (by omega) ?_) | (with_reducible refine And.intro (by omega) ?_)); (try simp -implicitDefEqProofs only [go_sem, vc2_blk])))
    exact ⟨_, rfl, le2_of [] (by simp -implicitDefEqProofs only [go_sem, vc2_blk])⟩
end Go.Proofs.Ytcfkcmalkbdphaa.V

/-
  The law of descriptors beside the document: its walk, if 'sames' and 'awake' are known.
-/
set_option linter.unusedSimpArgs false
set_option linter.unusedVariables false
namespace Go.Proofs.Ytcfkcmalkbdphaa.V
open Go.Eng
attribute [local go_sem] encS encDD fzD plR

theorem put_fz {f : FuncId} {args : List DV} {p : List GDesc × Bool} (h : Con2 Try.prog f args (· = putR 32 p)) : Con2 Try.prog f args (· = plR (.tup [fzD p.1, .v (.bool p.2)])) :=
  Con2.emb h (by simp [putR, fzD, embD, embDs, embC, lk, rfD, take_map_len]) rfl

theorem put_mem {l : List GDesc} {d : GDesc} {self : UInt8} {room : Int} {x : GDesc} (h : x ∈ (dPut l d self room).1) : x = d ∨ x ∈ l := by
  cases hB : (dPut l d self room).2 with
  | false => rw [put_no hB] at h; exact .inr h
  | true =>
    rw [put_yes hB] at h
    cases hi : dIdx l d.node with
    | some i => rw [hi] at h; exact (List.mem_or_eq_of_mem_set h).symm
    | none => rw [hi] at h; exact mem_kIns.1 h
theorem sameL (m : List GDesc) (h1 : m.length ≤ 9223372036854775807) (h2 : ∀ x ∈ m, x.filter.length ≤ 9223372036854775807) : Con2 Try.prog 22 [fzD m, fzD m] (· = plR (.v (.bool true))) := by
  have h := lDescs_con m m h1 h2
  rw [decide_eq_true rfl] at h
  exact h

set_option maxRecDepth 4000 in
set_option maxHeartbeats 2000000 in
theorem dtells_con (hs : ∀ d : GDesc, d.filter.length ≤ 8 → Con2 Try.prog 26 [.agg (encDD d)] (· = plR (.v (.bool true)))) (ha : Con2 Try.prog 14 [] (· = plR (.v (.bool true))))
    (l : List GDesc) (d : GDesc) (self node room : UInt8) (hl : l.length ≤ 9223372036854775807) (hf : ∀ d ∈ l, d.filter.length ≤ 9223372036854775807) (hd : d.filter.length ≤ 9223372036854775807) :
    Con2 Try.prog 5 [fzD l, .agg (encDD d), .v (.int .u8 self.toNat), .v (.int .u8 node.toNat), .v (.int .u8 room.toNat)] (· = plR (.v (.bool true))) := by
  refine con2_of Ty.mixed Try.func5 rfl (by kernel_rfl) (by kernel_rfl) rfl [.tmp 10] rfl ?_
  ((try (with_reducible refine leK2_refl ?_)); simp -implicitDefEqProofs only [go_sem, vc2_blk]; repeat ((with_reducible refine leK2_refl ?_); simp -implicitDefEqProofs only [go_sem, vc2_blk]))
  refine cl (fewD_con l hl hf) ?_
  cases h1 : fewD l with
  | false =>
    ((try (with_reducible refine leK2_refl ?_)); (try simp -implicitDefEqProofs only [go_sem, vc2_blk]); repeat ((first | (with_reducible refine leK2_refl ?_) | (with_reducible refine ar_i64 (by omega) ?_) | (with_reducible refine And.intro (by omega) ?_)); (try simp -implicitDefEqProofs only [go_sem, vc2_blk])))
    refine cl ha ?_
    exact ⟨_, rfl, l2 []⟩
  | true =>
    ((try (with_reducible refine leK2_refl ?_)); (try simp -implicitDefEqProofs only [go_sem, vc2_blk]); repeat ((first | (with_reducible refine leK2_refl ?_) | (with_reducible refine ar_i64 (by omega) ?_) | (with_reducible refine And.intro (by omega) ?_)); (try simp -implicitDefEqProofs only [go_sem, vc2_blk])))
    refine cond2_dec (fun h2 => ?_) (fun h2 => ?_)
    · ((try (with_reducible refine leK2_refl ?_)); (try simp -implicitDefEqProofs only [go_sem, vc2_blk]); repeat ((first | (with_reducible refine leK2_refl ?_) | (with_reducible refine ar_i64 (by omega) ?_) | (with_reducible refine And.intro (by omega) ?_)); (try simp -implicitDefEqProofs only [go_sem, vc2_blk])))
      refine cl ha ?_
      exact ⟨_, rfl, l2 []⟩
    · obtain ⟨hl20, hf8⟩ := fewD_ok h1
      have hd8 : d.filter.length ≤ 8 := by omega
      have hrb := room.toNat_lt
      have hok : okDs l := ⟨by omega, fun x hx => Nat.le_trans (hf8 x hx) (by decide)⟩
      ((try (with_reducible refine leK2_refl ?_)); (try simp -implicitDefEqProofs only [go_sem, vc2_blk]); repeat ((first | (with_reducible refine leK2_refl ?_) | (with_reducible refine ar_i64 (by omega) ?_) | (with_reducible refine And.intro (by omega) ?_)); (try simp -implicitDefEqProofs only [go_sem, vc2_blk])))
      rw [rem_nn (by omega) (by omega)]
      obtain ⟨n, hn, hn21⟩ : ∃ n : Nat, (room.toNat : Int) % 21 = n ∧ n < 21 := ⟨room.toNat % 21, rfl, Nat.mod_lt _ (by decide)⟩
      rw [hn]
      ((try (with_reducible refine leK2_refl ?_)); (try simp -implicitDefEqProofs only [go_sem, vc2_blk]); repeat ((first | (with_reducible refine leK2_refl ?_) | (with_reducible refine ar_i64 (by omega) ?_) | (with_reducible refine And.intro (by omega) ?_)); (try simp -implicitDefEqProofs only [go_sem, vc2_blk])))
      refine cl (right_con l self n hl) ?_
      refine cl (rright_con l self n (by omega)) ?_
      refine cl (row_fz (copy_con l hok)) ?_
      have eL := lDescs_con l l hl hf
      rw [decide_eq_true rfl] at eL
      refine cl eL ?_
      have eR := right_con l self (-1) hl
      rw [show dRight l self (-1) = false from by rw [dRight, decide_eq_false (by omega)]] at eR
      refine cl eR ?_
      refine cl (hs d hd8) ?_
      have hv20 : (dView l self n 256).length ≤ 20 := by rcases dView_room l self n 256 with h | h <;> simp_all <;> omega
      have hvu := dView_up l self n 256
      have hvok : okDs (dView l self n 256) := ⟨by omega, fun x hx => by
        obtain ⟨_, _, _, y, hy, e⟩ := dView_mem 256 x hx
        rw [e]; exact hok.2 y hy⟩
      refine cl (row_fz (view_con l self n (by omega))) ?_
      obtain ⟨v, hv⟩ : ∃ v, dView l self n 256 = v := ⟨_, rfl⟩
      rw [hv] at hv20 hvu hvok ⊢
      refine cl (row_fz (anew_con v hvok)) ?_
      refine vc2_rangeA l.length (fun k => []) (fun _ => []) (fun k => []) 0 (fun _ => True) (le2_of [] ?_) trivial (fun g k => by simp -implicitDefEqProofs only [go_sem, vc2_blk]) (by omega) (fun g => by simp -implicitDefEqProofs only [go_sem, vc2_blk]) (fun k hk _ => ?_) (fun _ => ?_)
      · ((try (with_reducible refine leK2_refl ?_)); simp -implicitDefEqProofs only [go_sem, vc2_blk]; repeat ((with_reducible refine leK2_refl ?_); simp -implicitDefEqProofs only [go_sem, vc2_blk]))
        first | rfl | exact ⟨rfl, rfl⟩
      · have hfk := hf _ (List.getElem_mem hk)
        ((try (with_reducible refine leK2_refl ?_)); (try simp -implicitDefEqProofs only [go_sem, vc2_blk, mapE_get hk]); repeat ((first | (with_reducible refine leK2_refl ?_) | (with_reducible refine ar_i64 (by omega) ?_) | (with_reducible refine And.intro (by omega) ?_)); (try simp -implicitDefEqProofs only [go_sem, vc2_blk, mapE_get hk])))
        refine .inl ⟨[(0, false), (1, false), (3, false), (4, false), (2, true), (5, false), (6, false)], by kernel_rfl, ?_⟩
        ((try (with_reducible refine leK2_refl ?_)); (try simp -implicitDefEqProofs only [go_sem, vc2_blk]); repeat ((first | (with_reducible refine leK2_refl ?_) | (with_reducible refine ar_i64 (by omega) ?_) | (with_reducible refine And.intro (by omega) ?_)); (try simp -implicitDefEqProofs only [go_sem, vc2_blk])))
        refine cl (dSame_con l[k] d hfk) ?_
        refine cl (lDesc_con l[k] d hfk) ?_
        exact ⟨k + 1, l2 [], rfl⟩
      · ((try (with_reducible refine leK2_refl ?_)); (try simp -implicitDefEqProofs only [go_sem, vc2_blk]); repeat ((first | (with_reducible refine leK2_refl ?_) | (with_reducible refine ar_i64 (by omega) ?_) | (with_reducible refine And.intro (by omega) ?_)); (try simp -implicitDefEqProofs only [go_sem, vc2_blk])))
        refine cl (put_fz (put_con v hvu d self n hvok (by omega))) ?_
        refine cl (put_fz (rput_con v hvu d self n hvok (by omega))) ?_
        refine cl (sameL (dPut v d self n).1 (by have := put_len (l := v) (self := self) d n; omega) (fun x hx => by rcases put_mem hx with e | hx; rw [e]; exact hd; have := hvok.2 x hx; omega)) ?_
        refine cl (find_con v hvu node (by omega)) ?_
        refine cl (rfind_con v node (by omega)) ?_
        refine cl (row_fz (drop_con v hvu node hvok)) ?_
        refine cl (row_fz (rdrop_con v node hvok)) ?_
        refine cl (sameL (dDrop v node) (by have := drop_len_le v node; omega) (fun x hx => by have := hvok.2 x (List.mem_filter.1 hx).1; omega)) ?_
        refine cl (row_fz (older_con v hvok)) ?_
        refine cl (row_fz (rolder_con v hvok)) ?_
        refine cl (sameL (dOlder v) (by simp [dOlder]; omega) (fun x hx => by obtain ⟨y, hy, rfl⟩ := List.mem_map.1 hx; rw [older_filter]; have := hvok.2 y hy; omega)) ?_
        refine cl (oldest_con v (by omega)) ?_
        refine cl (roldest_con v (by omega)) ?_
        refine cl (sameL v (by omega) (fun x hx => by have := hvok.2 x hx; omega)) ?_
        refine cl ha ?_
        exact ⟨_, rfl, l2 []⟩
end Go.Proofs.Ytcfkcmalkbdphaa.V
