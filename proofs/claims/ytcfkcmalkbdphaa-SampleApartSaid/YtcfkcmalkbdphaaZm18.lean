/-
  Part 18 of the proof of Zm: the engine and the walks, in their order.
-/
import Derived.Test.YtcfkcmalkbdphaaZm16
set_option linter.unusedSimpArgs false
set_option linter.unusedVariables false
/-
  Which views are right; who is oldest.
-/
set_option linter.unusedSimpArgs false
set_option linter.unusedVariables false
namespace Go.Eng
section
variable {l : List GDesc} {self : UInt8}

/-- Is the one at a place right? -/
def okD (self : UInt8) (l : List GDesc) (i : Nat) : Prop := ∀ d, l[i]? = some d → (d.node ≠ self ∧ d.inc ≠ 0) ∧ ∀ e, i ≠ 0 → l[i - 1]? = some e → e.node < d.node
/-- Beside all ahead of it. -/
def okR (self : UInt8) (l : List GDesc) (i : Nat) : Prop := ∀ d, l[i]? = some d → (d.node ≠ self ∧ d.inc ≠ 0) ∧ ∀ k e, k < i → l[k]? = some e → e.node < d.node

theorem vw_okR : Vw self l ↔ ∀ i, i < l.length → okR self l i := by
  constructor
  · rintro ⟨h1, h2⟩ i hi d hd
    refine ⟨h1 d (List.mem_of_getElem? hd), fun k e hk he => ?_⟩
    obtain ⟨hi', rfl⟩ := List.getElem?_eq_some_iff.1 hd
    obtain ⟨hk', rfl⟩ := List.getElem?_eq_some_iff.1 he
    rw [UInt8.lt_iff_toNat_lt]
    exact List.pairwise_iff_getElem.1 h2 k i hk' hi' hk
  · intro h
    refine ⟨fun d hd => ?_, List.pairwise_iff_getElem.2 fun i j hi hj hij => ?_⟩
    · obtain ⟨i, hi, rfl⟩ := List.getElem_of_mem hd
      exact (h i hi _ (List.getElem?_eq_getElem hi)).1
    · have := (h j hj _ (List.getElem?_eq_getElem hj)).2 i _ hij (List.getElem?_eq_getElem hi)
      rwa [UInt8.lt_iff_toNat_lt] at this

theorem vw_okD : Vw self l ↔ ∀ i, i < l.length → okD self l i := by
  constructor
  · intro h i hi d hd
    obtain ⟨h1, h2⟩ := vw_okR.1 h i hi d hd
    exact ⟨h1, fun e h0 he => h2 (i - 1) e (by omega) he⟩
  · intro h
    rw [vw_okR]
    intro i hi d hd
    refine ⟨(h i hi d hd).1, fun k e hk he => ?_⟩
    obtain ⟨m, rfl⟩ : ∃ m, i = k + 1 + m := ⟨i - k - 1, by omega⟩
    induction m generalizing d with
    | zero => exact (h (k + 1) hi d hd).2 e (by omega) (by simpa using he)
    | succ m ih =>
      have hlt : k + 1 + m < l.length := by omega
      have h1 := ih l[k + 1 + m] hlt (List.getElem?_eq_getElem hlt) (by omega)
      have h2 := (h (k + 1 + (m + 1)) hi d hd).2 l[k + 1 + m] (by omega) (by rw [show k + 1 + (m + 1) - 1 = k + 1 + m by omega]; exact List.getElem?_eq_getElem hlt)
      exact UInt8.lt_trans h1 h2

theorem right_false_of {room : Int} {i : Nat} (hi : i < l.length) (h : ¬ okD self l i) : dRight l self room = false := decide_eq_false fun ⟨_, _, hv⟩ => h (vw_okD.1 hv i hi)
theorem right_false_ofR {room : Int} {i : Nat} (hi : i < l.length) (h : ¬ okR self l i) : dRight l self room = false := decide_eq_false fun ⟨_, _, hv⟩ => h (vw_okR.1 hv i hi)

/-- The first of the greatest age. -/
theorem old_mk {i : Nat} {x : GDesc} (hx : l[i]? = some x) (h1 : ∀ e ∈ l, e.age ≤ x.age) (h2 : ∀ j y, j < i → l[j]? = some y → y.age < x.age) : dOld l = some i := by
  obtain ⟨hi, rfl⟩ := List.getElem?_eq_some_iff.1 hx
  unfold dOld
  rw [List.findIdx?_eq_some_iff_getElem]
  refine ⟨hi, by simpa using h1, fun j hj => ?_⟩
  have h3 := h2 j l[j] hj (List.getElem?_eq_getElem (by omega))
  simp only [decide_eq_true_eq]
  intro h4
  have h5 := h4 l[i] (List.getElem_mem hi)
  rw [UInt8.lt_iff_toNat_lt] at h3
  rw [UInt8.le_iff_toNat_le] at h5
  omega
theorem old_nil : dOld [] = none := rfl
theorem old_some (h : l ≠ []) : ∃ i, dOld l = some i := by
  cases hd : dOld l with
  | some i => exact ⟨i, rfl⟩
  | none =>
    exfalso
    unfold dOld at hd
    rw [List.findIdx?_eq_none_iff] at hd
    have key : ∀ m : List GDesc, m ≠ [] → ∃ d ∈ m, ∀ e ∈ m, e.age ≤ d.age := by
      intro m
      induction m with
      | nil => intro h; exact absurd rfl h
      | cons a r ih =>
        intro _
        by_cases hr : r = []
        · exact ⟨a, List.mem_cons_self, by intro e he; rw [hr] at he; simp at he; subst he; exact UInt8.le_refl _⟩
        · obtain ⟨d, hd1, hd2⟩ := ih hr
          by_cases hle : a.age ≤ d.age
          · refine ⟨d, List.mem_cons_of_mem _ hd1, fun e he => ?_⟩
            rcases List.mem_cons.1 he with rfl | he
            · exact hle
            · exact hd2 e he
          · refine ⟨a, List.mem_cons_self, fun e he => ?_⟩
            rcases List.mem_cons.1 he with rfl | he
            · exact UInt8.le_refl _
            · have := hd2 e he
              rw [UInt8.le_iff_toNat_le] at *
              omega
    obtain ⟨d, h1, h2⟩ := key l h
    have := hd d h1
    simp at this
    obtain ⟨e, he, hlt⟩ := this
    have := h2 e he
    rw [UInt8.le_iff_toNat_le] at this
    rw [UInt8.lt_iff_toNat_lt] at hlt
    omega
theorem old_spec {i : Nat} (h : dOld l = some i) : ∃ x, l[i]? = some x ∧ (∀ e ∈ l, e.age ≤ x.age) ∧ ∀ j y, j < i → l[j]? = some y → y.age < x.age := by
  obtain ⟨hi, h1, h2⟩ := List.findIdx?_eq_some_iff_getElem.1 h
  simp only [decide_eq_true_eq] at h1
  refine ⟨l[i], List.getElem?_eq_getElem hi, h1, fun j y hj hy => ?_⟩
  obtain ⟨hj', rfl⟩ := List.getElem?_eq_some_iff.1 hy
  have h3 := h2 j hj
  rw [UInt8.lt_iff_toNat_lt]
  rcases Nat.lt_or_ge l[j].age.toNat l[i].age.toNat with h4 | h4
  · exact h4
  · exfalso
    apply h3
    simp only [decide_eq_true_eq]
    intro e he
    have := h1 e he
    rw [UInt8.le_iff_toNat_le] at *
    omega
end
end Go.Eng
