/-
  Putting into a view: what is there behind it.
-/
import Derived.Test.YtfdhmmjccnmckaaDg
set_option linter.unusedSimpArgs false
set_option linter.unusedVariables false
namespace Go.Eng
section
variable {l : List GDesc} {self : UInt8} {x : GDesc} {room : Int}

theorem put_cases (l : List GDesc) (x : GDesc) (self : UInt8) (room : Int) :
    ((dPut l x self room).2 = false ∧ (dPut l x self room).1 = l) ∨ ((dPut l x self room).2 = true ∧ x ∈ (dPut l x self room).1 ∧ x.node ≠ self ∧ x.inc ≠ 0) := by
  unfold dPut
  split
  · exact .inl ⟨rfl, rfl⟩
  · rename_i h
    have h1 : x.node ≠ self := fun e => h (.inl e)
    have h2 : x.inc ≠ 0 := fun e => h (.inr e)
    split
    · rename_i i hi
      obtain ⟨o, ho, hn⟩ := dIdx_some hi
      obtain ⟨hlt, _⟩ := List.getElem?_eq_some_iff.1 ho
      rw [ho]
      simp only
      split
      · exact .inr ⟨rfl, List.mem_set hlt _, h1, h2⟩
      · exact .inl ⟨rfl, rfl⟩
    · split
      · exact .inl ⟨rfl, rfl⟩
      · exact .inr ⟨rfl, mem_kIns.2 (.inl rfl), h1, h2⟩

theorem put_false (h : (dPut l x self room).2 = false) : (dPut l x self room).1 = l := by
  rcases put_cases l x self room with h1 | h1
  · exact h1.2
  · rw [h1.1] at h; cases h

theorem put_true (hv : Vw self l) (h : (dPut l x self room).2 = true) : ∃ i, dIdx (dPut l x self room).1 x.node = some i ∧ (dPut l x self room).1[i]? = some x := by
  rcases put_cases l x self room with h1 | h1
  · rw [h1.1] at h; cases h
  · obtain ⟨i, hi, e⟩ := List.getElem_of_mem h1.2.1
    have hi' : (dPut l x self room).1[i]? = some x := by rw [List.getElem?_eq_getElem hi, e]
    exact ⟨i, dIdx_at (self := self) (vw_put hv x room).2 hi', hi'⟩

theorem put_full (h : (dPut l x self room).2 = false) (h1 : x.node ≠ self) (h2 : x.inc ≠ 0) (h3 : dIdx l x.node = none) : room ≤ (l.length : Int) := by
  unfold dPut at h
  rw [if_neg (by rintro (e | e); exact h1 e; exact h2 e), h3] at h
  simp only at h
  split at h
  · assumption
  · cases h

theorem put_old (hv : Vw self l) (h : (dPut l x self room).2 = false) {i : Nat} {o : GDesc} (hi : dIdx l x.node = some i) (ho : l[i]? = some o) : ¬ o.inc < x.inc ∧ ¬ (o.inc = x.inc ∧ x.age < o.age) := by
  obtain ⟨o', ho', hn⟩ := dIdx_some hi
  rw [ho] at ho'
  cases ho'
  have hov := hv.1 o (List.mem_of_getElem? ho)
  unfold dPut at h
  split at h
  · rename_i hc
    rcases hc with e | e
    · exact absurd (hn.trans e) hov.1
    · rw [e]
      refine ⟨fun h1 => ?_, fun h1 => hov.2 h1.1⟩
      rw [UInt16.lt_iff_toNat_lt] at h1
      simp at h1
  · rw [hi] at h
    simp only [ho] at h
    split at h
    · cases h
    · rename_i hnew
      unfold dNewer at hnew
      split at hnew
      · rename_i e
        simp at hnew
        refine ⟨fun h1 => ?_, fun h1 => ?_⟩
        · rw [e, UInt16.lt_iff_toNat_lt] at h1; omega
        · have := h1.2
          rw [UInt8.lt_iff_toNat_lt] at this
          rw [UInt8.le_iff_toNat_le] at hnew
          omega
      · rename_i e
        simp at hnew
        refine ⟨fun h1 => ?_, fun h1 => e h1.1.symm⟩
        rw [UInt16.lt_iff_toNat_lt] at h1
        rw [UInt16.le_iff_toNat_le] at hnew
        omega
end
end Go.Eng
