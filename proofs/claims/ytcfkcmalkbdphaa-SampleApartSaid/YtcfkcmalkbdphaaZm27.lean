/-
  Part 27 of the proof of Zm: the engine and the walks, in their order.
-/
import Derived.Test.YtcfkcmalkbdphaaZm18
set_option linter.unusedSimpArgs false
set_option linter.unusedVariables false
/-
  Ages.
-/
set_option linter.unusedSimpArgs false
set_option linter.unusedVariables false
namespace Go.Eng

theorem older_age (d : GDesc) : d.older.age.toNat = min (d.age.toNat + 1) 255 := by
  unfold GDesc.older
  have := d.age.toNat_lt
  split
  · rename_i h; rw [h]; rfl
  · rename_i h
    have h1 : d.age.toNat ≠ 255 := fun e => h (UInt8.toNat_inj.1 e)
    simp only
    rw [UInt8.toNat_add]
    simp; omega

/-- Who is oldest stays so. -/
theorem old_older {l : List GDesc} (h : ∀ d ∈ l, d.age.toNat < 254) : dOldest (dOlder l) = dOldest l := by
  unfold dOldest
  have : dOld (dOlder l) = dOld l := by
    by_cases hl : l = []
    · subst hl; rfl
    · obtain ⟨i, hi⟩ := old_some hl
      obtain ⟨x, hx, h1, h2⟩ := old_spec hi
      rw [hi]
      refine old_mk (x := x.older) (by simp [dOlder, hx]) (fun e he => ?_) (fun j y hj hy => ?_)
      · obtain ⟨d, hd, rfl⟩ := List.mem_map.1 he
        have h3 := h1 d hd
        rw [UInt8.le_iff_toNat_le] at *
        rw [older_age, older_age]
        omega
      · simp only [dOlder, List.getElem?_map, Option.map_eq_some_iff] at hy
        obtain ⟨d, hd, rfl⟩ := hy
        have h3 := h2 j d hj hd
        have h4 := h x (List.mem_of_getElem? hx)
        rw [UInt8.lt_iff_toNat_lt] at *
        rw [older_age, older_age]
        omega
  rw [this]

end Go.Eng

/-
  Putting into a view: what is there behind it.
-/
set_option linter.unusedSimpArgs false
set_option linter.unusedVariables false
namespace Go.Eng
section
variable {l : List GDesc} {self : UInt8} {x : GDesc} {room : Int}

theorem put_cases (l : List GDesc) (x : GDesc) (self : UInt8) (room : Int) :
    ((dPut l x self room).2 = false ∧ (dPut l x self room).1 = l) ∨ ((dPut l x self room).2 = true ∧ x ∈ (dPut l x self room).1 ∧ x.node ≠ self ∧ x.inc ≠ 0) := by
  unfold dPut
  split
  · exact .inl ⟨rfl, rfl⟩
  · rename_i h
    have h1 : x.node ≠ self := fun e => h (.inl e)
    have h2 : x.inc ≠ 0 := fun e => h (.inr e)
    split
    · rename_i i hi
      obtain ⟨o, ho, hn⟩ := dIdx_some hi
      obtain ⟨hlt, _⟩ := List.getElem?_eq_some_iff.1 ho
      rw [ho]
      simp only
      split
      · exact .inr ⟨rfl, List.mem_set hlt _, h1, h2⟩
      · exact .inl ⟨rfl, rfl⟩
    · split
      · exact .inl ⟨rfl, rfl⟩
      · exact .inr ⟨rfl, mem_kIns.2 (.inl rfl), h1, h2⟩

theorem put_false (h : (dPut l x self room).2 = false) : (dPut l x self room).1 = l := by
  rcases put_cases l x self room with h1 | h1
  · exact h1.2
  · rw [h1.1] at h; cases h

theorem put_true (hv : Vw self l) (h : (dPut l x self room).2 = true) : ∃ i, dIdx (dPut l x self room).1 x.node = some i ∧ (dPut l x self room).1[i]? = some x := by
  rcases put_cases l x self room with h1 | h1
  · rw [h1.1] at h; cases h
  · obtain ⟨i, hi, e⟩ := List.getElem_of_mem h1.2.1
    have hi' : (dPut l x self room).1[i]? = some x := by rw [List.getElem?_eq_getElem hi, e]
    exact ⟨i, dIdx_at (self := self) (vw_put hv x room).2 hi', hi'⟩

theorem put_full (h : (dPut l x self room).2 = false) (h1 : x.node ≠ self) (h2 : x.inc ≠ 0) (h3 : dIdx l x.node = none) : room ≤ (l.length : Int) := by
  unfold dPut at h
  rw [if_neg (by rintro (e | e); exact h1 e; exact h2 e), h3] at h
  simp only at h
  split at h
  · assumption
  · cases h

theorem put_old (hv : Vw self l) (h : (dPut l x self room).2 = false) {i : Nat} {o : GDesc} (hi : dIdx l x.node = some i) (ho : l[i]? = some o) : ¬ o.inc < x.inc ∧ ¬ (o.inc = x.inc ∧ x.age < o.age) := by
  obtain ⟨o', ho', hn⟩ := dIdx_some hi
  rw [ho] at ho'
  cases ho'
  have hov := hv.1 o (List.mem_of_getElem? ho)
  unfold dPut at h
  split at h
  · rename_i hc
    rcases hc with e | e
    · exact absurd (hn.trans e) hov.1
    · rw [e]
      refine ⟨fun h1 => ?_, fun h1 => hov.2 h1.1⟩
      rw [UInt16.lt_iff_toNat_lt] at h1
      simp at h1
  · rw [hi] at h
    simp only [ho] at h
    split at h
    · cases h
    · rename_i hnew
      unfold dNewer at hnew
      split at hnew
      · rename_i e
        simp at hnew
        refine ⟨fun h1 => ?_, fun h1 => ?_⟩
        · rw [e, UInt16.lt_iff_toNat_lt] at h1; omega
        · have := h1.2
          rw [UInt8.lt_iff_toNat_lt] at this
          rw [UInt8.le_iff_toNat_le] at hnew
          omega
      · rename_i e
        simp at hnew
        refine ⟨fun h1 => ?_, fun h1 => e h1.1.symm⟩
        rw [UInt16.lt_iff_toNat_lt] at h1
        rw [UInt16.le_iff_toNat_le] at hnew
        omega
end
end Go.Eng
