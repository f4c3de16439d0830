/-
  Ages.
-/
import Derived.Test.YtfdhmmjccnmckaaDf
set_option linter.unusedSimpArgs false
set_option linter.unusedVariables false
namespace Go.Eng

theorem older_age (d : GDesc) : d.older.age.toNat = min (d.age.toNat + 1) 255 := by
  unfold GDesc.older
  have := d.age.toNat_lt
  split
  · rename_i h; rw [h]; rfl
  · rename_i h
    have h1 : d.age.toNat ≠ 255 := fun e => h (UInt8.toNat_inj.1 e)
    simp only
    rw [UInt8.toNat_add]
    simp; omega

/-- Who is oldest stays so. -/
theorem old_older {l : List GDesc} (h : ∀ d ∈ l, d.age.toNat < 254) : dOldest (dOlder l) = dOldest l := by
  unfold dOldest
  have : dOld (dOlder l) = dOld l := by
    by_cases hl : l = []
    · subst hl; rfl
    · obtain ⟨i, hi⟩ := old_some hl
      obtain ⟨x, hx, h1, h2⟩ := old_spec hi
      rw [hi]
      refine old_mk (x := x.older) (by simp [dOlder, hx]) (fun e he => ?_) (fun j y hj hy => ?_)
      · obtain ⟨d, hd, rfl⟩ := List.mem_map.1 he
        have h3 := h1 d hd
        rw [UInt8.le_iff_toNat_le] at *
        rw [older_age, older_age]
        omega
      · simp only [dOlder, List.getElem?_map, Option.map_eq_some_iff] at hy
        obtain ⟨d, hd, rfl⟩ := hy
        have h3 := h2 j d hj hd
        have h4 := h x (List.mem_of_getElem? hx)
        rw [UInt8.lt_iff_toNat_lt] at *
        rw [older_age, older_age]
        omega
  rw [this]

end Go.Eng
