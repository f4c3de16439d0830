/-
  Part 23 of the proof of Pl: the engine and the walks, in their order.
-/
import Derived.Test.YtlaefellhnkfbaaGreatPl22
set_option linter.unusedSimpArgs false
set_option linter.unusedVariables false
namespace Go.Eng
end Go.Eng

namespace Go.Eng
section
variable {l : List GDesc} {self : UInt8} {x : GDesc} {room : Int}
theorem put_cases (l : List GDesc) (x : GDesc) (self : UInt8) (room : Int) :
    ((dPut l x self room).2 = false ∧ (dPut l x self room).1 = l) ∨ ((dPut l x self room).2 = true ∧ x ∈ (dPut l x self room).1 ∧ x.node ≠ self ∧ x.inc ≠ 0) := by
  unfold dPut
  split
  · exact .inl ⟨rfl, rfl⟩
  · rename_i h
    have h1 : x.node ≠ self := fun e => h (.inl e)
    have h2 : x.inc ≠ 0 := fun e => h (.inr e)
    split
    · rename_i i hi
      obtain ⟨o, ho, hn⟩ := dIdx_some hi
      obtain ⟨hlt, _⟩ := List.getElem?_eq_some_iff.1 ho
      rw [ho]
      simp only
      split
      · exact .inr ⟨rfl, List.mem_set hlt _, h1, h2⟩
      · exact .inl ⟨rfl, rfl⟩
    · split
      · exact .inl ⟨rfl, rfl⟩
      · exact .inr ⟨rfl, mem_kIns.2 (.inl rfl), h1, h2⟩
theorem put_false (h : (dPut l x self room).2 = false) : (dPut l x self room).1 = l := by
  rcases put_cases l x self room with h1 | h1
  · exact h1.2
  · rw [h1.1] at h; cases h
end
end Go.Eng
