/-
 Part 23 of the proof of Pj: the engine and the walks, in their order.
-/
import Derived.Test.YtlaefellhnkfbaaGreatPj22
set_option linter.unusedSimpArgs false
set_option linter.unusedVariables false
namespace Go.Eng
end Go.Eng

namespace Go.Eng
section
variable {l : List GDesc} {self : UInt8} {x : GDesc} {room : Int}
theorem ac6 (l : List GDesc) (x : GDesc) (self : UInt8) (room : Int) :
  ((bB l x self room).2 = false ∧ (bB l x self room).1 = l) ∨ ((bB l x self room).2 = true ∧ x ∈ (bB l x self room).1 ∧ x.node ≠ self ∧ x.inc ≠ 0) := by
 unfold bB
 split
 ·exact .inl ⟨rfl, rfl⟩
 ·rename_i h
  have h1 : x.node ≠ self := fun e => h (.inl e)
  have h2 : x.inc ≠ 0 := fun e => h (.inr e)
  split
  ·rename_i i hi
   obtain ⟨o, ho, hn⟩ := cD hi
   obtain ⟨hlt, _⟩ := List.getElem?_eq_some_iff.1 ho
   rw [ho]
   simp only
   split
   ·exact .inr ⟨rfl, List.mem_set hlt _, h1, h2⟩
   ·exact .inl ⟨rfl, rfl⟩
  ·split
   ·exact .inl ⟨rfl, rfl⟩
   ·exact .inr ⟨rfl, lQ.2 (.inl rfl), h1, h2⟩
theorem ae8 (h : (bB l x self room).2 = false) (h1 : x.node ≠ self) (h2 : x.inc ≠ 0) (h3 : bX l x.node = none) : room ≤ (l.length : Int) := by
 unfold bB at h
 rw [if_neg (by rintro (e | e); exact h1 e; exact h2 e), h3] at h
 simp only at h
 split at h
 ·assumption
 ·cases h
end
end Go.Eng
