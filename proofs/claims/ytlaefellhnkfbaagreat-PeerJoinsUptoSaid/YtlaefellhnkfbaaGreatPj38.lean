/-
 Part 38 of the proof of Pj: the engine and the walks, in their order.
-/
import Derived.Test.YtlaefellhnkfbaaGreatPj23
import Derived.Test.YtlaefellhnkfbaaGreatPj25
set_option linter.unusedSimpArgs false
set_option linter.unusedVariables false
namespace Go.Eng
section
variable {l : List GDesc} {self : UInt8} {a b : GDesc} {room : Int}
theorem aah (h : bX l a.node = none) (h1 : a.node ≠ self) (h2 : a.inc ≠ 0) (h3 : (l.length : Int) < room) : bB l a self room = (ou cx l a, true) := by
 unfold bB
 rw [if_neg (by rintro (e | e); exact h1 e; exact h2 e), h]
 simp only
 rw [if_neg (by omega)]
end
end Go.Eng

namespace Go.Eng
section
variable {l : List GDesc} {self : UInt8} {d e : GDesc} {room : Int}
theorem afM (l : List GDesc) (d : GDesc) (self : UInt8) (room : Int) :
    ((d.node = self ∨ d.inc = 0) ∧ bB l d self room = (l, false)) ∨ ((d.node ≠ self ∧ d.inc ≠ 0) ∧
      ((∃ i o, bX l d.node = some i ∧ l[i]? = some o ∧ o.node = d.node ∧ ((eQ d o = true ∧ bB l d self room = (l.set i d, true)) ∨ (eQ d o = false ∧ bB l d self room = (l, false)))) ∨
       (bX l d.node = none ∧ ((room ≤ l.length ∧ bB l d self room = (l, false)) ∨ ((l.length : Int) < room ∧ bB l d self room = (ou cx l d, true)))))) := by
  unfold bB
  by_cases h : d.node = self ∨ d.inc = 0
  · exact .inl ⟨h, if_pos h⟩
  · refine .inr ⟨⟨fun e => h (.inl e), fun e => h (.inr e)⟩, ?_⟩
    rw [if_neg h]
    cases hi : bX l d.node with
    | some i =>
      obtain ⟨o, ho, hn⟩ := cD hi
      refine .inl ⟨i, o, rfl, ho, hn, ?_⟩
      simp only [ho]
      cases hN : eQ d o with
      | true => exact .inl ⟨rfl, by simp⟩
      | false => exact .inr ⟨rfl, by simp⟩
    | none =>
      refine .inr ⟨rfl, ?_⟩
      simp only
      by_cases hr : room ≤ l.length
      · exact .inl ⟨hr, if_pos hr⟩
      · exact .inr ⟨by omega, if_neg hr⟩
theorem oH (l : List GDesc) (d : GDesc) (self : UInt8) (room : Int) : l.length ≤ (bB l d self room).1.length := by
 rcases afM l d self room with ⟨_, h⟩ | ⟨_, ⟨i, o, _, _, _, ⟨_, h⟩ | ⟨_, h⟩⟩ | ⟨_, ⟨_, h⟩ | ⟨_, h⟩⟩⟩ <;> rw [h]
 ·exact Nat.le_refl _
 ·simp
 ·exact Nat.le_refl _
 ·exact Nat.le_refl _
 ·rw [ig]; omega
def Nd (l : List GDesc) (node : UInt8) : Prop := ∃ o ∈ l, o.node = node
theorem af5 {node : UInt8} : Nd l node ↔ bX l node ≠ none := by
 constructor
 ·rintro ⟨o, ho, hn⟩ h
  exact fY h o ho hn
 ·intro h
  cases hi : bX l node with
  | none => exact absurd hi h
  | some i => obtain ⟨o, ho, hn⟩ := cD hi; exact ⟨o, List.mem_of_getElem? ho, hn⟩
end
end Go.Eng

namespace Go.Eng
section
variable {l : List GDesc} {self : UInt8} {d e : GDesc} {room : Int}
theorem lD : ∀ (r l : List GDesc) (x : GDesc), x ∈ cZ self room l r → x ∈ l ∨ x ∈ r := by
 intro r
 induction r with
 | nil => intro l x h; exact .inl h
 | cons y r ih =>
  intro l x h
  rcases ih _ x h with h | h
  ·rcases Go.Proofs.YtlaefellhnkfbaaGreat.put_mem x h with h | h
   ·exact .inl h
   ·exact .inr (by rw [h]; exact List.mem_cons_self)
  ·exact .inr (List.mem_cons_of_mem _ h)
end
end Go.Eng
