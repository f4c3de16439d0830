/-
  Part 30 of the proof of Pl: the engine and the walks, in their order.
-/
import Derived.Test.YtlaefellhnkfbaaGreatPl22
set_option linter.unusedSimpArgs false
set_option linter.unusedVariables false
set_option maxRecDepth 10000
namespace Go.Eng
section
variable {L : List GDesc} {node : UInt8} {k : Nat}
theorem all_succ {P : GDesc → Prop} {x : GDesc} (hF : ∀ i d, i < k → L[i]? = some d → P d) (hx : L[k]? = some x) (hp : P x) : ∀ i d, i < k + 1 → L[i]? = some d → P d := fun i d hi hd => by
  by_cases h : i = k
  · subst h; rw [hx] at hd; cases hd; exact hp
  · exact hF i d (by omega) hd
theorem idx_mk {x : GDesc} (hx : L[k]? = some x) (hn : x.node = node) (hF : ∀ i d, i < k → L[i]? = some d → d.node ≠ node) : dIdx L node = some k := by
  obtain ⟨hk, rfl⟩ := List.getElem?_eq_some_iff.1 hx
  unfold dIdx
  rw [List.findIdx?_eq_some_iff_getElem]
  exact ⟨hk, by simpa using hn, fun j hj => by simpa using hF j _ hj (List.getElem?_eq_getElem (by omega))⟩
theorem idx_mkn (hF : ∀ i d, i < k → L[i]? = some d → d.node ≠ node) (hk : L.length ≤ k) : dIdx L node = none := by
  unfold dIdx
  rw [List.findIdx?_eq_none_iff]
  intro d hd
  obtain ⟨i, hi, rfl⟩ := List.getElem_of_mem hd
  simpa using hF i _ (by omega) (List.getElem?_eq_getElem hi)
end
end Go.Eng
namespace Go.Proofs.YtlaefellhnkfbaaGreat
open Go.Eng
attribute [local go_sem] GSpan.val GSpan.enc PD.val PD.enc
def BackL (u' : World) (r : Value) (L : List GDesc) : Prop := ∃ p n c l, r = .slice p n c ∧ DL u' p n c l ∧ ds l = L
end Go.Proofs.YtlaefellhnkfbaaGreat
