/-
  Pull, on lists: more.
-/
import Derived.Test.YthjgnpelmigbeaaDp
set_option linter.unusedSimpArgs false
set_option linter.unusedVariables false
namespace Go.Eng

theorem pAt_eq (l : List GAsk) (x : GAsk) : pAt l x = l.findIdx fun a => x.id.less a.id := by
  unfold pAt
  rw [List.findIdx_eq_getD_findIdx?]

theorem pAt_hit {l : List GAsk} {x y : GAsk} {k : Nat} (hy : l[k]? = some y) (h : x.id.less y.id = true) : pAt l x ≤ k := by
  rw [pAt_eq]
  obtain ⟨hk, rfl⟩ := List.getElem?_eq_some_iff.1 hy
  rcases Nat.lt_or_ge k (l.findIdx fun a => x.id.less a.id) with h1 | h1
  · exact absurd h (by simpa using List.not_of_lt_findIdx h1)
  · exact h1

theorem pAt_miss {l : List GAsk} {x y : GAsk} {k : Nat} (hy : l[k]? = some y) (h : x.id.less y.id = false) : pAt l x ≠ k := by
  rw [pAt_eq]
  obtain ⟨hk, rfl⟩ := List.getElem?_eq_some_iff.1 hy
  intro e
  have h1 : (l.findIdx fun a => x.id.less a.id) < l.length := by omega
  have h2 := List.findIdx_getElem (w := h1)
  have h3 : l[l.findIdx fun a => x.id.less a.id] = l[k] := by congr 1
  rw [h3] at h2
  rw [h2] at h
  cases h

theorem pIns_len (l : List GAsk) (x : GAsk) : (pIns l x).length = l.length + 1 := by
  have := pAt_le l x
  simp [pIns]; omega

theorem pIns_next {l : List GAsk} {x y : GAsk} {k : Nat} (hy : l[k]? = some y) (h : pAt l x ≤ k) : (pIns l x)[k + 1]? = some y := by
  have h0 := pAt_le l x
  unfold pIns
  rw [List.getElem?_append_right (by simp; omega)]
  simp only [List.length_append, List.length_take, List.length_cons, List.length_nil, List.getElem?_drop]
  rw [← hy]
  congr 1
  omega

/-- What the document's loop has behind 'k' asks. -/
def rIns (l : List GAsk) (x : GAsk) (k : Nat) : List GAsk := if pAt l x < k then (pIns l x).take (k + 1) else l.take k

theorem rIns_done {l : List GAsk} {x y : GAsk} {k : Nat} (hy : l[k]? = some y) (h : pAt l x < k) : rIns l x (k + 1) = rIns l x k ++ [y] := by
  unfold rIns
  rw [if_pos h, if_pos (show pAt l x < k + 1 by omega), take_succ (pIns_next hy (by omega))]

theorem rIns_here {l : List GAsk} {x y : GAsk} {k : Nat} (hy : l[k]? = some y) (h : pAt l x = k) : rIns l x (k + 1) = rIns l x k ++ [x] ++ [y] := by
  unfold rIns
  rw [if_pos (show pAt l x < k + 1 by omega), if_neg (show ¬ pAt l x < k by omega), take_succ (pIns_next hy (by omega))]
  congr 1
  have h0 := pAt_le l x
  unfold pIns
  rw [List.take_append_of_le_length (by simp; omega), h, List.take_of_length_le (by simp; omega)]

theorem rIns_wait {l : List GAsk} {x y : GAsk} {k : Nat} (hy : l[k]? = some y) (h : k < pAt l x) : rIns l x (k + 1) = rIns l x k ++ [y] := by
  unfold rIns
  rw [if_neg (by omega), if_neg (by omega), take_succ hy]

theorem rIns_end {l : List GAsk} {x : GAsk} (h : pAt l x < l.length) : rIns l x l.length = pIns l x := by
  unfold rIns
  rw [if_pos h, List.take_of_length_le (by rw [pIns_len]; omega)]

theorem rIns_last {l : List GAsk} {x : GAsk} (h : ¬ pAt l x < l.length) : rIns l x l.length ++ [x] = pIns l x := by
  have h0 := pAt_le l x
  have h1 : pAt l x = l.length := by omega
  unfold rIns pIns
  rw [if_neg h, h1]
  simp

end Go.Eng
