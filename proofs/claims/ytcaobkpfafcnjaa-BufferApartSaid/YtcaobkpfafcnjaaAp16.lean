/-
  Part 16 of the proof of Ap: the engine and the walks, in their order.
-/
import Derived.Test.YtcaobkpfafcnjaaAp11
set_option linter.unusedSimpArgs false
set_option linter.unusedVariables false
/-
  Lists of ids: who is there, and do they rise.
-/
set_option linter.unusedSimpArgs false
set_option linter.unusedVariables false
namespace Go.Eng

def iHas (l : List GID) (x : GID) : Bool := l.any fun a => decide (a = x)
def iAt (l : List GID) (x : GID) : Nat := (l.findIdx? fun a => x.less a).getD l.length
def iIns (l : List GID) (x : GID) : List GID := l.take (iAt l x) ++ [x] ++ l.drop (iAt l x)
def iPut (l : List GID) (x : GID) : List GID := if iHas l x = true then l else iIns l x
def iMade (l : List GID) : List GID := l.foldl iPut []
def iRising : List GID → Bool
  | x :: y :: r => x.less y && iRising (y :: r)
  | _ => true

theorem iRising_iff (l : List GID) : iRising l = true ↔ ∀ i, ∀ x y, l[i]? = some x → l[i + 1]? = some y → x.less y = true := by
  match l with
  | [] => simp [iRising]
  | [a] => simp [iRising]
  | a :: b :: r =>
    have ih := iRising_iff (b :: r)
    simp only [iRising, Bool.and_eq_true, ih]
    constructor
    · rintro ⟨h0, h1⟩ i x y hx hy
      cases i with
      | zero => simp at hx hy; subst hx; subst hy; exact h0
      | succ i => exact h1 i x y (by simpa using hx) (by simpa using hy)
    · intro h
      exact ⟨h 0 a b rfl rfl, fun i x y hx hy => h (i + 1) x y (by simpa using hx) (by simpa using hy)⟩

theorem iRising_take {l : List GID} {k : Nat} (h : iRising l = true) : iRising (l.take k) = true := by
  rw [iRising_iff] at h ⊢
  intro i x y hx hy
  rw [List.getElem?_take] at hx hy
  split at hy
  · rw [if_pos (by omega)] at hx
    exact h i x y hx hy
  · cases hy

theorem iRising_step {l : List GID} {k : Nat} {x y : GID} (hx : l[k - 1]? = some x) (hy : l[k]? = some y) (hk : 1 ≤ k) : iRising (l.take (k + 1)) = (iRising (l.take k) && x.less y) := by
  rw [Bool.eq_iff_iff, Bool.and_eq_true, iRising_iff, iRising_iff]
  constructor
  · intro h
    refine ⟨fun i a b ha hb => h i a b ?_ ?_, h (k - 1) x y ?_ ?_⟩
    · rw [List.getElem?_take] at ha hb ⊢
      split at hb
      · rw [if_pos (by omega)] at ha ⊢; exact ha
      · cases hb
    · rw [List.getElem?_take] at hb ⊢
      split at hb
      · rw [if_pos (by omega)]; exact hb
      · cases hb
    · rw [List.getElem?_take, if_pos (by omega)]; exact hx
    · rw [List.getElem?_take, if_pos (by omega), show k - 1 + 1 = k by omega]; exact hy
  · rintro ⟨h, h1⟩ i a b ha hb
    rw [List.getElem?_take] at ha hb
    split at hb
    · rw [if_pos (by omega)] at ha
      by_cases e : i + 1 = k
      · subst e
        simp at hx
        rw [hx] at ha
        rw [hy] at hb
        cases ha; cases hb
        exact h1
      · exact h i a b (by rw [List.getElem?_take, if_pos (by omega)]; exact ha) (by rw [List.getElem?_take, if_pos (by omega)]; exact hb)
    · cases hb

theorem iAt_le (l : List GID) (x : GID) : iAt l x ≤ l.length := by
  unfold iAt
  cases h : l.findIdx? fun a => x.less a with
  | none => simp
  | some i =>
    obtain ⟨hi, _⟩ := List.findIdx?_eq_some_iff_getElem.1 h
    simp; omega

theorem iPut_len (l : List GID) (x : GID) : (iPut l x).length ≤ l.length + 1 := by
  have := iAt_le l x
  unfold iPut iIns
  split
  · omega
  · simp; omega

theorem foldl_iPut_len (l a : List GID) : (l.foldl iPut a).length ≤ a.length + l.length := by
  induction l generalizing a with
  | nil => simp
  | cons x r ih =>
    have := ih (iPut a x)
    have := iPut_len a x
    simp; omega

end Go.Eng
