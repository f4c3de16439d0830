/-
  What package pull computes, on lists.
-/
import Derived.Test.YthjgnpelmigbeaaDa
set_option linter.unusedSimpArgs false
set_option linter.unusedVariables false
namespace Go.Eng

def pHas (l : List GAsk) (x : GID) : Bool := l.any fun a => decide (a.id = x)
def pAt (l : List GAsk) (x : GAsk) : Nat := (l.findIdx? fun a => x.id.less a.id).getD l.length
def pIns (l : List GAsk) (x : GAsk) : List GAsk := l.take (pAt l x) ++ [x] ++ l.drop (pAt l x)
def pErr (l : List GAsk) (x : GAsk) (most : Int) : Int :=
  if x.left = 0 then 2 else if pHas l x.id = true then 150 else if most ≤ (l.length : Int) then 52 else 0
def pAdd (l : List GAsk) (x : GAsk) (most : Int) : List GAsk := if pErr l x most = 0 then pIns l x else l
def pDrop (l : List GAsk) (x : GID) : List GAsk := l.filter fun a => !decide (a.id = x)
def GAsk.less1 (a : GAsk) : GAsk := ⟨a.id, a.frm, a.left - 1⟩
def pTick (l : List GAsk) : List GAsk := (l.filter fun a => !decide (a.left.toNat ≤ 1)).map GAsk.less1
def pGone (l : List GAsk) : List GID := (l.filter fun a => decide (a.left.toNat ≤ 1)).map GAsk.id

/-- Is the ask at a place right? -/
def okAt (l : List GAsk) (i : Nat) : Bool :=
  match l[i]? with
  | some x => !decide (x.left = 0) && (decide (i = 0) || match l[i - 1]? with | some y => y.id.less x.id | none => false)
  | none => true
def pGood (l : List GAsk) : Bool := (List.range l.length).all (okAt l)
def pRight (l : List GAsk) (most : Int) : Bool := decide ((l.length : Int) ≤ most) && pGood l

theorem pGood_true {l : List GAsk} (h : ∀ i, i < l.length → okAt l i = true) : pGood l = true := by
  simp only [pGood, List.all_eq_true, List.mem_range]
  exact h
theorem pGood_false {l : List GAsk} {i : Nat} (hi : i < l.length) (h : okAt l i = false) : pGood l = false := by
  simp only [pGood, List.all_eq_false, List.mem_range]
  exact ⟨i, hi, by simp [h]⟩

theorem okAt_prev {l : List GAsk} {k : Nat} {x y : GAsk} (hx : l[k]? = some x) (hy : l[k - 1]? = some y) (h0 : ¬ x.left = 0) (hk : ¬ k = 0) : okAt l k = y.id.less x.id := by
  simp [okAt, hx, hy, h0, hk]

theorem pAt_le (l : List GAsk) (x : GAsk) : pAt l x ≤ l.length := by
  unfold pAt
  cases h : l.findIdx? fun a => x.id.less a.id with
  | none => simp
  | some i =>
    obtain ⟨hi, _⟩ := List.findIdx?_eq_some_iff_getElem.1 h
    simp; omega

end Go.Eng
