/-
  Two descriptors of a node, put in whichever order.
-/
import Derived.Test.YtfdhmmjccnmckaaDh
set_option linter.unusedSimpArgs false
set_option linter.unusedVariables false
namespace Go.Eng
section
variable {l : List GDesc} {self : UInt8} {a b : GDesc} {room : Int}

theorem kAt_node (l : List GDesc) (h : a.node = b.node) : kAt dKey l a = kAt dKey l b := by
  unfold kAt dKey
  rw [h]

theorem idx_ins (hv : Vw self l) (h : dIdx l a.node = none) (h1 : a.node ≠ self) (h2 : a.inc ≠ 0) : dIdx (kIns dKey l a) a.node = some (kAt dKey l a) ∧ (kIns dKey l a)[kAt dKey l a]? = some a := by
  have hle : kAt dKey l a ≤ l.length := by rw [kAt_eq]; exact List.findIdx_le_length
  have hget : (kIns dKey l a)[kAt dKey l a]? = some a := by
    unfold kIns
    rw [List.append_assoc, List.getElem?_append_right (by simp; omega)]
    simp [Nat.min_eq_left hle]
  exact ⟨dIdx_at (self := self) (vw_ins hv (dIdx_none h) h1 h2).2 hget, hget⟩

theorem set_ins (h : a.node = b.node) : (kIns dKey l a).set (kAt dKey l a) b = kIns dKey l b := by
  have hle : kAt dKey l a ≤ l.length := by rw [kAt_eq]; exact List.findIdx_le_length
  unfold kIns
  rw [← kAt_node l h, List.append_assoc, List.append_assoc, List.set_append, if_neg (by simp; omega)]
  simp [Nat.min_eq_left hle]

theorem put_new (h : dIdx l a.node = none) (h1 : a.node ≠ self) (h2 : a.inc ≠ 0) (h3 : (l.length : Int) < room) : dPut l a self room = (kIns dKey l a, true) := by
  unfold dPut
  rw [if_neg (by rintro (e | e); exact h1 e; exact h2 e), h]
  simp only
  rw [if_neg (by omega)]

theorem put_again (hv : Vw self l) (h : dIdx l a.node = none) (hn : a.node = b.node) (h1 : a.node ≠ self) (h2 : a.inc ≠ 0) (h4 : b.inc ≠ 0) : dPut (kIns dKey l a) b self room = if dNewer b a = true then (kIns dKey l b, true) else (kIns dKey l a, false) := by
  obtain ⟨e1, e2⟩ := idx_ins hv h h1 h2
  unfold dPut
  rw [if_neg (by rintro (e | e); exact h1 (hn.trans e); exact h4 e), ← hn, e1]
  simp only [e2, set_ins hn]

theorem newer_irrefl (a : GDesc) : dNewer a a = false := by simp [dNewer, UInt8.lt_irrefl]
theorem newer_total (h : ¬ (a.inc = b.inc ∧ a.age = b.age)) : dNewer b a = !dNewer a b := by
  unfold dNewer
  by_cases e : a.inc = b.inc
  · have h1 : a.age ≠ b.age := fun e2 => h ⟨e, e2⟩
    have h2 : a.age.toNat ≠ b.age.toNat := fun e2 => h1 (UInt8.toNat_inj.1 e2)
    rw [if_pos e.symm, if_pos e, Bool.eq_iff_iff]
    simp [UInt8.lt_iff_toNat_lt, UInt8.le_iff_toNat_le]
    omega
  · have h2 : a.inc.toNat ≠ b.inc.toNat := fun e2 => e (UInt16.toNat_inj.1 e2)
    rw [if_neg (fun e2 => e e2.symm), if_neg e, Bool.eq_iff_iff]
    simp [UInt16.lt_iff_toNat_lt, UInt16.le_iff_toNat_le]
    omega

/-- The newer one of two. -/
def dWin (a b : GDesc) : GDesc := if dNewer b a = true then b else a

theorem two_put (hv : Vw self l) (h : dIdx l a.node = none) (hn : a.node = b.node) (h1 : a.node ≠ self) (h2 : a.inc ≠ 0) (h4 : b.inc ≠ 0) (hd : ¬ (a.inc = b.inc ∧ a.age = b.age)) (h3 : (l.length : Int) < room) :
    (dPut (dPut l a self room).1 b self room).1 = kIns dKey l (dWin a b) ∧ (dPut (dPut l b self room).1 a self room).1 = kIns dKey l (dWin a b) ∧
    dPut (kIns dKey l (dWin a b)) a self room = (kIns dKey l (dWin a b), false) ∧ dPut (kIns dKey l (dWin a b)) b self room = (kIns dKey l (dWin a b), false) ∧
    dIdx (kIns dKey l (dWin a b)) a.node = some (kAt dKey l a) ∧ (kIns dKey l (dWin a b))[kAt dKey l a]? = some (dWin a b) := by
  have hb : dIdx l b.node = none := by rw [← hn]; exact h
  have h1b : b.node ≠ self := by rw [← hn]; exact h1
  have ht := newer_total hd
  have ea := idx_ins hv h h1 h2
  have eb := idx_ins hv hb h1b h4
  rw [← hn, kAt_node l hn.symm] at eb
  rw [put_new h h1 h2 h3, put_new hb h1b h4 h3]
  simp only
  rw [put_again hv h hn h1 h2 h4, put_again hv hb hn.symm h1b h4 h2]
  unfold dWin
  by_cases hba : dNewer b a = true
  · have hab : dNewer a b = false := by rw [hba] at ht; simpa using ht.symm
    rw [if_pos hba, if_pos hba, hab]
    simp only [Bool.false_eq_true, if_false]
    refine ⟨trivial, trivial, ?_, ?_, eb.1, eb.2⟩
    · rw [put_again hv hb hn.symm h1b h4 h2, hab]; simp
    · rw [put_again hv hb rfl h1b h4 h4, newer_irrefl]; simp
  · have hba : dNewer b a = false := by simpa using hba
    have hab : dNewer a b = true := by rw [hba] at ht; simpa using ht.symm
    rw [hba, hab]
    simp only [Bool.false_eq_true, if_false, if_true]
    refine ⟨trivial, trivial, ?_, ?_, ea.1, ea.2⟩
    · rw [put_again hv h rfl h1 h2 h2, newer_irrefl]; simp
    · rw [put_again hv h hn h1 h2 h4, hba]; simp
end
end Go.Eng
