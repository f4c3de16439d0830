/-
  Pull: many ticks; asks against a map of what is left.
-/
import Derived.Test.YthjgnpelmigbeaaDs
import Derived.Test.YthjgnpelmigbeaaDm
set_option linter.unusedSimpArgs false
set_option linter.unusedVariables false
namespace Go.Eng

def GAsk.dec (a : GAsk) (t : Nat) : GAsk := ⟨a.id, a.frm, UInt8.ofNat (a.left.toNat - t)⟩
def tickN (A : List GAsk) (t : Nat) : List GAsk := (A.filter fun a => decide (t < a.left.toNat)).map fun a => a.dec t
def goneN (A : List GAsk) (t : Nat) : List GAsk := A.filter fun a => decide (a.left.toNat = t)
/-- What the map says of an ask. -/
def askP (a : GAsk) : GID × Value := (a.id, .int .i64 a.left.toNat)
def toldN (A : List GAsk) (t : Nat) : List (GID × Value) := (A.filter fun a => decide (a.left.toNat ≤ t)).map askP

theorem dec_left {a : GAsk} {t : Nat} : (a.dec t).left.toNat = a.left.toNat - t := by
  have := a.left.toNat_lt
  simp only [GAsk.dec, UInt8.toNat_ofNat']
  omega

theorem left_pos {a : GAsk} (h : a.left ≠ 0) : 0 < a.left.toNat := by
  have : a.left.toNat ≠ 0 := fun e => h (UInt8.toNat_inj.1 e)
  omega

theorem dec_zero {a : GAsk} : a.dec 0 = a := by
  cases a
  simp [GAsk.dec]

theorem less1_dec {a : GAsk} {t : Nat} (h : t < a.left.toNat) : (a.dec t).less1 = a.dec (t + 1) := by
  have h1 : (a.dec t).left - 1 = UInt8.ofNat (a.left.toNat - (t + 1)) := by
    apply UInt8.toNat_inj.1
    have hb := a.left.toNat_lt
    rw [UInt8.toNat_sub_of_le _ _ (by rw [UInt8.le_iff_toNat_le, dec_left]; simp; omega), dec_left, UInt8.toNat_ofNat']
    simp; omega
  show (⟨a.id, a.frm, (a.dec t).left - 1⟩ : GAsk) = _
  rw [h1]; rfl

theorem tickN_zero {A : List GAsk} (h : Good A) : tickN A 0 = A := by
  unfold tickN
  rw [List.filter_eq_self.2 (fun a ha => by simpa using left_pos (h.left a ha))]
  have : (fun a : GAsk => a.dec 0) = id := by funext a; exact dec_zero
  rw [this, List.map_id]

theorem tickN_succ (A : List GAsk) (t : Nat) : pTick (tickN A t) = tickN A (t + 1) := by
  unfold pTick tickN
  rw [List.filter_map, List.map_map, List.filter_filter]
  have hf : (A.filter fun a => (((fun a : GAsk => !decide (a.left.toNat ≤ 1)) ∘ fun a => a.dec t) a && decide (t < a.left.toNat))) = A.filter fun a => decide (t + 1 < a.left.toNat) := by
    apply List.filter_congr
    intro a _
    simp only [Function.comp_apply, dec_left]
    rw [Bool.eq_iff_iff]
    simp
    omega
  rw [hf]
  apply List.map_congr_left
  intro a ha
  have := (List.mem_filter.1 ha).2
  simp at this
  simp only [Function.comp_apply]
  exact less1_dec (by omega)

theorem gone_tickN (A : List GAsk) (t : Nat) : pGone (tickN A t) = (goneN A (t + 1)).map GAsk.id := by
  unfold pGone tickN goneN
  rw [List.filter_map, List.map_map, List.filter_filter]
  have hf : (A.filter fun a => (((fun a : GAsk => decide (a.left.toNat ≤ 1)) ∘ fun a => a.dec t) a && decide (t < a.left.toNat))) = A.filter fun a => decide (a.left.toNat = t + 1) := by
    apply List.filter_congr
    intro a _
    simp only [Function.comp_apply, dec_left]
    rw [Bool.eq_iff_iff]
    simp
    omega
  rw [hf]
  rfl

theorem tickN_end (A : List GAsk) : tickN A 256 = [] := by
  unfold tickN
  rw [List.filter_eq_nil_iff.2 (fun a _ => by have := a.left.toNat_lt; simp; omega)]
  rfl

theorem filter_or_perm {α : Type} {p q : α → Bool} : ∀ (l : List α), (∀ a ∈ l, p a = true → q a = false) → (l.filter p ++ l.filter q).Perm (l.filter fun a => p a || q a)
  | [], _ => by simp
  | a :: l, h => by
    have ih := filter_or_perm l (fun b hb => h b (List.mem_cons_of_mem _ hb))
    have ha := h a List.mem_cons_self
    cases hp : p a with
    | true =>
      have hq := ha hp
      simp [hp, hq, ih]
    | false =>
      cases hq : q a with
      | true => simp [hp, hq]; exact List.perm_middle.trans (ih.cons a)
      | false => simp [hp, hq, ih]

theorem told_succ (A : List GAsk) (t : Nat) : (toldN A t ++ (goneN A (t + 1)).map askP).Perm (toldN A (t + 1)) := by
  unfold toldN goneN
  rw [← List.map_append]
  refine List.Perm.map askP ?_
  refine (filter_or_perm A ?_).trans ?_
  · intro a _ h; simp at h ⊢; omega
  · rw [show (A.filter fun a => decide (a.left.toNat ≤ t) || decide (a.left.toNat = t + 1)) = A.filter fun a => decide (a.left.toNat ≤ t + 1) from List.filter_congr (fun a _ => by rw [Bool.eq_iff_iff]; simp; omega)]

theorem told_zero {A : List GAsk} (h : Good A) : toldN A 0 = [] := by
  unfold toldN
  rw [List.filter_eq_nil_iff.2 (fun a ha => by have := left_pos (h.left a ha); simp; omega)]
  rfl

theorem told_end (A : List GAsk) : toldN A 256 = A.map askP := by
  unfold toldN
  rw [List.filter_eq_self.2 (fun a _ => by have := a.left.toNat_lt; simp; omega)]

/-- Ids of a list that is right are unlike. -/
theorem ids_nodup {A : List GAsk} (h : Good A) : (A.map GAsk.id).Nodup := by
  have := pairwise_id h.up
  exact this.imp (fun h e => by rw [e] at h; omega)

/-- One that runs out was not told. -/
theorem told_new {A : List GAsk} (h : Good A) {t j : Nat} {x : GAsk} (hx : (goneN A (t + 1))[j]? = some x) : ∀ e ∈ toldN A t ++ ((goneN A (t + 1)).take j).map askP, e.1 ≠ x.id := by
  intro e he hid
  have hxm := List.mem_of_getElem? hx
  have hxA : x ∈ A := (List.mem_filter.1 hxm).1
  have hxl : x.left.toNat = t + 1 := by simpa using (List.mem_filter.1 hxm).2
  rcases List.mem_append.1 he with he | he
  · obtain ⟨a, ha, rfl⟩ := List.mem_map.1 he
    have haA := (List.mem_filter.1 ha).1
    have hal : a.left.toNat ≤ t := by simpa using (List.mem_filter.1 ha).2
    have : a = x := up_inj h.up haA hxA (by show a.id.key = x.id.key; rw [show a.id = x.id from hid])
    subst this
    omega
  · obtain ⟨a, ha, rfl⟩ := List.mem_map.1 he
    have hup : Up aKey (goneN A (t + 1)) := h.up.filter _
    obtain ⟨i, hi, rfl⟩ := List.getElem_of_mem ha
    obtain ⟨hj, rfl⟩ := List.getElem?_eq_some_iff.1 hx
    simp only [List.length_take] at hi
    have := List.pairwise_iff_getElem.1 hup i j (by omega) hj (by omega)
    simp only [List.getElem_take] at hid
    have hk : aKey (goneN A (t + 1))[i] = aKey (goneN A (t + 1))[j] := by unfold aKey; rw [show ((goneN A (t + 1))[i]).id = ((goneN A (t + 1))[j]).id from hid]
    omega

end Go.Eng
