/-
  Lists that rise by a key: where one goes, and what stays.
-/
import Derived.Test.YthjgnpelmigbeaaDq
set_option linter.unusedSimpArgs false
set_option linter.unusedVariables false
namespace Go.Eng

section
variable {α : Type} (key : α → Nat)

/-- Rising by the key. -/
abbrev Up (l : List α) : Prop := l.Pairwise fun a b => key a < key b
def kAt (l : List α) (x : α) : Nat := (l.findIdx? fun a => decide (key x < key a)).getD l.length
def kIns (l : List α) (x : α) : List α := l.take (kAt key l x) ++ [x] ++ l.drop (kAt key l x)

variable {key}

theorem kIns_perm (l : List α) (x : α) : (kIns key l x).Perm (x :: l) := by
  unfold kIns
  rw [List.append_assoc, List.singleton_append]
  refine List.perm_middle.trans ?_
  rw [List.take_append_drop]

theorem mem_kIns {l : List α} {x y : α} : y ∈ kIns key l x ↔ y = x ∨ y ∈ l := by
  rw [(kIns_perm l x).mem_iff]; simp

theorem kAt_eq (l : List α) (x : α) : kAt key l x = l.findIdx fun a => decide (key x < key a) := by
  unfold kAt
  rw [List.findIdx_eq_getD_findIdx?]

theorem take_kAt {l : List α} {x a : α} (h : a ∈ l.take (kAt key l x)) : key a ≤ key x := by
  rw [kAt_eq] at h
  obtain ⟨j, hj, rfl⟩ := List.mem_take_iff_getElem.1 h
  have := List.not_of_lt_findIdx (p := fun a => decide (key x < key a)) (xs := l) (i := j) (by omega)
  simp at this
  exact this

theorem drop_kAt {l : List α} {x a : α} (hs : Up key l) (h : a ∈ l.drop (kAt key l x)) : key x < key a := by
  rw [kAt_eq] at h
  obtain ⟨j, hj, rfl⟩ := List.mem_drop_iff_getElem.1 h
  have hlt : (l.findIdx fun a => decide (key x < key a)) < l.length := by omega
  have h1 := List.findIdx_getElem (w := hlt)
  simp at h1
  rcases Nat.eq_zero_or_pos j with rfl | hp
  · simpa using h1
  · have h2 := List.pairwise_iff_getElem.1 hs _ _ hlt hj (by omega)
    simp only [Nat.add_comm] at h2 ⊢
    omega

theorem up_kIns {l : List α} {x : α} (hs : Up key l) (hx : ∀ a ∈ l, key a ≠ key x) : Up key (kIns key l x) := by
  unfold kIns
  have h1 : (l.take (kAt key l x)).Pairwise fun a b => key a < key b := hs.sublist (List.take_sublist _ _)
  have h2 : (l.drop (kAt key l x)).Pairwise fun a b => key a < key b := hs.sublist (List.drop_sublist _ _)
  rw [Up, List.append_assoc, List.pairwise_append]
  refine ⟨h1, ?_, ?_⟩
  · rw [List.singleton_append, List.pairwise_cons]
    exact ⟨fun a ha => drop_kAt hs ha, h2⟩
  · intro a ha b hb
    have h3 := take_kAt ha
    have h4 := hx a (List.mem_of_mem_take ha)
    have h5 : key a < key x := by omega
    rcases List.mem_append.1 hb with hb | hb
    · simp at hb; subst hb; exact h5
    · have := drop_kAt hs hb; omega

/-- Rising lists of the same elements are the same. -/
theorem up_ext {l m : List α} (hl : Up key l) (hm : Up key m) (h : l.Perm m) : l = m :=
  h.eq_of_pairwise (fun a b _ _ h1 h2 => by omega) hl hm

/-- Behind all. -/
theorem kIns_last {l : List α} {x : α} (h : ∀ a ∈ l, key a ≤ key x) : kIns key l x = l ++ [x] := by
  have : l.findIdx? (fun a => decide (key x < key a)) = none := findIdx_none (fun a ha => by simpa using h a ha)
  simp [kIns, kAt, this]

theorem up_inj {l : List α} (hl : Up key l) {a b : α} (ha : a ∈ l) (hb : b ∈ l) (h : key a = key b) : a = b := by
  obtain ⟨i, hi, rfl⟩ := List.getElem_of_mem ha
  obtain ⟨j, hj, rfl⟩ := List.getElem_of_mem hb
  rcases Nat.lt_trichotomy i j with hij | rfl | hij
  · have := List.pairwise_iff_getElem.1 hl i j hi hj hij; omega
  · rfl
  · have := List.pairwise_iff_getElem.1 hl j i hj hi hij; omega

end

/-! ### Pull -/

abbrev aKey (a : GAsk) : Nat := a.id.key
/-- A list that is right. -/
structure Good (l : List GAsk) : Prop where
  left : ∀ a ∈ l, a.left ≠ 0
  up : Up aKey l

theorem pIns_eq (l : List GAsk) (x : GAsk) : pIns l x = kIns aKey l x := rfl

theorem good_iff (l : List GAsk) : pGood l = true ↔ Good l := by
  simp only [pGood, List.all_eq_true, List.mem_range]
  constructor
  · intro h
    have h1 : ∀ i (hi : i < l.length), l[i].left ≠ 0 := by
      intro i hi
      have := h i hi
      simp only [okAt, List.getElem?_eq_getElem hi, Bool.and_eq_true] at this
      simpa using this.1
    have h2 : ∀ i (hi : i + 1 < l.length), aKey l[i] < aKey l[i + 1] := by
      intro i hi
      have := h (i + 1) hi
      simp only [okAt, List.getElem?_eq_getElem hi, Bool.and_eq_true, Nat.add_sub_cancel, List.getElem?_eq_getElem (show i < l.length by omega)] at this
      simpa [GID.less] using this.2
    refine ⟨fun a ha => ?_, List.pairwise_iff_getElem.2 ?_⟩
    · obtain ⟨i, hi, rfl⟩ := List.getElem_of_mem ha
      exact h1 i hi
    · intro i j hi hj hij
      obtain ⟨d, rfl⟩ : ∃ d, j = i + 1 + d := ⟨j - i - 1, by omega⟩
      induction d with
      | zero => exact h2 i hj
      | succ d ih => exact Nat.lt_trans (ih (by omega) (by omega)) (h2 (i + 1 + d) (by omega))
  · rintro ⟨h1, h2⟩ i hi
    simp only [okAt, List.getElem?_eq_getElem hi, Bool.and_eq_true]
    refine ⟨by simpa using h1 _ (List.getElem_mem hi), ?_⟩
    by_cases h0 : i = 0
    · simp [h0]
    · have h3 : i - 1 < l.length := by omega
      simp only [List.getElem?_eq_getElem h3]
      have := List.pairwise_iff_getElem.1 h2 (i - 1) i h3 hi (by omega)
      simp [h0, GID.less]
      exact this

theorem pHas_iff (l : List GAsk) (x : GID) : pHas l x = true ↔ ∃ a ∈ l, a.id = x := by
  simp [pHas]

theorem good_nil : Good [] := ⟨by simp, by simp⟩

theorem good_add {l : List GAsk} (h : Good l) (x : GAsk) (most : Int) : Good (pAdd l x most) := by
  unfold pAdd
  split
  · rename_i he
    have h1 : x.left ≠ 0 ∧ pHas l x.id = false := by
      unfold pErr at he
      split at he
      · cases he
      · split at he
        · cases he
        · rename_i a b; exact ⟨a, by simpa using b⟩
    rw [pIns_eq]
    refine ⟨fun a ha => ?_, up_kIns h.up fun a ha e => ?_⟩
    · rcases mem_kIns.1 ha with rfl | ha
      · exact h1.1
      · exact h.left a ha
    · have : pHas l x.id = true := (pHas_iff _ _).2 ⟨a, ha, GID.key_inj e⟩
      rw [h1.2] at this
      cases this
  · exact h

/-- Asks added one by one. -/
def pFill (most : Int) (l : List GAsk) : List GAsk := l.foldl (fun a x => pAdd a x most) []

theorem good_foldl (most : Int) (l a : List GAsk) (h : Good a) : Good (l.foldl (fun a x => pAdd a x most) a) := by
  induction l generalizing a with
  | nil => exact h
  | cons x r ih => exact ih _ (good_add h x most)
theorem good_fill (most : Int) (l : List GAsk) : Good (pFill most l) := good_foldl most l [] good_nil

theorem pAdd_len (l : List GAsk) (x : GAsk) (most : Int) : (pAdd l x most).length ≤ l.length + 1 := by
  unfold pAdd
  split
  · rw [pIns_len]; omega
  · omega
theorem foldl_len (most : Int) (l a : List GAsk) : (l.foldl (fun a x => pAdd a x most) a).length ≤ a.length + l.length := by
  induction l generalizing a with
  | nil => simp
  | cons x r ih =>
    have := ih (pAdd a x most)
    have := pAdd_len a x most
    simp; omega
theorem fill_len (most : Int) (l : List GAsk) : (pFill most l).length ≤ l.length := by
  have := foldl_len most l []
  simpa [pFill] using this

theorem fill_snoc (most : Int) (l : List GAsk) (x : GAsk) : pFill most (l ++ [x]) = pAdd (pFill most l) x most := by
  simp [pFill]

theorem pAdd_le {l : List GAsk} {x : GAsk} {most : Int} (h : (l.length : Int) ≤ most) : ((pAdd l x most).length : Int) ≤ most := by
  unfold pAdd
  split
  · rename_i he
    unfold pErr at he
    split at he
    · cases he
    · split at he
      · cases he
      · split at he
        · cases he
        · rw [pIns_len]; omega
  · exact h

theorem right_bad {A : List GAsk} {k : Nat} {x : GAsk} (hk : k < A.length) : pRight (A.set k ⟨x.id, x.frm, 0⟩) 100 = false := by
  cases h : pRight (A.set k ⟨x.id, x.frm, 0⟩) 100 with
  | false => rfl
  | true =>
    simp only [pRight, Bool.and_eq_true] at h
    have hg := (good_iff _).1 h.2
    exact absurd rfl (hg.left ⟨x.id, x.frm, 0⟩ (List.mem_set hk _))

theorem right_twice {A : List GAsk} {k : Nat} {x : GAsk} (hx : A[k]? = some x) : pRight (A.take (k + 1) ++ [x] ++ A.drop (k + 1)) 100 = false := by
  cases h : pRight (A.take (k + 1) ++ [x] ++ A.drop (k + 1)) 100 with
  | false => rfl
  | true =>
    simp only [pRight, Bool.and_eq_true] at h
    have hg := (good_iff _).1 h.2
    have hu := hg.up
    rw [Up, List.append_assoc, List.pairwise_append] at hu
    have hxm : x ∈ A.take (k + 1) := by rw [take_succ hx]; simp
    have := hu.2.2 x hxm x (by simp)
    omega

theorem pairwise_id {A : List GAsk} (h : Up aKey A) : Up GID.key (A.map GAsk.id) := List.pairwise_map.2 h

/-! Asks of unlike ids. -/

def GAsk.more1 (a : GAsk) : GAsk := ⟨a.id, a.frm, a.left + 1⟩

structure Unlike (l : List GAsk) : Prop where
  left : ∀ a ∈ l, a.left ≠ 0
  ids : (l.map GAsk.id).Nodup

theorem unlike_perm {l m : List GAsk} (h : l.Perm m) (hu : Unlike l) : Unlike m :=
  ⟨fun a ha => hu.left a (h.mem_iff.2 ha), ((h.map GAsk.id).nodup_iff).1 hu.ids⟩

theorem err_zero {l : List GAsk} {x : GAsk} {most : Int} (h1 : x.left ≠ 0) (h2 : ∀ a ∈ l, a.id ≠ x.id) (h3 : (l.length : Int) < most) : pErr l x most = 0 := by
  have : pHas l x.id = false := by
    simp only [pHas, List.any_eq_false, decide_eq_true_eq]
    exact h2
  simp [pErr, h1, this, show ¬ most ≤ (l.length : Int) by omega]

theorem fill_step {l : List GAsk} (hu : Unlike l) (hl : l.length ≤ 40) {k : Nat} {x : GAsk} (hx : l[k]? = some x) (hp : (pFill 41 (l.take k)).Perm (l.take k)) :
    pErr (pFill 41 (l.take k)) x 41 = 0 ∧ (pFill 41 (l.take (k + 1))).Perm (l.take (k + 1)) := by
  have hlen := hp.length_eq
  simp only [List.length_take] at hlen
  have he : pErr (pFill 41 (l.take k)) x 41 = 0 := by
    refine err_zero (hu.left x (List.mem_of_getElem? hx)) (fun a ha e => ?_) (by omega)
    have ha' := hp.mem_iff.1 ha
    have hn := hu.ids
    rw [← List.take_append_drop (k + 1) l, take_succ hx, List.map_append, List.nodup_append] at hn
    have h1 := hn.1
    rw [List.map_append, List.nodup_append] at h1
    exact h1.2.2 a.id (List.mem_map_of_mem ha') x.id (by simp) e
  refine ⟨he, ?_⟩
  rw [take_succ hx, fill_snoc, pAdd, if_pos he, pIns_eq]
  refine (kIns_perm _ _).trans ?_
  refine (hp.cons x).trans ?_
  exact (List.perm_append_singleton x _).symm

theorem fill_perm {l : List GAsk} (hu : Unlike l) (hl : l.length ≤ 40) : (pFill 41 l).Perm l := by
  have : ∀ k, k ≤ l.length → (pFill 41 (l.take k)).Perm (l.take k) := by
    intro k
    induction k with
    | zero => intro _; simp [pFill]
    | succ k ih =>
      intro hk
      exact (fill_step hu hl (List.getElem?_eq_getElem (show k < l.length by omega)) (ih (by omega))).2
  have := this l.length (Nat.le_refl _)
  simpa using this

theorem turned_perm (l : List GAsk) (k : Nat) : (l.drop k ++ l.take k).Perm l := by
  have := (List.perm_append_comm (l₁ := l.drop k) (l₂ := l.take k))
  rwa [List.take_append_drop] at this

/-- In whatever order. -/
theorem fill_any {l m : List GAsk} (hu : Unlike l) (hl : l.length ≤ 40) (h : m.Perm l) : pFill 41 m = pFill 41 l := by
  have hm : m.length ≤ 40 := by rw [h.length_eq]; exact hl
  exact up_ext (key := aKey) (good_fill 41 m).up (good_fill 41 l).up ((fill_perm (unlike_perm h.symm hu) hm).trans (h.trans (fill_perm hu hl).symm))

theorem drop_add {l : List GAsk} {x : GAsk} {most : Int} (h : pErr l x most = 0) : pDrop (pAdd l x most) x.id = l := by
  have h2 : pHas l x.id = false := by
    unfold pErr at h
    split at h
    · cases h
    · split at h
      · cases h
      · rename_i b; simpa using b
  have hn : ∀ a ∈ l, (!decide (a.id = x.id)) = true := by
    intro a ha
    simp only [pHas, List.any_eq_false, decide_eq_true_eq] at h2
    simpa using h2 a ha
  rw [pAdd, if_pos h, pDrop, pIns, List.filter_append, List.filter_append]
  rw [List.filter_eq_self.2 (fun a ha => hn a (List.mem_of_mem_take ha)), List.filter_eq_self.2 (fun a ha => hn a (List.mem_of_mem_drop ha))]
  simp

end Go.Eng
