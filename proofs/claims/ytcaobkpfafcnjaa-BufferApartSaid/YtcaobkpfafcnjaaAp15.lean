/-
  Part 15 of the proof of Ap: the engine and the walks, in their order.
-/
import Derived.Test.YtcaobkpfafcnjaaAp5
set_option linter.unusedSimpArgs false
set_option linter.unusedVariables false
/-
  Lists that rise by a key: where one goes, and what stays.
-/
set_option linter.unusedSimpArgs false
set_option linter.unusedVariables false
namespace Go.Eng

section
variable {α : Type} (key : α → Nat)

/-- Rising by the key. -/
abbrev Up (l : List α) : Prop := l.Pairwise fun a b => key a < key b
def kAt (l : List α) (x : α) : Nat := (l.findIdx? fun a => decide (key x < key a)).getD l.length
def kIns (l : List α) (x : α) : List α := l.take (kAt key l x) ++ [x] ++ l.drop (kAt key l x)

variable {key}

theorem kIns_perm (l : List α) (x : α) : (kIns key l x).Perm (x :: l) := by
  unfold kIns
  rw [List.append_assoc, List.singleton_append]
  refine List.perm_middle.trans ?_
  rw [List.take_append_drop]

theorem mem_kIns {l : List α} {x y : α} : y ∈ kIns key l x ↔ y = x ∨ y ∈ l := by
  rw [(kIns_perm l x).mem_iff]; simp

theorem kAt_eq (l : List α) (x : α) : kAt key l x = l.findIdx fun a => decide (key x < key a) := by
  unfold kAt
  rw [List.findIdx_eq_getD_findIdx?]

theorem take_kAt {l : List α} {x a : α} (h : a ∈ l.take (kAt key l x)) : key a ≤ key x := by
  rw [kAt_eq] at h
  obtain ⟨j, hj, rfl⟩ := List.mem_take_iff_getElem.1 h
  have := List.not_of_lt_findIdx (p := fun a => decide (key x < key a)) (xs := l) (i := j) (by omega)
  simp at this
  exact this

theorem drop_kAt {l : List α} {x a : α} (hs : Up key l) (h : a ∈ l.drop (kAt key l x)) : key x < key a := by
  rw [kAt_eq] at h
  obtain ⟨j, hj, rfl⟩ := List.mem_drop_iff_getElem.1 h
  have hlt : (l.findIdx fun a => decide (key x < key a)) < l.length := by omega
  have h1 := List.findIdx_getElem (w := hlt)
  simp at h1
  rcases Nat.eq_zero_or_pos j with rfl | hp
  · simpa using h1
  · have h2 := List.pairwise_iff_getElem.1 hs _ _ hlt hj (by omega)
    simp only [Nat.add_comm] at h2 ⊢
    omega

theorem up_kIns {l : List α} {x : α} (hs : Up key l) (hx : ∀ a ∈ l, key a ≠ key x) : Up key (kIns key l x) := by
  unfold kIns
  have h1 : (l.take (kAt key l x)).Pairwise fun a b => key a < key b := hs.sublist (List.take_sublist _ _)
  have h2 : (l.drop (kAt key l x)).Pairwise fun a b => key a < key b := hs.sublist (List.drop_sublist _ _)
  rw [Up, List.append_assoc, List.pairwise_append]
  refine ⟨h1, ?_, ?_⟩
  · rw [List.singleton_append, List.pairwise_cons]
    exact ⟨fun a ha => drop_kAt hs ha, h2⟩
  · intro a ha b hb
    have h3 := take_kAt ha
    have h4 := hx a (List.mem_of_mem_take ha)
    have h5 : key a < key x := by omega
    rcases List.mem_append.1 hb with hb | hb
    · simp at hb; subst hb; exact h5
    · have := drop_kAt hs hb; omega

/-- Rising lists of the same elements are the same. -/
theorem up_ext {l m : List α} (hl : Up key l) (hm : Up key m) (h : l.Perm m) : l = m :=
  h.eq_of_pairwise (fun a b _ _ h1 h2 => by omega) hl hm

/-- Behind all. -/
theorem kIns_last {l : List α} {x : α} (h : ∀ a ∈ l, key a ≤ key x) : kIns key l x = l ++ [x] := by
  have : l.findIdx? (fun a => decide (key x < key a)) = none := List.findIdx?_eq_none_iff.2 (fun a ha => by simpa using h a ha)
  simp [kIns, kAt, this]

theorem up_inj {l : List α} (hl : Up key l) {a b : α} (ha : a ∈ l) (hb : b ∈ l) (h : key a = key b) : a = b := by
  obtain ⟨i, hi, rfl⟩ := List.getElem_of_mem ha
  obtain ⟨j, hj, rfl⟩ := List.getElem_of_mem hb
  rcases Nat.lt_trichotomy i j with hij | rfl | hij
  · have := List.pairwise_iff_getElem.1 hl i j hi hj hij; omega
  · rfl
  · have := List.pairwise_iff_getElem.1 hl j i hj hi hij; omega

end

end Go.Eng
