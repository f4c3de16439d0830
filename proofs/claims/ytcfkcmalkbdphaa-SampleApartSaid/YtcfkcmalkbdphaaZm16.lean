/-
  Part 16 of the proof of Zm: the engine and the walks, in their order.
-/
import Derived.Test.YtcfkcmalkbdphaaZm9
set_option linter.unusedSimpArgs false
set_option linter.unusedVariables false
/-
  Where a node goes in a view.
-/
set_option linter.unusedSimpArgs false
set_option linter.unusedVariables false
namespace Go.Eng

def dPlace (l : List GDesc) (node : UInt8) : Nat := l.findIdx fun d => decide (node ≤ d.node)
def dThere (l : List GDesc) (node : UInt8) : Bool := (dIdx l node).isSome

section
variable {l : List GDesc} {node : UInt8}

theorem place_le (l : List GDesc) (node : UInt8) : dPlace l node ≤ l.length := List.findIdx_le_length

theorem place_iff (hu : Up dKey l) {h : Nat} {o : GDesc} (ho : l[h]? = some o) : node ≤ o.node ↔ dPlace l node ≤ h := by
  obtain ⟨hh, rfl⟩ := List.getElem?_eq_some_iff.1 ho
  constructor
  · intro hle
    rcases Nat.lt_or_ge h (dPlace l node) with h1 | h1
    · have := List.not_of_lt_findIdx h1
      exact absurd hle (by simpa using this)
    · exact h1
  · intro hle
    have hlt : dPlace l node < l.length := by omega
    have h1 := List.findIdx_getElem (w := hlt)
    simp only [decide_eq_true_eq] at h1
    rw [UInt8.le_iff_toNat_le] at h1 ⊢
    rcases Nat.eq_or_lt_of_le hle with e | h2
    · have : l[List.findIdx (fun d => decide (node ≤ d.node)) l] = l[h] := by congr 1
      rw [this] at h1
      exact h1
    · have := List.pairwise_iff_getElem.1 hu _ _ hlt hh h2
      unfold dKey dPlace at this
      omega

theorem place_some (hu : Up dKey l) {i : Nat} (h : dIdx l node = some i) : dPlace l node = i := by
  obtain ⟨o, ho, hn⟩ := dIdx_some h
  have h1 := (place_iff hu (node := node) ho).1 (by rw [hn]; exact UInt8.le_refl _)
  obtain ⟨hi, rfl⟩ := List.getElem?_eq_some_iff.1 ho
  rcases Nat.eq_or_lt_of_le h1 with e | h2
  · exact e
  · exfalso
    have h3 : l[dPlace l node]? = some l[dPlace l node] := List.getElem?_eq_getElem (by omega)
    have h4 := (place_iff hu (node := node) h3).2 (Nat.le_refl _)
    have h5 := List.pairwise_iff_getElem.1 hu _ _ (by omega) hi h2
    rw [UInt8.le_iff_toNat_le] at h4
    have h6 : node.toNat = l[i].node.toNat := by rw [hn]
    unfold dKey at h5
    omega

theorem place_there (hu : Up dKey l) {o : GDesc} (ho : l[dPlace l node]? = some o) : decide (o.node = node) = dThere l node := by
  unfold dThere
  cases hi : dIdx l node with
  | some i =>
    have := place_some hu hi
    obtain ⟨o', ho', hn⟩ := dIdx_some hi
    rw [this, ho'] at ho
    cases ho
    simp [hn]
  | none =>
    have := dIdx_none hi o (List.mem_of_getElem? ho)
    simp [this]

theorem place_end (hu : Up dKey l) (h : dPlace l node = l.length) : dThere l node = false := by
  unfold dThere
  cases hi : dIdx l node with
  | none => rfl
  | some i =>
    have := place_some hu hi
    obtain ⟨o', ho', hn⟩ := dIdx_some hi
    obtain ⟨hlt, _⟩ := List.getElem?_eq_some_iff.1 ho'
    omega

theorem place_kAt {d : GDesc} (h : dIdx l d.node = none) : kAt dKey l d = dPlace l d.node := by
  rw [kAt_eq]
  unfold dPlace
  have hn := dIdx_none h
  clear h
  induction l with
  | nil => rfl
  | cons a r ih =>
    have h1 := hn a List.mem_cons_self
    have h2 : decide (dKey d < dKey a) = decide (d.node ≤ a.node) := by
      rw [decide_eq_decide, UInt8.le_iff_toNat_le]
      unfold dKey
      have : a.node.toNat ≠ d.node.toNat := fun e => h1 (UInt8.toNat_inj.1 e)
      omega
    rw [List.findIdx_cons, List.findIdx_cons, h2, ih (fun e he => hn e (List.mem_cons_of_mem _ he))]

theorem drop_idx (hu : Up dKey l) {i : Nat} (h : dIdx l node = some i) : dDrop l node = l.take i ++ l.drop (i + 1) := by
  obtain ⟨o, ho, hn⟩ := dIdx_some h
  obtain ⟨hi, rfl⟩ := List.getElem?_eq_some_iff.1 ho
  have hne : ∀ j (hj : j < l.length), j ≠ i → l[j].node ≠ node := by
    intro j hj hji e
    have h1 : dIdx l l[j].node = some j := dIdx_at (self := 0) hu (List.getElem?_eq_getElem hj)
    rw [e, h] at h1
    cases h1
    exact hji rfl
  unfold dDrop
  conv => lhs; rw [← List.take_append_drop i l, List.filter_append]
  rw [List.filter_eq_self.2, ← List.getElem_cons_drop hi, List.filter_cons]
  · simp only [hn, decide_true, Bool.not_true, Bool.false_eq_true, if_false]
    rw [List.filter_eq_self.2]
    intro d hd
    obtain ⟨j, hj, rfl⟩ := List.mem_drop_iff_getElem.1 hd
    have := hne (j + (i + 1)) hj (by omega)
    simp only [Nat.add_comm] at this ⊢
    simpa using this
  · intro d hd
    obtain ⟨j, hj, rfl⟩ := List.mem_take_iff_getElem.1 hd
    simpa using hne j (by omega) (by omega)

theorem drop_none (h : dIdx l node = none) : dDrop l node = l := by
  unfold dDrop
  exact List.filter_eq_self.2 (fun d hd => by simpa using dIdx_none h d hd)
end
end Go.Eng
