/-
  Maps as lists: what is got, set, deleted.
-/
import Derived.Test.YtcaobkpfafcnjaaEl
set_option linter.unusedSimpArgs false
set_option linter.unusedVariables false
set_option linter.unusedSectionVars false
namespace Go.Eng
theorem erase_perm {α : Type} : ∀ {l : List α} {i : Nat} (h : i < l.length), (l[i] :: l.eraseIdx i).Perm l
  | a :: r, 0, _ => by simp
  | a :: r, i + 1, h => by
    have hi : i < r.length := by simpa using h
    have := erase_perm hi
    simp only [List.getElem_cons_succ, List.eraseIdx_cons_succ]
    exact (List.Perm.swap _ _ _).trans (this.cons a)

section
variable {κ : Type} [DecidableEq κ] {es : List (κ × Value)} {k : κ} {v : Value}

theorem MapIs.nodup {u : World} {kv : κ → Value} {r : Nat} (h : MapIs u kv r es) : (es.map (·.1)).Nodup := by
  obtain ⟨ts, ⟨_, h3, _⟩, rfl⟩ := h
  simpa [Function.comp_def] using h3

theorem mAt_none (h : ∀ e ∈ es, e.1 ≠ k) : mAt es k = none := by
  unfold mAt
  rw [List.findIdx?_eq_none_iff]
  intro e he
  simpa using fun e' => h e he e'.symm

theorem mAt_some (hn : (es.map (·.1)).Nodup) {i : Nat} (h : es[i]? = some (k, v)) : mAt es k = some i := by
  unfold mAt
  obtain ⟨hlt, hi⟩ := List.getElem?_eq_some_iff.1 h
  rw [List.findIdx?_eq_some_iff_getElem]
  refine ⟨hlt, by simp [hi], fun j hj => ?_⟩
  have := List.pairwise_iff_getElem.1 hn j i (by simp; omega) (by simpa using hlt) hj
  simp only [List.getElem_map, hi] at this
  simp
  exact fun e => this e.symm

theorem mGet_mem (hn : (es.map (·.1)).Nodup) (h : (k, v) ∈ es) : mGet es k = some v := by
  obtain ⟨i, hi, he⟩ := List.getElem_of_mem h
  have hi' : es[i]? = some (k, v) := by rw [List.getElem?_eq_getElem hi, he]
  unfold mGet
  rw [mAt_some hn hi']
  simp [hi']

theorem mGet_none (h : ∀ e ∈ es, e.1 ≠ k) : mGet es k = none := by
  unfold mGet
  rw [mAt_none h]
  rfl

theorem mSet_new (h : ∀ e ∈ es, e.1 ≠ k) : mSet es k v = es ++ [(k, v)] := by
  unfold mSet
  rw [mAt_none h]

theorem mDel_none (h : ∀ e ∈ es, e.1 ≠ k) : mDel es k = es := by
  unfold mDel
  rw [mAt_none h]

/-- A map that has the pairs of a list, whatever the order. -/
theorem perm_nodup {L : List (κ × Value)} (h : es.Perm L) (hn : (es.map (·.1)).Nodup) : (L.map (·.1)).Nodup := ((h.map _).nodup_iff).1 hn

theorem mSet_perm {L R : List (κ × Value)} {v0 : Value} (hn : (es.map (·.1)).Nodup) (h : es.Perm (L ++ (k, v0) :: R)) : (mSet es k v).Perm (L ++ (k, v) :: R) := by
  have hm : (k, v0) ∈ es := h.mem_iff.2 (by simp)
  obtain ⟨i, hi, he⟩ := List.getElem_of_mem hm
  have hi' : es[i]? = some (k, v0) := by rw [List.getElem?_eq_getElem hi, he]
  have hs : mSet es k v = es.set i (k, v) := by unfold mSet; rw [mAt_some hn hi']
  rw [hs]
  have h1 : es.Perm ((k, v0) :: es.eraseIdx i) := by
    have := erase_perm hi
    rw [he] at this
    exact this.symm
  have h2 : (es.eraseIdx i).Perm (L ++ R) := by
    have := h1.symm.trans (h.trans List.perm_middle)
    exact this.cons_inv
  have h3 : (es.set i (k, v)).Perm ((k, v) :: es.eraseIdx i) := by
    have hl : i < (es.set i (k, v)).length := by simpa using hi
    have := erase_perm hl
    simp only [List.getElem_set_self, List.eraseIdx_set_eq] at this
    exact this.symm
  exact h3.trans ((h2.cons _).trans List.perm_middle.symm)

theorem mDel_perm {L R : List (κ × Value)} {v0 : Value} (hn : (es.map (·.1)).Nodup) (h : es.Perm (L ++ (k, v0) :: R)) : (mDel es k).Perm (L ++ R) := by
  have hm : (k, v0) ∈ es := h.mem_iff.2 (by simp)
  obtain ⟨i, hi, he⟩ := List.getElem_of_mem hm
  have hi' : es[i]? = some (k, v0) := by rw [List.getElem?_eq_getElem hi, he]
  have hs : mDel es k = es.eraseIdx i := by unfold mDel; rw [mAt_some hn hi']
  rw [hs]
  have h1 : es.Perm ((k, v0) :: es.eraseIdx i) := by
    have := erase_perm hi
    rw [he] at this
    exact this.symm
  have := h1.symm.trans (h.trans List.perm_middle)
  exact this.cons_inv

theorem mGet_perm {L : List (κ × Value)} (hn : (es.map (·.1)).Nodup) (h : es.Perm L) (hm : (k, v) ∈ L) : mGet es k = some v := mGet_mem hn (h.mem_iff.2 hm)
theorem mGet_perm_none {L : List (κ × Value)} (h : es.Perm L) (hm : ∀ e ∈ L, e.1 ≠ k) : mGet es k = none := mGet_none fun e he => hm e (h.mem_iff.1 he)

end
end Go.Eng
