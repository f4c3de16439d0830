/-
  Part 21 of the proof of Ap: the engine and the walks, in their order.
-/
import Derived.Test.YtcaobkpfafcnjaaAp17
set_option linter.unusedSimpArgs false
set_option linter.unusedVariables false
/-
  Buffers as lists: what is put, and evicted.
-/
set_option linter.unusedSimpArgs false
set_option linter.unusedVariables false
namespace Go.Eng
theorem bHas_iff {l : List GEv} {x : GID} : bHas l x = true ↔ ∃ e ∈ l, e.id = x := by
  unfold bHas bOf bIdx
  constructor
  · intro h
    obtain ⟨i, hi⟩ := Option.isSome_iff_exists.1 h
    obtain ⟨hlt, h1, _⟩ := List.findIdx?_eq_some_iff_getElem.1 hi
    exact ⟨l[i], List.getElem_mem hlt, by simpa using h1⟩
  · rintro ⟨e, he, rfl⟩
    cases hi : l.findIdx? (fun a => decide (a.id = e.id)) with
    | some i => rfl
    | none =>
      have := (List.findIdx?_eq_none_iff.1 hi) e he
      simp at this
theorem bHas_false {l : List GEv} {x : GID} (h : ∀ e ∈ l, e.id ≠ x) : bHas l x = false := by
  cases hb : bHas l x with
  | false => rfl
  | true => obtain ⟨e, he, h1⟩ := bHas_iff.1 hb; exact absurd h1 (h e he)
theorem bHas_not {l : List GEv} {x : GID} (h : bHas l x = false) : ∀ e ∈ l, e.id ≠ x := fun e he h1 => by
  rw [bHas_iff.2 ⟨e, he, h1⟩] at h; cases h
theorem bErr_ok {l : List GEv} {room : Int} {x : GID} (h : bErr l room x = 0) : bHas l x = false ∧ (l.length : Int) < room := by
  unfold bErr at h
  split at h
  · omega
  · rename_i h1
    split at h
    · omega
    · exact ⟨by simpa using h1, by omega⟩
theorem bPut_ok {l : List GEv} {room : Int} {e : GEv} (h : bErr l room e.id = 0) : bPut l room e = kIns evKey l e := by unfold bPut; rw [if_pos h]
theorem bPut_err {l : List GEv} {room : Int} {e : GEv} (h : bErr l room e.id ≠ 0) : bPut l room e = l := by unfold bPut; rw [if_neg h]
theorem up_put {l : List GEv} {room : Int} {e : GEv} (hu : Up evKey l) : Up evKey (bPut l room e) := by
  by_cases h : bErr l room e.id = 0
  · rw [bPut_ok h]
    exact up_kIns hu (fun a ha hk => bHas_not (bErr_ok h).1 a ha (GID.key_inj hk))
  · rw [bPut_err h]; exact hu
theorem kIns_len' {α : Type} {key : α → Nat} (l : List α) (x : α) : (kIns key l x).length = l.length + 1 := by
  have := (kIns_perm (key := key) l x).length_eq
  simpa using this
theorem bPut_len {l : List GEv} {room : Int} {e : GEv} (h : (l.length : Int) ≤ room) : ((bPut l room e).length : Int) ≤ room := by
  by_cases h1 : bErr l room e.id = 0
  · rw [bPut_ok h1, kIns_len']
    have := (bErr_ok h1).2
    omega
  · rw [bPut_err h1]; exact h
theorem bPut_mem {l : List GEv} {room : Int} {e x : GEv} (h : x ∈ bPut l room e) : x = e ∨ x ∈ l := by
  by_cases h1 : bErr l room e.id = 0
  · rw [bPut_ok h1] at h; exact mem_kIns.1 h
  · rw [bPut_err h1] at h; exact .inr h
theorem up_wo {l : List GEv} {o : Option Nat} (hu : Up evKey l) : Up evKey (bWo l o) := by
  cases o with
  | none => exact hu
  | some i => exact hu.sublist (List.eraseIdx_sublist l i)
/-- What is taken out is there no more. -/
theorem wo_gone {l : List GEv} {i : Nat} {e : GEv} (hu : Up evKey l) (he : l[i]? = some e) : ∀ a ∈ bWo l (some i), a.id ≠ e.id := by
  intro a ha h
  obtain ⟨hi, rfl⟩ := List.getElem?_eq_some_iff.1 he
  obtain ⟨j, hj, hji, rfl⟩ := List.mem_eraseIdx_iff_getElem.1 ha
  have : evKey l[j] = evKey l[i] := by unfold evKey; rw [h]
  rcases Nat.lt_or_gt_of_ne hji with h1 | h1
  · have := List.pairwise_iff_getElem.1 hu j i hj hi h1; omega
  · have := List.pairwise_iff_getElem.1 hu i j hi hj h1; omega

/-- One that is evicted: the first of those that may be. -/
theorem evict_step (q : GID → Bool) : ∀ {L : List GEv} {x : GID} {r : List GID}, (bIds L).filter q = x :: r →
    ∃ i e, bIdx L q = some i ∧ L[i]? = some e ∧ e.id = x ∧ (bIds (L.eraseIdx i)).filter q = r ∧ (bIds (L.eraseIdx i)).filter (fun y => !q y) = (bIds L).filter (fun y => !q y) := by
  intro L
  induction L with
  | nil => intro x r h; simp [bIds] at h
  | cons a L ih =>
    intro x r h
    unfold bIdx
    rw [List.findIdx?_cons]
    simp only [bIds, List.map_cons] at h ⊢
    by_cases hq : q a.id = true
    · rw [List.filter_cons_of_pos hq] at h
      injection h with h1 h2
      refine ⟨0, a, by rw [if_pos hq], rfl, h1, by simpa using h2, ?_⟩
      rw [List.filter_cons_of_neg (by simp [hq])]
      simp
    · rw [List.filter_cons_of_neg hq] at h
      obtain ⟨i, e, h1, h2, h3, h4, h5⟩ := ih h
      unfold bIdx at h1
      refine ⟨i + 1, e, by rw [if_neg hq, h1]; rfl, by simpa using h2, h3, ?_, ?_⟩
      · simp only [List.eraseIdx_cons_succ, List.map_cons]
        rw [List.filter_cons_of_neg hq]
        exact h4
      · simp only [List.eraseIdx_cons_succ, List.map_cons]
        rw [List.filter_cons_of_pos (by simp [hq]), List.filter_cons_of_pos (by simp [hq])]
        simp only [bIds] at h5
        rw [h5]
theorem evict_none {q : GID → Bool} {L : List GEv} (h : (bIds L).filter q = []) : bIdx L q = none ∧ (bIds L).filter (fun y => !q y) = bIds L := by
  have h1 : ∀ x ∈ bIds L, q x = false := fun x hx => by
    have := List.filter_eq_nil_iff.1 h x hx
    simpa using this
  refine ⟨?_, List.filter_eq_self.2 (fun x hx => by simp [h1 x hx])⟩
  unfold bIdx
  rw [List.findIdx?_eq_none_iff]
  intro e he
  exact h1 e.id (List.mem_map_of_mem he)
end Go.Eng
