/-
  Asks against a map of what is left: one is added, dropped; a tick.
-/
import Derived.Test.YthjgnpelmigbeaaDt
import Derived.Test.YthjgnpelmigbeaaPq
set_option linter.unusedSimpArgs false
set_option linter.unusedVariables false
namespace Go.Eng

section
variable {A : List GAsk} {es : List (GID × Value)}

theorem askP_keys : (A.map askP).map (·.1) = A.map GAsk.id := by simp [askP, Function.comp_def]

theorem has_isSome (hn : (es.map (·.1)).Nodup) (hp : es.Perm (A.map askP)) (x : GID) : (mGet es x).isSome = pHas A x := by
  rw [Bool.eq_iff_iff, pHas_iff]
  constructor
  · intro h
    refine Classical.byContradiction fun hno => ?_
    rw [mGet_perm_none hp (fun e he e' => ?_)] at h
    · cases h
    · obtain ⟨a, ha, rfl⟩ := List.mem_map.1 he
      exact hno ⟨a, ha, e'⟩
  · rintro ⟨a, ha, rfl⟩
    rw [mGet_perm hn hp (List.mem_map.2 ⟨a, ha, rfl⟩)]
    rfl

theorem add_perm (hp : es.Perm (A.map askP)) {x : GAsk} {most : Int} (he : pErr A x most = 0) : (mSet es x.id (.int .i64 x.left.toNat)).Perm ((pAdd A x most).map askP) := by
  have h2 : pHas A x.id = false := by
    unfold pErr at he
    split at he
    · cases he
    · split at he
      · cases he
      · rename_i b; simpa using b
  rw [mSet_new (fun e hm e' => ?_), pAdd, if_pos he, pIns_eq]
  · have h3 : ((pFill 0 []) : List GAsk) = [] := rfl
    refine (hp.append_right _).trans ?_
    refine (List.perm_append_singleton _ _).trans ?_
    exact ((kIns_perm A x).map askP).symm
  · obtain ⟨a, ha, rfl⟩ := List.mem_map.1 (hp.mem_iff.1 hm)
    have : pHas A x.id = true := (pHas_iff _ _).2 ⟨a, ha, e'⟩
    rw [h2] at this
    cases this

theorem drop_perm (hn : (es.map (·.1)).Nodup) (hp : es.Perm (A.map askP)) (x : GID) : (mDel es x).Perm ((pDrop A x).map askP) := by
  have hid : (A.map GAsk.id).Nodup := by
    have := perm_nodup hp hn
    rwa [askP_keys] at this
  by_cases h : pHas A x = true
  · obtain ⟨a, ha, rfl⟩ := (pHas_iff _ _).1 h
    obtain ⟨L, R, rfl⟩ := List.append_of_mem ha
    rw [List.map_append, List.map_cons] at hp
    have h1 := mDel_perm (k := a.id) (v0 := .int .i64 a.left.toNat) hn hp
    refine h1.trans ?_
    rw [← List.map_append]
    refine List.Perm.of_eq (congrArg _ ?_)
    rw [List.map_append, List.map_cons, List.nodup_append] at hid
    obtain ⟨_, h5, h6⟩ := hid
    rw [List.nodup_cons] at h5
    unfold pDrop
    rw [List.filter_append, List.filter_cons]
    simp only [decide_true, Bool.not_true, Bool.false_eq_true, if_false]
    rw [List.filter_eq_self.2 (fun b hb => ?_), List.filter_eq_self.2 (fun b hb => ?_)]
    · simp; intro e; exact h5.1 (e ▸ List.mem_map_of_mem hb)
    · simp; intro e; exact h6 b.id (List.mem_map_of_mem hb) a.id List.mem_cons_self e
  · have hno : ∀ a ∈ A, a.id ≠ x := fun a ha e => h ((pHas_iff _ _).2 ⟨a, ha, e⟩)
    rw [mDel_none (fun e he e' => ?_)]
    · have : pDrop A x = A := by
        unfold pDrop
        exact List.filter_eq_self.2 (fun a ha => by simpa using hno a ha)
      rw [this]; exact hp
    · obtain ⟨a, ha, rfl⟩ := List.mem_map.1 (hp.mem_iff.1 he)
      exact hno a ha e'

theorem good_drop (h : Good A) (x : GID) : Good (pDrop A x) := ⟨fun a ha => h.left a (List.mem_filter.1 ha).1, h.up.filter _⟩
theorem drop_len (x : GID) : (pDrop A x).length ≤ A.length := List.length_filter_le _ _

theorem good_tick (h : Good A) : Good (pTick A) := by
  unfold pTick
  refine ⟨fun a ha => ?_, ?_⟩
  · obtain ⟨b, hb, rfl⟩ := List.mem_map.1 ha
    have h2 := (List.mem_filter.1 hb).2
    simp only [GAsk.less1]
    intro e
    have h3 : (b.left - 1).toNat = 0 := by rw [e]; rfl
    simp at h2
    rw [UInt8.toNat_sub_of_le _ _ (by rw [UInt8.le_iff_toNat_le]; simp; omega)] at h3
    simp at h3; omega
  · rw [Up, List.pairwise_map]
    exact h.up.filter _
theorem tick_len : (pTick A).length ≤ A.length := by
  unfold pTick
  rw [List.length_map]
  exact List.length_filter_le _ _

theorem rising_of_up {l : List GID} (h : Up GID.key l) : iRising l = true := by
  rw [iRising_iff]
  intro i x y hx hy
  obtain ⟨hi, rfl⟩ := List.getElem?_eq_some_iff.1 hx
  obtain ⟨hj, rfl⟩ := List.getElem?_eq_some_iff.1 hy
  have := List.pairwise_iff_getElem.1 h i (i + 1) hi hj (by omega)
  simpa [GID.less] using this
theorem rising_gone (h : Good A) : iRising (pGone A) = true := rising_of_up (by
  unfold pGone
  rw [Up, List.pairwise_map]
  exact h.up.filter _)

/-- One ask of a tick. -/
theorem tick_stays {j : Nat} {x : GAsk} (hx : A[j]? = some x) (h : ¬ x.left.toNat ≤ 1) : pTick (A.take (j + 1)) = pTick (A.take j) ++ [x.less1] ∧ pGone (A.take (j + 1)) = pGone (A.take j) := by
  rw [take_succ hx]
  simp [pTick, pGone, h]
theorem tick_goes {j : Nat} {x : GAsk} (hx : A[j]? = some x) (h : x.left.toNat ≤ 1) : pTick (A.take (j + 1)) = pTick (A.take j) ∧ pGone (A.take (j + 1)) = pGone (A.take j) ++ [x.id] := by
  rw [take_succ hx]
  simp [pTick, pGone, h]

theorem split_at {j : Nat} {x : GAsk} (hx : A[j]? = some x) : A.drop j = x :: A.drop (j + 1) := by
  obtain ⟨hj, rfl⟩ := List.getElem?_eq_some_iff.1 hx
  exact (List.getElem_cons_drop hj).symm

theorem less1_left {x : GAsk} (h : 1 ≤ x.left.toNat) : (x.less1).left.toNat = x.left.toNat - 1 := by
  show (x.left - 1).toNat = _
  rw [UInt8.toNat_sub_of_le _ _ (by rw [UInt8.le_iff_toNat_le]; simp; omega)]; rfl

theorem gone_has {x : GAsk} (hx : x ∈ A) (h : x.left.toNat ≤ 1) : iHas (pGone A) x.id = true := by
  simp only [iHas, List.any_eq_true, decide_eq_true_eq]
  exact ⟨x.id, List.mem_map.2 ⟨x, List.mem_filter.2 ⟨hx, by simpa using h⟩, rfl⟩, rfl⟩
end
end Go.Eng
