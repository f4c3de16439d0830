/-
  Buffers as lists: the order in which events are put does not matter; what is put and removed.
-/
import Derived.Test.YtcaobkpfafcnjaaBg
set_option linter.unusedSimpArgs false
set_option linter.unusedVariables false
namespace Go.Eng
theorem rem_put {l : List GEv} {room : Int} {e : GEv} (h : bErr l room e.id = 0) : bOf (kIns evKey l e) e.id = some (kAt evKey l e) ∧ bWo (kIns evKey l e) (some (kAt evKey l e)) = l := by
  have hn := bHas_not (bErr_ok h).1
  have hle : kAt evKey l e ≤ l.length := by rw [kAt_eq]; exact List.findIdx_le_length
  generalize hk : kAt evKey l e = k at hle
  have hlt : (l.take k).length = k := by simp; omega
  have hK : kIns evKey l e = l.take k ++ e :: l.drop k := by unfold kIns; rw [hk]; simp
  rw [hK]
  constructor
  · unfold bOf bIdx
    refine findIdx_at (x := e) ?_ (by simp) ?_
    · rw [List.getElem?_append_right (by omega), hlt, Nat.sub_self]; rfl
    · intro y hy
      rw [List.take_left' hlt] at hy
      simpa using hn y (List.mem_of_mem_take hy)
  · simp only [bWo]
    rw [List.eraseIdx_append_of_length_le (by omega), hlt, Nat.sub_self]
    simp
theorem put_perm {l : List GEv} {room : Int} {e : GEv} (h : bErr l room e.id = 0) : (bPut l room e).Perm (e :: l) := by rw [bPut_ok h]; exact kIns_perm l e
theorem perm_ids {l m : List GEv} (h : l.Perm m) {x : GID} : bHas l x = bHas m x := by
  rw [Bool.eq_iff_iff, bHas_iff, bHas_iff]
  constructor
  · rintro ⟨e, he, h1⟩; exact ⟨e, h.mem_iff.1 he, h1⟩
  · rintro ⟨e, he, h1⟩; exact ⟨e, h.mem_iff.2 he, h1⟩
theorem ids_has {l : List GEv} {x : GID} : iHas (bIds l) x = bHas l x := by
  rw [Bool.eq_iff_iff, bHas_iff]
  unfold iHas bIds
  simp
end Go.Eng
