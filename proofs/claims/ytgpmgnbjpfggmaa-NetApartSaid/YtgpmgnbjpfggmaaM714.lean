/-
  Part 14 of the proof of M7: the engine and the walks, in their order.
-/
import Derived.Test.YtgpmgnbjpfggmaaM711
set_option linter.unusedSimpArgs false
set_option linter.unusedVariables false
/-
  Maps as lists: what is got, set, deleted.
-/
set_option linter.unusedSimpArgs false
set_option linter.unusedVariables false
set_option linter.unusedSectionVars false
namespace Go.Eng
theorem erase_perm {α : Type} : ∀ {l : List α} {i : Nat} (h : i < l.length), (l[i] :: l.eraseIdx i).Perm l
  | a :: r, 0, _ => by simp
  | a :: r, i + 1, h => by
    have hi : i < r.length := by simpa using h
    have := erase_perm hi
    simp only [List.getElem_cons_succ, List.eraseIdx_cons_succ]
    exact (List.Perm.swap _ _ _).trans (this.cons a)

section
variable {κ : Type} [DecidableEq κ] {es : List (κ × Value)} {k : κ} {v : Value}

theorem MapIs.nodup {u : World} {kv : κ → Value} {r : Nat} (h : MapIs u kv r es) : (es.map (·.1)).Nodup := by
  obtain ⟨ts, ⟨_, h3, _⟩, rfl⟩ := h
  simpa [Function.comp_def] using h3

theorem mAt_none (h : ∀ e ∈ es, e.1 ≠ k) : mAt es k = none := by
  unfold mAt
  rw [List.findIdx?_eq_none_iff]
  intro e he
  simpa using fun e' => h e he e'.symm

theorem mAt_some (hn : (es.map (·.1)).Nodup) {i : Nat} (h : es[i]? = some (k, v)) : mAt es k = some i := by
  unfold mAt
  obtain ⟨hlt, hi⟩ := List.getElem?_eq_some_iff.1 h
  rw [List.findIdx?_eq_some_iff_getElem]
  refine ⟨hlt, by simp [hi], fun j hj => ?_⟩
  have := List.pairwise_iff_getElem.1 hn j i (by simp; omega) (by simpa using hlt) hj
  simp only [List.getElem_map, hi] at this
  simp
  exact fun e => this e.symm

theorem mGet_mem (hn : (es.map (·.1)).Nodup) (h : (k, v) ∈ es) : mGet es k = some v := by
  obtain ⟨i, hi, he⟩ := List.getElem_of_mem h
  have hi' : es[i]? = some (k, v) := by rw [List.getElem?_eq_getElem hi, he]
  unfold mGet
  rw [mAt_some hn hi']
  simp [hi']

theorem mGet_none (h : ∀ e ∈ es, e.1 ≠ k) : mGet es k = none := by
  unfold mGet
  rw [mAt_none h]
  rfl

theorem mSet_new (h : ∀ e ∈ es, e.1 ≠ k) : mSet es k v = es ++ [(k, v)] := by
  unfold mSet
  rw [mAt_none h]

theorem mDel_none (h : ∀ e ∈ es, e.1 ≠ k) : mDel es k = es := by
  unfold mDel
  rw [mAt_none h]

/-- A map that has the pairs of a list, whatever the order. -/
theorem perm_nodup {L : List (κ × Value)} (h : es.Perm L) (hn : (es.map (·.1)).Nodup) : (L.map (·.1)).Nodup := ((h.map _).nodup_iff).1 hn

theorem mSet_perm {L R : List (κ × Value)} {v0 : Value} (hn : (es.map (·.1)).Nodup) (h : es.Perm (L ++ (k, v0) :: R)) : (mSet es k v).Perm (L ++ (k, v) :: R) := by
  have hm : (k, v0) ∈ es := h.mem_iff.2 (by simp)
  obtain ⟨i, hi, he⟩ := List.getElem_of_mem hm
  have hi' : es[i]? = some (k, v0) := by rw [List.getElem?_eq_getElem hi, he]
  have hs : mSet es k v = es.set i (k, v) := by unfold mSet; rw [mAt_some hn hi']
  rw [hs]
  have h1 : es.Perm ((k, v0) :: es.eraseIdx i) := by
    have := erase_perm hi
    rw [he] at this
    exact this.symm
  have h2 : (es.eraseIdx i).Perm (L ++ R) := by
    have := h1.symm.trans (h.trans List.perm_middle)
    exact this.cons_inv
  have h3 : (es.set i (k, v)).Perm ((k, v) :: es.eraseIdx i) := by
    have hl : i < (es.set i (k, v)).length := by simpa using hi
    have := erase_perm hl
    simp only [List.getElem_set_self, List.eraseIdx_set_eq] at this
    exact this.symm
  exact h3.trans ((h2.cons _).trans List.perm_middle.symm)

theorem mDel_perm {L R : List (κ × Value)} {v0 : Value} (hn : (es.map (·.1)).Nodup) (h : es.Perm (L ++ (k, v0) :: R)) : (mDel es k).Perm (L ++ R) := by
  have hm : (k, v0) ∈ es := h.mem_iff.2 (by simp)
  obtain ⟨i, hi, he⟩ := List.getElem_of_mem hm
  have hi' : es[i]? = some (k, v0) := by rw [List.getElem?_eq_getElem hi, he]
  have hs : mDel es k = es.eraseIdx i := by unfold mDel; rw [mAt_some hn hi']
  rw [hs]
  have h1 : es.Perm ((k, v0) :: es.eraseIdx i) := by
    have := erase_perm hi
    rw [he] at this
    exact this.symm
  have := h1.symm.trans (h.trans List.perm_middle)
  exact this.cons_inv

theorem mGet_perm {L : List (κ × Value)} (hn : (es.map (·.1)).Nodup) (h : es.Perm L) (hm : (k, v) ∈ L) : mGet es k = some v := mGet_mem hn (h.mem_iff.2 hm)
theorem mGet_perm_none {L : List (κ × Value)} (h : es.Perm L) (hm : ∀ e ∈ L, e.1 ≠ k) : mGet es k = none := mGet_none fun e he => hm e (h.mem_iff.1 he)

end
end Go.Eng

/-
  Maps whose keys are plain: numbers, strings.
-/
set_option linter.unusedSimpArgs false
set_option linter.unusedVariables false
namespace Go.Eng
theorem findNow_run {κ : Type} [DecidableEq κ] {kv : κ → Value} {td : TypeDesc} (hs : ∀ x y, Instr.sameNow td (kv x) (kv y) = some (decide (x = y))) (k : κ) :
    ∀ (ents : List MapEntry) (ks : List κ) (j : Nat), ents.map (·.key) = ks.map kv →
      Instr.findNow td (kv k) ents j = some ((ks.findIdx? fun y => decide (k = y)).bind fun i => (ents[i]?).map fun e => (j + i, e.val)) := by
  intro ents
  induction ents with
  | nil =>
    intro ks j h
    cases ks with
    | nil => simp [Instr.findNow]
    | cons a b => simp at h
  | cons e r ih =>
    intro ks j h
    cases ks with
    | nil => simp at h
    | cons a b =>
      simp only [List.map_cons, List.cons.injEq] at h
      obtain ⟨h1, h2⟩ := h
      simp only [Instr.findNow, h1, hs]
      by_cases hk : k = a
      · simp [hk, List.findIdx?_cons]
      · simp only [hk, decide_false, ih b (j + 1) h2, List.findIdx?_cons]
        congr 1
        cases hf : b.findIdx? fun y => decide (k = y) with
        | none => simp
        | some i => simp [Nat.add_assoc, Nat.add_comm 1 i]
theorem keyT_now {P : Program} {K : TypeId} {κ : Type} [DecidableEq κ] {kv : κ → Value} {td : TypeDesc} (hu : P.underlying K = some td) (hs : ∀ x y, Instr.sameNow td (kv x) (kv y) = some (decide (x = y)))
    (hc : ∀ b x w, (Instr.checkKey b 10000 K (kv x)).run P w = .ok () w) (hb : ∀ x, Instr.sameBits 10000 (kv x) (kv x) = true) : KeyT P K kv := by
  refine ⟨hc, hb, fun k ents ks h w => ?_⟩
  simp only [Instr.findKey, Sem.run_bind, run_underlying hu, Result.andThen_ok, findNow_run hs k ents ks 0 h, Nat.zero_add, Sem.run_pure]
def kv8 (x : UInt8) : Value := .int .u8 x.toNat
theorem u8_now (x y : UInt8) : Instr.sameNow (.int .u8) (kv8 x) (kv8 y) = some (decide (x = y)) := by
  simp only [kv8, Instr.sameNow, if_true]
  congr 1
  rw [Bool.eq_iff_iff]
  simp only [beq_iff_eq, decide_eq_true_eq]
  rw [← UInt8.toNat_inj]
  omega
theorem keyT_u8 {P : Program} {K : TypeId} (hu : P.underlying K = some (.int .u8)) : KeyT P K kv8 := by
  refine keyT_now hu u8_now (fun b x w => ?_) (fun x => ?_)
  · rw [show (10000 : Nat) = 9999 + 1 from rfl, Instr.checkKey]
    simp only [Sem.run_bind, run_underlying hu, Result.andThen_ok, kv8, Sem.run_pure]
  · rw [show (10000 : Nat) = 9999 + 1 from rfl]
    simp only [Instr.sameBits, kv8, beq_self_eq_true, Bool.and_self, decide_true]
theorem min_int3 {P : Program} {tys : Array TypeId} {ty : TypeId} {k : IntKind} {a b c : Int} {Kv : Value → Prop} : AtPure P (bMin tys ty #[.int k a, .int k b, .int k c]) Kv = Kv (.int k (min (min a b) c)) :=
  atPure_of fun w => by
    have h1 : (if c < (if b < a then b else a) then c else (if b < a then b else a)) = min (min a b) c := by omega
    simp [bMin, Builtin.min_, Builtin.min2, ← h1]
end Go.Eng
