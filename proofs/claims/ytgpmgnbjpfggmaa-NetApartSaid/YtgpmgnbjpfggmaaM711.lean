/-
  Part 11 of the proof of M7: the engine and the walks, in their order.
-/
import Derived.Test.YtgpmgnbjpfggmaaM79
set_option linter.unusedSimpArgs false
set_option linter.unusedVariables false
/-
  Engine, part L: maps.
-/
set_option linter.unusedSimpArgs false
set_option linter.unusedVariables false
set_option linter.unusedSectionVars false
namespace Go.Eng

/-- A key type: how keys lie, and what a search finds. -/
structure KeyT (P : Program) (K : TypeId) {κ : Type} [DecidableEq κ] (kv : κ → Value) : Prop where
  chk : ∀ b x w, (Instr.checkKey b 10000 K (kv x)).run P w = .ok () w
  bits : ∀ x, Instr.sameBits 10000 (kv x) (kv x) = true
  find : ∀ (k : κ) (ents : List MapEntry) (ks : List κ), ents.map (·.key) = ks.map kv → ∀ w,
    (Instr.findKey K (kv k) ents).run P w = .ok ((ks.findIdx? fun y => decide (k = y)).bind fun i => (ents[i]?).map fun e => (i, e.val)) w

theorem findAsking_run {P : Program} {K : TypeId} {κ : Type} [DecidableEq κ] {kv : κ → Value} (heq : ∀ x y w, (Op.equal K (kv x) (kv y)).run P w = .ok (decide (x = y)) w) (k : κ) :
    ∀ (ents : List MapEntry) (ks : List κ) (j : Nat), ents.map (·.key) = ks.map kv → ∀ w,
      (Instr.findAsking K (kv k) ents j).run P w = .ok ((ks.findIdx? fun y => decide (k = y)).bind fun i => (ents[i]?).map fun e => (j + i, e.val)) w := by
  intro ents
  induction ents with
  | nil =>
    intro ks j h w
    cases ks with
    | nil => simp [Instr.findAsking]
    | cons a b => simp at h
  | cons e r ih =>
    intro ks j h w
    cases ks with
    | nil => simp at h
    | cons a b =>
      simp only [List.map_cons, List.cons.injEq] at h
      obtain ⟨h1, h2⟩ := h
      simp only [Instr.findAsking, Sem.run_bind, h1, heq, Result.andThen_ok]
      by_cases hk : k = a
      · simp [hk, List.findIdx?_cons]
      · simp only [hk, decide_false, Bool.false_eq_true, if_false, ih b (j + 1) h2 w, List.findIdx?_cons]
        congr 1
        cases hf : b.findIdx? fun y => decide (k = y) with
        | none => simp
        | some i => simp [Nat.add_assoc, Nat.add_comm 1 i]

theorem keyT_struct {P : Program} {K : TypeId} {κ : Type} [DecidableEq κ] {kv : κ → Value} {fs : Array Field} (hu : P.underlying K = some (.struct fs)) (heq : ∀ x y w, (Op.equal K (kv x) (kv y)).run P w = .ok (decide (x = y)) w)
    (hc : ∀ b x w, (Instr.checkKey b 10000 K (kv x)).run P w = .ok () w) (hb : ∀ x, Instr.sameBits 10000 (kv x) (kv x) = true) : KeyT P K kv := by
  refine ⟨hc, hb, fun k ents ks h w => ?_⟩
  simp only [Instr.findKey, Sem.run_bind, run_underlying hu, Result.andThen_ok]
  have hfa := findAsking_run heq k ents ks 0 h w
  simp only [Nat.zero_add] at hfa
  cases ents with
  | nil =>
    cases ks with
    | nil => simp [Instr.findNow]
    | cons a b => simp at h
  | cons e r =>
    have : Instr.findNow (.struct fs) (kv k) (e :: r) 0 = none := by simp [Instr.findNow, Instr.sameNow]
    rw [this]
    exact hfa

/-- An entry of a map. -/
def ent {κ : Type} (kv : κ → Value) (t : κ × Value × Nat) : MapEntry := { key := kv t.1, val := t.2.1, born := t.2.2 }

/-- A map in memory: its keys and elements, in the order in which they came, with their stamps. -/
structure MapT (u : World) {κ : Type} (kv : κ → Value) (r : Nat) (ts : List (κ × Value × Nat)) : Prop where
  at_ : ∃ clock, u.heap[r]? = some (.map (ts.map (ent kv)).toArray clock) ∧ ∀ t ∈ ts, t.2.2 < clock
  keys : (ts.map (·.1)).Nodup
  borns : (ts.map (·.2.2)).Nodup

def MapIs (u : World) {κ : Type} (kv : κ → Value) (r : Nat) (es : List (κ × Value)) : Prop := ∃ ts, MapT u kv r ts ∧ es = ts.map fun t => (t.1, t.2.1)

section
variable {κ : Type} [DecidableEq κ] {kv : κ → Value} {P : Program} {T K E : TypeId} {u0 u : World} {r : Nat} {es : List (κ × Value)}

def mAt (es : List (κ × Value)) (k : κ) : Option Nat := es.findIdx? fun e => decide (k = e.1)
def mGet (es : List (κ × Value)) (k : κ) : Option Value := (mAt es k).bind fun i => (es[i]?).map (·.2)
def mSet (es : List (κ × Value)) (k : κ) (v : Value) : List (κ × Value) :=
  match mAt es k with
  | some i => es.set i (k, v)
  | none => es ++ [(k, v)]
def mDel (es : List (κ × Value)) (k : κ) : List (κ × Value) :=
  match mAt es k with
  | some i => es.eraseIdx i
  | none => es

theorem MapT.mono {u' : World} {ts : List (κ × Value × Nat)} (hs : Sub u u') (h : MapT u kv r ts) : MapT u' kv r ts := by
  obtain ⟨⟨clock, h1, h2⟩, h3, h4⟩ := h
  exact ⟨⟨clock, hs _ _ h1 map_ne_junk, h2⟩, h3, h4⟩
theorem MapIs.mono {u' : World} (hs : Sub u u') (h : MapIs u kv r es) : MapIs u' kv r es := by
  obtain ⟨ts, h, rfl⟩ := h
  exact ⟨ts, h.mono hs, rfl⟩
theorem MapIs.known (h : MapIs u kv r es) : ¬ Fresh u r := by
  obtain ⟨ts, ⟨⟨clock, h1, _⟩, _, _⟩, _⟩ := h
  exact fun hf => map_ne_junk (hf _ h1)

theorem find_run (hk : KeyT P K kv) (k : κ) (ts : List (κ × Value × Nat)) (w : World) :
    (Instr.findKey K (kv k) (ts.map (ent kv))).run P w = .ok ((ts.findIdx? fun t => decide (k = t.1)).bind fun i => (ts[i]?).map fun t => (i, t.2.1)) w := by
  rw [hk.find k (ts.map (ent kv)) (ts.map (·.1)) (by simp [ent, Function.comp_def]) w]
  congr 1
  have : (ts.map (·.1)).findIdx? (fun y => decide (k = y)) = ts.findIdx? fun t => decide (k = t.1) := by
    rw [List.findIdx?_map]; rfl
  rw [this]
  congr 1
  funext i
  simp [ent, Option.map_map, Function.comp_def]

theorem mAt_ts (ts : List (κ × Value × Nat)) (k : κ) : mAt (ts.map fun t => (t.1, t.2.1)) k = ts.findIdx? fun t => decide (k = t.1) := by
  unfold mAt
  rw [List.findIdx?_map]; rfl

theorem mGet_ts (ts : List (κ × Value × Nat)) (k : κ) : mGet (ts.map fun t => (t.1, t.2.1)) k = ((ts.findIdx? fun t => decide (k = t.1)).bind fun i => (ts[i]?).map fun t => (i, t.2.1)).map (·.2) := by
  unfold mGet
  rw [mAt_ts]
  cases ts.findIdx? fun t => decide (k = t.1) with
  | none => rfl
  | some i => simp [Option.map_map, Function.comp_def]

theorem step_obj {u0 u w : World} {r : Nat} {es es' : Array MapEntry} {c c' : Nat} (hu : Sub u w) (hg : u.heap[r]? = some (.map es c)) (hf : Fresh u0 r) :
    Step false u0 u w (learn u r (.map es' c')) { w with heap := w.heap.setIfInBounds r (.map es' c') } := by
  have hgw := hu r _ hg map_ne_junk
  have hlt := lt_of_some hgw
  have hn : ¬ Fresh u r := fun h => map_ne_junk (h _ hg)
  refine ⟨?_, fun b o h => ?_, fun b _ hb hfb => ?_, ⟨by simp, rfl, rfl⟩⟩
  · intro b o h ho
    by_cases hb : b = r
    · subst hb; rw [learn_at] at h; cases h; simp [hlt]
    · simp only [Array.getElem?_setIfInBounds_ne (Ne.symm hb)]; exact hu b o ((learn_ne hb ho).1 h) ho
  · by_cases hb : b = r
    · subst hb; exact .inr ⟨rfl, hn, hf⟩
    · exact .inl (by simp only [Array.getElem?_setIfInBounds_ne (Ne.symm hb)]; exact h)
  · by_cases hbg : b = r
    · subst hbg; exact hn hfb
    · exact hb (learn_fresh hbg hfb)

/-- All that 'u' knows but block 'r'. -/
def SubR (r : Nat) (u u' : World) : Prop := ∀ (b : Nat) (o : Obj), b ≠ r → u.heap[b]? = some o → o ≠ junk → u'.heap[b]? = some o

theorem SubR.sub {u' : World} (h0 : Sub u0 u) (h : SubR r u u') (hf : Fresh u0 r) : Sub u0 u' := fun b o hb ho => by
  refine h b o (fun e => ?_) (h0 b o hb ho) ho
  subst e
  exact ho (hf o hb)

theorem SubR.own {u' : World} {e sz : Nat} {p : Option Addr} {n c : Nat} {xs : List (List Value)} (hs : SubR r u u') (hne : ∀ a, p = some a → a.block ≠ r) (h : Own u0 u e sz p n c xs) : Own u0 u' e sz p n c xs :=
  ⟨h.len, h.each, h.at_.imp id fun ⟨g, cur, h1, h2, h3⟩ => ⟨g, cur, h1, hs _ _ (hne _ h1) h2 cells_ne_junk, h3⟩⟩

theorem learn_subR {o : Obj} : SubR r u (learn u r o) := fun b o' hb h hn => (learn_ne hb hn).2 h

theorem map_make {x : Bool} {Ke : Value → World → Prop} (hK : ∀ r u', MapIs u' kv r [] → Sub u u' → Fresh u r → Fresh u0 r → Ke (.map (some r)) u') : AtEff x P (iMap T none) u0 u Ke := by
  intro w hu h0
  exact ⟨.map (some w.heap.size), { w with heap := w.heap.push (.map #[] 0) }, _, by simp [iMap, Instr.makeMap], step_new hu rfl, hK _ _ ⟨[], ⟨⟨0, learn_at _ _ _, by simp⟩, by simp, by simp⟩, rfl⟩ (learn_sub (fresh_of_ge hu (Nat.le_refl _))) (fresh_of_ge hu (Nat.le_refl _)) (fresh_of_ge h0 (Nat.le_refl _))⟩

theorem map_len {ty : TypeId} (hT : P.underlying T = some (.map K E)) (h : MapIs u kv r es) {Kv : Value → Prop} (hK : Kv (.int .i64 es.length)) : AtRead P (bLen #[T] ty #[.map (some r)]) u Kv := by
  obtain ⟨ts, ⟨⟨clock, h1, h2⟩, _, _⟩, rfl⟩ := h
  refine ⟨_, fun w hu => ?_, hK⟩
  have hw := hu _ _ h1 map_ne_junk
  simp [bLen, Builtin.len_, run_underlying hT, goInt, getObj, Sem.run, hw]

theorem map_get (hk : KeyT P K kv) (hT : P.underlying T = some (.map K E)) (h : MapIs u kv r es) {z : Value} (hz : ∀ w, (zeroValue E).run P w = .ok z w) {k : κ} {Kv : Value → Prop}
    (hK : Kv ((mGet es k).getD z)) : AtRead P (iLook T (.map (some r)) (kv k) false) u Kv := by
  obtain ⟨ts, ⟨⟨clock, h1, h2⟩, _, _⟩, rfl⟩ := h
  refine ⟨_, fun w hu => ?_, hK⟩
  have hw := hu _ _ h1 map_ne_junk
  have hf := find_run hk k ts w
  rw [mGet_ts]
  simp only [iLook, Instr.lookup, Sem.run_bind, run_underlying hT, Result.andThen_ok, getObj, Sem.run, hw, Sem.run_pure, hk.chk, List.toList_toArray, hf]
  generalize (ts.findIdx? fun t => decide (k = t.1)).bind (fun i => (ts[i]?).map fun t => (i, t.2.1)) = q
  cases q with
  | none => simp [hz]
  | some q => simp

theorem map_get_ok (hk : KeyT P K kv) (hT : P.underlying T = some (.map K E)) (h : MapIs u kv r es) {z : Value} (hz : ∀ w, (zeroValue E).run P w = .ok z w) {k : κ} {Kv : Value → Prop}
    (hK : Kv (.tuple #[(mGet es k).getD z, .bool (mGet es k).isSome])) : AtRead P (iLook T (.map (some r)) (kv k) true) u Kv := by
  obtain ⟨ts, ⟨⟨clock, h1, h2⟩, _, _⟩, rfl⟩ := h
  refine ⟨_, fun w hu => ?_, hK⟩
  have hw := hu _ _ h1 map_ne_junk
  have hf := find_run hk k ts w
  rw [mGet_ts]
  simp only [iLook, Instr.lookup, Sem.run_bind, run_underlying hT, Result.andThen_ok, getObj, Sem.run, hw, Sem.run_pure, hk.chk, List.toList_toArray, hf]
  generalize (ts.findIdx? fun t => decide (k = t.1)).bind (fun i => (ts[i]?).map fun t => (i, t.2.1)) = q
  cases q with
  | none => simp [hz]
  | some q => simp

theorem map_set_id {α β : Type} {l : List α} {i : Nat} {x y : α} {f : α → β} (hx : l[i]? = some x) (h : f y = f x) : (l.set i y).map f = l.map f := by
  rw [List.map_set, h]
  apply List.ext_getElem?
  intro j
  rw [List.getElem?_set]
  split
  · rename_i e
    subst e
    split
    · simp [hx]
    · rename_i hn; simp at hn; simp [List.getElem?_eq_none hn]
  · rfl

theorem eraseIdx_map_ {α β : Type} (f : α → β) : ∀ (l : List α) (i : Nat), (l.map f).eraseIdx i = (l.eraseIdx i).map f
  | [], _ => rfl
  | _ :: _, 0 => rfl
  | a :: r, i + 1 => by simp [List.eraseIdx, eraseIdx_map_ f r i]

theorem modify_set {α : Type} (l : List α) (i : Nat) (x : α) (f : α → α) (hx : l[i]? = some x) : l.modify i f = l.set i (f x) := by
  apply List.ext_getElem?
  intro j
  rw [List.getElem?_modify, List.getElem?_set]
  split
  · rename_i e
    subst e
    have hlt : i < l.length := by rcases Nat.lt_or_ge i l.length with h | h; exact h; simp [List.getElem?_eq_none h] at hx
    have hxx : l[i] = x := by simpa [hlt] using hx
    simp [hlt, hxx]
  · simp

/-- One entry is another one. -/
theorem MapT.set_ {ts : List (κ × Value × Nat)} {i : Nat} {k : κ} {v0 v : Value} {b clock : Nat} (hi : ts[i]? = some (k, v0, b)) (hkeys : (ts.map (·.1)).Nodup) (hborns : (ts.map (·.2.2)).Nodup) (hlt : ∀ t ∈ ts, t.2.2 < clock) {u' : World}
    (h : u'.heap[r]? = some (.map ((ts.set i (k, v, b)).map (ent kv)).toArray clock)) : MapT u' kv r (ts.set i (k, v, b)) := by
  refine ⟨⟨clock, h, fun t ht => ?_⟩, ?_, ?_⟩
  · rcases List.mem_or_eq_of_mem_set ht with ht | rfl
    · exact hlt t ht
    · have h5 : (k, v0, b).2.2 < clock := hlt _ (List.mem_of_getElem? hi)
      exact h5
  · rw [map_set_id hi]; exact hkeys; rfl
  · rw [map_set_id hi]; exact hborns; rfl

theorem MapT.snoc_ {ts : List (κ × Value × Nat)} {k : κ} {v : Value} {clock : Nat} (hno : ts.findIdx? (fun t => decide (k = t.1)) = none) (hkeys : (ts.map (·.1)).Nodup) (hborns : (ts.map (·.2.2)).Nodup) (hlt : ∀ t ∈ ts, t.2.2 < clock) {u' : World}
    (h : u'.heap[r]? = some (.map ((ts ++ [(k, v, clock)]).map (ent kv)).toArray (clock + 1))) : MapT u' kv r (ts ++ [(k, v, clock)]) := by
  have hno' : ∀ t ∈ ts, ¬ k = t.1 := fun t ht => by simpa using List.findIdx?_eq_none_iff.1 hno t ht
  refine ⟨⟨clock + 1, h, fun t ht => ?_⟩, ?_, ?_⟩
  · rcases List.mem_append.1 ht with ht | ht
    · have := hlt t ht; omega
    · simp at ht; subst ht; simp
  · rw [List.map_append, List.nodup_append]
    refine ⟨hkeys, by simp, ?_⟩
    intro a ha b hb e
    simp at hb
    subst hb
    obtain ⟨x, hx, rfl⟩ := List.mem_map.1 ha
    exact hno' x hx e.symm
  · rw [List.map_append, List.nodup_append]
    refine ⟨hborns, by simp, ?_⟩
    intro a ha b hb e
    simp at hb
    subst hb
    obtain ⟨x, hx, rfl⟩ := List.mem_map.1 ha
    have := hlt x hx
    omega

theorem found {ts : List (κ × Value × Nat)} {k : κ} {i : Nat} (h : ts.findIdx? (fun t => decide (k = t.1)) = some i) : ∃ v b, ts[i]? = some (k, v, b) := by
  obtain ⟨hi, hki, _⟩ := List.findIdx?_eq_some_iff_getElem.1 h
  simp at hki
  refine ⟨ts[i].2.1, ts[i].2.2, ?_⟩
  rw [List.getElem?_eq_getElem hi, hki]

theorem map_set (hk : KeyT P K kv) (hT : P.underlying T = some (.map K E)) (h : MapIs u kv r es) (hf0 : Fresh u0 r) {k : κ} {v : Value} {Kw : World → Prop}
    (hK : ∀ u', MapIs u' kv r (mSet es k v) → SubR r u u' → Kw u') : AtDo false P (iUpd T (.map (some r)) (kv k) v) u0 u Kw := by
  obtain ⟨ts, ⟨⟨clock, h1, h2⟩, h3, h4⟩, rfl⟩ := h
  intro w hu h0
  have hw := hu _ _ h1 map_ne_junk
  have hf := find_run hk k ts w
  cases hfi : ts.findIdx? fun t => decide (k = t.1) with
  | none =>
    rw [hfi] at hf
    refine ⟨_, _, ?_, step_obj (es' := (ts.map (ent kv)).toArray.push { key := kv k, val := v, born := clock }) (c' := clock + 1) hu h1 hf0, hK _ ⟨ts ++ [(k, v, clock)], MapT.snoc_ hfi h3 h4 h2 ?_, ?_⟩ learn_subR⟩
    · simp [iUpd, Instr.mapUpdate, run_underlying hT, getObj, Sem.run, hw, hk.chk, hf, setObj]
    · rw [learn_at]; simp [ent]
    · simp [mSet, mAt_ts, hfi]
  | some i =>
    rw [hfi] at hf
    obtain ⟨v0, b0, hi⟩ := found hfi
    have hie : i < ts.length := by rcases Nat.lt_or_ge i ts.length with h | h; exact h; simp [List.getElem?_eq_none h] at hi
    refine ⟨_, _, ?_, step_obj (es' := ((ts.set i (k, v, b0)).map (ent kv)).toArray) (c' := clock) hu h1 hf0, hK _ ⟨ts.set i (k, v, b0), MapT.set_ hi h3 h4 h2 (learn_at _ _ _), ?_⟩ learn_subR⟩
    · simp [iUpd, Instr.mapUpdate, run_underlying hT, getObj, Sem.run, hw, hk.chk, hf, hi, setObj, Instr.keyThatStays, ent, hk.bits]
      rw [modify_set _ _ (ent kv (k, v0, b0)) _ (by simp [hi])]
      rfl
    · simp [mSet, mAt_ts, hfi, List.map_set]

/-- An entry that is at hand: its stamp, its element. -/
def MapE (u : World) (kv : κ → Value) (r : Nat) (es : List (κ × Value)) (k : κ) (v : Value) (b : Nat) : Prop := ∃ (ts : List (κ × Value × Nat)) (i : Nat), MapT u kv r ts ∧ es = (ts.map fun t => (t.1, t.2.1)) ∧ ts[i]? = some (k, v, b)

theorem MapE.is {k : κ} {v : Value} {b : Nat} (h : MapE u kv r es k v b) : MapIs u kv r es := by
  obtain ⟨ts, i, h1, h2, _⟩ := h
  exact ⟨ts, h1, h2⟩
theorem MapE.mono {u' : World} {k : κ} {v : Value} {b : Nat} (hs : Sub u u') (h : MapE u kv r es k v b) : MapE u' kv r es k v b := by
  obtain ⟨ts, i, h1, h2⟩ := h
  exact ⟨ts, i, h1.mono hs, h2⟩

/-- 'm[k] op= ..': the entry, made if it is not there. -/
theorem map_entry (hk : KeyT P K kv) (hT : P.underlying T = some (.map K E)) (h : MapIs u kv r es) (hf0 : Fresh u0 r) {z : Value} (hz : ∀ w, (zeroValue E).run P w = .ok z w) {k : κ} {Ke : Value → World → Prop}
    (hK : ∀ b u', MapE u' kv r (mSet es k ((mGet es k).getD z)) k ((mGet es k).getD z) b → SubR r u u' → Ke (.tuple #[(mGet es k).getD z, .int .i64 (b : Nat)]) u') : AtEff false P (iEnt T (.map (some r)) (kv k)) u0 u Ke := by
  obtain ⟨ts, ⟨⟨clock, h1, h2⟩, h3, h4⟩, rfl⟩ := h
  intro w hu h0
  have hw := hu _ _ h1 map_ne_junk
  have hf := find_run hk k ts w
  have hg := mGet_ts ts k
  cases hfi : ts.findIdx? fun t => decide (k = t.1) with
  | none =>
    rw [hfi] at hf hg
    simp only [Option.bind_none, Option.map_none] at hg
    have hK' := hK clock
    rw [hg] at hK'
    refine ⟨_, _, _, ?_, step_obj (es' := (ts.map (ent kv)).toArray.push { key := kv k, val := z, born := clock }) (c' := clock + 1) hu h1 hf0, hK' _ ⟨ts ++ [(k, z, clock)], ts.length, MapT.snoc_ hfi h3 h4 h2 ?_, ?_, by simp⟩ learn_subR⟩
    · simp [iEnt, Instr.mapEntry, run_underlying hT, getObj, Sem.run, hw, hk.chk, hf, setObj, hz, goInt]
    · rw [learn_at]; simp [ent]
    · simp [mSet, mAt_ts, hfi]
  | some i =>
    rw [hfi] at hf hg
    obtain ⟨v0, b0, hi⟩ := found hfi
    have hie : i < ts.length := by rcases Nat.lt_or_ge i ts.length with h | h; exact h; simp [List.getElem?_eq_none h] at hi
    simp only [Option.bind_some, hi, Option.map_some] at hg
    have hK' := hK b0
    rw [hg] at hK'
    refine ⟨_, _, _, ?_, step_obj (es' := ((ts.set i (k, v0, b0)).map (ent kv)).toArray) (c' := clock) hu h1 hf0, hK' _ ⟨ts.set i (k, v0, b0), i, MapT.set_ hi h3 h4 h2 (learn_at _ _ _), ?_, by simp [hie]⟩ learn_subR⟩
    · simp [iEnt, Instr.mapEntry, run_underlying hT, getObj, Sem.run, hw, hk.chk, hf, hi, setObj, Instr.keyThatStays, ent, hk.bits, goInt]
      rw [modify_set _ _ (ent kv (k, v0, b0)) _ (by simp [hi])]
      rfl
    · simp [mSet, mAt_ts, hfi, List.map_set]

/-- The entry that is there: nothing is changed. -/
theorem map_entry_there {x : Bool} (hk : KeyT P K kv) (hT : P.underlying T = some (.map K E)) (h : MapIs u kv r es) {k : κ} {v : Value} (hg : mGet es k = some v) {Ke : Value → World → Prop}
    (hK : ∀ b, MapE u kv r es k v b → Ke (.tuple #[v, .int .i64 (b : Nat)]) u) : AtEff x P (iEnt T (.map (some r)) (kv k)) u0 u Ke := by
  obtain ⟨ts, ⟨⟨clock, h1, h2⟩, h3, h4⟩, rfl⟩ := h
  intro w hu h0
  have hw := hu _ _ h1 map_ne_junk
  have hf := find_run hk k ts w
  rw [mGet_ts] at hg
  cases hfi : ts.findIdx? fun t => decide (k = t.1) with
  | none => rw [hfi] at hg; cases hg
  | some i =>
    rw [hfi] at hf hg
    obtain ⟨v0, b0, hi⟩ := found hfi
    simp only [Option.bind_some, hi, Option.map_some, Option.some.injEq] at hg
    subst hg
    have hie : i < ts.length := by rcases Nat.lt_or_ge i ts.length with h | h; exact h; simp [List.getElem?_eq_none h] at hi
    have hsame : ts.set i (k, v0, b0) = ts := by
      apply List.ext_getElem?
      intro j
      rw [List.getElem?_set]
      split
      · rename_i e; subst e; exact hi.symm
      · rfl
    have hobj : w.heap.setIfInBounds r (.map (ts.map (ent kv)).toArray clock) = w.heap := by
      apply Array.ext_getElem?
      intro j
      rw [Array.getElem?_setIfInBounds]
      split
      · rename_i e; subst e; rw [hw]; simp [lt_of_some hw]
      · rfl
    refine ⟨_, w, u, ?_, ⟨hu, fun b o h => .inl h, fun b _ h => h, ⟨Nat.le_refl _, rfl, rfl⟩⟩, hK b0 ⟨ts, i, ⟨⟨clock, h1, h2⟩, h3, h4⟩, rfl, hi⟩⟩
    simp [iEnt, Instr.mapEntry, run_underlying hT, getObj, Sem.run, hw, hk.chk, hf, hi, setObj, Instr.keyThatStays, ent, hk.bits, goInt]
    rw [modify_set _ _ (ent kv (k, v0, b0)) _ (by simp [hi])]
    have : (ts.map (ent kv)).set i (ent kv (k, v0, b0)) = ts.map (ent kv) := by rw [← List.map_set, hsame]
    have h9 : (ts.map (ent kv)).set i { key := kv k, val := (ent kv (k, v0, b0)).val, born := (ent kv (k, v0, b0)).born } = ts.map (ent kv) := this
    rw [h9]
    exact congrArg (fun h => ({ w with heap := h } : World)) hobj

theorem findBorn {ts : List (κ × Value × Nat)} (hb : (ts.map (·.2.2)).Nodup) {i : Nat} {k : κ} {v : Value} {b : Nat} (hi : ts[i]? = some (k, v, b)) :
    (ts.map (ent kv)).findIdx? (fun e => ((e.born : Nat) : Int) == (b : Int)) = some i := by
  obtain ⟨hlt, hi'⟩ := List.getElem?_eq_some_iff.1 hi
  rw [List.findIdx?_eq_some_iff_getElem]
  refine ⟨by simpa using hlt, by simp [ent, hi'], fun j hj => ?_⟩
  have hjl : j < ts.length := by omega
  have := List.pairwise_iff_getElem.1 hb j i (by simpa using hjl) (by simpa using hlt) hj
  simp only [List.getElem_map, hi'] at this
  simp [ent]
  omega

theorem entry_store {k : κ} {v0 v : Value} {b : Nat} (h : MapE u kv r es k v0 b) (hf0 : Fresh u0 r) {Kw : World → Prop} (hK : ∀ u', MapIs u' kv r (mSet es k v) → SubR r u u' → Kw u') :
    AtDo false P (iEnts T (.map (some r)) (.int .i64 (b : Nat)) v) u0 u Kw := by
  obtain ⟨ts, i, ⟨⟨clock, h1, h2⟩, h3, h4⟩, rfl, hi⟩ := h
  intro w hu h0
  have hw := hu _ _ h1 map_ne_junk
  have hie : i < ts.length := by rcases Nat.lt_or_ge i ts.length with h | h; exact h; simp [List.getElem?_eq_none h] at hi
  have hfb := findBorn (kv := kv) h4 hi
  have hat : ts.findIdx? (fun t => decide (k = t.1)) = some i := by
    obtain ⟨hlt, hi'⟩ := List.getElem?_eq_some_iff.1 hi
    rw [List.findIdx?_eq_some_iff_getElem]
    refine ⟨hlt, by simp [hi'], fun j hj => ?_⟩
    have := List.pairwise_iff_getElem.1 h3 j i (by simp; omega) (by simpa using hlt) hj
    simp only [List.getElem_map, hi'] at this
    simp
    exact fun e => this e.symm
  refine ⟨_, _, ?_, step_obj (es' := ((ts.set i (k, v, b)).map (ent kv)).toArray) (c' := clock) hu h1 hf0, hK _ ⟨ts.set i (k, v, b), MapT.set_ hi h3 h4 h2 (learn_at _ _ _), ?_⟩ learn_subR⟩
  · simp [iEnts, Instr.entryStore, getObj, Sem.run, hw, setObj, asInt, asIntOf, hfb]
    rw [modify_set _ _ (ent kv (k, v0, b)) _ (by simp [hi])]
    rfl
  · simp [mSet, mAt_ts, hat, List.map_set]

theorem map_del {T2 ty : TypeId} (hk : KeyT P K kv) (hT : P.underlying T = some (.map K E)) (h : MapIs u kv r es) (hf0 : Fresh u0 r) {k : κ} {Ke : Value → World → Prop}
    (hK : ∀ u', MapIs u' kv r (mDel es k) → SubR r u u' → Ke (.tuple #[]) u') : AtEff false P (bDel #[T, T2] ty #[.map (some r), kv k]) u0 u Ke := by
  obtain ⟨ts, ⟨⟨clock, h1, h2⟩, h3, h4⟩, rfl⟩ := h
  intro w hu h0
  have hw := hu _ _ h1 map_ne_junk
  have hf := find_run hk k ts w
  cases hfi : ts.findIdx? fun t => decide (k = t.1) with
  | none =>
    rw [hfi] at hf
    refine ⟨_, _, _, ?_, step_obj (es' := (ts.map (ent kv)).toArray) (c' := clock) hu h1 hf0, hK _ ⟨ts, ⟨⟨clock, learn_at _ _ _, h2⟩, h3, h4⟩, by simp [mDel, mAt_ts, hfi]⟩ learn_subR⟩
    simp [bDel, Builtin.delete_, run_underlying hT, getObj, Sem.run, hw, hk.chk, hf, setObj]
  | some i =>
    rw [hfi] at hf
    obtain ⟨v0, b0, hi⟩ := found hfi
    have hie : i < ts.length := by rcases Nat.lt_or_ge i ts.length with h | h; exact h; simp [List.getElem?_eq_none h] at hi
    refine ⟨_, _, _, ?_, step_obj (es' := ((ts.eraseIdx i).map (ent kv)).toArray) (c' := clock) hu h1 hf0, hK _ ⟨ts.eraseIdx i, ⟨⟨clock, learn_at _ _ _, fun t ht => h2 t (List.mem_of_mem_eraseIdx ht)⟩, ?_, ?_⟩, ?_⟩ learn_subR⟩
    · simp [bDel, Builtin.delete_, run_underlying hT, getObj, Sem.run, hw, hk.chk, hf, hi, setObj, hie, eraseIdx_map_]
    · rw [← eraseIdx_map_]; exact h3.sublist (List.eraseIdx_sublist _ _)
    · rw [← eraseIdx_map_]; exact h4.sublist (List.eraseIdx_sublist _ _)
    · simp [mDel, mAt_ts, hfi, eraseIdx_map_]

end
end Go.Eng
