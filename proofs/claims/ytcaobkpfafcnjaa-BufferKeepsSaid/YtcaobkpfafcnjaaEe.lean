/-
  Engine, part E: one operation.
-/
import Derived.Test.YtcaobkpfafcnjaaEd
set_option linter.unusedSimpArgs false
set_option linter.unusedVariables false
namespace Go.Eng

/-- What is shown of a floating operation. -/
def FlOk (P : Program) (C : Ctx) (o : Oper) (K : S → World → Prop) (a : Act) (w : World) : Prop :=
  ∃ v s' u', K s' u' ∧ Sim C s' u' (a.put o.dst v) w ∧ (pureOp o.op = true → ∀ w', (execOp a.eval o).run P w' = .ok (.value v) w') ∧
    (∀ w', Ext w w' → (execOp a.eval o).run P w' = .ok (.value v) w')

section
variable {P : Program} {C : Ctx} {s : S} {u : World} {a : Act} {w : World} {K : S → World → Prop}

theorem flOk_pure {o : Oper} {r : Value} {x : SV} (hs : Sim C s u a w) (hd : okDst C.n o.dst = true) (hv : ∀ v', s.val x = some v' → v' = r) (hw : ∀ k off, x = .loc k off → s.find k ≠ none)
    (he : ∀ sv sz i off, x = .elt sv sz i off → eltAddr sv sz i off ≠ none) (hK : K (s.put o.dst x) u) (hr : ∀ w', (execOp a.eval o).run P w' = .ok (.value r) w') : FlOk P C o K a w :=
  ⟨r, _, u, hK, hs.put hd hv hw he, fun _ => hr, fun w' _ => hr w'⟩

theorem flOk_v {o : Oper} {r : Value} (hs : Sim C s u a w) (hd : okDst C.n o.dst = true) (hK : K (s.put o.dst (.v r)) u) (hr : ∀ w', (execOp a.eval o).run P w' = .ok (.value r) w') : FlOk P C o K a w :=
  ⟨r, _, u, hK, hs.put_v hd, fun _ => hr, fun w' _ => hr w'⟩

theorem flOk_read {o : Oper} {r : Value} (hs : Sim C s u a w) (hd : okDst C.n o.dst = true) (hp : pureOp o.op = false) (hK : K (s.put o.dst (.v r)) u)
    (hr : ∀ w', Ext w w' → (execOp a.eval o).run P w' = .ok (.value r) w') : FlOk P C o K a w :=
  ⟨r, _, u, hK, hs.put_v hd, (fun h => by rw [hp] at h; cases h), hr⟩

theorem sv_loc (hs : Sim C s u a w) {y : Operand} {k off : Nat} (h : s.sv y = .loc k off) : s.find k ≠ none := by
  cases y with
  | tmp t => exact hs.wfl t k off h
  | const x => cases h
  | global g => cases h
  | func f => cases h

theorem sv_elt (hs : Sim C s u a w) {y : Operand} {sv : Value} {sz : Nat} {i : Int} {off : Nat} (h : s.sv y = .elt sv sz i off) : eltAddr sv sz i off ≠ none := by
  cases y with
  | tmp t => exact hs.wfe t sv sz i off h
  | const x => cases h
  | global g => cases h
  | func f => cases h

theorem fl_move {o : Oper} {y : Operand} (ho : o.op = .move y ∨ o.op = .assign y) (hs : Sim C s u a w) (hd : okDst C.n o.dst = true) (h : K (s.put o.dst (s.sv y)) u) : FlOk P C o K a w := by
  refine flOk_pure hs hd (r := a.eval y) (fun v' hv => (hs.eval hv).symm) (fun k off hx => sv_loc hs hx) (fun _ _ _ _ hx => sv_elt hs hx) h (fun w' => ?_)
  rcases ho with ho | ho <;> simp [execOp, ho]

theorem fl_field {o : Oper} {T : TypeId} {y : Operand} {f : Nat} (ho : o.op = .fieldAddr T y f) (hs : Sim C s u a w) (hd : okDst C.n o.dst = true) (h : vcField P T f (s.sv y) o.dst K s u) : FlOk P C o K a w := by
  unfold vcField at h
  split at h
  · rename_i e he
    have hrun : ∀ (ad : Addr) w', (Instr.fieldAt T (.pointer (some ad)) f).run P w' = .ok (.pointer (some (ad.add e))) w' := by
      intro ad w'
      unfold foff at he
      split at he
      · rename_i fs hu
        split at he
        · rename_i fd hfd
          split at he
          · rename_i i hi
            split at he
            · cases he
            · rename_i hz
              cases he
              simp [Instr.fieldAt, run_underlying hu, hfd, Instr.sureAddr, fieldPlace, sizeOf, typeInfo, hi, hz]
          · cases he
        · cases he
      · cases he
    split at h
    · rename_i k off hv
      cases hk : s.find k with
      | none => exact (sv_loc hs hv hk).elim
      | some l =>
        have hev : a.eval y = .pointer (some ⟨l.b, off, none⟩) := hs.eval (by rw [hv]; simp [S.val, hk])
        refine flOk_pure hs hd (r := .pointer (some ⟨l.b, off + e, none⟩)) ?_ ?_ (by intro _ _ _ _ hx; cases hx) h ?_
        · intro v' hv'; simp [S.val, hk] at hv'; exact hv'.symm
        · intro k' off' hx; cases hx; rw [hk]; intro h; cases h
        · intro w'
          have := hrun ⟨l.b, off, none⟩ w'
          rw [Addr.add_lit] at this
          simp [execOp, ho, hev, this]
    · rename_i sv sz i off hv
      cases hk : eltAddr sv sz i off with
      | none => exact (sv_elt hs hv hk).elim
      | some ad =>
        have hev : a.eval y = .pointer (some ad) := hs.eval (by rw [hv]; simp [S.val, hk])
        refine flOk_pure hs hd (r := .pointer (some (ad.add e))) ?_ (by intro k off hx; cases hx) ?_ h ?_
        · intro v' hv'
          unfold eltAddr at hk
          split at hk
          · cases hk
            simp [S.val, eltAddr, Addr.add_add] at hv'
            rw [← hv', Addr.add_add, Addr.add_add]
          · cases hk
        · intro sv' sz' i' off' hx hn
          cases hx
          unfold eltAddr at hk hn
          split at hk
          · simp at hn
          · cases hk
        · intro w'
          simp [execOp, ho, hev, hrun ad w']
    · rename_i ad hv
      have hev := hs.eval_v hv
      refine flOk_v hs hd h (fun w' => ?_)
      simp [execOp, ho, hev, hrun ad w']
    · exact h.elim
  · exact h.elim

theorem run_esz {T : TypeId} {sz : Nat} (h : esz P T = some sz) (p : Option Addr) (n c : Nat) (k : IntKind) (i : Int) (ad : Addr) (hp : p = some ad) (h0 : 0 ≤ i) (h1 : i < n) (w : World) :
    (Instr.indexAt T (.slice p n c) (.int k i)).run P w = .ok (.pointer (some (ad.add (i.toNat * sz)))) w := by
  subst hp
  unfold esz at h
  split at h
  · rename_i e hu
    cases hi : P.info? e with
    | none => simp [hi] at h
    | some info =>
      simp [hi] at h
      subst h
      simp [Instr.indexAt, asIntOf, run_underlying hu, h0, h1, sizeOf, typeInfo, hi]
  · cases h

theorem fl_idx {o : Oper} {T : TypeId} {y z : Operand} (ho : o.op = .indexAddr T y z) (hs : Sim C s u a w) (hd : okDst C.n o.dst = true) (h : vcIdx P T (s.sv y) (s.sv z) o.dst K s u) : FlOk P C o K a w := by
  unfold vcIdx at h
  split at h
  · rename_i sz p n c k i hsz hy hz
    obtain ⟨⟨h1, h2, h3⟩, hK⟩ := h
    cases p with
    | none => cases h1
    | some ad =>
      refine flOk_pure hs hd (r := .pointer (some (ad.add (i.toNat * sz)))) ?_ (by intro k off hx; cases hx) (by intro _ _ _ _ hx hn; cases hx; simp [eltAddr] at hn) hK ?_
      · intro v' hv'
        simp [S.val, eltAddr, Addr.add_zero'] at hv'
        exact hv'.symm
      · intro w'
        simp [execOp, ho, hs.eval_v hy, hs.eval_v hz, run_esz hsz (some ad) n c k i ad rfl h2 h3 w']
  · exact h.elim

theorem andThen_assoc {α β γ : Type} (r : Result α) (f : α → World → Result β) (g : β → World → Result γ) : (r.andThen f).andThen g = r.andThen fun a w => (f a w).andThen g := by cases r <;> rfl

theorem fl_byVal {o : Oper} {e : Sem Value} (he : ∀ w', (execOp a.eval o).run P w' = (e.run P w').andThen fun r w'' => .ok (.value r) w'') (hs : Sim C s u a w) (hd : okDst C.n o.dst = true)
    (h : AtPure P e (PutK s o.dst u K)) : FlOk P C o K a w := by
  obtain ⟨r, hr, hK⟩ := h
  exact flOk_v hs hd hK (fun w' => by rw [he, hr w']; rfl)

theorem fl_byRead {o : Oper} {e : Sem Value} (hp : pureOp o.op = false) (he : ∀ w', (execOp a.eval o).run P w' = (e.run P w').andThen fun r w'' => .ok (.value r) w'') (hs : Sim C s u a w) (hd : okDst C.n o.dst = true)
    (h : AtRead P e u (PutK s o.dst u K)) : FlOk P C o K a w := by
  obtain ⟨r, hr, hK⟩ := h
  exact flOk_read hs hd hp hK (fun w' hx => by rw [he, hr w' (hs.sub.trans hx.sub)]; rfl)

theorem toArray_map (l : Array Operand) {vs : List Value} (h : l.toList.map a.eval = vs) : l.map a.eval = vs.toArray := by
  apply Array.ext'; simp [h]

theorem toArray_pmap (l : Array (Nat × Operand)) {vs : List (Nat × Value)} (h : l.toList.map (fun (i, x) => (i, a.eval x)) = vs) : (l.map fun (i, x) => (i, a.eval x)) = vs.toArray := by
  apply Array.ext'; simp [h]

theorem run_builtin {o : Oper} {b : Builtin} {args : Array Operand} {tys : Array TypeId} (ho : o.op = .call { callee := .builtin b, args, argTypes := tys }) {vs : List Value}
    (hv : args.toList.map a.eval = vs) (w' : World) : ∃ consts, (execOp a.eval o).run P w' = (builtin b tys o.type consts vs.toArray).run P w' := by
  simp only [execOp, ho, resolve, Sem.run_bind, Sem.run_pure, Result.andThen_ok, invoke, toArray_map args hv]
  exact ⟨_, rfl⟩

theorem fl_sound {o : Oper} {x : Bool} (hf : floating o.op = true) (hs : Sim C s u a w) (hd : okDst C.n o.dst = true) (h : vcOp P x C.u0 o K s u) : FlOk P C o K a w := by
  unfold vcOp at h
  simp only [bLen, bCap, bMin, bMax, bApp, bCopy, bDel, bClr, iLit, iBuild, iSlice, iStore, iIndex, iLook, iMake, iMap, iUpd, iEnt, iEnts, iUn, iConv] at h
  cases hop : o.op with
  | move y => simp only [hop] at h; exact fl_move (.inl hop) hs hd h
  | assign y => simp only [hop] at h; exact fl_move (.inr hop) hs hd h
  | pick c y z =>
    simp only [hop] at h
    split at h
    · rename_i t hc
      have hev := hs.eval_v hc
      refine flOk_pure hs hd (x := bif t then s.sv y else s.sv z) (r := bif t then a.eval y else a.eval z) ?_ ?_ ?_ h ?_
      · cases t <;> exact fun v' hv => (hs.eval hv).symm
      · cases t <;> exact fun k off hx => sv_loc hs hx
      · cases t <;> exact fun _ _ _ _ hx => sv_elt hs hx
      · intro w'
        cases t <;> simp [execOp, hop, hev, asBool]
    · exact h.elim
  | load T y =>
    simp only [hop] at h
    obtain ⟨v, hK, hr⟩ := vcLoad_sound hs h
    exact flOk_read hs hd (by rw [hop]; rfl) hK (fun w' he => by simp [execOp, hop, hr w' he])
  | nilCheck y =>
    simp only [hop] at h
    split at h
    · rename_i k off hv
      cases hk : s.find k with
      | none => exact (sv_loc hs hv hk).elim
      | some l =>
        have hev : a.eval y = .pointer (some ⟨l.b, off, none⟩) := hs.eval (by rw [hv]; simp [S.val, hk])
        refine flOk_pure hs hd (r := .pointer (some ⟨l.b, off, none⟩)) ?_ ?_ (by intro _ _ _ _ hx; cases hx) h ?_
        · intro v' hv'; simp [S.val, hk] at hv'; exact hv'.symm
        · intro k' off' hx; cases hx; rw [hk]; intro h; cases h
        · intro w'; simp [execOp, hop, hev]
    · rename_i ad hv
      exact flOk_v hs hd h (fun w' => by simp [execOp, hop, hs.eval_v hv])
    · exact h.elim
  | binOp op T y z t2 =>
    simp only [hop] at h
    split at h
    · rename_i va vb hy hz
      exact fl_byVal (fun w' => by simp [execOp, hop, hs.eval_v hy, hs.eval_v hz, binS, andThen_assoc]) hs hd h
    · exact h.elim
  | unOp op T y =>
    simp only [hop] at h
    split at h
    · rename_i va hy
      exact fl_byVal (fun w' => by simp [execOp, hop, hs.eval_v hy]) hs hd h
    · exact h.elim
  | convert src dst y =>
    have hsd : (src == dst) = false := by rw [hop] at hf; simpa [floating] using hf
    simp only [hop, hsd, cond_false] at h
    split at h
    · rename_i va hy
      exact fl_byRead (by rw [hop]; rfl) (fun w' => by simp [execOp, hop, hs.eval_v hy]) hs hd h
    · exact h.elim
  | makeFunc fn first captured =>
    simp only [hop] at h
    obtain ⟨s', u', hK, hs'⟩ := pubs_sound _ s u _ h hs
    unfold FuncK at hK
    have hrun : ∀ w', (execOp a.eval o).run P w' = .ok (.value (.func fn (first.map a.eval) (captured.map a.eval))) w' := fun w' => by simp [execOp, hop, Instr.makeFunc]
    have e1 : (List.take first.size ((first.toList ++ captured.toList).map a.eval)).toArray = first.map a.eval := by
      apply Array.ext'; simp [List.map_append]
    have e2 : (List.drop first.size ((first.toList ++ captured.toList).map a.eval)).toArray = captured.map a.eval := by
      apply Array.ext'; simp [List.map_append]
    rw [e1, e2] at hK
    exact ⟨_, _, u', hK, hs'.put_v hd, fun _ => hrun, fun w' _ => hrun w'⟩
  | build T ps =>
    simp only [hop] at h
    split at h
    · rename_i vs hv
      exact fl_byVal (fun w' => by simp only [execOp, hop, toArray_pmap ps (pvals_eval hs hv)]; simp) hs hd h
    · exact h.elim
  | slice T y lo hi mx =>
    simp only [hop] at h
    split at h
    · rename_i va l hh m hy hlo hhi hmx
      exact fl_byVal (fun w' => by simp [execOp, hop, hs.eval_v hy, oval_eval hs hlo, oval_eval hs hhi, oval_eval hs hmx]) hs hd h
    · exact h.elim
  | fieldAddr T y f => simp only [hop] at h; exact fl_field hop hs hd h
  | field T y f =>
    simp only [hop] at h
    split at h
    · rename_i cs hy
      split at h
      · rename_i off ag n hfv
        obtain ⟨h1, h2, hK⟩ := h
        refine flOk_v hs hd hK (fun w' => ?_)
        unfold fval at hfv
        split at hfv
        · rename_i fs hu
          split at hfv
          · rename_i fd hfd
            cases hl : lay P fd.type with
            | none => simp [hl] at hfv
            | some q =>
              obtain ⟨ag', n'⟩ := q
              simp [hl] at hfv
              obtain ⟨rfl, rfl, rfl⟩ := hfv
              obtain ⟨r1, r2⟩ := run_lay hl w'
              simp only [execOp, hop, hs.eval_v hy, Instr.field, Sem.run_bind, run_underlying hu, Result.andThen_ok, hfd, asAgg, Sem.run_pure, part, r1]
              cases ag' with
              | true =>
                simp only [if_true, Sem.run_bind, r2, Result.andThen_ok, Sem.run_pure, ld, cond_true]
                congr 3
                apply Array.ext'
                simp [List.take_drop, Array.toList_extract]
              | false =>
                have h1' : n' = 1 := by rcases h1 with h | h; exact h; cases h
                subst h1'
                have hlt : fd.offset < cs.size := by have h3 : fd.offset + 1 ≤ cs.toList.length := h2; rw [Array.length_toList] at h3; omega
                simp only [Bool.false_eq_true, if_false, Array.getElem?_eq_getElem hlt, Sem.run_pure, Result.andThen_ok, ld, cond_false]
                congr 2
                rw [List.headD_eq_head?_getD, List.head?_drop]
                simp [hlt]
          · cases hfv
        · cases hfv
      · exact h.elim
    · exact h.elim
  | indexAddr T y i => simp only [hop] at h; exact fl_idx hop hs hd h
  | index T y i =>
    simp only [hop] at h
    split at h
    · rename_i va vb hy hz
      exact fl_byRead (by rw [hop]; rfl) (fun w' => by simp [execOp, hop, hs.eval_v hy, hs.eval_v hz]) hs hd h
    · exact h.elim
  | lookup T y i ok =>
    simp only [hop] at h
    split at h
    · rename_i va vb hy hz
      exact fl_byRead (by rw [hop]; rfl) (fun w' => by simp [execOp, hop, hs.eval_v hy, hs.eval_v hz]) hs hd h
    · exact h.elim
  | extract y i =>
    simp only [hop] at h
    split at h
    · rename_i vs hy
      split at h
      · rename_i r hr
        refine flOk_v hs hd h (fun w' => ?_)
        have : vs[i]? = some r := by simpa using hr
        simp [execOp, hop, hs.eval_v hy, Instr.extract, this]
      · exact h.elim
    · exact h.elim
  | call c =>
    obtain ⟨callee, args, tys⟩ := c
    cases callee with
    | value f => rw [hop] at hf; simp [floating] at hf
    | invoke r m => rw [hop] at hf; simp [floating] at hf
    | builtin b =>
      rw [hop] at hf
      simp only [hop, vcCall, bLen, bCap, bMin, bMax, bApp, bCopy, bDel, bClr, iLit, iBuild, iSlice, iStore, iIndex, iLook, iMake, iMap, iUpd, iEnt, iEnts, iUn, iConv] at h
      cases b <;> simp only [floating, floats, Bool.false_eq_true] at hf
      all_goals
        simp only at h
        split at h
        · rename_i vs hv
          first
            | refine fl_byRead (by rw [hop]; rfl) (fun w' => ?_) hs hd h
            | refine fl_byVal (fun w' => ?_) hs hd h
          obtain ⟨consts, hr⟩ := run_builtin (P := P) hop (vals_eval hs hv) w'
          rw [hr]
          simp [builtin]
        · exact h.elim
  | _ => rw [hop] at hf; simp [floating] at hf


/-- What is shown of any other operation. -/
def EfOk (P : Program) (C : Ctx) (x : Bool) (o : Oper) (K : S → World → Prop) (a : Act) (w : World) : Prop :=
  ∀ Q : Exit → Act → World → Prop, o.wp P a w (fun a' w' => (x = true → Ext w w') ∧ ∃ s' u', Sim C s' u' a' w' ∧ K s' u') Q

theorem ef_eff {o : Oper} {e : Sem Value} {x : Bool} (he : ∀ w', (execOp a.eval o).run P w' = (e.run P w').andThen fun r w'' => .ok (.value r) w'') (hs : Sim C s u a w) (hd : okDst C.n o.dst = true)
    (h : AtEff x P e C.u0 u (PutE s o.dst K)) : EfOk P C x o K a w := by
  intro Q
  obtain ⟨r, w', u', hr, hst, hK⟩ := h w hs.sub hs.sub0
  simp only [Oper.wp, he, hr, Result.andThen_ok, Oper.upon]
  exact ⟨fun hx => by subst hx; exact hst.ext, _, u', (hs.step hst).put_v hd, hK⟩

theorem ef_do {o : Oper} {e : Sem Unit} {x : Bool} (he : ∀ w', (execOp a.eval o).run P w' = (e.run P w').andThen fun _ w'' => .ok .skip w'') (hs : Sim C s u a w) (hd : okDst C.n o.dst = true)
    (h : AtDo x P e C.u0 u (PutU s o.dst K)) : EfOk P C x o K a w := by
  intro Q
  obtain ⟨w', u', hr, hst, hK⟩ := h w hs.sub hs.sub0
  simp only [Oper.wp, he, hr, Result.andThen_ok, Oper.upon]
  exact ⟨fun hx => by subst hx; exact hst.ext, _, u', (hs.step hst).put_v hd, hK⟩

theorem get_addLoc_ne {d b t : Nat} {cs : List Value} {T : TypeId} (h : d ≠ t) : (addLoc s d b cs T).get t = s.get t := by simp [addLoc, S.get, lk_cons_ne h]
theorem get_addLoc_eq {d b : Nat} {cs : List Value} {T : TypeId} : (addLoc s d b cs T).get d = .loc d 0 := by simp [addLoc, S.get, lk_cons_eq]
theorem find_addLoc_ne {d b k : Nat} {cs : List Value} {T : TypeId} (h : d ≠ k) : (addLoc s d b cs T).find k = s.find k := by simp [addLoc, S.find, lk_cons_ne h]
theorem find_addLoc_eq {d b : Nat} {cs : List Value} {T : TypeId} : (addLoc s d b cs T).find d = some ⟨b, cs, T⟩ := by simp [addLoc, S.find, lk_cons_eq]

theorem heap_push_ext (w : World) (o : Obj) : Ext w { w with heap := w.heap.push o } := fun b o' h => by
  have := lt_of_some h
  simp only [Array.getElem?_push]
  rw [if_neg (by omega)]
  exact h

theorem Sim.addLoc {d : Nat} {cs : Array Value} {T : TypeId} (hs : Sim C s u a w) (hd : d < C.n) (hf : s.find d = none) :
    Sim C (Eng.addLoc s d w.heap.size cs.toList T) u (a.put (some d) (.pointer (some ⟨w.heap.size, 0, none⟩))) { w with heap := w.heap.push (.cells cs T) } := by
  have he := heap_push_ext w (.cells cs T)
  have hs' := hs.ext he ⟨by simp, rfl, rfl⟩
  refine ⟨by simp [Act.put, hs.size], hs.defers, ?_, ?_, ?_, hs'.sub, ?_, ?_, hs'.keep, hs'.dom, hs'.le, hs'.sub0, hs'.sub00⟩
  · intro t v hv
    by_cases hdt : d = t
    · subst hdt
      rw [get_addLoc_eq] at hv
      simp [S.val, find_addLoc_eq] at hv
      subst hv
      simp [Act.put, hs.size, hd]
    · rw [get_addLoc_ne hdt] at hv
      have hv' : s.val (s.get t) = some v := by
        cases hg : s.get t with
        | unk => rw [hg] at hv; exact hv
        | v x => rw [hg] at hv; exact hv
        | elt sv sz i off => rw [hg] at hv; exact hv
        | loc k off =>
          rw [hg] at hv
          have hk : d ≠ k := fun e => hs.wfl t k off hg (e ▸ hf)
          simp only [S.val, find_addLoc_ne hk] at hv
          exact hv
      have := hs.slots t v hv'
      simp only [Act.put]
      rw [← this]
      simp [Array.getElem?_setIfInBounds_ne hdt]
  · intro t k off ht
    by_cases hdt : d = t
    · subst hdt
      rw [get_addLoc_eq] at ht
      cases ht
      rw [find_addLoc_eq]; intro h; cases h
    · rw [get_addLoc_ne hdt] at ht
      have hk : d ≠ k := fun e => hs.wfl t k off ht (e ▸ hf)
      rw [find_addLoc_ne hk]
      exact hs.wfl t k off ht
  · intro t sv sz i off ht
    by_cases hdt : d = t
    · subst hdt; rw [get_addLoc_eq] at ht; cases ht
    · rw [get_addLoc_ne hdt] at ht; exact hs.wfe t sv sz i off ht
  · intro k l hk
    by_cases hdk : d = k
    · subst hdk
      rw [find_addLoc_eq] at hk
      cases hk
      exact ⟨by simp, fresh_of_ge hs.sub (Nat.le_refl _), hs.le.size⟩
    · rw [find_addLoc_ne hdk] at hk
      exact hs'.locs k l hk
  · intro k k' l l' hk hk' hne
    have old : ∀ k l, s.find k = some l → l.b < w.heap.size := fun k l hk => lt_of_some (hs.locs k l hk).1
    by_cases hdk : d = k
    · subst hdk
      rw [find_addLoc_eq] at hk
      rw [find_addLoc_ne hne] at hk'
      cases hk
      have := old k' l' hk'
      simp only
      omega
    · rw [find_addLoc_ne hdk] at hk
      by_cases hdk' : d = k'
      · subst hdk'
        rw [find_addLoc_eq] at hk'
        cases hk'
        have := old k l hk
        simp only
        omega
      · rw [find_addLoc_ne hdk'] at hk'
        exact hs.dist k k' l l' hk hk' hne

theorem ef_local {o : Oper} {x : Bool} {d : Nat} {cs : Array Value} {T : TypeId} (hdst : o.dst = some d)
    (he : (execOp a.eval o).run P w = .ok (.value (.pointer (some ⟨w.heap.size, 0, none⟩))) { w with heap := w.heap.push (.cells cs T) }) (hs : Sim C s u a w) (hd : okDst C.n o.dst = true)
    (hf : s.find d = none) (hK : ∀ b, K (addLoc s d b cs.toList T) u) : EfOk P C x o K a w := by
  intro Q
  simp only [Oper.wp, he, Oper.upon]
  refine ⟨fun _ => heap_push_ext _ _, _, u, ?_, hK w.heap.size⟩
  rw [hdst] at hd ⊢
  exact hs.addLoc (by simpa [okDst] using hd) hf


theorem splice_length {cs vs : List Value} {off : Nat} (h : off + vs.length ≤ cs.length) : (splice cs off vs).length = cs.length := by
  simp [splice]; omega

theorem allOne_mem : ∀ {l : List Value}, allOne l = true → ∀ v ∈ l, v.oneCell' = true := by
  intro l
  induction l with
  | nil => intro _ v hv; cases hv
  | cons x r ih =>
    intro h v hv
    simp only [allOne, Bool.and_eq_true] at h
    rcases List.mem_cons.1 hv with rfl | hv
    · exact h.1
    · exact ih h.2 v hv

theorem Sim.setLoc {k : Nat} {l : Loc} {cs : List Value} (hs : Sim C s u a w) (hk : s.find k = some l) :
    Sim C (⟨s.ρ, (k, ⟨l.b, cs, l.T⟩) :: s.σ⟩ : S) u a (w.setRow l.b cs.toArray) := by
  obtain ⟨g1, g2, g3⟩ := hs.locs k l hk
  have hfn : ∀ j, k ≠ j → (⟨s.ρ, (k, ⟨l.b, cs, l.T⟩) :: s.σ⟩ : S).find j = s.find j := fun j h => by simp [S.find, lk_cons_ne h]
  have hfe : (⟨s.ρ, (k, ⟨l.b, cs, l.T⟩) :: s.σ⟩ : S).find k = some ⟨l.b, cs, l.T⟩ := by simp [S.find, lk_cons_eq]
  have hoth : ∀ b, b ≠ l.b → (w.setRow l.b cs.toArray).heap[b]? = w.heap[b]? := fun b hb => setRow_other w l.b b _ hb
  refine ⟨hs.size, hs.defers, ?_, ?_, hs.wfe, ?_, ?_, ?_, ?_, hs.dom, ?_, ?_, hs.sub00⟩
  · intro t v hv
    refine hs.slots t v ?_
    have hg : (⟨s.ρ, (k, ⟨l.b, cs, l.T⟩) :: s.σ⟩ : S).get t = s.get t := rfl
    rw [hg] at hv
    cases hgt : s.get t with
    | unk => rw [hgt] at hv; exact hv
    | v x => rw [hgt] at hv; exact hv
    | elt sv sz i off => rw [hgt] at hv; exact hv
    | loc k' off =>
      rw [hgt] at hv
      by_cases hkk : k = k'
      · subst hkk
        simp only [S.val, hfe, Option.map_some] at hv
        simp only [S.val, hk, Option.map_some]
        exact hv
      · simp only [S.val, hfn k' hkk] at hv
        exact hv
  · intro t k' off ht
    by_cases hkk : k = k'
    · subst hkk; rw [hfe]; intro h; cases h
    · rw [hfn k' hkk]; exact hs.wfl t k' off ht
  · intro b o hb ho
    by_cases hbl : b = l.b
    · subst hbl; exact absurd (g2 o hb) ho
    · rw [hoth b hbl]; exact hs.sub b o hb ho
  · intro k' l' hk'
    by_cases hkk : k = k'
    · subst hkk
      rw [hfe] at hk'
      cases hk'
      exact ⟨setRow_heap w l.b _ _ _ _ g1, g2, g3⟩
    · rw [hfn k' hkk] at hk'
      obtain ⟨f1, f2, f3⟩ := hs.locs k' l' hk'
      refine ⟨?_, f2, f3⟩
      rw [hoth _ (hs.dist k' k l' l hk' hk (fun e => hkk e.symm))]
      exact f1
  · intro k1 k2 l1 l2 h1 h2 hne
    have down : ∀ j m, (⟨s.ρ, (k, ⟨l.b, cs, l.T⟩) :: s.σ⟩ : S).find j = some m → ∃ m', s.find j = some m' ∧ m'.b = m.b := by
      intro j m hj
      by_cases hkk : k = j
      · subst hkk; rw [hfe] at hj; cases hj; exact ⟨l, hk, rfl⟩
      · rw [hfn j hkk] at hj; exact ⟨m, hj, rfl⟩
    obtain ⟨m1, f1, e1⟩ := down k1 l1 h1
    obtain ⟨m2, f2, e2⟩ := down k2 l2 h2
    rw [← e1, ← e2]
    exact hs.dist k1 k2 m1 m2 f1 f2 hne
  · intro b o hb
    have hne : b ≠ l.b := by have := lt_of_some hb; omega
    rw [hoth b hne]
    exact hs.keep b o hb
  · exact hs.le.trans ⟨by simp [World.setRow], rfl, rfl⟩
  · intro b o hb ho
    have hne : b ≠ l.b := by have := hs.sub00.lt hb ho; omega
    rw [hoth b hne]
    exact hs.sub0 b o hb ho

theorem ef_store {o : Oper} {x : Bool} {T : TypeId} {y z : Operand} (hop : o.op = .store T y z) (hx : x = false) (hs : Sim C s u a w) (hd : okDst C.n o.dst = true)
    (h : vcStore P x C.u0 T (s.sv y) (s.sv z) o.dst K s u) : EfOk P C x o K a w := by
  subst hx
  unfold vcStore at h
  simp only [iStore] at h
  split at h
  · rename_i va hz
    have hez := hs.eval_v hz
    split at h
    · rename_i k off hy
      split at h
      · rename_i l ag n hk hl
        obtain ⟨h1, h2, h3, hK⟩ := h
        intro Q
        obtain ⟨g1, g2, g3⟩ := hs.locs k l hk
        have hey : a.eval y = .pointer (some ⟨l.b, off, none⟩) := hs.eval (by rw [hy]; simp [S.val, hk])
        have hst := run_storeCells_at P l.b off l.T va.cells.toList 0 l.cells.toArray w g1 (by simp only [Nat.add_zero, List.size_toArray]; rw [h1]; exact h2) (allOne_mem h3)
        simp only [Nat.add_zero] at hst
        have hsz := (run_lay hl w).2
        have hrun : (execOp a.eval o).run P w = .ok .skip (w.setRow l.b (splice l.cells off va.cells.toList).toArray) := by
          have hc : va.cells.size = n := by simpa using h1
          simp [execOp, hop, hey, hez, Instr.storeAt, Instr.sureAddr, storeVar, hsz, hc, hst, splice]
        simp only [Oper.wp, hrun, Oper.upon]
        refine ⟨fun h => (by cases h), _, u, ?_, hK⟩
        exact (hs.setLoc hk).put_v hd
      · exact h.elim
    · rename_i p hy
      exact ef_do (fun w' => by simp [execOp, hop, hs.eval_v hy, hez]) hs hd h
    · rename_i sv sz i off hy
      split at h
      · rename_i ad had
        have hey : a.eval y = .pointer (some ad) := hs.eval (by rw [hy]; simp [S.val, had])
        exact ef_do (fun w' => by simp [execOp, hop, hey, hez]) hs hd h
      · exact h.elim
    · exact h.elim
  · exact h.elim

theorem run_callFunc {f : FuncId} (h : hasBody P f = true) (args : Array Value) (w' : World) : (callFunc f args).run P w' = .ok (.enter f args) w' := by
  unfold hasBody at h
  split at h
  · rename_i fn hf
    simp only [Bool.and_eq_true, Bool.not_eq_true'] at h
    have hb : fn.body.isNone = false := by cases hb : fn.body <;> simp_all
    simp only [callFunc, Sem.run_bind, run_program, Result.andThen_ok, hf, h.2, hb, Bool.false_eq_true, if_false]
    rfl
  · cases h

theorem run_callExt {f : FuncId} {e : Array Value → Sem Value} (h : extOf P f = some e) (args : Array Value) (w' : World) : (callFunc f args).run P w' = ((e args).run P w').andThen fun r w'' => .ok (.value r) w'' := by
  unfold extOf at h
  split at h
  · rename_i fn hf
    split at h
    · cases h
    · rename_i hc
      simp only [Bool.or_eq_true, not_or, Bool.not_eq_true] at hc
      obtain ⟨⟨h1, h2⟩, h3⟩ := hc
      have hb : fn.body.isNone = true := by cases hb : fn.body <;> simp_all
      have hn : Extern.findNext fn = none := by cases hn : Extern.findNext fn <;> simp_all
      simp only [callFunc, Sem.run_bind, run_program, Result.andThen_ok, hf, h1, hb, Bool.false_eq_true, if_false, if_true, hn, h, run_mark]
      simp
  · cases h

theorem ef_call {o : Oper} {x : Bool} {f : FuncId} {args : List Value} (hrun : ∀ w', (execOp a.eval o).run P w' = (callFunc f args.toArray).run P w') (hs : Sim C s u a w) (hd : okDst C.n o.dst = true)
    (h : AtCall x P f args C.u0 u (PutE s o.dst K)) : EfOk P C x o K a w := by
  rcases h with ⟨hb, hc⟩ | ⟨e, he, hc⟩
  · intro Q
    simp only [Oper.wp, hrun, run_callFunc hb, Oper.upon]
    refine (hc w hs.sub hs.sub0).mono ?_
    rintro e w' ⟨r, u', rfl, hst, hK⟩
    exact ⟨fun hx => by subst hx; exact hst.ext, _, u', (hs.step hst).put_v hd, hK⟩
  · exact ef_eff (fun w' => by rw [hrun, run_callExt he]) hs hd hc

theorem EfOk.mono {o : Oper} {x : Bool} (h : EfOk P C true o K a w) : EfOk P C x o K a w := fun Q =>
  Oper.wp_mono (fun _ _ ⟨h1, h2⟩ => ⟨fun _ => h1 rfl, h2⟩) (h Q)

theorem ef_sound {o : Oper} {x : Bool} (hf : floating o.op = false) (hx : x = true → ∀ T y z, o.op ≠ .store T y z) (hs : Sim C s u a w) (hd : okDst C.n o.dst = true) (h : vcOp P x C.u0 o K s u) : EfOk P C x o K a w := by
  unfold vcOp at h
  simp only [bLen, bCap, bMin, bMax, bApp, bCopy, bDel, bClr, iLit, iBuild, iSlice, iStore, iIndex, iLook, iMake, iMap, iUpd, iEnt, iEnts, iUn, iConv] at h
  cases hop : o.op with
  | alloc T =>
    simp only [hop] at h
    split at h
    · rename_i cs d hz hdst
      unfold zeroOf at hz
      split at hz
      · rename_i i hi
        cases hz0 : i.zero with
        | none => simp [hz0] at hz
        | some z =>
          simp [hz0] at hz
          subst hz
          refine ef_local (cs := z.cells) (T := T) hdst ?_ hs hd h.1 (by simpa using h.2)
          simp [execOp, hop, Instr.alloc, zeroValue, typeInfo, hi, hz0, newVar, newRow]
      · cases hz
    · exact h.elim
  | box T y =>
    simp only [hop] at h
    split at h
    · rename_i va d hy hdst
      refine ef_local (cs := va.cells) (T := T) hdst ?_ hs hd h.1 (by simpa using h.2)
      simp [execOp, hop, Instr.box, hs.eval_v hy, newVar, newRow]
    · exact h.elim
  | convert src dst y =>
    have hsd : (src == dst) = true := by rw [hop] at hf; simpa [floating] using hf
    simp only [hop, hsd, cond_true] at h
    split at h
    · rename_i va hy
      exact ef_eff (fun w' => by simp [execOp, hop, hs.eval_v hy]) hs hd h
    · exact h.elim
  | store T y z =>
    simp only [hop] at h
    cases x with
    | true => exact (hx rfl T y z hop).elim
    | false => exact ef_store hop rfl hs hd h
  | buildSlice T n ps =>
    simp only [hop] at h
    split at h
    · rename_i vs hv
      exact ef_eff (fun w' => by simp only [execOp, hop, toArray_pmap ps (pvals_eval hs hv)]; simp) hs hd h
    · exact h.elim
  | makeSlice T l c =>
    simp only [hop] at h
    split at h
    · rename_i va vb hy hz
      exact ef_eff (fun w' => by simp [execOp, hop, hs.eval_v hy, hs.eval_v hz]) hs hd h
    · exact h.elim
  | makeMap T r =>
    simp only [hop] at h
    split at h
    · rename_i va hy
      exact ef_eff (fun w' => by simp [execOp, hop, oval_eval hs hy]) hs hd h
    · exact h.elim
  | mapUpdate T m k y =>
    simp only [hop] at h
    split at h
    · rename_i va vb vc h1 h2 h3
      exact ef_do (fun w' => by simp [execOp, hop, hs.eval_v h1, hs.eval_v h2, hs.eval_v h3]) hs hd h
    · exact h.elim
  | insert T m k y =>
    simp only [hop] at h
    split at h
    · rename_i va vb vc h1 h2 h3
      exact ef_do (fun w' => by simp [execOp, hop, hs.eval_v h1, hs.eval_v h2, hs.eval_v h3]) hs hd h
    · exact h.elim
  | mapEntry T m k =>
    simp only [hop] at h
    split at h
    · rename_i va vb h1 h2
      exact ef_eff (fun w' => by simp [execOp, hop, hs.eval_v h1, hs.eval_v h2]) hs hd h
    · exact h.elim
  | entryStore T m k y =>
    simp only [hop] at h
    split at h
    · rename_i va vb vc h1 h2 h3
      exact ef_do (fun w' => by simp [execOp, hop, hs.eval_v h1, hs.eval_v h2, hs.eval_v h3]) hs hd h
    · exact h.elim
  | call c =>
    obtain ⟨callee, args, tys⟩ := c
    simp only [hop, vcCall, bLen, bCap, bMin, bMax, bApp, bCopy, bDel, bClr, iLit, iBuild, iSlice, iStore, iIndex, iLook, iMake, iMap, iUpd, iEnt, iEnts, iUn, iConv] at h
    cases callee with
    | invoke r m => exact h.elim
    | builtin b =>
      rw [hop] at hf
      cases b <;> simp only at h <;> first | exact h.elim | skip
      all_goals
        split at h
        · rename_i vs hv
          first
            | (refine ef_eff (fun w' => ?_) hs hd h
               obtain ⟨consts, hr⟩ := run_builtin (P := P) hop (vals_eval hs hv) w'
               rw [hr]
               simp [builtin])
            | (exfalso
               simp [floating, floats] at hf; done)
        · exact h.elim
    | value f =>
      simp only at h
      split at h
      · rename_i g first captured hfv
        obtain ⟨s', u', hK, hs'⟩ := pubs_sound _ s u _ h hs
        unfold CallK at hK
        refine ef_call (fun w' => ?_) hs' hd hK
        have hargs : args.map a.eval = (args.toList.map a.eval).toArray := by apply Array.ext'; simp
        simp only [execOp, hop, resolve, hs.eval_v hfv, Deferred.ofValue, Sem.run_bind, Sem.run_pure, Result.andThen_ok, invoke, hargs]
        congr 2
        apply Array.ext'
        simp
      · rename_i fv hno hfv
        obtain ⟨s', u', hK, hs'⟩ := pubs_sound _ s u _ h hs
        unfold CallVK AtCallV at hK
        obtain ⟨g, first, captured, rfl, hK⟩ := hK
        exact (hno g first captured rfl).elim
      · exact h.elim
  | _ => first | (rw [hop] at hf; simp [floating] at hf; done) | (simp only [hop] at h)

end
end Go.Eng
