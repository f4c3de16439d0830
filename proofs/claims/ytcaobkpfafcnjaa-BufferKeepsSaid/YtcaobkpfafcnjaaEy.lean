/-
  Engine: one order of a region in which stores to local variables stand beside reads of other things.
-/
import Derived.Test.YtcaobkpfafcnjaaEe
set_option linter.unusedSimpArgs false
set_option linter.unusedVariables false
namespace Go.Eng
section
variable {P : Program} {ops : Array Oper} {Q : Exit → Act → World → Prop}

/-- The one order: what floats yields in all worlds of a kind; each effect keeps a world of that kind, or it waited for what was read. -/
def wpE (P : Program) (ops : Array Oper) (A : List (List Nat)) (Q : Exit → Act → World → Prop) : List (Nat × (World → Prop)) → List Nat → Act → World → Prop
  | _, [], a, w => Q .normal a w
  | acc, i :: rest, a, w =>
    match ops[i]? with
    | none => False
    | some o =>
      if floating o.op then ∃ v R, R w ∧ YieldsIf P ops R o v a ∧ wpE P ops A Q ((i, R) :: acc) rest (a.put o.dst v) w
      else wpOp P ops Q i (fun a' w' => (∀ e ∈ acc, (A.getD i []).contains e.1 = true ∨ e.2 w') ∧ wpE P ops A Q (acc.filter fun e => !(A.getD i []).contains e.1) rest a' w') a w

theorem wpE_acc (A : List (List Nat)) : ∀ (l : List Nat) (acc acc' : List (Nat × (World → Prop))) (a : Act) (w : World), (∀ x ∈ acc', x ∈ acc) → wpE P ops A Q acc l a w → wpE P ops A Q acc' l a w := by
  intro l
  induction l with
  | nil => intro acc acc' a w _ h; exact h
  | cons i rest ih =>
    intro acc acc' a w hsub h
    simp only [wpE] at h ⊢
    cases ho : ops[i]? with
    | none => simp only [ho] at h
    | some o =>
      simp only [ho] at h ⊢
      by_cases hf : floating o.op = true
      · simp only [hf, if_true] at h ⊢
        obtain ⟨v, R, hR, hy, h⟩ := h
        refine ⟨v, R, hR, hy, ih _ _ _ _ ?_ h⟩
        intro x hx
        rcases List.mem_cons.1 hx with rfl | hx
        · exact List.mem_cons_self
        · exact List.mem_cons_of_mem _ (hsub x hx)
      · simp only [hf, Bool.false_eq_true, if_false] at h ⊢
        exact wpOp_mono (fun a' w' ⟨h1, h2⟩ => ⟨fun e he => h1 e (hsub e he), ih _ _ _ _ (fun e he => List.mem_filter.2 ⟨hsub e (List.mem_filter.1 he).1, (List.mem_filter.1 he).2⟩) h2⟩) h

/-- Move 'i' ahead of what floats and is apart from it. -/
theorem moveL (A : List (List Nat)) (hns : Region.noSelect ops = true) (hQ : Blind Q) {i : Nat} {o : Oper} (hi : ops[i]? = some o) (post : List Nat) :
    ∀ (pre : List Nat) (acc : List (Nat × (World → Prop))) (a : Act) (w : World),
      (∀ p ∈ pre, ∃ op, ops[p]? = some op ∧ floating op.op = true ∧ op.apart ops o = true ∧ (A.getD i []).contains p = false) →
      wpE P ops A Q acc (pre ++ i :: post) a w →
      (floating o.op = true → ∃ v R, R w ∧ YieldsIf P ops R o v a ∧ wpE P ops A Q acc (pre ++ post) (a.put o.dst v) w) ∧
      (floating o.op = false → wpOp P ops Q i (fun a' w' => (∀ e ∈ acc, (A.getD i []).contains e.1 = true ∨ e.2 w') ∧ wpE P ops A Q (acc.filter fun e => !(A.getD i []).contains e.1) (pre ++ post) a' w') a w) := by
  intro pre
  have hsi : ∀ cs b, o.op ≠ .select cs b := fun cs b => Region.noSelect_spec hns i o cs b hi
  induction pre with
  | nil =>
    intro acc a w _ h
    simp only [List.nil_append, wpE, hi] at h
    refine ⟨fun hf => ?_, fun hf => ?_⟩
    · simp only [hf, if_true] at h
      obtain ⟨v, R, hR, hy, h⟩ := h
      exact ⟨v, R, hR, hy, wpE_acc A _ _ _ _ _ (fun x hx => List.mem_cons_of_mem _ hx) h⟩
    · simp only [hf] at h
      exact h
  | cons p pre ih =>
    intro acc a w hpre h
    obtain ⟨op, hop, hfl, hap, hnc⟩ := hpre p List.mem_cons_self
    have hsp : ∀ cs b, op.op ≠ .select cs b := fun cs b => Region.noSelect_spec hns p op cs b hop
    obtain ⟨h1, h2, h3⟩ := Oper.apart_spec hap
    simp only [List.cons_append, wpE, hop, hfl, if_true] at h
    obtain ⟨vp, Rp, hRp, hyp, h⟩ := h
    obtain ⟨ihf, ihe⟩ := ih _ (a.put op.dst vp) w (fun q hq => hpre q (List.mem_cons_of_mem _ hq)) h
    refine ⟨fun hf => ?_, fun hf => ?_⟩
    · obtain ⟨v, R, hR, hy, h⟩ := ihf hf
      refine ⟨v, R, hR, hy.of_same (execOp_put o hsi a op.dst vp h1).symm (wanted_put o a op.dst vp h1).symm, ?_⟩
      simp only [List.cons_append, wpE, hop, hfl, if_true]
      refine ⟨vp, Rp, hRp, hyp.of_same (execOp_put op hsp a o.dst v h3) (wanted_put op a o.dst v h3), ?_⟩
      rw [← Act.put_comm a vp v h2]
      exact h
    · have he := ihe hf
      have hx := wpOp_putIf hi hap hsp hsi (fun c a w hq => hQ c a w _ _ hq) hyp he
      refine wpOp_mono (fun a1 w1 ⟨hy1, hk, hd⟩ => ?_) hx
      have hR1 : Rp w1 := (hk (p, Rp) List.mem_cons_self).resolve_left (by rw [hnc]; simp)
      refine ⟨fun e he => hk e (List.mem_cons_of_mem _ he), ?_⟩
      simp only [List.cons_append, wpE, hop, hfl, if_true]
      refine ⟨vp, Rp, hR1, hy1, ?_⟩
      rw [List.filter_cons_of_pos (by show (!(A.getD i []).contains p) = true; rw [hnc]; rfl)] at hd
      exact hd

theorem any_of_wpE (A : List (List Nat)) (hA : okAnc ops A = true) (hbk : okBack ops = true) (hns : Region.noSelect ops = true) (hQ : Blind Q) :
    ∀ (fuel : Nat) (ord : List Nat) (listed : Array Bool) (a : Act) (w : World), ord.length = fuel → listed.size = ops.size → Closed ops listed →
      (∀ j, j < ops.size → listed.getD j true = false → j ∈ ord) → (∀ j ∈ ord, listed.getD j true = false) → ord.Nodup → okPairs ops A ord = true → wpE P ops A Q [] ord a w →
      wpAny P .any ops Q fuel listed a w := by
  intro fuel
  induction fuel with
  | zero =>
    intro ord listed a w hl _ _ hcov _ _ _ h
    have : ord = [] := by cases ord <;> simp_all
    subst this
    have hr : Region.ready .any ops listed = [] := by
      cases hr : Region.ready .any ops listed with
      | nil => rfl
      | cons x xs =>
        have hx : x ∈ Region.ready .any ops listed := by rw [hr]; exact List.mem_cons_self
        obtain ⟨h0, o, ho, _⟩ := mem_ready.1 hx
        have := hcov x (Array.getElem?_eq_some_iff.1 ho).1 h0
        cases this
    exact ⟨hr, h⟩
  | succ fuel ih =>
    intro ord listed a w hl hsz hc hcov hun hnd hok h
    -- whichever is ready
    have step : ∀ i ∈ Region.ready .any ops listed, wpOp P ops Q i (wpAny P .any ops Q fuel (listed.setIfInBounds i true)) a w := by
      intro i hi
      obtain ⟨h0, o, ho, hall⟩ := mem_ready.1 hi
      have hio := hcov i (Array.getElem?_eq_some_iff.1 ho).1 h0
      obtain ⟨pre, post, hord⟩ := List.append_of_mem hio
      obtain ⟨hp, hok'⟩ := okPairs_mem hok hord
      have hpre : ∀ p ∈ pre, ∃ op, ops[p]? = some op ∧ floating op.op = true ∧ op.apart ops o = true ∧ (A.getD i []).contains p = false := by
        intro p hpm
        have h1 := hp p hpm
        unfold okPair at h1
        cases hop : ops[p]? with
        | none => simp [hop] at h1
        | some op =>
          simp only [hop, ho, Bool.or_eq_true, Bool.and_eq_true] at h1
          have hpun := hun p (by rw [hord]; exact List.mem_append_left _ hpm)
          have hnc : (A.getD i []).contains p = false := by
            cases hcon : (A.getD i []).contains p with
            | false => rfl
            | true =>
              have h2 := anc_listed hA hc i p o ho hcon hall
              have hps : p < listed.size := by rw [hsz]; exact (Array.getElem?_eq_some_iff.1 hop).1
              simp [hps] at h2 hpun
              rw [h2] at hpun; cases hpun
          rcases h1 with h1 | h1
          · rw [hnc] at h1; cases h1
          · exact ⟨op, rfl, h1.1, h1.2, hnc⟩
      have hil : i < listed.size := by rw [hsz]; exact (Array.getElem?_eq_some_iff.1 ho).1
      have next : ∀ a' w', wpE P ops A Q [] (pre ++ post) a' w' → wpAny P .any ops Q fuel (listed.setIfInBounds i true) a' w' := by
        intro a' w' hd
        have hnd' : i ∉ pre ++ post ∧ (pre ++ post).Nodup := by
          rw [hord] at hnd
          have hp := hnd.perm (List.perm_middle)
          exact List.nodup_cons.1 hp
        refine ih (pre ++ post) (listed.setIfInBounds i true) a' w' ?_ (by simpa using hsz) ?_ ?_ ?_ hnd'.2 hok' hd
        · rw [hord] at hl; simp at hl ⊢; omega
        · intro j oj hoj hlj e he hb
          by_cases hji : i = j
          · subst hji
            rw [ho] at hoj; cases hoj
            exact getD_set_true (hall e he hb)
          · rw [getD_set_ne false hji] at hlj
            exact getD_set_true (hc j oj hoj hlj e he hb)
        · intro j hj hlj
          by_cases hji : i = j
          · subst hji; simp [hil] at hlj
          · rw [getD_set_ne true hji] at hlj
            have := hcov j hj hlj
            rw [hord] at this
            rcases List.mem_append.1 this with h | h
            · exact List.mem_append_left _ h
            · rcases List.mem_cons.1 h with h | h
              · exact absurd h.symm hji
              · exact List.mem_append_right _ h
        · intro j hj
          have hji : i ≠ j := fun e => hnd'.1 (e ▸ hj)
          rw [getD_set_ne true hji]
          refine hun j ?_
          rw [hord]
          rcases List.mem_append.1 hj with h | h
          · exact List.mem_append_left _ h
          · exact List.mem_append_right _ (List.mem_cons_of_mem _ h)
      obtain ⟨mf, me⟩ := moveL A hns hQ ho post pre [] a w hpre (by rw [← hord]; exact h)
      cases hf : floating o.op with
      | true =>
        obtain ⟨v, R, hR, hy, hd⟩ := mf hf
        exact hy.wpOp ho hR (next _ _ hd)
      | false => exact wpOp_mono (fun a' w' hk => next a' w' hk.2) (me hf)
    refine ⟨fun hr => ?_, step⟩
    -- somebody is ready: the least one that is not listed
    exfalso
    have key : ∀ j, j < ops.size → listed.getD j true = false → False := by
      intro j
      induction j using Nat.strongRecOn with
      | _ j ihn =>
        intro hjs hlj
        have hoj : ops[j]? = some ops[j] := Array.getElem?_eq_getElem hjs
        have hb := hbk
        simp only [okBack, List.all_eq_true, List.mem_range] at hb
        have hb := hb j hjs
        simp only [hoj, List.all_eq_true, Bool.or_eq_true, Bool.not_eq_true', decide_eq_true_eq] at hb
        have hnr : j ∉ Region.ready .any ops listed := by rw [hr]; exact List.not_mem_nil
        refine hnr (mem_ready.2 ⟨hlj, _, hoj, fun e he hbe => ?_⟩)
        have hlt : e.on < j := by
          rcases hb e (by simpa using he) with h | h
          · rw [hbe] at h; cases h
          · exact h
        have hes : e.on < listed.size := by omega
        cases hle : listed.getD e.on false with
        | true => rfl
        | false =>
          exact (ihn e.on hlt (by omega) (by simpa [hes] using hle)).elim
    cases ord with
    | nil => simp at hl
    | cons x xs =>
      have hx := hun x List.mem_cons_self
      have hxs : x < listed.size := by
        rcases Nat.lt_or_ge x listed.size with h' | h'
        · exact h'
        · simp [Array.getElem?_eq_none h'] at hx
      exact key x (by omega) hx

/-- **A region that draws its order, by one order; stores to local variables may stand beside reads.** -/
theorem wp_region_ordL {id : Nat} {ord : List Nat} (hm : P.follows .mixedOrders = true) (hord : okOrd ops ord = true) (hQ : Blind Q) {a : Act} {w : World}
    (h : wpE P ops (ancs ops.toList []) Q [] ord a { w with drawn := w.drawn + 1 }) : (Code.region id ops true).wp P Q a w := by
  simp only [okOrd, Bool.and_eq_true] at hord
  obtain ⟨⟨⟨⟨⟨⟨⟨h1, h2⟩, h3⟩, h4⟩, h5⟩, h6⟩, h7⟩, h8⟩ := hord
  simp only [List.all_eq_true, List.mem_range, decide_eq_true_eq] at h7 h8
  have hlen : ord.length = ops.size := by simpa using h6
  refine wp_region_any hm (any_of_wpE _ h1 h3 h4 hQ ops.size ord _ a _ hlen (by simp) ?_ ?_ ?_ (nodupB_spec h5) h2 h)
  · intro j o hj hl
    have hjs := (Array.getElem?_eq_some_iff.1 hj).1
    simp [hjs] at hl
  · intro j hj _
    simpa using h8 j hj
  · intro j hj
    simp [h7 j hj]

end

/-! ### What is read, and what keeps it -/

def memB : List Nat → Nat → Bool
  | [], _ => false
  | j :: r, k => bif j == k then true else memB r k

/-- The worlds in which a read yields the same: what was known, and all local variables but some. -/
def Near (ks : List Nat) (s : S) (u w' : World) : Prop := Sub u w' ∧ ∀ k l, s.find k = some l → memB ks k = false → w'.heap[l.b]? = some (.cells l.cells.toArray l.T (0, 0))

/-- A load is not of one of these local variables. -/
def ldSV (ks : List Nat) : SV → Prop
  | .loc k _ => memB ks k = false
  | _ => True
def ldOk (ks : List Nat) (o : Oper) (s : S) : Prop :=
  match o.op with
  | .load _ y => ldSV ks (s.sv y)
  | _ => True
/-- A store is to one of these local variables. -/
def stSV (ks : List Nat) : SV → Prop
  | .loc k _ => memB ks k = true
  | _ => False
def stOk (ks : List Nat) (o : Oper) (s : S) : Prop :=
  match o.op with
  | .store _ y _ => stSV ks (s.sv y)
  | _ => True

def locB (s : S) (k : Nat) : Option Nat := (s.find k).map (·.b)
def newD (o : Oper) : Option Nat :=
  match o.op with
  | .alloc _ => o.dst
  | .box _ _ => o.dst
  | _ => none
/-- These local variables lie where they lay. -/
def keepL (s s' : S) (d : Option Nat) : List Nat → Prop
  | [] => True
  | k :: r => (d = some k ∨ locB s' k = none ∨ locB s' k = locB s k) ∧ keepL s s' d r

theorem keepL_spec {s s' : S} {d : Option Nat} : ∀ {ks : List Nat}, keepL s s' d ks → ∀ k l', memB ks k = true → s'.find k = some l' → d = some k ∨ ∃ l, s.find k = some l ∧ l.b = l'.b := by
  intro ks
  induction ks with
  | nil => intro _ k l' h; cases h
  | cons j r ih =>
    intro h k l' hm hf
    simp only [memB] at hm
    by_cases hjk : j = k
    · subst hjk
      rcases h.1 with h1 | h1 | h1
      · exact .inl h1
      · simp [locB, hf] at h1
      · simp only [locB, hf, Option.map_some] at h1
        cases hs : s.find j with
        | none => rw [hs] at h1; cases h1
        | some l => rw [hs] at h1; exact .inr ⟨l, rfl, by simpa using h1.symm⟩
    · have : (j == k) = false := by simpa using hjk
      rw [this] at hm
      exact ih h.2 k l' hm hf

section
variable {P : Program} {C : Ctx} {s : S} {u : World} {a : Act} {w : World} {K : S → World → Prop} {ks : List Nat}

theorem near_self (hs : Sim C s u a w) : Near ks s u w := ⟨hs.sub, fun k l hk _ => (hs.locs k l hk).1⟩
theorem Near.ext {w' : World} (h : Near ks s u w) (he : Ext w w') : Near ks s u w' := ⟨h.1.trans he.sub, fun k l hk hm => he _ _ (h.2 k l hk hm)⟩

theorem vcLoad_near (hs : Sim C s u a w) {T : TypeId} {y : Operand} {K : Value → Prop} (hl : ldSV ks (s.sv y)) (h : vcLoad P T (s.sv y) K s u) :
    ∃ v, K v ∧ ∀ w', Near ks s u w' → (Instr.loadAt T (a.eval y)).run P w' = .ok v w' := by
  unfold vcLoad at h
  split at h
  · rename_i ag n hla
    split at h
    · rename_i k off hv
      rw [hv] at hl
      split at h
      · rename_i l hk
        obtain ⟨h1, h2, h3⟩ := h
        refine ⟨_, h3, fun w' he => ?_⟩
        have hev : a.eval y = .pointer (some ⟨l.b, off, none⟩) := hs.eval (by rw [hv]; simp [S.val, hk])
        rw [hev]
        have := run_loadVar hla h1 h2 (cellsAt_loc (he.2 k l hk hl))
        rw [Addr.add_lit, Nat.zero_add] at this
        simpa [Instr.loadAt, Instr.sureAddr] using this
      · exact h.elim
    · rename_i sv sz i off hv
      obtain ⟨cs, ⟨ad, len, cap, rfl, hlen, hcell⟩, h1, h2, h3⟩ := h
      refine ⟨_, h3, fun w' he => ?_⟩
      have hev : a.eval y = .pointer (some ((ad.add (i.toNat * sz)).add off)) := hs.eval (by rw [hv]; simp [S.val, eltAddr])
      rw [hev]
      have := run_loadVar hla h1 h2 (CellsAt.mono he.1 hcell)
      simpa [Instr.loadAt, Instr.sureAddr] using this
    · rename_i ad hv
      obtain ⟨cs, hc, hlen, h1, h3⟩ := h
      refine ⟨_, h3, fun w' he => ?_⟩
      rw [hs.eval_v hv]
      have := run_loadVar (off := 0) hla h1 (by omega) (CellsAt.mono he.1 hc)
      rw [Addr.add_zero'] at this
      simpa [Instr.loadAt, Instr.sureAddr] using this
    · exact h.elim
  · exact h.elim

theorem near_byRead {o : Oper} {e : Sem Value} (he : ∀ w', (execOp a.eval o).run P w' = (e.run P w').andThen fun r w'' => .ok (.value r) w'') (hs : Sim C s u a w) (hd : okDst C.n o.dst = true)
    (h : AtRead P e u (PutK s o.dst u K)) : ∃ v s' u', K s' u' ∧ Sim C s' u' (a.put o.dst v) w ∧ ∀ w', Near ks s u w' → (execOp a.eval o).run P w' = .ok (.value v) w' := by
  obtain ⟨r, hr, hK⟩ := h
  exact ⟨r, _, u, hK, hs.put_v hd, fun w' hx => by rw [he, hr w' hx.1]; rfl⟩

/-- A floating operation, in all worlds that are near. -/
theorem fl_near {o : Oper} {x : Bool} (hf : floating o.op = true) (hl : ldOk ks o s) (hs : Sim C s u a w) (hd : okDst C.n o.dst = true) (h : vcOp P x C.u0 o K s u) :
    ∃ v s' u', K s' u' ∧ Sim C s' u' (a.put o.dst v) w ∧ ((∀ w', (execOp a.eval o).run P w' = .ok (.value v) w') ∨ (pureOp o.op = false ∧ ∀ w', Near ks s u w' → (execOp a.eval o).run P w' = .ok (.value v) w')) := by
  by_cases hp : pureOp o.op = true
  · obtain ⟨v, s', u', hK, hs', hr, _⟩ := fl_sound hf hs hd h
    exact ⟨v, s', u', hK, hs', .inl (hr hp)⟩
  have hp' : pureOp o.op = false := by simpa using hp
  have fin : ∀ (q : ∃ v s' u', K s' u' ∧ Sim C s' u' (a.put o.dst v) w ∧ ∀ w', Near ks s u w' → (execOp a.eval o).run P w' = .ok (.value v) w'),
      ∃ v s' u', K s' u' ∧ Sim C s' u' (a.put o.dst v) w ∧ ((∀ w', (execOp a.eval o).run P w' = .ok (.value v) w') ∨ (pureOp o.op = false ∧ ∀ w', Near ks s u w' → (execOp a.eval o).run P w' = .ok (.value v) w')) := by
    rintro ⟨v, s', u', h1, h2, h3⟩
    exact ⟨v, s', u', h1, h2, .inr ⟨hp', h3⟩⟩
  unfold vcOp at h
  simp only [bLen, bCap, bMin, bMax, bApp, bCopy, bDel, bClr, iLit, iBuild, iSlice, iStore, iIndex, iLook, iMake, iMap, iUpd, iEnt, iEnts, iUn, iConv] at h
  cases hop : o.op with
  | load T y =>
    simp only [hop] at h
    simp only [ldOk, hop] at hl
    obtain ⟨v, hK, hr⟩ := vcLoad_near hs hl h
    rw [← hop]
    exact fin ⟨v, _, u, hK, hs.put_v hd, fun w' he => by simp [execOp, hop, hr w' he]⟩
  | nilCheck y =>
    simp only [hop] at h
    rw [← hop]
    split at h
    · rename_i k off hv
      cases hk : s.find k with
      | none => exact (sv_loc hs hv hk).elim
      | some l =>
        have hev : a.eval y = .pointer (some ⟨l.b, off, none⟩) := hs.eval (by rw [hv]; simp [S.val, hk])
        refine ⟨.pointer (some ⟨l.b, off, none⟩), _, u, h, hs.put hd ?_ ?_ (by intro _ _ _ _ hx; cases hx), .inl ?_⟩
        · intro v' hv'; simp [S.val, hk] at hv'; exact hv'.symm
        · intro k' off' hx; cases hx; rw [hk]; intro h; cases h
        · intro w'; simp [execOp, hop, hev]
    · rename_i ad hv
      exact ⟨_, _, u, h, hs.put_v hd, .inl (fun w' => by simp [execOp, hop, hs.eval_v hv])⟩
    · exact h.elim
  | convert src dst y =>
    have hsd : (src == dst) = false := by rw [hop] at hf; simpa [floating] using hf
    simp only [hop, hsd, cond_false] at h
    rw [← hop]
    split at h
    · rename_i va hy
      exact fin (near_byRead (fun w' => by simp [execOp, hop, hs.eval_v hy]) hs hd h)
    · exact h.elim
  | index T y i =>
    simp only [hop] at h
    rw [← hop]
    split at h
    · rename_i va vb hy hz
      exact fin (near_byRead (fun w' => by simp [execOp, hop, hs.eval_v hy, hs.eval_v hz]) hs hd h)
    · exact h.elim
  | lookup T y i ok =>
    simp only [hop] at h
    rw [← hop]
    split at h
    · rename_i va vb hy hz
      exact fin (near_byRead (fun w' => by simp [execOp, hop, hs.eval_v hy, hs.eval_v hz]) hs hd h)
    · exact h.elim
  | call c =>
    obtain ⟨callee, args, tys⟩ := c
    cases callee with
    | value f => rw [hop] at hf; simp [floating] at hf
    | invoke r m => rw [hop] at hf; simp [floating] at hf
    | builtin b =>
      rw [hop] at hf hp'
      simp only [hop, vcCall, bLen, bCap, bMin, bMax, bApp, bCopy, bDel, bClr, iLit, iBuild, iSlice, iStore, iIndex, iLook, iMake, iMap, iUpd, iEnt, iEnts, iUn, iConv] at h
      rw [← hop]
      cases b <;> simp only [floating, floats, Bool.false_eq_true] at hf <;> simp only [pureOp, Bool.true_eq_false] at hp'
      all_goals
        simp only at h
        split at h
        · rename_i vs hv
          refine fin (near_byRead (fun w' => ?_) hs hd h)
          obtain ⟨consts, hr⟩ := run_builtin (P := P) hop (vals_eval hs hv) w'
          rw [hr]
          simp [builtin]
        · exact h.elim
  | _ => rw [hop] at hf hp'; simp [floating, pureOp] at hf hp'

/-- A new local variable: where it lies. -/
theorem ef_alloc {o : Oper} {x : Bool} (hn : newD o ≠ none) (hs : Sim C s u a w) (hd : okDst C.n o.dst = true) (h : vcOp P x C.u0 o K s u) (Q : Exit → Act → World → Prop) :
    o.wp P a w (fun a' w' => Ext w w' ∧ ∃ d cs T, newD o = some d ∧ Sim C (addLoc s d w.heap.size cs T) u a' w' ∧ K (addLoc s d w.heap.size cs T) u) Q := by
  unfold vcOp at h
  have key : ∀ {d : Nat} {cs : Array Value} {T : TypeId}, o.dst = some d → newD o = some d → (execOp a.eval o).run P w = .ok (.value (.pointer (some ⟨w.heap.size, 0, none⟩))) { w with heap := w.heap.push (.cells cs T) } →
      s.find d = none → (∀ b, K (addLoc s d b cs.toList T) u) → o.wp P a w (fun a' w' => Ext w w' ∧ ∃ d cs T, newD o = some d ∧ Sim C (addLoc s d w.heap.size cs T) u a' w' ∧ K (addLoc s d w.heap.size cs T) u) Q := by
    intro d cs T hdst hnd he hf hK
    simp only [Oper.wp, he, Oper.upon]
    refine ⟨heap_push_ext _ _, d, _, T, hnd, ?_, hK w.heap.size⟩
    rw [hdst] at hd ⊢
    exact hs.addLoc (by simpa [okDst] using hd) hf
  cases hop : o.op with
  | alloc T =>
    simp only [hop] at h
    split at h
    · rename_i cs d hz hdst
      unfold zeroOf at hz
      split at hz
      · rename_i i hi
        cases hz0 : i.zero with
        | none => simp [hz0] at hz
        | some z =>
          simp [hz0] at hz
          subst hz
          refine key (cs := z.cells) (T := T) hdst (by simp [newD, hop, hdst]) ?_ h.1 (by simpa using h.2)
          simp [execOp, hop, Instr.alloc, zeroValue, typeInfo, hi, hz0, newVar, newRow]
      · cases hz
    · exact h.elim
  | box T y =>
    simp only [hop] at h
    split at h
    · rename_i va d hy hdst
      refine key (cs := va.cells) (T := T) hdst (by simp [newD, hop, hdst]) ?_ h.1 (by simpa using h.2)
      simp [execOp, hop, Instr.box, hs.eval_v hy, newVar, newRow]
    · exact h.elim
  | _ => exact (hn (by simp [newD, hop])).elim

/-- A store to a local variable: nothing else changes. -/
theorem ef_storeL {o : Oper} {x : Bool} {T : TypeId} {y z : Operand} (hop : o.op = .store T y z) (hst : stSV ks (s.sv y)) (hs : Sim C s u a w) (hd : okDst C.n o.dst = true)
    (h : vcStore P x C.u0 T (s.sv y) (s.sv z) o.dst K s u) (Q : Exit → Act → World → Prop) :
    o.wp P a w (fun a' w' => ∃ k l, memB ks k = true ∧ s.find k = some l ∧ (∀ b, b ≠ l.b → w'.heap[b]? = w.heap[b]?) ∧ ∃ s' u', Sim C s' u' a' w' ∧ K s' u') Q := by
  unfold vcStore at h
  simp only [iStore] at h
  split at h
  · rename_i va hz
    have hez := hs.eval_v hz
    split at h
    · rename_i k off hy
      rw [hy] at hst
      split at h
      · rename_i l ag n hk hl
        obtain ⟨h1, h2, h3, hK⟩ := h
        obtain ⟨g1, g2, g3⟩ := hs.locs k l hk
        have hey : a.eval y = .pointer (some ⟨l.b, off, none⟩) := hs.eval (by rw [hy]; simp [S.val, hk])
        have hst2 := run_storeCells_at P l.b off l.T va.cells.toList 0 l.cells.toArray w g1 (by simp only [Nat.add_zero, List.size_toArray]; rw [h1]; exact h2) (allOne_mem h3)
        simp only [Nat.add_zero] at hst2
        have hsz := (run_lay hl w).2
        have hrun : (execOp a.eval o).run P w = .ok .skip (w.setRow l.b (splice l.cells off va.cells.toList).toArray) := by
          have hc : va.cells.size = n := by simpa using h1
          simp [execOp, hop, hey, hez, Instr.storeAt, Instr.sureAddr, storeVar, hsz, hc, hst2, splice]
        simp only [Oper.wp, hrun, Oper.upon]
        exact ⟨k, l, hst, hk, fun b hb => setRow_other w l.b b _ hb, _, u, (hs.setLoc hk).put_v hd, hK⟩
      · exact h.elim
    · rename_i p hy
      rw [hy] at hst
      exact hst.elim
    · rename_i sv sz i off hy
      rw [hy] at hst
      exact hst.elim
    · rename_i hy
      rw [hy] at hst
      exact hst.elim
  · exact h.elim

/-- What is held: the read still yields the same. -/
def HInv (ks : List Nat) (s : S) (w : World) (R : World → Prop) : Prop :=
  ∃ s0 u0, R = Near ks s0 u0 ∧ Near ks s0 u0 w ∧ ∀ k l, memB ks k = true → s.find k = some l → Fresh u0 l.b ∧ ∀ k0 l0, s0.find k0 = some l0 → memB ks k0 = false → l0.b ≠ l.b

theorem HInv.self (hs : Sim C s u a w) : HInv ks s w (Near ks s u) := by
  refine ⟨s, u, rfl, near_self hs, fun k l hm hk => ⟨(hs.locs k l hk).2.1, fun k0 l0 hk0 hm0 => hs.dist k0 k l0 l hk0 hk (fun e => ?_)⟩⟩
  rw [e, hm] at hm0
  cases hm0
theorem HInv.holds {R : World → Prop} (h : HInv ks s w R) : R w := by
  obtain ⟨s0, u0, rfl, h1, _⟩ := h
  exact h1
/-- Behind a step that extends the world. -/
theorem HInv.ext {R : World → Prop} {s' : S} {w' : World} (h : HInv ks s w R) (he : Ext w w') (hk : ∀ k l', memB ks k = true → s'.find k = some l' → (∃ l, s.find k = some l ∧ l.b = l'.b) ∨ w.heap.size ≤ l'.b) : HInv ks s' w' R := by
  obtain ⟨s0, u0, rfl, h1, h2⟩ := h
  refine ⟨s0, u0, rfl, h1.ext he, fun k l' hm hf => ?_⟩
  rcases hk k l' hm hf with ⟨l, hl, e⟩ | hge
  · have := h2 k l hm hl
    rw [e] at this
    exact this
  · refine ⟨fresh_of_ge h1.1 hge, fun k0 l0 hk0 hm0 => ?_⟩
    have := lt_of_some (h1.2 k0 l0 hk0 hm0)
    omega
/-- Behind a store to a local variable. -/
theorem HInv.store {R : World → Prop} {s' : S} {w' : World} {k : Nat} {l : Loc} (h : HInv ks s w R) (hm : memB ks k = true) (hk : s.find k = some l) (ho : ∀ b, b ≠ l.b → w'.heap[b]? = w.heap[b]?)
    (hkeep : ∀ k l', memB ks k = true → s'.find k = some l' → ∃ l, s.find k = some l ∧ l.b = l'.b) : HInv ks s' w' R := by
  obtain ⟨s0, u0, rfl, h1, h2⟩ := h
  obtain ⟨hf, hne⟩ := h2 k l hm hk
  refine ⟨s0, u0, rfl, ⟨fun b o hb hn => ?_, fun k0 l0 hk0 hm0 => ?_⟩, fun k1 l1 hm1 hf1 => ?_⟩
  · have hbl : b ≠ l.b := fun e => hn (hf o (e ▸ hb))
    rw [ho b hbl]
    exact h1.1 b o hb hn
  · rw [ho _ (hne k0 l0 hk0 hm0)]
    exact h1.2 k0 l0 hk0 hm0
  · obtain ⟨l2, hl2, e⟩ := hkeep k1 l1 hm1 hf1
    have := h2 k1 l2 hm1 hl2
    rw [e] at this
    exact this
end
end Go.Eng
