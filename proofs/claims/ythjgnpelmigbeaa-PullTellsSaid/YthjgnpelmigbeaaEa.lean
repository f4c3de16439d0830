/-
  Engine, part A: known heaps ('Sub', 'Ext'), and one order for a region that draws its order.
-/
import Derived.OrdersHeld
import Derived.Laws.Sem
import Derived.KernelRfl
set_option linter.unusedSimpArgs false
set_option linter.unusedVariables false
namespace Go.Eng

/-- The object that says nothing. -/
def junk : Obj := .pending #[] 0

/-- All that 'u' knows stands in 'w'. -/
def Sub (u w : World) : Prop := ∀ (b : Nat) (o : Obj), u.heap[b]? = some o → o ≠ junk → w.heap[b]? = some o
/-- All blocks of 'w' stand unchanged in 'w''. -/
def Ext (w w' : World) : Prop := ∀ (b : Nat) (o : Obj), w.heap[b]? = some o → w'.heap[b]? = some o
/-- 'u' knows nothing of block 'b'. -/
def Fresh (u : World) (b : Nat) : Prop := ∀ o : Obj, u.heap[b]? = some o → o = junk

theorem Sub.refl (u : World) : Sub u u := fun _ _ h _ => h
theorem Sub.trans {u v w : World} (h : Sub u v) (h' : Sub v w) : Sub u w := fun b o hb ho => h' b o (h b o hb ho) ho
theorem Ext.refl (w : World) : Ext w w := fun _ _ h => h
theorem Ext.trans {u v w : World} (h : Ext u v) (h' : Ext v w) : Ext u w := fun b o hb => h' b o (h b o hb)
theorem Ext.sub {w w' : World} (h : Ext w w') : Sub w w' := fun b o hb _ => h b o hb
theorem Fresh.anti {u v : World} {b : Nat} (h : Sub u v) (hf : Fresh v b) : Fresh u b := fun o ho =>
  Classical.byContradiction fun hn => hn (hf o (h b o ho hn))

theorem Ext.size {w w' : World} (h : Ext w w') : w.heap.size ≤ w'.heap.size := by
  rcases Nat.lt_or_ge w'.heap.size w.heap.size with hlt | hge
  · have h1 := h w'.heap.size _ (Array.getElem?_eq_getElem hlt)
    simp at h1
  · exact hge

theorem lt_of_some {w : World} {b : Nat} {o : Obj} (h : w.heap[b]? = some o) : b < w.heap.size := (Array.getElem?_eq_some_iff.1 h).1

theorem Sub.lt {u w : World} {b : Nat} {o : Obj} (h : Sub u w) (hb : u.heap[b]? = some o) (ho : o ≠ junk) : b < w.heap.size := lt_of_some (h b o hb ho)

theorem fresh_of_ge {u w : World} (h : Sub u w) {b : Nat} (hb : w.heap.size ≤ b) : Fresh u b := fun o ho =>
  Classical.byContradiction fun hn => by have := h.lt ho hn; omega

theorem cells_ne_junk {c : Array Value} {t : TypeId} {f : Nat × Nat} : Obj.cells c t f ≠ junk := by intro h; cases h
theorem map_ne_junk {c : Array MapEntry} {t : Nat} : Obj.map c t ≠ junk := by intro h; cases h

theorem cell?_some {w : World} {a : Addr} {v : Value} (h : w.cell? a = some v) :
    ∃ c t f, w.heap[a.block]? = some (.cells c t f) ∧ a.spot = none ∧ c[a.off]? = some v := by
  unfold World.cell? at h
  split at h
  · rename_i c t f hb
    split at h
    · cases h
    · rename_i hs
      exact ⟨c, t, f, hb, by simpa using hs, h⟩
  · cases h

theorem cell?_of {w : World} {b off : Nat} {v : Value} {c : Array Value} {t : TypeId} {f : Nat × Nat} (h : w.heap[b]? = some (.cells c t f)) (hv : c[off]? = some v) :
    w.cell? ⟨b, off, none⟩ = some v := by
  simp [World.cell?, h, hv]

theorem Sub.cell {u w : World} {a : Addr} {v : Value} (hs : Sub u w) (h : u.cell? a = some v) : w.cell? a = some v := by
  obtain ⟨c, t, f, hb, hsp, hv⟩ := cell?_some h
  have := cell?_of (hs _ _ hb cells_ne_junk) hv
  obtain ⟨b, o, sp⟩ := a
  cases hsp
  exact this

theorem ext_drawn (w : World) (n : Nat) : Ext w { w with drawn := n } := fun _ _ h => h

/-! ### A region that draws its order: one order serves -/

/-- Operations that leave the world alone. -/
def floats : Builtin → Bool
  | .len | .cap | .min | .max => true
  | _ => false

def floating : Op → Bool
  | .move _ | .assign _ | .pick .. | .load .. | .nilCheck _ | .binOp .. | .unOp .. | .convert .. | .makeFunc .. | .build .. | .slice .. | .fieldAddr .. | .field .. | .indexAddr ..
  | .index .. | .lookup .. | .extract .. => true
  | .call { callee := .builtin b, .. } => floats b
  | _ => false

/-- Those of them that look at nothing but their operands. -/
def pureOp : Op → Bool
  | .move _ | .assign _ | .pick .. | .binOp .. | .unOp .. | .makeFunc .. | .build .. | .slice .. | .fieldAddr .. | .field .. | .indexAddr .. | .extract .. => true
  | _ => false

/-- Which operation waits for which, of those that stand ahead. -/
def ancs : List Oper → List (List Nat) → List (List Nat)
  | [], acc => acc
  | o :: r, acc => ancs r (acc ++ [(o.after.toList.flatMap fun e => if Region.binds .any e then e.on :: acc.getD e.on [] else []).eraseDups])

def okAnc (ops : Array Oper) (A : List (List Nat)) : Bool :=
  (List.range ops.size).all fun j => (A.getD j []).all fun p =>
    match ops[j]? with
    | some o => o.after.toList.any fun e => Region.binds .any e && e.on < j && (e.on == p || (A.getD e.on []).contains p)
    | none => false

/-- 'i' may stand ahead of 'j' in the order: 'j' waits for it, or it floats and the two are apart. -/
def okPair (ops : Array Oper) (A : List (List Nat)) (i j : Nat) : Bool :=
  match ops[i]?, ops[j]? with
  | some oi, some oj => (A.getD j []).contains i || (floating oi.op && oi.apart ops oj)
  | _, _ => false

def okPairs (ops : Array Oper) (A : List (List Nat)) : List Nat → Bool
  | [] => true
  | i :: r => r.all (okPair ops A i) && okPairs ops A r

def okBack (ops : Array Oper) : Bool :=
  (List.range ops.size).all fun j => match ops[j]? with
    | some o => o.after.toList.all fun e => !Region.binds .any e || decide (e.on < j)
    | none => false

def nodupB : List Nat → Bool
  | [] => true
  | i :: r => !r.contains i && nodupB r

def okOrd (ops : Array Oper) (ord : List Nat) : Bool :=
  okAnc ops (ancs ops.toList []) && okPairs ops (ancs ops.toList []) ord && okBack ops && Region.noSelect ops && nodupB ord &&
  ord.length == ops.size && ord.all (· < ops.size) && (List.range ops.size).all fun i => ord.contains i

section
variable {P : Program} {ops : Array Oper} {Q : Exit → Act → World → Prop}

/-- What a floating operation yields: in whatever world, or (where it looks at memory) in every one that extends this. -/
def Yld (P : Program) (ops : Array Oper) (o : Oper) (v : Value) (a : Act) (w : World) : Prop :=
  if pureOp o.op then Yields P ops o v a else YieldsIf P ops (Ext w) o v a

/-- The one order: what floats yields; behind any other operation the world is extended, or it waited for all that was read ahead of it. -/
def wpD (P : Program) (ops : Array Oper) (A : List (List Nat)) (Q : Exit → Act → World → Prop) : List Nat → List Nat → Act → World → Prop
  | _, [], a, w => Q .normal a w
  | acc, i :: rest, a, w =>
    match ops[i]? with
    | none => False
    | some o =>
      if floating o.op then ∃ v, Yld P ops o v a w ∧ wpD P ops A Q (if pureOp o.op then acc else i :: acc) rest (a.put o.dst v) w
      else wpOp P ops Q i (fun a' w' => (Ext w w' ∨ ∀ y ∈ acc, (A.getD i []).contains y = true) ∧ wpD P ops A Q acc rest a' w') a w

theorem Yld.yieldsIf {o : Oper} {v : Value} {a : Act} {w : World} (h : Yld P ops o v a w) : YieldsIf P ops (Ext w) o v a := by
  unfold Yld at h
  split at h
  · exact h.yieldsIf
  · exact h

theorem yieldsIf_ext {o : Oper} {v : Value} {a : Act} {w w' : World} (h : YieldsIf P ops (Ext w) o v a) (he : Ext w w') : YieldsIf P ops (Ext w') o v a :=
  h.imp (fun ⟨hw, hv⟩ => ⟨hw, fun w'' he' => hv w'' (he.trans he')⟩) id

theorem Yld.of_same {o : Oper} {v : Value} {a a' : Act} {w : World} (hy : Yld P ops o v a w) (he : execOp a'.eval o = execOp a.eval o)
    (hw : Region.wanted o (yielded ops a'.tmps) = Region.wanted o (yielded ops a.tmps)) : Yld P ops o v a' w := by
  unfold Yld at *
  split
  · rename_i h; simp only [h, if_true] at hy; exact Yields.of_same hy he hw
  · rename_i h; simp only [h] at hy; exact YieldsIf.of_same hy he hw

/-- A panic's ending does not look at the frame. -/
def Blind (Q : Exit → Act → World → Prop) : Prop := ∀ c a w d v, Q (.panic c) (Act.put a d v) w → Q (.panic c) a w

theorem wpD_acc (A : List (List Nat)) : ∀ (l acc acc' : List Nat) (a : Act) (w : World), (∀ x ∈ acc', x ∈ acc) → wpD P ops A Q acc l a w → wpD P ops A Q acc' l a w := by
  intro l
  induction l with
  | nil => intro acc acc' a w _ h; exact h
  | cons i rest ih =>
    intro acc acc' a w hsub h
    simp only [wpD] at h ⊢
    cases ho : ops[i]? with
    | none => simp only [ho] at h
    | some o =>
      simp only [ho] at h ⊢
      by_cases hf : floating o.op = true
      · simp only [hf, if_true] at h ⊢
        obtain ⟨v, hy, h⟩ := h
        refine ⟨v, hy, ih _ _ _ _ ?_ h⟩
        split
        · exact hsub
        · intro x hx
          rcases List.mem_cons.1 hx with rfl | hx
          · exact List.mem_cons_self
          · exact List.mem_cons_of_mem _ (hsub x hx)
      · simp only [hf, Bool.false_eq_true, if_false] at h ⊢
        exact wpOp_mono (fun a' w' ⟨h1, h2⟩ => ⟨h1.imp id (fun h1 y hy => h1 y (hsub y hy)), ih _ _ _ _ hsub h2⟩) h

/-- Move 'i' ahead of what floats and is apart from it. -/
theorem move (A : List (List Nat)) (hns : Region.noSelect ops = true) (hQ : Blind Q) {i : Nat} {o : Oper} (hi : ops[i]? = some o) (post : List Nat) :
    ∀ (pre acc : List Nat) (a : Act) (w : World),
      (∀ p ∈ pre, ∃ op, ops[p]? = some op ∧ floating op.op = true ∧ op.apart ops o = true ∧ (A.getD i []).contains p = false) →
      wpD P ops A Q acc (pre ++ i :: post) a w →
      (floating o.op = true → ∃ v, Yld P ops o v a w ∧ wpD P ops A Q acc (pre ++ post) (a.put o.dst v) w) ∧
      (floating o.op = false → wpOp P ops Q i (fun a' w' => (Ext w w' ∨ ∀ y ∈ acc, (A.getD i []).contains y = true) ∧ wpD P ops A Q acc (pre ++ post) a' w') a w) := by
  intro pre
  have hsi : ∀ cs b, o.op ≠ .select cs b := fun cs b => Region.noSelect_spec hns i o cs b hi
  induction pre with
  | nil =>
    intro acc a w _ h
    simp only [List.nil_append, wpD, hi] at h
    refine ⟨fun hf => ?_, fun hf => ?_⟩
    · simp only [hf, if_true] at h
      obtain ⟨v, hy, h⟩ := h
      refine ⟨v, hy, wpD_acc A _ _ _ _ _ ?_ h⟩
      intro x hx
      split
      · exact hx
      · exact List.mem_cons_of_mem _ hx
    · simp only [hf] at h
      exact h
  | cons p pre ih =>
    intro acc a w hpre h
    obtain ⟨op, hop, hfl, hap, hnc⟩ := hpre p List.mem_cons_self
    have hsp : ∀ cs b, op.op ≠ .select cs b := fun cs b => Region.noSelect_spec hns p op cs b hop
    obtain ⟨h1, h2, h3⟩ := Oper.apart_spec hap
    simp only [List.cons_append, wpD, hop, hfl, if_true] at h
    obtain ⟨vp, hyp, h⟩ := h
    obtain ⟨ihf, ihe⟩ := ih _ (a.put op.dst vp) w (fun q hq => hpre q (List.mem_cons_of_mem _ hq)) h
    refine ⟨fun hf => ?_, fun hf => ?_⟩
    · obtain ⟨v, hy, h⟩ := ihf hf
      refine ⟨v, hy.of_same (execOp_put o hsi a op.dst vp h1).symm (wanted_put o a op.dst vp h1).symm, ?_⟩
      simp only [List.cons_append, wpD, hop, hfl, if_true]
      refine ⟨vp, hyp.of_same (execOp_put op hsp a o.dst v h3) (wanted_put op a o.dst v h3), ?_⟩
      rw [← Act.put_comm a vp v h2]
      exact h
    · have he := ihe hf
      by_cases hpu : pureOp op.op = true
      · have hyp' : Yields P ops op vp a := by simpa [Yld, hpu] using hyp
        have hx := wpOp_put hi hap hsp hsi (fun c a w hq => hQ c a w _ _ hq) hyp' he
        refine wpOp_mono (fun a1 w1 ⟨hy1, hk, hd⟩ => ⟨?_, ?_⟩) hx
        · simpa [hpu] using hk
        · simp only [List.cons_append, wpD, hop, hfl, if_true]
          refine ⟨vp, by simpa [Yld, hpu] using hy1, ?_⟩
          exact hd
      · have hyp' : YieldsIf P ops (Ext w) op vp a := hyp.yieldsIf
        have hx := wpOp_putIf hi hap hsp hsi (fun c a w hq => hQ c a w _ _ hq) hyp' he
        refine wpOp_mono (fun a1 w1 ⟨hy1, hk, hd⟩ => ?_) hx
        have hext : Ext w w1 := by
          rcases hk with hk | hk
          · exact hk
          · have := hk p (by simp [hpu])
            rw [hnc] at this
            cases this
        refine ⟨.inl hext, ?_⟩
        simp only [List.cons_append, wpD, hop, hfl, if_true]
        refine ⟨vp, ?_, hd⟩
        simp only [Yld, hpu]
        exact yieldsIf_ext hy1 hext

/-- Every operation that is listed has all listed for which it waits. -/
def Closed (ops : Array Oper) (listed : Array Bool) : Prop :=
  ∀ j o, ops[j]? = some o → listed.getD j false = true → ∀ e ∈ o.after, Region.binds .any e = true → listed.getD e.on false = true

theorem anc_listed {A : List (List Nat)} (hA : okAnc ops A = true) {listed : Array Bool} (hc : Closed ops listed) :
    ∀ (j p : Nat) (o : Oper), ops[j]? = some o → (A.getD j []).contains p = true → (∀ e ∈ o.after, Region.binds .any e = true → listed.getD e.on false = true) → listed.getD p false = true := by
  intro j
  induction j using Nat.strongRecOn with
  | _ j ih =>
    intro p o ho hp hall
    have hj : j < ops.size := (Array.getElem?_eq_some_iff.1 ho).1
    simp only [okAnc, List.all_eq_true, List.mem_range] at hA
    have h1 := hA j hj p (by simpa using hp)
    simp only [ho] at h1
    obtain ⟨e, he, h2⟩ := List.any_eq_true.1 h1
    simp only [Bool.and_eq_true, decide_eq_true_eq, Bool.or_eq_true, beq_iff_eq] at h2
    obtain ⟨⟨hb, hlt⟩, h3⟩ := h2
    have hel := hall e (by simpa using he) hb
    rcases h3 with rfl | h3
    · exact hel
    · have hes : e.on < ops.size := by omega
      have hoe : ops[e.on]? = some ops[e.on] := Array.getElem?_eq_getElem hes
      exact ih e.on hlt p _ hoe h3 (fun e' he' hb' => hc e.on _ hoe hel e' he' hb')

theorem okPairs_mem {A : List (List Nat)} : ∀ {l : List Nat} {pre post : List Nat} {i : Nat}, okPairs ops A l = true → l = pre ++ i :: post →
    (∀ p ∈ pre, okPair ops A p i = true) ∧ okPairs ops A (pre ++ post) = true := by
  intro l
  induction l with
  | nil => intro pre post i _ h; cases pre <;> cases h
  | cons x l ih =>
    intro pre post i h hl
    simp only [okPairs, Bool.and_eq_true, List.all_eq_true] at h
    cases pre with
    | nil =>
      simp only [List.nil_append, List.cons.injEq] at hl
      obtain ⟨rfl, rfl⟩ := hl
      exact ⟨by simp, h.2⟩
    | cons p pre =>
      simp only [List.cons_append, List.cons.injEq] at hl
      obtain ⟨rfl, rfl⟩ := hl
      obtain ⟨h1, h2⟩ := ih h.2 rfl
      refine ⟨fun q hq => ?_, ?_⟩
      · rcases List.mem_cons.1 hq with rfl | hq
        · exact h.1 i (by simp)
        · exact h1 q hq
      · simp only [List.cons_append, okPairs, Bool.and_eq_true, List.all_eq_true]
        refine ⟨fun y hy => h.1 y ?_, h2⟩
        rcases List.mem_append.1 hy with hy | hy
        · exact List.mem_append_left _ hy
        · exact List.mem_append_right _ (List.mem_cons_of_mem _ hy)

theorem any_of_wpD (A : List (List Nat)) (hA : okAnc ops A = true) (hbk : okBack ops = true) (hns : Region.noSelect ops = true) (hQ : Blind Q) :
    ∀ (fuel : Nat) (ord : List Nat) (listed : Array Bool) (a : Act) (w : World), ord.length = fuel → listed.size = ops.size → Closed ops listed →
      (∀ j, j < ops.size → listed.getD j true = false → j ∈ ord) → (∀ j ∈ ord, listed.getD j true = false) → ord.Nodup → okPairs ops A ord = true → wpD P ops A Q [] ord a w →
      wpAny P .any ops Q fuel listed a w := by
  intro fuel
  induction fuel with
  | zero =>
    intro ord listed a w hl _ _ hcov _ _ _ h
    have : ord = [] := by cases ord <;> simp_all
    subst this
    have hr : Region.ready .any ops listed = [] := by
      cases hr : Region.ready .any ops listed with
      | nil => rfl
      | cons x xs =>
        have hx : x ∈ Region.ready .any ops listed := by rw [hr]; exact List.mem_cons_self
        obtain ⟨h0, o, ho, _⟩ := mem_ready.1 hx
        have := hcov x (Array.getElem?_eq_some_iff.1 ho).1 h0
        cases this
    exact ⟨hr, h⟩
  | succ fuel ih =>
    intro ord listed a w hl hsz hc hcov hun hnd hok h
    -- whichever is ready
    have step : ∀ i ∈ Region.ready .any ops listed, wpOp P ops Q i (wpAny P .any ops Q fuel (listed.setIfInBounds i true)) a w := by
      intro i hi
      obtain ⟨h0, o, ho, hall⟩ := mem_ready.1 hi
      have hio := hcov i (Array.getElem?_eq_some_iff.1 ho).1 h0
      obtain ⟨pre, post, hord⟩ := List.append_of_mem hio
      obtain ⟨hp, hok'⟩ := okPairs_mem hok hord
      have hpre : ∀ p ∈ pre, ∃ op, ops[p]? = some op ∧ floating op.op = true ∧ op.apart ops o = true ∧ (A.getD i []).contains p = false := by
        intro p hpm
        have h1 := hp p hpm
        unfold okPair at h1
        cases hop : ops[p]? with
        | none => simp [hop] at h1
        | some op =>
          simp only [hop, ho, Bool.or_eq_true, Bool.and_eq_true] at h1
          have hpun := hun p (by rw [hord]; exact List.mem_append_left _ hpm)
          have hnc : (A.getD i []).contains p = false := by
            cases hcon : (A.getD i []).contains p with
            | false => rfl
            | true =>
              have h2 := anc_listed hA hc i p o ho hcon hall
              have hps : p < listed.size := by rw [hsz]; exact (Array.getElem?_eq_some_iff.1 hop).1
              simp [hps] at h2 hpun
              rw [h2] at hpun; cases hpun
          rcases h1 with h1 | h1
          · rw [hnc] at h1; cases h1
          · exact ⟨op, rfl, h1.1, h1.2, hnc⟩
      have hil : i < listed.size := by rw [hsz]; exact (Array.getElem?_eq_some_iff.1 ho).1
      have next : ∀ a' w', wpD P ops A Q [] (pre ++ post) a' w' → wpAny P .any ops Q fuel (listed.setIfInBounds i true) a' w' := by
        intro a' w' hd
        have hnd' : i ∉ pre ++ post ∧ (pre ++ post).Nodup := by
          rw [hord] at hnd
          have hp := hnd.perm (List.perm_middle)
          exact List.nodup_cons.1 hp
        refine ih (pre ++ post) (listed.setIfInBounds i true) a' w' ?_ (by simpa using hsz) ?_ ?_ ?_ hnd'.2 hok' hd
        · rw [hord] at hl; simp at hl ⊢; omega
        · intro j oj hoj hlj e he hb
          by_cases hji : i = j
          · subst hji
            rw [ho] at hoj; cases hoj
            exact getD_set_true (hall e he hb)
          · rw [getD_set_ne false hji] at hlj
            exact getD_set_true (hc j oj hoj hlj e he hb)
        · intro j hj hlj
          by_cases hji : i = j
          · subst hji; simp [hil] at hlj
          · rw [getD_set_ne true hji] at hlj
            have := hcov j hj hlj
            rw [hord] at this
            rcases List.mem_append.1 this with h | h
            · exact List.mem_append_left _ h
            · rcases List.mem_cons.1 h with h | h
              · exact absurd h.symm hji
              · exact List.mem_append_right _ h
        · intro j hj
          have hji : i ≠ j := fun e => hnd'.1 (e ▸ hj)
          rw [getD_set_ne true hji]
          refine hun j ?_
          rw [hord]
          rcases List.mem_append.1 hj with h | h
          · exact List.mem_append_left _ h
          · exact List.mem_append_right _ (List.mem_cons_of_mem _ h)
      obtain ⟨mf, me⟩ := move A hns hQ ho post pre [] a w hpre (by rw [← hord]; exact h)
      cases hf : floating o.op with
      | true =>
        obtain ⟨v, hy, hd⟩ := mf hf
        exact hy.yieldsIf.wpOp ho (Ext.refl w) (next _ _ hd)
      | false => exact wpOp_mono (fun a' w' hk => next a' w' hk.2) (me hf)
    refine ⟨fun hr => ?_, step⟩
    -- somebody is ready: the least one that is not listed
    exfalso
    have key : ∀ j, j < ops.size → listed.getD j true = false → False := by
      intro j
      induction j using Nat.strongRecOn with
      | _ j ihn =>
        intro hjs hlj
        have hoj : ops[j]? = some ops[j] := Array.getElem?_eq_getElem hjs
        have hb := hbk
        simp only [okBack, List.all_eq_true, List.mem_range] at hb
        have hb := hb j hjs
        simp only [hoj, List.all_eq_true, Bool.or_eq_true, Bool.not_eq_true', decide_eq_true_eq] at hb
        have hnr : j ∉ Region.ready .any ops listed := by rw [hr]; exact List.not_mem_nil
        refine hnr (mem_ready.2 ⟨hlj, _, hoj, fun e he hbe => ?_⟩)
        have hlt : e.on < j := by
          rcases hb e (by simpa using he) with h | h
          · rw [hbe] at h; cases h
          · exact h
        have hes : e.on < listed.size := by omega
        cases hle : listed.getD e.on false with
        | true => rfl
        | false =>
          exact (ihn e.on hlt (by omega) (by simpa [hes] using hle)).elim
    cases ord with
    | nil => simp at hl
    | cons x xs =>
      have hx := hun x List.mem_cons_self
      have hxs : x < listed.size := by
        rcases Nat.lt_or_ge x listed.size with h' | h'
        · exact h'
        · simp [Array.getElem?_eq_none h'] at hx
      exact key x (by omega) hx

theorem nodupB_spec : ∀ {l : List Nat}, nodupB l = true → l.Nodup := by
  intro l
  induction l with
  | nil => intro _; exact List.nodup_nil
  | cons i r ih =>
    intro h
    simp only [nodupB, Bool.and_eq_true, Bool.not_eq_true'] at h
    exact List.nodup_cons.2 ⟨by simpa using h.1, ih h.2⟩

/-- **A region that draws its order, by one order.** -/
theorem wp_region_ord {id : Nat} {ord : List Nat} (hm : P.follows .mixedOrders = true) (hord : okOrd ops ord = true) (hQ : Blind Q) {a : Act} {w : World}
    (h : wpD P ops (ancs ops.toList []) Q [] ord a { w with drawn := w.drawn + 1 }) : (Code.region id ops true).wp P Q a w := by
  simp only [okOrd, Bool.and_eq_true] at hord
  obtain ⟨⟨⟨⟨⟨⟨⟨h1, h2⟩, h3⟩, h4⟩, h5⟩, h6⟩, h7⟩, h8⟩ := hord
  simp only [List.all_eq_true, List.mem_range, decide_eq_true_eq] at h7 h8
  have hlen : ord.length = ops.size := by simpa using h6
  refine wp_region_any hm (any_of_wpD _ h1 h3 h4 hQ ops.size ord _ a _ hlen (by simp) ?_ ?_ ?_ (nodupB_spec h5) h2 h)
  · intro j o hj hl
    have hjs := (Array.getElem?_eq_some_iff.1 hj).1
    simp [hjs] at hl
  · intro j hj _
    simpa using h8 j hj
  · intro j hj
    simp [h7 j hj]

end
end Go.Eng
