/-
 Part 2 of the proof of Pj: the engine and the walks, in their order.
-/
import Derived.Test.YtlaefellhnkfbaaGreatPj1
import Derived.OrdersHeld
import Derived.Laws.Sem
import Derived.KernelRfl
set_option linter.unusedSimpArgs false
set_option linter.unusedVariables false
namespace Go.Eng
def iN : Obj := .pending #[] 0
def Sub (u w : World) : Prop := ∀ (b : Nat) (o : Obj), u.heap[b]? = some o → o ≠ iN → w.heap[b]? = some o
def Ext (w w' : World) : Prop := ∀ (b : Nat) (o : Obj), w.heap[b]? = some o → w'.heap[b]? = some o
def Fresh (u : World) (b : Nat) : Prop := ∀ o : Obj, u.heap[b]? = some o → o = iN
theorem Sub.refl (u : World) : Sub u u := fun _ _ h _ => h
theorem Sub.trans {u v w : World} (h : Sub u v) (h' : Sub v w) : Sub u w := fun b o hb ho => h' b o (h b o hb ho) ho
theorem Ext.refl (w : World) : Ext w w := fun _ _ h => h
theorem Ext.trans {u v w : World} (h : Ext u v) (h' : Ext v w) : Ext u w := fun b o hb => h' b o (h b o hb)
theorem Ext.sub {w w' : World} (h : Ext w w') : Sub w w' := fun b o hb _ => h b o hb
theorem Fresh.anti {u v : World} {b : Nat} (h : Sub u v) (hf : Fresh v b) : Fresh u b := fun o ho =>
 Classical.byContradiction fun hn => hn (hf o (h b o ho hn))
theorem Ext.size {w w' : World} (h : Ext w w') : w.heap.size ≤ w'.heap.size := by
 rcases Nat.lt_or_ge w'.heap.size w.heap.size with hlt | hge
 ·have h1 := h w'.heap.size _ (Array.getElem?_eq_getElem hlt)
  simp at h1
 ·exact hge
theorem aP {w : World} {b : Nat} {o : Obj} (h : w.heap[b]? = some o) : b < w.heap.size := (Array.getElem?_eq_some_iff.1 h).1
theorem Sub.lt {u w : World} {b : Nat} {o : Obj} (h : Sub u w) (hb : u.heap[b]? = some o) (ho : o ≠ iN) : b < w.heap.size := aP (h b o hb ho)
theorem aE {u w : World} (h : Sub u w) {b : Nat} (hb : w.heap.size ≤ b) : Fresh u b := fun o ho =>
 Classical.byContradiction fun hn => by have := h.lt ho hn; omega
theorem ar {c : Array Value} {t : TypeId} {f : Nat × Nat} : Obj.cells c t f ≠ iN := by intro h; cases h
theorem ep {c : Array MapEntry} {t : Nat} : Obj.map c t ≠ iN := by intro h; cases h
theorem fk {w : World} {a : Addr} {v : Value} (h : w.cell? a = some v) :
  ∃ c t f, w.heap[a.block]? = some (.cells c t f) ∧ a.spot = none ∧ c[a.off]? = some v := by
 unfold World.cell? at h
 split at h
 ·rename_i c t f hb
  split at h
  ·cases h
  ·rename_i hs
   exact ⟨c, t, f, hb, by simpa using hs, h⟩
 ·cases h
theorem eS {w : World} {b off : Nat} {v : Value} {c : Array Value} {t : TypeId} {f : Nat × Nat} (h : w.heap[b]? = some (.cells c t f)) (hv : c[off]? = some v) :
  w.cell? ⟨b, off, none⟩ = some v := by
 simp [World.cell?, h, hv]
theorem Sub.cell {u w : World} {a : Addr} {v : Value} (hs : Sub u w) (h : u.cell? a = some v) : w.cell? a = some v := by
 obtain ⟨c, t, f, hb, hsp, hv⟩ := fk h
 have := eS (hs _ _ hb ar) hv
 obtain ⟨b, o, sp⟩ := a
 cases hsp
 exact this
theorem mR (w : World) (n : Nat) : Ext w { w with drawn := n } := fun _ _ h => h
def tX : Builtin → Bool
 | .len | .cap | .min | .max => true
 | _ => false
def az : Op → Bool
 | .move _ | .assign _ | .pick .. | .load .. | .nilCheck _ | .binOp .. | .unOp .. | .makeFunc .. | .build .. | .slice .. | .fieldAddr .. | .field .. | .indexAddr ..
 | .index .. | .lookup .. | .extract .. => true
 | .convert src dst _ => !(src == dst)
 | .call { callee := .builtin b, .. } => tX b
 | _ => false
def dK : Op → Bool
 | .move _ | .assign _ | .pick .. | .binOp .. | .unOp .. | .makeFunc .. | .build .. | .slice .. | .fieldAddr .. | .field .. | .indexAddr .. | .extract .. => true
 | .call { callee := .builtin .min, .. } => true
 | .call { callee := .builtin .max, .. } => true
 | _ => false
def ph : List Oper → List (List Nat) → List (List Nat)
 | [], acc => acc
 | o :: r, acc => ph r (acc ++ [(o.after.toList.flatMap fun e => if Region.binds .any e then e.on :: acc.getD e.on [] else []).eraseDups])
def pO (ops : Array Oper) (A : List (List Nat)) : Bool :=
 (List.range ops.size).all fun j => (A.getD j []).all fun p =>
  match ops[j]? with
  | some o => o.after.toList.any fun e => Region.binds .any e && e.on < j && (e.on == p || (A.getD e.on []).contains p)
  | none => false
def gW (ops : Array Oper) (A : List (List Nat)) (i j : Nat) : Bool :=
 match ops[i]?, ops[j]? with
 | some oi, some oj => (A.getD j []).contains i || (az oi.op && oi.apart ops oj)
 | _, _ => false
def dg (ops : Array Oper) (A : List (List Nat)) : List Nat → Bool
 | [] => true
 | i :: r => r.all (gW ops A i) && dg ops A r
def jy (ops : Array Oper) : Bool :=
 (List.range ops.size).all fun j => match ops[j]? with
  | some o => o.after.toList.all fun e => !Region.binds .any e || decide (e.on < j)
  | none => false
def sR : List Nat → Bool
 | [] => true
 | i :: r => !r.contains i && sR r
def sk (ops : Array Oper) (ord : List Nat) : Bool :=
 pO ops (ph ops.toList []) && dg ops (ph ops.toList []) ord && jy ops && Region.noSelect ops && sR ord &&
 ord.length == ops.size && ord.all (· < ops.size) && (List.range ops.size).all fun i => ord.contains i
section
variable {P : Program} {ops : Array Oper} {Q : Exit → Act → World → Prop}
def Yld (P : Program) (ops : Array Oper) (o : Oper) (v : Value) (a : Act) (w : World) : Prop :=
 if dK o.op then Yields P ops o v a else YieldsIf P ops (Ext w) o v a
def wpD (P : Program) (ops : Array Oper) (A : List (List Nat)) (Q : Exit → Act → World → Prop) : List Nat → List Nat → Act → World → Prop
 | _, [], a, w => Q .normal a w
 | acc, i :: rest, a, w =>
  match ops[i]? with
  | none => False
  | some o =>
   if az o.op then ∃ v, Yld P ops o v a w ∧ wpD P ops A Q (if dK o.op then acc else i :: acc) rest (a.put o.dst v) w
   else cp P ops Q i (fun a' w' => (Ext w w' ∨ ∀ y ∈ acc, (A.getD i []).contains y = true) ∧ wpD P ops A Q acc rest a' w') a w
theorem Yld.yieldsIf {o : Oper} {v : Value} {a : Act} {w : World} (h : Yld P ops o v a w) : YieldsIf P ops (Ext w) o v a := by
 unfold Yld at h
 split at h
 ·exact h.yieldsIf
 ·exact h
theorem s6 {o : Oper} {v : Value} {a : Act} {w w' : World} (h : YieldsIf P ops (Ext w) o v a) (he : Ext w w') : YieldsIf P ops (Ext w') o v a :=
 h.imp (fun ⟨hw, hv⟩ => ⟨hw, fun w'' he' => hv w'' (he.trans he')⟩) id
theorem Yld.of_same {o : Oper} {v : Value} {a a' : Act} {w : World} (hy : Yld P ops o v a w) (he : execOp a'.eval o = execOp a.eval o)
  (hw : Region.wanted o (yielded ops a'.tmps) = Region.wanted o (yielded ops a.tmps)) : Yld P ops o v a' w := by
 unfold Yld at *
 split
 ·rename_i h; simp only [h, if_true] at hy; exact Yields.of_same hy he hw
 ·rename_i h; simp only [h] at hy; exact YieldsIf.of_same hy he hw
def lC (Q : Exit → Act → World → Prop) : Prop := (∀ c a w d v, Q (.panic c) (Act.put a d v) w → Q (.panic c) a w) ∧ ¬ LetsOut Q
theorem ajh (A : List (List Nat)) : ∀ (l acc acc' : List Nat) (a : Act) (w : World), (∀ x ∈ acc', x ∈ acc) → wpD P ops A Q acc l a w → wpD P ops A Q acc' l a w := by
 intro l
 induction l with
 | nil => intro acc acc' a w _ h; exact h
 | cons i rest ih =>
  intro acc acc' a w hsub h
  simp only [wpD] at h ⊢
  cases ho : ops[i]? with
  | none => simp only [ho] at h
  | some o =>
   simp only [ho] at h ⊢
   by_cases hf : az o.op = true
   ·simp only [hf, if_true] at h ⊢
    obtain ⟨v, hy, h⟩ := h
    refine ⟨v, hy, ih _ _ _ _ ?_ h⟩
    split
    ·exact hsub
    ·intro x hx
     rcases List.mem_cons.1 hx with rfl | hx
     ·exact List.mem_cons_self
     ·exact List.mem_cons_of_mem _ (hsub x hx)
   ·simp only [hf, Bool.false_eq_true, if_false] at h ⊢
    exact ct (fun a' w' ⟨h1, h2⟩ => ⟨h1.imp id (fun h1 y hy => h1 y (hsub y hy)), ih _ _ _ _ hsub h2⟩) h
theorem move (A : List (List Nat)) (hns : Region.noSelect ops = true) (hQ : lC Q) {i : Nat} {o : Oper} (hi : ops[i]? = some o) (post : List Nat) :
  ∀ (pre acc : List Nat) (a : Act) (w : World),
   (∀ p ∈ pre, ∃ op, ops[p]? = some op ∧ az op.op = true ∧ op.apart ops o = true ∧ (A.getD i []).contains p = false) →
   wpD P ops A Q acc (pre ++ i :: post) a w →
   (az o.op = true → ∃ v, Yld P ops o v a w ∧ wpD P ops A Q acc (pre ++ post) (a.put o.dst v) w) ∧
   (az o.op = false → cp P ops Q i (fun a' w' => (Ext w w' ∨ ∀ y ∈ acc, (A.getD i []).contains y = true) ∧ wpD P ops A Q acc (pre ++ post) a' w') a w) := by
 intro pre
 have hsi : ∀ cs b, o.op ≠ .select cs b := fun cs b => Region.noSelect_spec hns i o cs b hi
 induction pre with
 | nil =>
  intro acc a w _ h
  simp only [List.nil_append, wpD, hi] at h
  refine ⟨fun hf => ?_, fun hf => ?_⟩
  ·simp only [hf, if_true] at h
   obtain ⟨v, hy, h⟩ := h
   refine ⟨v, hy, ajh A _ _ _ _ _ ?_ h⟩
   intro x hx
   split
   ·exact hx
   ·exact List.mem_cons_of_mem _ hx
  ·simp only [hf] at h
   exact h
 | cons p pre ih =>
  intro acc a w hpre h
  obtain ⟨op, hop, hfl, hap, hnc⟩ := hpre p List.mem_cons_self
  have hsp : ∀ cs b, op.op ≠ .select cs b := fun cs b => Region.noSelect_spec hns p op cs b hop
  obtain ⟨h1, h2, h3⟩ := Oper.apart_spec hap
  simp only [List.cons_append, wpD, hop, hfl, if_true] at h
  obtain ⟨vp, hyp, h⟩ := h
  obtain ⟨ihf, ihe⟩ := ih _ (a.put op.dst vp) w (fun q hq => hpre q (List.mem_cons_of_mem _ hq)) h
  refine ⟨fun hf => ?_, fun hf => ?_⟩
  ·obtain ⟨v, hy, h⟩ := ihf hf
   refine ⟨v, hy.of_same (execOp_put o hsi a op.dst vp h1).symm (wanted_put o a op.dst vp h1).symm, ?_⟩
   simp only [List.cons_append, wpD, hop, hfl, if_true]
   refine ⟨vp, hyp.of_same (execOp_put op hsp a o.dst v h3) (wanted_put op a o.dst v h3), ?_⟩
   rw [← Act.put_comm a vp v h2]
   exact h
  ·have he := ihe hf
   by_cases hpu : dK op.op = true
   ·have hyp' : Yields P ops op vp a := by simpa [Yld, hpu] using hyp
    have hx := acQ hi hap hsp hsi (fun c a w hq => hQ.1 c a w _ _ hq) hQ.2 hyp' he
    refine ct (fun a1 w1 ⟨hy1, hk, hd⟩ => ⟨?_, ?_⟩) hx
    ·simpa [hpu] using hk
    ·simp only [List.cons_append, wpD, hop, hfl, if_true]
     refine ⟨vp, by simpa [Yld, hpu] using hy1, ?_⟩
     exact hd
   ·have hyp' : YieldsIf P ops (Ext w) op vp a := hyp.yieldsIf
    have hx := ju hi hap hsp hsi (fun c a w hq => hQ.1 c a w _ _ hq) hQ.2 hyp' he
    refine ct (fun a1 w1 ⟨hy1, hk, hd⟩ => ?_) hx
    have hext : Ext w w1 := by
     rcases hk with hk | hk
     ·exact hk
     ·have := hk p (by simp [hpu])
      rw [hnc] at this
      cases this
    refine ⟨.inl hext, ?_⟩
    simp only [List.cons_append, wpD, hop, hfl, if_true]
    refine ⟨vp, ?_, hd⟩
    simp only [Yld, hpu]
    exact s6 hy1 hext
def oc (ops : Array Oper) (listed : Array Bool) : Prop :=
 ∀ j o, ops[j]? = some o → listed.getD j false = true → ∀ e ∈ o.after, Region.binds .any e = true → listed.getD e.on false = true
theorem ku {A : List (List Nat)} (hA : pO ops A = true) {listed : Array Bool} (hc : oc ops listed) :
  ∀ (j p : Nat) (o : Oper), ops[j]? = some o → (A.getD j []).contains p = true → (∀ e ∈ o.after, Region.binds .any e = true → listed.getD e.on false = true) → listed.getD p false = true := by
 intro j
 induction j using Nat.strongRecOn with
 | _ j ih =>
  intro p o ho hp hall
  have hj : j < ops.size := (Array.getElem?_eq_some_iff.1 ho).1
  simp only [pO, List.all_eq_true, List.mem_range] at hA
  have h1 := hA j hj p (by simpa using hp)
  simp only [ho] at h1
  obtain ⟨e, he, h2⟩ := List.any_eq_true.1 h1
  simp only [Bool.and_eq_true, decide_eq_true_eq, Bool.or_eq_true, beq_iff_eq] at h2
  obtain ⟨⟨hb, hlt⟩, h3⟩ := h2
  have hel := hall e (by simpa using he) hb
  rcases h3 with rfl | h3
  ·exact hel
  ·have hes : e.on < ops.size := by omega
   have hoe : ops[e.on]? = some ops[e.on] := Array.getElem?_eq_getElem hes
   exact ih e.on hlt p _ hoe h3 (fun e' he' hb' => hc e.on _ hoe hel e' he' hb')
theorem jb {A : List (List Nat)} : ∀ {l : List Nat} {pre post : List Nat} {i : Nat}, dg ops A l = true → l = pre ++ i :: post →
  (∀ p ∈ pre, gW ops A p i = true) ∧ dg ops A (pre ++ post) = true := by
 intro l
 induction l with
 | nil => intro pre post i _ h; cases pre <;> cases h
 | cons x l ih =>
  intro pre post i h hl
  simp only [dg, Bool.and_eq_true, List.all_eq_true] at h
  cases pre with
  | nil =>
   simp only [List.nil_append, List.cons.injEq] at hl
   obtain ⟨rfl, rfl⟩ := hl
   exact ⟨by simp, h.2⟩
  | cons p pre =>
   simp only [List.cons_append, List.cons.injEq] at hl
   obtain ⟨rfl, rfl⟩ := hl
   obtain ⟨h1, h2⟩ := ih h.2 rfl
   refine ⟨fun q hq => ?_, ?_⟩
   ·rcases List.mem_cons.1 hq with rfl | hq
    ·exact h.1 i (by simp)
    ·exact h1 q hq
   ·simp only [List.cons_append, dg, Bool.and_eq_true, List.all_eq_true]
    refine ⟨fun y hy => h.1 y ?_, h2⟩
    rcases List.mem_append.1 hy with hy | hy
    ·exact List.mem_append_left _ hy
    ·exact List.mem_append_right _ (List.mem_cons_of_mem _ hy)
theorem yt (A : List (List Nat)) (hA : pO ops A = true) (hbk : jy ops = true) (hns : Region.noSelect ops = true) (hQ : lC Q) :
  ∀ (fuel : Nat) (ord : List Nat) (listed : Array Bool) (a : Act) (w : World), ord.length = fuel → listed.size = ops.size → oc ops listed →
   (∀ j, j < ops.size → listed.getD j true = false → j ∈ ord) → (∀ j ∈ ord, listed.getD j true = false) → ord.Nodup → dg ops A ord = true → wpD P ops A Q [] ord a w →
   fi P .any ops Q fuel listed a w := by
 intro fuel
 induction fuel with
 | zero =>
  intro ord listed a w hl _ _ hcov _ _ _ h
  have : ord = [] := by cases ord <;> simp_all
  subst this
  have hr : Region.ready .any ops listed = [] := by
   cases hr : Region.ready .any ops listed with
   | nil => rfl
   | cons x xs =>
    have hx : x ∈ Region.ready .any ops listed := by rw [hr]; exact List.mem_cons_self
    obtain ⟨h0, o, ho, _⟩ := mem_ready.1 hx
    have := hcov x (Array.getElem?_eq_some_iff.1 ho).1 h0
    cases this
  exact ⟨hr, h⟩
 | succ fuel ih =>
  intro ord listed a w hl hsz hc hcov hun hnd hok h
  -- whichever is ready
  have step : ∀ i ∈ Region.ready .any ops listed, cp P ops Q i (fi P .any ops Q fuel (listed.setIfInBounds i true)) a w := by
   intro i hi
   obtain ⟨h0, o, ho, hall⟩ := mem_ready.1 hi
   have hio := hcov i (Array.getElem?_eq_some_iff.1 ho).1 h0
   obtain ⟨pre, post, hord⟩ := List.append_of_mem hio
   obtain ⟨hp, hok'⟩ := jb hok hord
   have hpre : ∀ p ∈ pre, ∃ op, ops[p]? = some op ∧ az op.op = true ∧ op.apart ops o = true ∧ (A.getD i []).contains p = false := by
    intro p hpm
    have h1 := hp p hpm
    unfold gW at h1
    cases hop : ops[p]? with
    | none => simp [hop] at h1
    | some op =>
     simp only [hop, ho, Bool.or_eq_true, Bool.and_eq_true] at h1
     have hpun := hun p (by rw [hord]; exact List.mem_append_left _ hpm)
     have hnc : (A.getD i []).contains p = false := by
      cases hcon : (A.getD i []).contains p with
      | false => rfl
      | true =>
       have h2 := ku hA hc i p o ho hcon hall
       have hps : p < listed.size := by rw [hsz]; exact (Array.getElem?_eq_some_iff.1 hop).1
       simp [hps] at h2 hpun
       rw [h2] at hpun; cases hpun
     rcases h1 with h1 | h1
     ·rw [hnc] at h1; cases h1
     ·exact ⟨op, rfl, h1.1, h1.2, hnc⟩
   have hil : i < listed.size := by rw [hsz]; exact (Array.getElem?_eq_some_iff.1 ho).1
   have next : ∀ a' w', wpD P ops A Q [] (pre ++ post) a' w' → fi P .any ops Q fuel (listed.setIfInBounds i true) a' w' := by
    intro a' w' hd
    have hnd' : i ∉ pre ++ post ∧ (pre ++ post).Nodup := by
     rw [hord] at hnd
     have hp := hnd.perm (List.perm_middle)
     exact List.nodup_cons.1 hp
    refine ih (pre ++ post) (listed.setIfInBounds i true) a' w' ?_ (by simpa using hsz) ?_ ?_ ?_ hnd'.2 hok' hd
    ·rw [hord] at hl; simp at hl ⊢; omega
    ·intro j oj hoj hlj e he hb
     by_cases hji : i = j
     ·subst hji
      rw [ho] at hoj; cases hoj
      exact getD_set_true (hall e he hb)
     ·rw [getD_set_ne false hji] at hlj
      exact getD_set_true (hc j oj hoj hlj e he hb)
    ·intro j hj hlj
     by_cases hji : i = j
     ·subst hji; simp [hil] at hlj
     ·rw [getD_set_ne true hji] at hlj
      have := hcov j hj hlj
      rw [hord] at this
      rcases List.mem_append.1 this with h | h
      ·exact List.mem_append_left _ h
      ·rcases List.mem_cons.1 h with h | h
       ·exact absurd h.symm hji
       ·exact List.mem_append_right _ h
    ·intro j hj
     have hji : i ≠ j := fun e => hnd'.1 (e ▸ hj)
     rw [getD_set_ne true hji]
     refine hun j ?_
     rw [hord]
     rcases List.mem_append.1 hj with h | h
     ·exact List.mem_append_left _ h
     ·exact List.mem_append_right _ (List.mem_cons_of_mem _ h)
   obtain ⟨mf, me⟩ := move A hns hQ ho post pre [] a w hpre (by rw [← hord]; exact h)
   cases hf : az o.op with
   | true =>
    obtain ⟨v, hy, hd⟩ := mf hf
    exact gL hy.yieldsIf ho (Ext.refl w) (next _ _ hd)
   | false => exact ct (fun a' w' hk => next a' w' hk.2) (me hf)
  refine ⟨fun hr => ?_, step⟩
  -- somebody is ready: the least one that is not listed
  exfalso
  have key : ∀ j, j < ops.size → listed.getD j true = false → False := by
   intro j
   induction j using Nat.strongRecOn with
   | _ j ihn =>
    intro hjs hlj
    have hoj : ops[j]? = some ops[j] := Array.getElem?_eq_getElem hjs
    have hb := hbk
    simp only [jy, List.all_eq_true, List.mem_range] at hb
    have hb := hb j hjs
    simp only [hoj, List.all_eq_true, Bool.or_eq_true, Bool.not_eq_true', decide_eq_true_eq] at hb
    have hnr : j ∉ Region.ready .any ops listed := by rw [hr]; exact List.not_mem_nil
    refine hnr (mem_ready.2 ⟨hlj, _, hoj, fun e he hbe => ?_⟩)
    have hlt : e.on < j := by
     rcases hb e (by simpa using he) with h | h
     ·rw [hbe] at h; cases h
     ·exact h
    have hes : e.on < listed.size := by omega
    cases hle : listed.getD e.on false with
    | true => rfl
    | false =>
     exact (ihn e.on hlt (by omega) (by simpa [hes] using hle)).elim
  cases ord with
  | nil => simp at hl
  | cons x xs =>
   have hx := hun x List.mem_cons_self
   have hxs : x < listed.size := by
    rcases Nat.lt_or_ge x listed.size with h' | h'
    ·exact h'
    ·simp [Array.getElem?_eq_none h'] at hx
   exact key x (by omega) hx
theorem nF : ∀ {l : List Nat}, sR l = true → l.Nodup := by
 intro l
 induction l with
 | nil => intro _; exact List.nodup_nil
 | cons i r ih =>
  intro h
  simp only [sR, Bool.and_eq_true, Bool.not_eq_true'] at h
  exact List.nodup_cons.2 ⟨by simpa using h.1, ih h.2⟩
theorem pU {rd : Option Nat} {id : Nat} {ord : List Nat} (hm : P.follows .mixedOrders = true) (hord : sk ops ord = true) (hnd : fo ops.toList = true) (hQ : lC Q) {a : Act} {w : World}
  (h : wpD P ops (ph ops.toList []) Q [] ord a { w with drawn := w.drawn + 1 }) : cwp rd P (.region id ops true) Q a w := by
 simp only [sk, Bool.and_eq_true] at hord
 obtain ⟨⟨⟨⟨⟨⟨⟨h1, h2⟩, h3⟩, h4⟩, h5⟩, h6⟩, h7⟩, h8⟩ := hord
 simp only [List.all_eq_true, List.mem_range, decide_eq_true_eq] at h7 h8
 have hlen : ord.length = ops.size := by simpa using h6
 refine gE hm hnd (yt _ h1 h3 h4 hQ ops.size ord _ a _ hlen (by simp) ?_ ?_ ?_ (nF h5) h2 h)
 ·intro j o hj hl
  have hjs := (Array.getElem?_eq_some_iff.1 hj).1
  simp [hjs] at hl
 ·intro j hj _
  simpa using h8 j hj
 ·intro j hj
  simp [h7 j hj]
inductive OT where
 | done
 | no
 | fl (i : Nat) (t : OT)
 | eff (i : Nat) (x : Bool) (t alt : OT)
def OT.heads : OT → List (Nat × OT)
 | .eff i _ t alt => (i, t) :: alt.heads
 | _ => []
def flN : List Nat → OT → OT
 | [], t => t
 | i :: r, t => .fl i (flN r t)
theorem k_ (l m : List Nat) (t : OT) : flN (l ++ m) t = flN l (flN m t) := by
 induction l with
 | nil => rfl
 | cons i r ih => simp only [List.cons_append, flN, ih]
def wpT (P : Program) (ops : Array Oper) (A : List (List Nat)) (Q : Exit → Act → World → Prop) : List (Nat × (World → Prop)) → OT → Act → World → Prop
 | _, .done, a, w => Q .normal a w
 | _, .no, _, _ => True
 | acc, .fl i t, a, w =>
  match ops[i]? with
  | none => False
  | some o => ∃ v R, R w ∧ YieldsIf P ops R o v a ∧ wpT P ops A Q ((i, R) :: acc) t (a.put o.dst v) w
 | acc, .eff i _ t alt, a, w => cp P ops Q i (fun a' w' => (∀ e ∈ acc, (A.getD i []).contains e.1 = true ∨ e.2 w') ∧ wpT P ops A Q (acc.filter fun e => !(A.getD i []).contains e.1) t a' w') a w ∧ wpT P ops A Q acc alt a w
def tM (P : Program) (ops : Array Oper) (A : List (List Nat)) (Q : Exit → Act → World → Prop) : List Nat → OT → Act → World → Prop
 | _, .done, a, w => Q .normal a w
 | _, .no, _, _ => True
 | acc, .fl i t, a, w =>
  match ops[i]? with
  | none => False
  | some o => ∃ v, Yld P ops o v a w ∧ tM P ops A Q (if dK o.op then acc else i :: acc) t (a.put o.dst v) w
 | acc, .eff i _ t alt, a, w => cp P ops Q i (fun a' w' => (Ext w w' ∨ ∀ y ∈ acc, (A.getD i []).contains y = true) ∧ tM P ops A Q acc t a' w') a w ∧ tM P ops A Q acc alt a w
theorem aj3 (A : List (List Nat)) : ∀ (t : OT) (acc : List Nat) (dyn : List (Nat × (World → Prop))) (a : Act) (w : World), (∀ e ∈ dyn, (∀ w', e.2 w') ∨ (e.1 ∈ acc ∧ ∀ w', Ext w w' → e.2 w')) → tM P ops A Q acc t a w → wpT P ops A Q dyn t a w := by
 intro t
 induction t with
 | done => intro acc dyn a w _ h; exact h
 | no => intro acc dyn a w _ h; exact h
 | fl i t ih =>
  intro acc dyn a w hd h
  simp only [tM] at h
  simp only [wpT]
  cases ho : ops[i]? with
  | none => simp only [ho] at h
  | some o =>
   simp only [ho] at h ⊢
   obtain ⟨v, hy, h⟩ := h
   by_cases hp : dK o.op = true
   ·rw [if_pos hp] at h
    have hy' : Yields P ops o v a := by simpa [Yld, hp] using hy
    refine ⟨v, fun _ => True, trivial, hy'.yieldsIf, ih acc _ _ w (fun e he => ?_) h⟩
    rcases List.mem_cons.1 he with rfl | he
    ·exact .inl fun _ => trivial
    ·exact hd e he
   ·rw [if_neg hp] at h
    refine ⟨v, Ext w, Ext.refl w, hy.yieldsIf, ih _ _ _ w (fun e he => ?_) h⟩
    rcases List.mem_cons.1 he with rfl | he
    ·exact .inr ⟨List.mem_cons_self, fun _ h => h⟩
    ·exact (hd e he).imp id fun h1 => ⟨List.mem_cons_of_mem _ h1.1, h1.2⟩
 | eff i x t alt iht iha =>
  intro acc dyn a w hd h
  simp only [tM] at h
  simp only [wpT]
  refine ⟨ct (fun a' w' ⟨h1, h2⟩ => ?_) h.1, iha acc dyn a w hd h.2⟩
  have key : ∀ e ∈ dyn, (A.getD i []).contains e.1 = true ∨ (e.2 w' ∧ ((∀ w', e.2 w') ∨ (e.1 ∈ acc ∧ ∀ w'', Ext w' w'' → e.2 w''))) := fun e he => by
   rcases hd e he with h3 | ⟨h3, h4⟩
   ·exact .inr ⟨h3 _, .inl h3⟩
   ·rcases h1 with h1 | h1
    ·exact .inr ⟨h4 _ h1, .inr ⟨h3, fun w'' h => h4 _ (h1.trans h)⟩⟩
    ·exact .inl (h1 _ h3)
  refine ⟨fun e he => (key e he).imp id (·.1), iht acc _ a' w' (fun e he => ?_) h2⟩
  obtain ⟨he, hne⟩ := List.mem_filter.1 he
  rcases key e he with h3 | h3
  ·rw [h3] at hne; cases hne
  ·exact h3.2
def tG (ops : Array Oper) (i : Nat) : Bool :=
 match ops[i]? with
 | some o => az o.op
 | none => false
def aju (ops : Array Oper) (i : Nat) : Bool := (ops[i]?).isSome
def okT (ops : Array Oper) (A : List (List Nat)) : Bool → List Nat → List Nat → OT → Bool
 | _, _, rest, .done => rest.isEmpty
 | m, _, _, .no => m
 | _, prev, rest, .fl i t => rest.contains i && tG ops i && prev.all (fun p => gW ops A p i) && okT ops A false (i :: prev) (rest.erase i) t
 | m, prev, rest, .eff i x t alt => rest.contains i && aju ops i && prev.all (fun p => gW ops A p i) && okT ops A false prev (rest.erase i) t && okT ops A true prev rest alt &&
   (m || rest.all fun j => ((i :: alt.heads.map (·.1)).contains j || rest.any fun p => (A.getD j []).contains p))
theorem ahu (A : List (List Nat)) : ∀ (t : OT) (acc acc' : List (Nat × (World → Prop))) (a : Act) (w : World), (∀ x ∈ acc', x ∈ acc) → wpT P ops A Q acc t a w → wpT P ops A Q acc' t a w := by
 intro t
 induction t with
 | done => intro acc acc' a w _ h; exact h
 | no => intro acc acc' a w _ h; exact h
 | fl i t ih =>
  intro acc acc' a w hsub h
  simp only [wpT] at h ⊢
  cases ho : ops[i]? with
  | none => simp only [ho] at h
  | some o =>
   simp only [ho] at h ⊢
   obtain ⟨v, R, hR, hy, h⟩ := h
   refine ⟨v, R, hR, hy, ih _ _ _ _ ?_ h⟩
   intro x hx
   rcases List.mem_cons.1 hx with rfl | hx
   ·exact List.mem_cons_self
   ·exact List.mem_cons_of_mem _ (hsub x hx)
 | eff i x t alt iht iha =>
  intro acc acc' a w hsub h
  simp only [wpT] at h ⊢
  exact ⟨ct (fun a' w' ⟨h1, h2⟩ => ⟨fun e he => h1 e (hsub e he), iht _ _ _ _ (fun e he => List.mem_filter.2 ⟨hsub e (List.mem_filter.1 he).1, (List.mem_filter.1 he).2⟩) h2⟩) h.1, iha _ _ _ _ hsub h.2⟩
theorem alx (A : List (List Nat)) (hns : Region.noSelect ops = true) {i : Nat} {o : Oper} (hi : ops[i]? = some o) (post : OT) :
  ∀ (pre : List Nat) (acc : List (Nat × (World → Prop))) (a : Act) (w : World),
   (∀ p ∈ pre, ∃ op, ops[p]? = some op ∧ az op.op = true ∧ op.apart ops o = true) →
   wpT P ops A Q acc (flN pre (.fl i post)) a w →
   ∃ v R, R w ∧ YieldsIf P ops R o v a ∧ wpT P ops A Q acc (flN pre post) (a.put o.dst v) w := by
 intro pre
 have hsi : ∀ cs b, o.op ≠ .select cs b := fun cs b => Region.noSelect_spec hns i o cs b hi
 induction pre with
 | nil =>
  intro acc a w _ h
  simp only [flN, wpT, hi] at h
  obtain ⟨v, R, hR, hy, h⟩ := h
  exact ⟨v, R, hR, hy, ahu A _ _ _ _ _ (fun x hx => List.mem_cons_of_mem _ hx) h⟩
 | cons p pre ih =>
  intro acc a w hpre h
  obtain ⟨op, hop, hfl, hap⟩ := hpre p List.mem_cons_self
  have hsp : ∀ cs b, op.op ≠ .select cs b := fun cs b => Region.noSelect_spec hns p op cs b hop
  obtain ⟨h1, h2, h3⟩ := Oper.apart_spec hap
  simp only [flN, wpT, hop] at h
  obtain ⟨vp, Rp, hRp, hyp, h⟩ := h
  obtain ⟨v, R, hR, hy, h⟩ := ih _ (a.put op.dst vp) w (fun q hq => hpre q (List.mem_cons_of_mem _ hq)) h
  refine ⟨v, R, hR, hy.of_same (execOp_put o hsi a op.dst vp h1).symm (wanted_put o a op.dst vp h1).symm, ?_⟩
  simp only [flN, wpT, hop]
  refine ⟨vp, Rp, hRp, hyp.of_same (execOp_put op hsp a o.dst v h3) (wanted_put op a o.dst v h3), ?_⟩
  rw [← Act.put_comm a vp v h2]
  exact h
theorem aeW (A : List (List Nat)) : ∀ (t : OT) (acc : List (Nat × (World → Prop))) (a : Act) (w : World) (i : Nat) (ti : OT), (i, ti) ∈ t.heads → wpT P ops A Q acc t a w →
  cp P ops Q i (fun a' w' => (∀ e ∈ acc, (A.getD i []).contains e.1 = true ∨ e.2 w') ∧ wpT P ops A Q (acc.filter fun e => !(A.getD i []).contains e.1) ti a' w') a w := by
 intro t
 induction t with
 | done => intro acc a w i ti h; cases h
 | no => intro acc a w i ti h; cases h
 | fl j t ih => intro acc a w i ti h; cases h
 | eff j x t alt iht iha =>
  intro acc a w i ti h hw
  simp only [OT.heads, List.mem_cons, Prod.mk.injEq] at h
  simp only [wpT] at hw
  rcases h with ⟨rfl, rfl⟩ | h
  ·exact hw.1
  ·exact iha acc a w i ti h hw.2
theorem alP (A : List (List Nat)) (hns : Region.noSelect ops = true) (hQ : lC Q) {i : Nat} {o : Oper} (hi : ops[i]? = some o) {t ti : OT} (ht : (i, ti) ∈ t.heads) :
  ∀ (pre : List Nat) (acc : List (Nat × (World → Prop))) (a : Act) (w : World),
   (∀ p ∈ pre, ∃ op, ops[p]? = some op ∧ az op.op = true ∧ op.apart ops o = true ∧ (A.getD i []).contains p = false) →
   wpT P ops A Q acc (flN pre t) a w →
   cp P ops Q i (fun a' w' => (∀ e ∈ acc, (A.getD i []).contains e.1 = true ∨ e.2 w') ∧ wpT P ops A Q (acc.filter fun e => !(A.getD i []).contains e.1) (flN pre ti) a' w') a w := by
 intro pre
 have hsi : ∀ cs b, o.op ≠ .select cs b := fun cs b => Region.noSelect_spec hns i o cs b hi
 induction pre with
 | nil => intro acc a w _ h; exact aeW A t acc a w i ti ht h
 | cons p pre ih =>
  intro acc a w hpre h
  obtain ⟨op, hop, hfl, hap, hnc⟩ := hpre p List.mem_cons_self
  have hsp : ∀ cs b, op.op ≠ .select cs b := fun cs b => Region.noSelect_spec hns p op cs b hop
  simp only [flN, wpT, hop] at h
  obtain ⟨vp, Rp, hRp, hyp, h⟩ := h
  have he := ih _ (a.put op.dst vp) w (fun q hq => hpre q (List.mem_cons_of_mem _ hq)) h
  have hx := ju hi hap hsp hsi (fun c a w hq => hQ.1 c a w _ _ hq) hQ.2 hyp he
  refine ct (fun a1 w1 ⟨hy1, hk, hd⟩ => ?_) hx
  have hR1 : Rp w1 := (hk (p, Rp) List.mem_cons_self).resolve_left (by rw [hnc]; simp)
  refine ⟨fun e he => hk e (List.mem_cons_of_mem _ he), ?_⟩
  simp only [flN, wpT, hop]
  refine ⟨vp, Rp, hR1, hy1, ?_⟩
  rw [List.filter_cons_of_pos (by show (!(A.getD i []).contains p) = true; rw [hnc]; rfl)] at hd
  exact hd
theorem tN {A : List (List Nat)} : ∀ {l : List Nat} {i : Nat}, dg ops A l = true → (∀ p ∈ l, gW ops A p i = true) → dg ops A (l ++ [i]) = true := by
 intro l
 induction l with
 | nil => intro i _ _; simp [dg]
 | cons x l ih =>
  intro i h hp
  simp only [dg, Bool.and_eq_true, List.all_eq_true, List.cons_append] at h ⊢
  refine ⟨fun y hy => ?_, ih h.2 (fun p hp' => hp p (List.mem_cons_of_mem _ hp'))⟩
  rcases List.mem_append.1 hy with hy | hy
  ·exact h.1 y hy
  ·simp at hy; subst hy; exact hp x List.mem_cons_self
theorem adx {A : List (List Nat)} : ∀ (t : OT) (m : Bool) (prev rest : List Nat) (i : Nat) (ti : OT), okT ops A m prev rest t = true → (i, ti) ∈ t.heads →
  rest.contains i = true ∧ aju ops i = true ∧ (∀ p ∈ prev, gW ops A p i = true) ∧ okT ops A false prev (rest.erase i) ti = true := by
 intro t
 induction t with
 | done => intro m prev rest i ti _ h; cases h
 | no => intro m prev rest i ti _ h; cases h
 | fl j t ih => intro m prev rest i ti _ h; cases h
 | eff j x t alt iht iha =>
  intro m prev rest i ti h hh
  simp only [okT, Bool.and_eq_true, List.all_eq_true] at h
  simp only [OT.heads, List.mem_cons, Prod.mk.injEq] at hh
  rcases hh with ⟨rfl, rfl⟩ | hh
  ·exact ⟨h.1.1.1.1.1, h.1.1.1.1.2, h.1.1.1.2, h.1.1.2⟩
  ·exact iha true prev rest i ti h.1.2 hh
theorem x7 (A : List (List Nat)) (hA : pO ops A = true) (hbk : jy ops = true) (hns : Region.noSelect ops = true) (hQ : lC Q) :
  ∀ (fuel : Nat) (t : OT) (pre rest prev : List Nat) (listed : Array Bool) (a : Act) (w : World), pre.length + rest.length = fuel → listed.size = ops.size → oc ops listed →
   (∀ j, j < ops.size → listed.getD j true = false → j ∈ pre ∨ j ∈ rest) → (∀ j, j ∈ pre ∨ j ∈ rest → listed.getD j true = false) → (pre ++ rest).Nodup →
   (∀ p ∈ pre, tG ops p = true) → dg ops A pre = true → (∀ p ∈ pre, p ∈ prev) → okT ops A false prev rest t = true → wpT P ops A Q [] (flN pre t) a w →
   fi P .any ops Q fuel listed a w := by
 intro fuel
 induction fuel with
 | zero =>
  intro t pre rest prev listed a w hl _ _ hcov _ _ _ _ _ hok h
  have hp : pre = [] := by cases pre <;> simp_all
  have hr : rest = [] := by cases rest <;> simp_all
  subst hp
  subst hr
  have hr : Region.ready .any ops listed = [] := by
   cases hr : Region.ready .any ops listed with
   | nil => rfl
   | cons x xs =>
    have hx : x ∈ Region.ready .any ops listed := by rw [hr]; exact List.mem_cons_self
    obtain ⟨h0, o, ho, _⟩ := mem_ready.1 hx
    have := hcov x (Array.getElem?_eq_some_iff.1 ho).1 h0
    simp at this
  refine ⟨hr, ?_⟩
  cases t with
  | done => exact h
  | no => simp [okT] at hok
  | fl i t => simp [okT] at hok
  | eff i x t alt => simp [okT] at hok
 | succ fuel ih =>
  have main : ∀ (t : OT) (pre rest prev : List Nat) (listed : Array Bool) (a : Act) (w : World), pre.length + rest.length = fuel + 1 → listed.size = ops.size → oc ops listed →
   (∀ j, j < ops.size → listed.getD j true = false → j ∈ pre ∨ j ∈ rest) → (∀ j, j ∈ pre ∨ j ∈ rest → listed.getD j true = false) → (pre ++ rest).Nodup →
   (∀ p ∈ pre, tG ops p = true) → dg ops A pre = true → (∀ p ∈ pre, p ∈ prev) → okT ops A false prev rest t = true →
   (∀ j ∈ rest, (∃ tj, (j, tj) ∈ t.heads) ∨ ∃ p ∈ rest, (A.getD j []).contains p = true) → wpT P ops A Q [] (flN pre t) a w → fi P .any ops Q (fuel + 1) listed a w := by
   intro t pre rest prev listed a w hl hsz hc hcov hun hnd hfl hops hprev hok hcover h
   have unl : ∀ i o, ops[i]? = some o → (∀ e ∈ o.after, Region.binds .any e = true → listed.getD e.on false = true) → ∀ p, (p ∈ pre ∨ p ∈ rest) → (A.getD i []).contains p = false := by
    intro i o ho hall p hp
    cases hcon : (A.getD i []).contains p with
    | false => rfl
    | true =>
     have h2 := ku hA hc i p o ho hcon hall
     have hpun := hun p hp
     rcases Nat.lt_or_ge p listed.size with hps | hps
     ·simp [hps] at h2 hpun
      rw [h2] at hpun; cases hpun
     ·simp [Array.getElem?_eq_none hps] at h2
   have apart : ∀ i o, ops[i]? = some o → (∀ e ∈ o.after, Region.binds .any e = true → listed.getD e.on false = true) → ∀ p ∈ pre, gW ops A p i = true →
     ∃ op, ops[p]? = some op ∧ az op.op = true ∧ op.apart ops o = true ∧ (A.getD i []).contains p = false := by
    intro i o ho hall p hp hpair
    have hnc := unl i o ho hall p (.inl hp)
    unfold gW at hpair
    cases hop : ops[p]? with
    | none => simp [hop] at hpair
    | some op =>
     simp only [hop, ho, Bool.or_eq_true, Bool.and_eq_true] at hpair
     rcases hpair with h1 | h1
     ·rw [hnc] at h1; cases h1
     ·exact ⟨op, rfl, h1.1, h1.2, hnc⟩
   have step : ∀ i ∈ Region.ready .any ops listed, cp P ops Q i (fi P .any ops Q fuel (listed.setIfInBounds i true)) a w := by
    intro i hi
    obtain ⟨h0, o, ho, hall⟩ := mem_ready.1 hi
    have his : i < ops.size := (Array.getElem?_eq_some_iff.1 ho).1
    have hil : i < listed.size := by rw [hsz]; exact his
    -- what is left behind it
    have next : ∀ (t' : OT) (pre' rest' : List Nat) (a' : Act) (w' : World), (i :: (pre' ++ rest')).Perm (pre ++ rest) → (∀ p ∈ pre', p ∈ pre) → dg ops A pre' = true →
      okT ops A false prev rest' t' = true → wpT P ops A Q [] (flN pre' t') a' w' → fi P .any ops Q fuel (listed.setIfInBounds i true) a' w' := by
     intro t' pre' rest' a' w' hperm hpp hops' hok' hd
     have hnd' : i ∉ pre' ++ rest' ∧ (pre' ++ rest').Nodup := List.nodup_cons.1 ((hperm.nodup_iff).2 hnd)
     have hmem : ∀ j, (j = i ∨ j ∈ pre' ∨ j ∈ rest') ↔ (j ∈ pre ∨ j ∈ rest) := fun j => by
      have := hperm.mem_iff (a := j)
      simpa using this
     refine ih t' pre' rest' prev (listed.setIfInBounds i true) a' w' ?_ (by simpa using hsz) ?_ ?_ ?_ hnd'.2 (fun p hp => hfl p (hpp p hp)) hops' (fun p hp => hprev p (hpp p hp)) hok' hd
     ·have := hperm.length_eq
      simp only [List.length_cons, List.length_append] at this
      omega
     ·intro j oj hoj hlj e he hb
      by_cases hji : i = j
      ·subst hji
       rw [ho] at hoj; cases hoj
       exact getD_set_true (hall e he hb)
      ·rw [getD_set_ne false hji] at hlj
       exact getD_set_true (hc j oj hoj hlj e he hb)
     ·intro j hj hlj
      by_cases hji : i = j
      ·subst hji; simp [hil] at hlj
      ·rw [getD_set_ne true hji] at hlj
       rcases (hmem j).2 (hcov j hj hlj) with h | h
       ·exact absurd h.symm hji
       ·exact h
     ·intro j hj
      have hji : i ≠ j := fun e => hnd'.1 (by rw [e]; exact List.mem_append.2 hj)
      rw [getD_set_ne true hji]
      exact hun j ((hmem j).1 (.inr hj))
    rcases hcov i his h0 with hip | hir
    ·obtain ⟨pre1, post1, hsplit⟩ := List.append_of_mem hip
     obtain ⟨hp1, hops1⟩ := jb hops hsplit
     have hpa : ∀ p ∈ pre1, ∃ op, ops[p]? = some op ∧ az op.op = true ∧ op.apart ops o = true := fun p hp => by
      obtain ⟨op, h1, h2, h3, _⟩ := apart i o ho hall p (by rw [hsplit]; exact List.mem_append_left _ hp) (hp1 p hp)
      exact ⟨op, h1, h2, h3⟩
     rw [hsplit, k_] at h
     obtain ⟨v, R, hR, hy, hd⟩ := alx A hns ho (flN post1 t) pre1 [] a w hpa h
     rw [← k_] at hd
     refine gL hy ho hR (next t (pre1 ++ post1) rest _ _ ?_ ?_ hops1 hok hd)
     ·rw [hsplit, List.append_assoc, List.append_assoc]
      exact List.perm_middle.symm
     ·intro p hp
      rw [hsplit]
      rcases List.mem_append.1 hp with hp | hp
      ·exact List.mem_append_left _ hp
      ·exact List.mem_append_right _ (List.mem_cons_of_mem _ hp)
    ·rcases hcover i hir with ⟨ti, hti⟩ | ⟨p, hp, hcon⟩
     ·obtain ⟨_, _, hpi, hoki⟩ := adx t false prev rest i ti hok hti
      refine ct (fun a' w' hk => next ti pre (rest.erase i) a' w' ?_ (fun p hp => hp) hops hoki hk.2) (alP A hns hQ ho hti pre [] a w (fun p hp => apart i o ho hall p hp (hpi p (hprev p hp))) h)
      exact List.perm_middle.symm.trans ((List.perm_cons_erase hir).symm.append_left pre)
     ·rw [unl i o ho hall p (.inr hp)] at hcon
      cases hcon
   refine ⟨fun hr => ?_, step⟩
   exfalso
   have key : ∀ j, j < ops.size → listed.getD j true = false → False := by
    intro j
    induction j using Nat.strongRecOn with
    | _ j ihn =>
     intro hjs hlj
     have hoj : ops[j]? = some ops[j] := Array.getElem?_eq_getElem hjs
     have hb := hbk
     simp only [jy, List.all_eq_true, List.mem_range] at hb
     have hb := hb j hjs
     simp only [hoj, List.all_eq_true, Bool.or_eq_true, Bool.not_eq_true', decide_eq_true_eq] at hb
     have hnr : j ∉ Region.ready .any ops listed := by rw [hr]; exact List.not_mem_nil
     refine hnr (mem_ready.2 ⟨hlj, _, hoj, fun e he hbe => ?_⟩)
     have hlt : e.on < j := by
      rcases hb e (by simpa using he) with h | h
      ·rw [hbe] at h; cases h
      ·exact h
     have hes : e.on < listed.size := by omega
     cases hle : listed.getD e.on false with
     | true => rfl
     | false => exact (ihn e.on hlt (by omega) (by simpa [hes] using hle)).elim
   have ex : ∃ x, x ∈ pre ∨ x ∈ rest := by
    cases pre with
    | cons x r => exact ⟨x, .inl List.mem_cons_self⟩
    | nil => cases rest with
     | cons x r => exact ⟨x, .inr List.mem_cons_self⟩
     | nil => simp at hl
   obtain ⟨x, hx⟩ := ex
   have hxl := hun x hx
   have hxs : x < listed.size := by
    rcases Nat.lt_or_ge x listed.size with h' | h'
    ·exact h'
    ·simp [Array.getElem?_eq_none h'] at hxl
   exact key x (by omega) hxl
  intro t
  induction t with
  | no => intro pre rest prev listed a w _ _ _ _ _ _ _ _ _ hok _; simp [okT] at hok
  | fl i t iht =>
   intro pre rest prev listed a w hl hsz hc hcov hun hnd hfl hops hprev hok h
   simp only [okT, Bool.and_eq_true, List.all_eq_true] at hok
   obtain ⟨⟨⟨hci, hfi⟩, hpi⟩, hok⟩ := hok
   have hci' : i ∈ rest := by simpa using hci
   have hperm : (pre ++ [i] ++ rest.erase i).Perm (pre ++ rest) := by
    rw [List.append_assoc]
    exact (List.perm_cons_erase hci').symm.append_left pre
   have hmem : ∀ j, (j ∈ pre ++ [i] ∨ j ∈ rest.erase i) ↔ (j ∈ pre ∨ j ∈ rest) := fun j => by
    rw [← List.mem_append, hperm.mem_iff, List.mem_append]
   refine iht (pre ++ [i]) (rest.erase i) (i :: prev) listed a w ?_ hsz hc ?_ ?_ ((hperm.nodup_iff).2 hnd) ?_ ?_ ?_ hok ?_
   ·have := hperm.length_eq
    simp only [List.length_append] at this ⊢
    omega
   ·intro j hj hlj; exact (hmem j).2 (hcov j hj hlj)
   ·intro j hj; exact hun j ((hmem j).1 hj)
   ·intro p hp
    rcases List.mem_append.1 hp with hp | hp
    ·exact hfl p hp
    ·simp at hp; subst hp; exact hfi
   ·exact tN hops (fun p hp => hpi p (hprev p hp))
   ·intro p hp
    rcases List.mem_append.1 hp with hp | hp
    ·exact List.mem_cons_of_mem _ (hprev p hp)
    ·simp at hp; subst hp; exact List.mem_cons_self
   ·rw [k_]; exact h
  | done =>
   intro pre rest prev listed a w hl hsz hc hcov hun hnd hfl hops hprev hok h
   have hr : rest = [] := by simpa [okT] using hok
   exact main .done pre rest prev listed a w hl hsz hc hcov hun hnd hfl hops hprev hok (fun j hj => by rw [hr] at hj; cases hj) h
  | eff i x t alt iht iha =>
   intro pre rest prev listed a w hl hsz hc hcov hun hnd hfl hops hprev hok h
   refine main (.eff i x t alt) pre rest prev listed a w hl hsz hc hcov hun hnd hfl hops hprev hok (fun j hj => ?_) h
   simp only [okT, Bool.and_eq_true, List.all_eq_true, Bool.false_or, Bool.or_eq_true, List.any_eq_true] at hok
   rcases hok.2 j hj with h1 | h1
   ·simp only [List.contains_eq_mem, decide_eq_true_eq, List.mem_cons, List.mem_map] at h1
    rcases h1 with rfl | ⟨⟨k, tk⟩, hk, rfl⟩
    ·exact .inl ⟨t, List.mem_cons_self⟩
    ·exact .inl ⟨tk, List.mem_cons_of_mem _ hk⟩
   ·exact .inr h1
def x8 (ops : Array Oper) (t : OT) : Bool :=
 pO ops (ph ops.toList []) && jy ops && Region.noSelect ops && okT ops (ph ops.toList []) false [] (List.range ops.size) t
theorem nM {rd : Option Nat} {id : Nat} {t : OT} (hm : P.follows .mixedOrders = true) (hord : x8 ops t = true) (hnd : fo ops.toList = true) (hQ : lC Q) {a : Act} {w : World}
  (h : wpT P ops (ph ops.toList []) Q [] t a { w with drawn := w.drawn + 1 }) : cwp rd P (.region id ops true) Q a w := by
 simp only [x8, Bool.and_eq_true] at hord
 obtain ⟨⟨⟨h1, h2⟩, h3⟩, h4⟩ := hord
 refine gE hm hnd (x7 _ h1 h2 h3 hQ ops.size t [] (List.range ops.size) [] _ a _ (by simp) (by simp) ?_ ?_ ?_ ?_ (by simp) rfl (by simp) h4 h)
 ·intro j o hj hl
  have hjs := (Array.getElem?_eq_some_iff.1 hj).1
  simp [hjs] at hl
 ·intro j hj _
  exact .inr (List.mem_range.2 hj)
 ·intro j hj
  rcases hj with hj | hj
  ·cases hj
  ·simp [List.mem_range.1 hj]
 ·simpa using List.nodup_range
end
end Go.Eng
