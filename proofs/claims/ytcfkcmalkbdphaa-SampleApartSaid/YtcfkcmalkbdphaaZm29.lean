/-
  Part 29 of the proof of Zm: the engine and the walks, in their order.
-/
import Derived.Test.YtcfkcmalkbdphaaZm19
import Derived.Test.YtcfkcmalkbdphaaZm21
import Derived.Test.YtcfkcmalkbdphaaZm28
set_option linter.unusedSimpArgs false
set_option linter.unusedVariables false
/-
  Walks: sample: Start, Tick, Answer, Fill, Admit.
-/
set_option linter.unusedSimpArgs false
set_option linter.unusedVariables false
namespace Go.Eng
/-- A wait. -/
structure GW where
  some : Bool
  node : UInt8
  left : UInt8
  sent : List GDesc
deriving DecidableEq
structure PW where
  some : Bool
  node : UInt8
  left : UInt8
  p : Option Addr
  n : Nat
  c : Nat
  l : List PD
def PW.enc (w : PW) : List Value := [.bool w.some, .int .u8 w.node.toNat, .int .u8 w.left.toNat, .slice w.p w.n w.c]
def PW.val (w : PW) : Value := .agg #[.bool w.some, .int .u8 w.node.toNat, .int .u8 w.left.toNat, .slice w.p w.n w.c]
def PW.g (w : PW) : GW := ⟨w.some, w.node, w.left, ds w.l⟩
def u1 (x : UInt8) : UInt8 := if x = 0 then 1 else x
theorem u1_int (i : UInt8) : (if (i.toNat : Int) < 1 then 1 else (i.toNat : Int)) = ((u1 i).toNat : Int) := by
  unfold u1
  by_cases h : i = 0
  · subst h; simp
  · rw [if_neg h, if_neg]
    have : i.toNat ≠ 0 := fun e => h (UInt8.toNat_inj.1 (by simpa using e))
    omega
def wZero : GW := ⟨false, 0, 0, []⟩
def wStart (node left : UInt8) (sent : List GDesc) : GW := ⟨true, node, u1 left, sent⟩
def wTick (w : GW) : GW × UInt8 × Bool := if w.some = true then (if w.left ≤ 1 then (wZero, w.node, true) else (⟨true, w.node, w.left - 1, w.sent⟩, 0, false)) else (wZero, 0, false)
def wAns (w : GW) (frm : UInt8) : GW × List GDesc × Bool := if w.some = true ∧ w.node = frm then (wZero, w.sent, true) else (w, [], false)
def sFill (self : UInt8) (room : Int) : List GDesc → List GDesc → List GDesc
  | v, [] => v
  | v, d :: r => sFill self room (dPut v d self room).1 r
def sAdmit (l : List GDesc) (d : GDesc) (self : UInt8) (room : Int) : List GDesc :=
  if (dPut l d self room).2 = true then (dPut l d self room).1
  else if d.node = self ∨ d.inc = 0 ∨ dIdx l d.node ≠ none then l
  else match dOld l with
    | none => l
    | some i => match l[i]? with
      | some o => (dPut (dDrop l o.node) d self l.length).1
      | none => l
end Go.Eng
namespace Go.Proofs.Ytcfkcmalkbdphaa
open Go.Eng
attribute [local go_sem] GSpan.val GSpan.enc PD.val PD.enc PW.val PW.enc

/-- A wait in memory that is there. -/
structure WL (u : World) (w : PW) : Prop where
  dl : DL u w.p w.n w.c w.l
  len : w.n ≤ 100
  small : ∀ x ∈ w.l, x.n ≤ 8
theorem WL.mono {u u' : World} {w : PW} (hs : Sub u u') (h : WL u w) : WL u' w := ⟨h.dl.mono hs, h.len, h.small⟩
/-- What is handed back: a wait, with what was sent in memory of its own. -/
def BackW (u u' : World) (r : Value) (g : GW) : Prop := ∃ w : PW, r = w.val ∧ w.g = g ∧ DO u u' 32 39 w.p w.n w.c w.l
theorem wl_of {u : World} {p : Option Addr} {n c : Nat} {l m : List PD} (h : DL u p n c l) (e : ds l = ds m) (hn : m.length ≤ 100) (hs : ∀ x ∈ m, x.d.filter.length ≤ 8) : n ≤ 100 ∧ ∀ x ∈ l, x.n ≤ 8 := by
  refine ⟨?_, fun x hx => ?_⟩
  · have := h.len
    have h2 := congrArg List.length e
    simp at h2
    omega
  · rw [← (h.fl x hx).len]
    have : x.d ∈ ds m := by rw [← e]; exact List.mem_map_of_mem hx
    obtain ⟨y, hy, e2⟩ := List.mem_map.1 this
    rw [← e2]; exact hs y hy

theorem start_con (node left : UInt8) (l : List PD) (p : Option Addr) (n c : Nat) (u : World) (hl : DL u p n c l) (hn : n ≤ 100000) (hs : ∀ x ∈ l, x.n ≤ 100000) :
    Con Try.prog 36 [.int .u8 node.toNat, .int .u8 left.toNat, .slice p n c] u (fun r u' => BackW u u' r (wStart node left (ds l))) := by
  refine spec_of_vc Ty.mixed Try.func36 rfl (by kernel_rfl) (by kernel_rfl) rfl [.cell 6 52] rfl ?_
  (simp only [go_sem, vc_block_seq, vc_block_region, vc_block_cond, vc_block_block, Nat.reduceBEq, Nat.reduceAdd, Nat.reduceLeDiff, Nat.reduceEqDiff, Int.reduceAdd, Int.reduceBEq, Int.reduceBNe, reduceCtorEq, beq_self_eq_true, Bool.true_beq, Bool.false_beq]; repeat ((with_reducible refine leK_refl ?_); simp only [go_sem, vc_block_seq, vc_block_region, vc_block_cond, vc_block_block, Nat.reduceBEq, Nat.reduceAdd, Nat.reduceLeDiff, Nat.reduceEqDiff, Int.reduceAdd, Int.reduceBEq, Int.reduceBNe, reduceCtorEq, beq_self_eq_true, Bool.true_beq, Bool.false_beq]))
  intro b1
  (simp only [go_sem, vc_block_seq, vc_block_region, vc_block_cond, vc_block_block, Nat.reduceBEq, Nat.reduceAdd, Nat.reduceLeDiff, Nat.reduceEqDiff, Int.reduceAdd, Int.reduceBEq, Int.reduceBNe, reduceCtorEq, beq_self_eq_true, Bool.true_beq, Bool.false_beq, u1_int]; repeat ((with_reducible refine leK_refl ?_); simp only [go_sem, vc_block_seq, vc_block_region, vc_block_cond, vc_block_block, Nat.reduceBEq, Nat.reduceAdd, Nat.reduceLeDiff, Nat.reduceEqDiff, Int.reduceAdd, Int.reduceBEq, Int.reduceBNe, reduceCtorEq, beq_self_eq_true, Bool.true_beq, Bool.false_beq, u1_int]))
  refine AtCall.of_spec (copy_con l p n c u hl (by omega) (fun x hx => by have := hs x hx; omega)) ?_
  rintro r u1 hs1 ⟨p1, c1, l1, rfl, o1, e1, _⟩
  (simp only [go_sem, vc_block_seq, vc_block_region, vc_block_cond, vc_block_block, Nat.reduceBEq, Nat.reduceAdd, Nat.reduceLeDiff, Nat.reduceEqDiff, Int.reduceAdd, Int.reduceBEq, Int.reduceBNe, reduceCtorEq, beq_self_eq_true, Bool.true_beq, Bool.false_beq]; repeat ((with_reducible refine leK_refl ?_); simp only [go_sem, vc_block_seq, vc_block_region, vc_block_cond, vc_block_block, Nat.reduceBEq, Nat.reduceAdd, Nat.reduceLeDiff, Nat.reduceEqDiff, Int.reduceAdd, Int.reduceBEq, Int.reduceBNe, reduceCtorEq, beq_self_eq_true, Bool.true_beq, Bool.false_beq]))
  exact ⟨hs1, ⟨true, node, Eng.u1 left, p1, n, c1, l1⟩, rfl, by simp [PW.g, wStart, e1], o1⟩

theorem tick_con (w : PW) (u : World) (hw : WL u w) :
    Con Try.prog 38 [w.val] u (fun r u' => ∃ v, r = .tuple #[v, .int .u8 (wTick w.g).2.1.toNat, .bool (wTick w.g).2.2] ∧ BackW u u' v (wTick w.g).1) := by
  have hlt := w.left.toNat_lt
  have hn := hw.len
  refine spec_of_vc Ty.mixed Try.func38 rfl (by kernel_rfl) (by kernel_rfl) rfl [.cell 2 52, .tmp 3, .tmp 4] rfl ?_
  (simp only [go_sem, vc_block_seq, vc_block_region, vc_block_cond, vc_block_block, Nat.reduceBEq, Nat.reduceAdd, Nat.reduceLeDiff, Nat.reduceEqDiff, Int.reduceAdd, Int.reduceBEq, Int.reduceBNe, reduceCtorEq, beq_self_eq_true, Bool.true_beq, Bool.false_beq]; repeat ((with_reducible refine leK_refl ?_); simp only [go_sem, vc_block_seq, vc_block_region, vc_block_cond, vc_block_block, Nat.reduceBEq, Nat.reduceAdd, Nat.reduceLeDiff, Nat.reduceEqDiff, Int.reduceAdd, Int.reduceBEq, Int.reduceBNe, reduceCtorEq, beq_self_eq_true, Bool.true_beq, Bool.false_beq]))
  intro b1 b2
  cases hsome : w.some with
  | false =>
    have e : wTick w.g = (wZero, 0, false) := by simp [wTick, PW.g, hsome]
    rw [e]
    (simp only [go_sem, vc_block_seq, vc_block_region, vc_block_cond, vc_block_block, Nat.reduceBEq, Nat.reduceAdd, Nat.reduceLeDiff, Nat.reduceEqDiff, Int.reduceAdd, Int.reduceBEq, Int.reduceBNe, reduceCtorEq, beq_self_eq_true, Bool.true_beq, Bool.false_beq]; repeat ((with_reducible refine leK_refl ?_); simp only [go_sem, vc_block_seq, vc_block_region, vc_block_cond, vc_block_block, Nat.reduceBEq, Nat.reduceAdd, Nat.reduceLeDiff, Nat.reduceEqDiff, Int.reduceAdd, Int.reduceBEq, Int.reduceBNe, reduceCtorEq, beq_self_eq_true, Bool.true_beq, Bool.false_beq]))
    exact ⟨Sub.refl _, _, rfl, ⟨false, 0, 0, none, 0, 0, []⟩, rfl, rfl, DO.nil_ _ _ _ _⟩
  | true =>
  (simp only [go_sem, vc_block_seq, vc_block_region, vc_block_cond, vc_block_block, Nat.reduceBEq, Nat.reduceAdd, Nat.reduceLeDiff, Nat.reduceEqDiff, Int.reduceAdd, Int.reduceBEq, Int.reduceBNe, reduceCtorEq, beq_self_eq_true, Bool.true_beq, Bool.false_beq]; repeat ((with_reducible refine leK_refl ?_); simp only [go_sem, vc_block_seq, vc_block_region, vc_block_cond, vc_block_block, Nat.reduceBEq, Nat.reduceAdd, Nat.reduceLeDiff, Nat.reduceEqDiff, Int.reduceAdd, Int.reduceBEq, Int.reduceBNe, reduceCtorEq, beq_self_eq_true, Bool.true_beq, Bool.false_beq]))
  refine cond_dec (fun h => ?_) (fun h => ?_)
  · have h' : w.left ≤ 1 := by rw [UInt8.le_iff_toNat_le]; show w.left.toNat ≤ 1; omega
    have e : wTick w.g = (wZero, w.node, true) := by simp [wTick, PW.g, hsome, h']
    rw [e]
    (simp only [go_sem, vc_block_seq, vc_block_region, vc_block_cond, vc_block_block, Nat.reduceBEq, Nat.reduceAdd, Nat.reduceLeDiff, Nat.reduceEqDiff, Int.reduceAdd, Int.reduceBEq, Int.reduceBNe, reduceCtorEq, beq_self_eq_true, Bool.true_beq, Bool.false_beq]; repeat ((with_reducible refine leK_refl ?_); simp only [go_sem, vc_block_seq, vc_block_region, vc_block_cond, vc_block_block, Nat.reduceBEq, Nat.reduceAdd, Nat.reduceLeDiff, Nat.reduceEqDiff, Int.reduceAdd, Int.reduceBEq, Int.reduceBNe, reduceCtorEq, beq_self_eq_true, Bool.true_beq, Bool.false_beq]))
    refine draw_treeL (.fl 0 (.fl 1 (.eff 2 false (.eff 3 false (.fl 4 (.fl 5 .done)) .no) (.eff 3 false (.fl 2 (.fl 4 (.fl 5 .done))) .no)))) (by kernel_rfl) (fun (_ : Unit) => [(3, .v (.int .u8 w.node.toNat)), (4, .v (.bool true))]) (fun _ => [(2, ⟨b2, [.bool false, .int .u8 0, .int .u8 0, .slice none 0 0], 52⟩)]) (fun _ u' => u' = u) ?_ ?_
    · (simp only [go_sem, vc_block_seq, vc_block_region, vc_block_cond, vc_block_block, Nat.reduceBEq, Nat.reduceAdd, Nat.reduceLeDiff, Nat.reduceEqDiff, Int.reduceAdd, Int.reduceBEq, Int.reduceBNe, reduceCtorEq, beq_self_eq_true, Bool.true_beq, Bool.false_beq]; repeat ((with_reducible refine leK_refl ?_); simp only [go_sem, vc_block_seq, vc_block_region, vc_block_cond, vc_block_block, Nat.reduceBEq, Nat.reduceAdd, Nat.reduceLeDiff, Nat.reduceEqDiff, Int.reduceAdd, Int.reduceBEq, Int.reduceBNe, reduceCtorEq, beq_self_eq_true, Bool.true_beq, Bool.false_beq]))
      exact ⟨(), le_chk (by simp only [go_sem, vc_block_seq, vc_block_region, vc_block_cond, vc_block_block, Nat.reduceBEq, Nat.reduceAdd, Nat.reduceLeDiff, Nat.reduceEqDiff, Int.reduceAdd, Int.reduceBEq, Int.reduceBNe, reduceCtorEq, beq_self_eq_true, Bool.true_beq, Bool.false_beq])⟩
    rintro _ _ rfl
    (simp only [go_sem, vc_block_seq, vc_block_region, vc_block_cond, vc_block_block, Nat.reduceBEq, Nat.reduceAdd, Nat.reduceLeDiff, Nat.reduceEqDiff, Int.reduceAdd, Int.reduceBEq, Int.reduceBNe, reduceCtorEq, beq_self_eq_true, Bool.true_beq, Bool.false_beq]; repeat ((with_reducible refine leK_refl ?_); simp only [go_sem, vc_block_seq, vc_block_region, vc_block_cond, vc_block_block, Nat.reduceBEq, Nat.reduceAdd, Nat.reduceLeDiff, Nat.reduceEqDiff, Int.reduceAdd, Int.reduceBEq, Int.reduceBNe, reduceCtorEq, beq_self_eq_true, Bool.true_beq, Bool.false_beq]))
    exact ⟨Sub.refl _, _, rfl, ⟨false, 0, 0, none, 0, 0, []⟩, rfl, rfl, DO.nil_ _ _ _ _⟩
  · have h' : ¬ w.left ≤ 1 := by rw [UInt8.le_iff_toNat_le]; show ¬ w.left.toNat ≤ 1; omega
    have e : wTick w.g = (⟨true, w.node, w.left - 1, ds w.l⟩, 0, false) := by simp [wTick, PW.g, hsome, h']
    have e2 : (w.left.toNat : Int) - 1 = ((w.left - 1).toNat : Int) := by
      rw [UInt8.toNat_sub_of_le _ _ (by rw [UInt8.le_iff_toNat_le]; simp; omega)]
      simp
      omega
    rw [e]
    (simp only [go_sem, vc_block_seq, vc_block_region, vc_block_cond, vc_block_block, Nat.reduceBEq, Nat.reduceAdd, Nat.reduceLeDiff, Nat.reduceEqDiff, Int.reduceAdd, Int.reduceBEq, Int.reduceBNe, reduceCtorEq, beq_self_eq_true, Bool.true_beq, Bool.false_beq]; repeat ((with_reducible refine leK_refl ?_); simp only [go_sem, vc_block_seq, vc_block_region, vc_block_cond, vc_block_block, Nat.reduceBEq, Nat.reduceAdd, Nat.reduceLeDiff, Nat.reduceEqDiff, Int.reduceAdd, Int.reduceBEq, Int.reduceBNe, reduceCtorEq, beq_self_eq_true, Bool.true_beq, Bool.false_beq]))
    rw [arith_u8 (by omega), e2]
    (simp only [go_sem, vc_block_seq, vc_block_region, vc_block_cond, vc_block_block, Nat.reduceBEq, Nat.reduceAdd, Nat.reduceLeDiff, Nat.reduceEqDiff, Int.reduceAdd, Int.reduceBEq, Int.reduceBNe, reduceCtorEq, beq_self_eq_true, Bool.true_beq, Bool.false_beq]; repeat ((with_reducible refine leK_refl ?_); simp only [go_sem, vc_block_seq, vc_block_region, vc_block_cond, vc_block_block, Nat.reduceBEq, Nat.reduceAdd, Nat.reduceLeDiff, Nat.reduceEqDiff, Int.reduceAdd, Int.reduceBEq, Int.reduceBNe, reduceCtorEq, beq_self_eq_true, Bool.true_beq, Bool.false_beq]))
    refine AtCall.of_spec (copy_con w.l w.p w.n w.c u hw.dl (by omega) (fun x hx => by have := hw.small x hx; omega)) ?_
    rintro r u1 hs1 ⟨p1, c1, l1, rfl, o1, e1, _⟩
    (simp only [go_sem, vc_block_seq, vc_block_region, vc_block_cond, vc_block_block, Nat.reduceBEq, Nat.reduceAdd, Nat.reduceLeDiff, Nat.reduceEqDiff, Int.reduceAdd, Int.reduceBEq, Int.reduceBNe, reduceCtorEq, beq_self_eq_true, Bool.true_beq, Bool.false_beq]; repeat ((with_reducible refine leK_refl ?_); simp only [go_sem, vc_block_seq, vc_block_region, vc_block_cond, vc_block_block, Nat.reduceBEq, Nat.reduceAdd, Nat.reduceLeDiff, Nat.reduceEqDiff, Int.reduceAdd, Int.reduceBEq, Int.reduceBNe, reduceCtorEq, beq_self_eq_true, Bool.true_beq, Bool.false_beq]))
    exact ⟨hs1, _, rfl, ⟨true, w.node, w.left - 1, p1, w.n, c1, l1⟩, rfl, by simp [PW.g, e1], o1⟩

theorem answer_con (w : PW) (frm : UInt8) (u : World) (hw : WL u w) :
    Con Try.prog 41 [w.val, .int .u8 frm.toNat] u (fun r u' => ∃ v vl, r = .tuple #[v, vl, .bool (wAns w.g frm).2.2] ∧ BackW u u' v (wAns w.g frm).1 ∧ Back u u' vl (wAns w.g frm).2.1) := by
  have hn := hw.len
  refine spec_of_vc Ty.mixed Try.func41 rfl (by kernel_rfl) (by kernel_rfl) rfl [.cell 4 52, .tmp 5, .tmp 6] rfl ?_
  (simp only [go_sem, vc_block_seq, vc_block_region, vc_block_cond, vc_block_block, Nat.reduceBEq, Nat.reduceAdd, Nat.reduceLeDiff, Nat.reduceEqDiff, Int.reduceAdd, Int.reduceBEq, Int.reduceBNe, reduceCtorEq, beq_self_eq_true, Bool.true_beq, Bool.false_beq]; repeat ((with_reducible refine leK_refl ?_); simp only [go_sem, vc_block_seq, vc_block_region, vc_block_cond, vc_block_block, Nat.reduceBEq, Nat.reduceAdd, Nat.reduceLeDiff, Nat.reduceEqDiff, Int.reduceAdd, Int.reduceBEq, Int.reduceBNe, reduceCtorEq, beq_self_eq_true, Bool.true_beq, Bool.false_beq]))
  intro b1 b2
  refine AtCall.of_spec (copy_con w.l w.p w.n w.c u hw.dl (by omega) (fun x hx => by have := hw.small x hx; omega)) ?_
  rintro r u1 hs1 ⟨p1, c1, l1, rfl, o1, e1, _⟩
  (simp only [go_sem, vc_block_seq, vc_block_region, vc_block_cond, vc_block_block, Nat.reduceBEq, Nat.reduceAdd, Nat.reduceLeDiff, Nat.reduceEqDiff, Int.reduceAdd, Int.reduceBEq, Int.reduceBNe, reduceCtorEq, beq_self_eq_true, Bool.true_beq, Bool.false_beq]; repeat ((with_reducible refine leK_refl ?_); simp only [go_sem, vc_block_seq, vc_block_region, vc_block_cond, vc_block_block, Nat.reduceBEq, Nat.reduceAdd, Nat.reduceLeDiff, Nat.reduceEqDiff, Int.reduceAdd, Int.reduceBEq, Int.reduceBNe, reduceCtorEq, beq_self_eq_true, Bool.true_beq, Bool.false_beq]))
  cases hsome : w.some with
  | false =>
    have e : wAns w.g frm = (w.g, [], false) := by simp [wAns, PW.g, hsome]
    rw [e]
    (simp only [go_sem, vc_block_seq, vc_block_region, vc_block_cond, vc_block_block, Nat.reduceBEq, Nat.reduceAdd, Nat.reduceLeDiff, Nat.reduceEqDiff, Int.reduceAdd, Int.reduceBEq, Int.reduceBNe, reduceCtorEq, beq_self_eq_true, Bool.true_beq, Bool.false_beq]; repeat ((with_reducible refine leK_refl ?_); simp only [go_sem, vc_block_seq, vc_block_region, vc_block_cond, vc_block_block, Nat.reduceBEq, Nat.reduceAdd, Nat.reduceLeDiff, Nat.reduceEqDiff, Int.reduceAdd, Int.reduceBEq, Int.reduceBNe, reduceCtorEq, beq_self_eq_true, Bool.true_beq, Bool.false_beq]))
    exact ⟨hs1, _, _, rfl, ⟨⟨false, w.node, w.left, p1, w.n, c1, l1⟩, rfl, by simp [PW.g, e1, hsome], o1⟩, none, 0, 0, [], rfl, DO.nil_ _ _ _ _, rfl⟩
  | true =>
  (simp only [go_sem, vc_block_seq, vc_block_region, vc_block_cond, vc_block_block, Nat.reduceBEq, Nat.reduceAdd, Nat.reduceLeDiff, Nat.reduceEqDiff, Int.reduceAdd, Int.reduceBEq, Int.reduceBNe, reduceCtorEq, beq_self_eq_true, Bool.true_beq, Bool.false_beq]; repeat ((with_reducible refine leK_refl ?_); simp only [go_sem, vc_block_seq, vc_block_region, vc_block_cond, vc_block_block, Nat.reduceBEq, Nat.reduceAdd, Nat.reduceLeDiff, Nat.reduceEqDiff, Int.reduceAdd, Int.reduceBEq, Int.reduceBNe, reduceCtorEq, beq_self_eq_true, Bool.true_beq, Bool.false_beq]))
  rw [u8_beq]
  refine cond_dec (fun h => ?_) (fun h => ?_)
  · have e : wAns w.g frm = (wZero, ds w.l, true) := by simp [wAns, PW.g, hsome, h]
    rw [e]
    (simp only [go_sem, vc_block_seq, vc_block_region, vc_block_cond, vc_block_block, Nat.reduceBEq, Nat.reduceAdd, Nat.reduceLeDiff, Nat.reduceEqDiff, Int.reduceAdd, Int.reduceBEq, Int.reduceBNe, reduceCtorEq, beq_self_eq_true, Bool.true_beq, Bool.false_beq]; repeat ((with_reducible refine leK_refl ?_); simp only [go_sem, vc_block_seq, vc_block_region, vc_block_cond, vc_block_block, Nat.reduceBEq, Nat.reduceAdd, Nat.reduceLeDiff, Nat.reduceEqDiff, Int.reduceAdd, Int.reduceBEq, Int.reduceBNe, reduceCtorEq, beq_self_eq_true, Bool.true_beq, Bool.false_beq]))
    exact ⟨hs1, _, _, rfl, ⟨⟨false, 0, 0, none, 0, 0, []⟩, rfl, rfl, DO.nil_ _ _ _ _⟩, p1, w.n, c1, l1, rfl, o1, e1⟩
  · have e : wAns w.g frm = (w.g, [], false) := by simp [wAns, PW.g, hsome, h]
    rw [e]
    (simp only [go_sem, vc_block_seq, vc_block_region, vc_block_cond, vc_block_block, Nat.reduceBEq, Nat.reduceAdd, Nat.reduceLeDiff, Nat.reduceEqDiff, Int.reduceAdd, Int.reduceBEq, Int.reduceBNe, reduceCtorEq, beq_self_eq_true, Bool.true_beq, Bool.false_beq]; repeat ((with_reducible refine leK_refl ?_); simp only [go_sem, vc_block_seq, vc_block_region, vc_block_cond, vc_block_block, Nat.reduceBEq, Nat.reduceAdd, Nat.reduceLeDiff, Nat.reduceEqDiff, Int.reduceAdd, Int.reduceBEq, Int.reduceBNe, reduceCtorEq, beq_self_eq_true, Bool.true_beq, Bool.false_beq]))
    exact ⟨hs1, _, _, rfl, ⟨⟨true, w.node, w.left, p1, w.n, c1, l1⟩, rfl, by simp [PW.g, e1, hsome], o1⟩, none, 0, 0, [], rfl, DO.nil_ _ _ _ _, rfl⟩

theorem wsame_con (v w : PW) (u : World) (hv : WL u v) (hw : WL u w) : Con Try.prog 40 [v.val, w.val] u (fun r _ => r = .bool (decide (v.g = w.g))) := by
  have hn := hv.len
  refine spec_of_vc Ty.mixed Try.func40 rfl (by kernel_rfl) (by kernel_rfl) rfl [.tmp 4] rfl ?_
  (simp only [go_sem, vc_block_seq, vc_block_region, vc_block_cond, vc_block_block, Nat.reduceBEq, Nat.reduceAdd, Nat.reduceLeDiff, Nat.reduceEqDiff, Int.reduceAdd, Int.reduceBEq, Int.reduceBNe, reduceCtorEq, beq_self_eq_true, Bool.true_beq, Bool.false_beq]; repeat ((with_reducible refine leK_refl ?_); simp only [go_sem, vc_block_seq, vc_block_region, vc_block_cond, vc_block_block, Nat.reduceBEq, Nat.reduceAdd, Nat.reduceLeDiff, Nat.reduceEqDiff, Int.reduceAdd, Int.reduceBEq, Int.reduceBNe, reduceCtorEq, beq_self_eq_true, Bool.true_beq, Bool.false_beq]))
  intro b1 b2
  by_cases h1 : v.some = w.some
  case neg =>
    rw [show (v.some == w.some) = false by simpa using h1]
    (simp only [go_sem, vc_block_seq, vc_block_region, vc_block_cond, vc_block_block, Nat.reduceBEq, Nat.reduceAdd, Nat.reduceLeDiff, Nat.reduceEqDiff, Int.reduceAdd, Int.reduceBEq, Int.reduceBNe, reduceCtorEq, beq_self_eq_true, Bool.true_beq, Bool.false_beq]; repeat ((with_reducible refine leK_refl ?_); simp only [go_sem, vc_block_seq, vc_block_region, vc_block_cond, vc_block_block, Nat.reduceBEq, Nat.reduceAdd, Nat.reduceLeDiff, Nat.reduceEqDiff, Int.reduceAdd, Int.reduceBEq, Int.reduceBNe, reduceCtorEq, beq_self_eq_true, Bool.true_beq, Bool.false_beq]))
    exact ⟨Sub.refl _, by rw [decide_eq_false (fun e => h1 (congrArg GW.some e))]⟩
  rw [show (v.some == w.some) = true by simpa using h1]
  (simp only [go_sem, vc_block_seq, vc_block_region, vc_block_cond, vc_block_block, Nat.reduceBEq, Nat.reduceAdd, Nat.reduceLeDiff, Nat.reduceEqDiff, Int.reduceAdd, Int.reduceBEq, Int.reduceBNe, reduceCtorEq, beq_self_eq_true, Bool.true_beq, Bool.false_beq]; repeat ((with_reducible refine leK_refl ?_); simp only [go_sem, vc_block_seq, vc_block_region, vc_block_cond, vc_block_block, Nat.reduceBEq, Nat.reduceAdd, Nat.reduceLeDiff, Nat.reduceEqDiff, Int.reduceAdd, Int.reduceBEq, Int.reduceBNe, reduceCtorEq, beq_self_eq_true, Bool.true_beq, Bool.false_beq]))
  rw [u8_beq]
  by_cases h2 : v.node = w.node
  case neg =>
    rw [decide_eq_false h2]
    (simp only [go_sem, vc_block_seq, vc_block_region, vc_block_cond, vc_block_block, Nat.reduceBEq, Nat.reduceAdd, Nat.reduceLeDiff, Nat.reduceEqDiff, Int.reduceAdd, Int.reduceBEq, Int.reduceBNe, reduceCtorEq, beq_self_eq_true, Bool.true_beq, Bool.false_beq]; repeat ((with_reducible refine leK_refl ?_); simp only [go_sem, vc_block_seq, vc_block_region, vc_block_cond, vc_block_block, Nat.reduceBEq, Nat.reduceAdd, Nat.reduceLeDiff, Nat.reduceEqDiff, Int.reduceAdd, Int.reduceBEq, Int.reduceBNe, reduceCtorEq, beq_self_eq_true, Bool.true_beq, Bool.false_beq]))
    exact ⟨Sub.refl _, by rw [decide_eq_false (fun e => h2 (congrArg GW.node e))]⟩
  rw [decide_eq_true h2]
  (simp only [go_sem, vc_block_seq, vc_block_region, vc_block_cond, vc_block_block, Nat.reduceBEq, Nat.reduceAdd, Nat.reduceLeDiff, Nat.reduceEqDiff, Int.reduceAdd, Int.reduceBEq, Int.reduceBNe, reduceCtorEq, beq_self_eq_true, Bool.true_beq, Bool.false_beq]; repeat ((with_reducible refine leK_refl ?_); simp only [go_sem, vc_block_seq, vc_block_region, vc_block_cond, vc_block_block, Nat.reduceBEq, Nat.reduceAdd, Nat.reduceLeDiff, Nat.reduceEqDiff, Int.reduceAdd, Int.reduceBEq, Int.reduceBNe, reduceCtorEq, beq_self_eq_true, Bool.true_beq, Bool.false_beq]))
  rw [u8_beq]
  by_cases h3 : v.left = w.left
  case neg =>
    rw [decide_eq_false h3]
    (simp only [go_sem, vc_block_seq, vc_block_region, vc_block_cond, vc_block_block, Nat.reduceBEq, Nat.reduceAdd, Nat.reduceLeDiff, Nat.reduceEqDiff, Int.reduceAdd, Int.reduceBEq, Int.reduceBNe, reduceCtorEq, beq_self_eq_true, Bool.true_beq, Bool.false_beq]; repeat ((with_reducible refine leK_refl ?_); simp only [go_sem, vc_block_seq, vc_block_region, vc_block_cond, vc_block_block, Nat.reduceBEq, Nat.reduceAdd, Nat.reduceLeDiff, Nat.reduceEqDiff, Int.reduceAdd, Int.reduceBEq, Int.reduceBNe, reduceCtorEq, beq_self_eq_true, Bool.true_beq, Bool.false_beq]))
    exact ⟨Sub.refl _, by rw [decide_eq_false (fun e => h3 (congrArg GW.left e))]⟩
  rw [decide_eq_true h3]
  (simp only [go_sem, vc_block_seq, vc_block_region, vc_block_cond, vc_block_block, Nat.reduceBEq, Nat.reduceAdd, Nat.reduceLeDiff, Nat.reduceEqDiff, Int.reduceAdd, Int.reduceBEq, Int.reduceBNe, reduceCtorEq, beq_self_eq_true, Bool.true_beq, Bool.false_beq]; repeat ((with_reducible refine leK_refl ?_); simp only [go_sem, vc_block_seq, vc_block_region, vc_block_cond, vc_block_block, Nat.reduceBEq, Nat.reduceAdd, Nat.reduceLeDiff, Nat.reduceEqDiff, Int.reduceAdd, Int.reduceBEq, Int.reduceBNe, reduceCtorEq, beq_self_eq_true, Bool.true_beq, Bool.false_beq]))
  refine AtCall.of_spec (descs_con v.l w.l v.p w.p v.n v.c w.n w.c u hv.dl hw.dl (by omega) (fun x hx => by have := hv.small x hx; omega)) ?_
  rintro r u1 hs1 rfl
  (simp only [go_sem, vc_block_seq, vc_block_region, vc_block_cond, vc_block_block, Nat.reduceBEq, Nat.reduceAdd, Nat.reduceLeDiff, Nat.reduceEqDiff, Int.reduceAdd, Int.reduceBEq, Int.reduceBNe, reduceCtorEq, beq_self_eq_true, Bool.true_beq, Bool.false_beq]; repeat ((with_reducible refine leK_refl ?_); simp only [go_sem, vc_block_seq, vc_block_region, vc_block_cond, vc_block_block, Nat.reduceBEq, Nat.reduceAdd, Nat.reduceLeDiff, Nat.reduceEqDiff, Int.reduceAdd, Int.reduceBEq, Int.reduceBNe, reduceCtorEq, beq_self_eq_true, Bool.true_beq, Bool.false_beq]))
  refine ⟨hs1, ?_⟩
  congr 1
  rw [decide_eq_decide]
  exact ⟨fun e => by simp [PW.g, h1, h2, h3, e], fun e => congrArg GW.sent e⟩

theorem small_put {L : List GDesc} {d : GDesc} {self : UInt8} {room : Int} (hL : ∀ x ∈ L, x.filter.length ≤ 8) (hd : d.filter.length ≤ 8) : ∀ x ∈ (dPut L d self room).1, x.filter.length ≤ 8 := fun x hx => by
  rcases put_mem x hx with h | h
  · exact hL x h
  · rw [h]; exact hd

theorem fill_snoc (self : UInt8) (room : Int) : ∀ (r : List GDesc) (v : List GDesc) (d : GDesc), sFill self room v (r ++ [d]) = (dPut (sFill self room v r) d self room).1 := by
  intro r
  induction r with
  | nil => intro v d; rfl
  | cons x r ih => intro v d; simp only [List.cons_append, sFill]; exact ih _ d

theorem fill_con (l got : List PD) (self : UInt8) (room : Int) (p q : Option Addr) (n c m e : Nat) (u : World) (hl : DL u p n c l) (hv : Vw self (ds l)) (h8 : ∀ d ∈ ds l, d.filter.length ≤ 8) (hg : DL u q m e got) (hn : n ≤ 1000) (hm : m ≤ 1000) (hg8 : ∀ x ∈ got, x.n ≤ 8) :
    Con Try.prog 45 [.slice p n c, .slice q m e, .int .u8 self.toNat, .int .i64 room] u (fun r u' => Back u u' r (sFill self room (ds l) (ds got))) := by
  have ll := hl.len
  have lg := hg.len
  refine spec_of_vc Ty.mixed Try.func45 rfl (by kernel_rfl) (by kernel_rfl) rfl [.tmp 8] rfl ?_
  (simp only [go_sem, vc_block_seq, vc_block_region, vc_block_cond, vc_block_block, Nat.reduceBEq, Nat.reduceAdd, Nat.reduceLeDiff, Nat.reduceEqDiff, Int.reduceAdd, Int.reduceBEq, Int.reduceBNe, reduceCtorEq, beq_self_eq_true, Bool.true_beq, Bool.false_beq]; repeat ((with_reducible refine leK_refl ?_); simp only [go_sem, vc_block_seq, vc_block_region, vc_block_cond, vc_block_block, Nat.reduceBEq, Nat.reduceAdd, Nat.reduceLeDiff, Nat.reduceEqDiff, Int.reduceAdd, Int.reduceBEq, Int.reduceBNe, reduceCtorEq, beq_self_eq_true, Bool.true_beq, Bool.false_beq]))
  refine AtCall.of_spec (copy_con l p n c u hl (by omega) (fun x hx => by rw [← (hl.fl x hx).len]; have := h8 x.d (List.mem_map_of_mem hx); omega)) ?_
  rintro r u1 hs1 ⟨p1, c1, l1, rfl, o1, e1, _⟩
  (simp only [go_sem, vc_block_seq, vc_block_region, vc_block_cond, vc_block_block, Nat.reduceBEq, Nat.reduceAdd, Nat.reduceLeDiff, Nat.reduceEqDiff, Int.reduceAdd, Int.reduceBEq, Int.reduceBNe, reduceCtorEq, beq_self_eq_true, Bool.true_beq, Bool.false_beq]; repeat ((with_reducible refine leK_refl ?_); simp only [go_sem, vc_block_seq, vc_block_region, vc_block_cond, vc_block_block, Nat.reduceBEq, Nat.reduceAdd, Nat.reduceLeDiff, Nat.reduceEqDiff, Int.reduceAdd, Int.reduceBEq, Int.reduceBNe, reduceCtorEq, beq_self_eq_true, Bool.true_beq, Bool.false_beq]))
  refine vc_range m (fun (g : Option Addr × Nat × Nat) => [(9, .v (.slice g.1 g.2.1 g.2.2))]) (fun _ => [])
    (fun j g u' => Sub u u' ∧ ∃ lv, DO u u' 32 39 g.1 g.2.1 g.2.2 lv ∧ ds lv = sFill self room (ds l) ((ds got).take j) ∧ Vw self (ds lv) ∧ g.2.1 ≤ n + j ∧ ∀ d ∈ ds lv, d.filter.length ≤ 8)
    (p1, n, c1) (le_chk (by simp only [go_sem, vc_block_seq, vc_block_region, vc_block_cond, vc_block_block, Nat.reduceBEq, Nat.reduceAdd, Nat.reduceLeDiff, Nat.reduceEqDiff, Int.reduceAdd, Int.reduceBEq, Int.reduceBNe, reduceCtorEq, beq_self_eq_true, Bool.true_beq, Bool.false_beq])) ⟨hs1, l1, o1, by rw [e1]; rfl, by rw [e1]; exact hv, by simp only; omega, by rw [e1]; exact h8⟩ (fun _ _ => rfl) (by omega) (fun _ => rfl) ?_ ?_
  · rintro j ⟨pv, nv, cv⟩ u2 hj ⟨hs2, lv, ov, ev, hvv, hnv, hv8⟩
    simp only at ov hnv
    obtain ⟨x, hx⟩ := exAt hj lg
    have hx8 := hg8 x (List.mem_of_getElem? hx)
    have hxf : x.d.filter.length ≤ 8 := by rw [(hg.at_ hx).len]; exact hx8
    have dx : (ds got)[j]? = some x.d := by simp [hx]
    (simp only [go_sem, vc_block_seq, vc_block_region, vc_block_cond, vc_block_block, Nat.reduceBEq, Nat.reduceAdd, Nat.reduceLeDiff, Nat.reduceEqDiff, Int.reduceAdd, Int.reduceBEq, Int.reduceBNe, reduceCtorEq, beq_self_eq_true, Bool.true_beq, Bool.false_beq]; repeat ((with_reducible refine leK_refl ?_); simp only [go_sem, vc_block_seq, vc_block_region, vc_block_cond, vc_block_block, Nat.reduceBEq, Nat.reduceAdd, Nat.reduceLeDiff, Nat.reduceEqDiff, Int.reduceAdd, Int.reduceBEq, Int.reduceBNe, reduceCtorEq, beq_self_eq_true, Bool.true_beq, Bool.false_beq]))
    refine ⟨⟨hg.sl.some_ hj, by omega, by omega⟩, ?_⟩
    refine (hg.sl.mono hs2).load (getMap hx) (.inr rfl) (Nat.le_of_ble_eq_true rfl) ?_
    (simp only [go_sem, vc_block_seq, vc_block_region, vc_block_cond, vc_block_block, Nat.reduceBEq, Nat.reduceAdd, Nat.reduceLeDiff, Nat.reduceEqDiff, Int.reduceAdd, Int.reduceBEq, Int.reduceBNe, reduceCtorEq, beq_self_eq_true, Bool.true_beq, Bool.false_beq]; repeat ((with_reducible refine leK_refl ?_); simp only [go_sem, vc_block_seq, vc_block_region, vc_block_cond, vc_block_block, Nat.reduceBEq, Nat.reduceAdd, Nat.reduceLeDiff, Nat.reduceEqDiff, Int.reduceAdd, Int.reduceBEq, Int.reduceBNe, reduceCtorEq, beq_self_eq_true, Bool.true_beq, Bool.false_beq]))
    intro b1
    refine AtCall.of_spec (put_con lv hvv.2 x self room pv nv cv u2 ov.dl ((hg.at_ hx).mono hs2) (by omega) (fun y hy => by rw [← (ov.dl.fl y hy).len]; have := hv8 y.d (List.mem_map_of_mem hy); omega) (by omega)) ?_
    rintro r u3 hs3 ⟨v3, rfl, p3, n3, c3, l3, rfl, o3, e3⟩
    generalize hP : (dPut (ds lv) x.d self room).2 = P
    (simp -implicitDefEqProofs only [go_sem, vc_block_seq, vc_block_region, vc_block_cond, vc_block_block, Nat.reduceBEq, Nat.reduceAdd, Nat.reduceLeDiff, Nat.reduceEqDiff, Int.reduceAdd, Int.reduceBEq, Int.reduceBNe, reduceCtorEq, beq_self_eq_true, Bool.true_beq, Bool.false_beq]; repeat ((with_reducible refine leK_refl ?_); simp -implicitDefEqProofs only [go_sem, vc_block_seq, vc_block_region, vc_block_cond, vc_block_block, Nat.reduceBEq, Nat.reduceAdd, Nat.reduceLeDiff, Nat.reduceEqDiff, Int.reduceAdd, Int.reduceBEq, Int.reduceBNe, reduceCtorEq, beq_self_eq_true, Bool.true_beq, Bool.false_beq]))
    refine cond_split (fun h => ?_) (fun h => ?_)
    · subst h
      (simp only [go_sem, vc_block_seq, vc_block_region, vc_block_cond, vc_block_block, Nat.reduceBEq, Nat.reduceAdd, Nat.reduceLeDiff, Nat.reduceEqDiff, Int.reduceAdd, Int.reduceBEq, Int.reduceBNe, reduceCtorEq, beq_self_eq_true, Bool.true_beq, Bool.false_beq]; repeat ((with_reducible refine leK_refl ?_); simp only [go_sem, vc_block_seq, vc_block_region, vc_block_cond, vc_block_block, Nat.reduceBEq, Nat.reduceAdd, Nat.reduceLeDiff, Nat.reduceEqDiff, Int.reduceAdd, Int.reduceBEq, Int.reduceBNe, reduceCtorEq, beq_self_eq_true, Bool.true_beq, Bool.false_beq]))
      refine ⟨(p3, n3, c3), le_chk (by simp only [go_sem, vc_block_seq, vc_block_region, vc_block_cond, vc_block_block, Nat.reduceBEq, Nat.reduceAdd, Nat.reduceLeDiff, Nat.reduceEqDiff, Int.reduceAdd, Int.reduceBEq, Int.reduceBNe, reduceCtorEq, beq_self_eq_true, Bool.true_beq, Bool.false_beq]), hs2.trans hs3, l3, o3.anti hs2, ?_, ?_, ?_, ?_⟩
      · rw [take_succ dx, fill_snoc, ← ev, e3]
      · rw [e3]; exact vw_put hvv _ _
      · have h1 := o3.len
        have h2 := put_len (self := self) (l := ds lv) x.d room
        rw [← e3] at h2
        have h3 := ov.len
        simp only [List.length_map] at h2
        simp only
        omega
      · rw [e3]; exact small_put hv8 hxf
    · subst h
      (simp only [go_sem, vc_block_seq, vc_block_region, vc_block_cond, vc_block_block, Nat.reduceBEq, Nat.reduceAdd, Nat.reduceLeDiff, Nat.reduceEqDiff, Int.reduceAdd, Int.reduceBEq, Int.reduceBNe, reduceCtorEq, beq_self_eq_true, Bool.true_beq, Bool.false_beq]; repeat ((with_reducible refine leK_refl ?_); simp only [go_sem, vc_block_seq, vc_block_region, vc_block_cond, vc_block_block, Nat.reduceBEq, Nat.reduceAdd, Nat.reduceLeDiff, Nat.reduceEqDiff, Int.reduceAdd, Int.reduceBEq, Int.reduceBNe, reduceCtorEq, beq_self_eq_true, Bool.true_beq, Bool.false_beq]))
      exact ⟨(pv, nv, cv), le_chk (by simp only [go_sem, vc_block_seq, vc_block_region, vc_block_cond, vc_block_block, Nat.reduceBEq, Nat.reduceAdd, Nat.reduceLeDiff, Nat.reduceEqDiff, Int.reduceAdd, Int.reduceBEq, Int.reduceBNe, reduceCtorEq, beq_self_eq_true, Bool.true_beq, Bool.false_beq]), hs2.trans hs3, lv, ov.mono hs3, by rw [take_succ dx, fill_snoc, ← ev, put_false hP], hvv, by simp only; omega, hv8⟩
  · rintro ⟨pv, nv, cv⟩ u2 ⟨hs2, lv, ov, ev, hvv, hnv, hv8⟩
    (simp only [go_sem, vc_block_seq, vc_block_region, vc_block_cond, vc_block_block, Nat.reduceBEq, Nat.reduceAdd, Nat.reduceLeDiff, Nat.reduceEqDiff, Int.reduceAdd, Int.reduceBEq, Int.reduceBNe, reduceCtorEq, beq_self_eq_true, Bool.true_beq, Bool.false_beq]; repeat ((with_reducible refine leK_refl ?_); simp only [go_sem, vc_block_seq, vc_block_region, vc_block_cond, vc_block_block, Nat.reduceBEq, Nat.reduceAdd, Nat.reduceLeDiff, Nat.reduceEqDiff, Int.reduceAdd, Int.reduceBEq, Int.reduceBNe, reduceCtorEq, beq_self_eq_true, Bool.true_beq, Bool.false_beq]))
    exact ⟨hs2, pv, nv, cv, lv, rfl, ov, by rw [ev, take_all (by simpa using lg)]⟩

theorem admit1_con (l : List PD) (hu : Up dKey (ds l)) (x : PD) (self : UInt8) (room : Int) (p : Option Addr) (n c b1 b2 : Nat) (u : World) (hl : DL u p n c l) (hx : Fl u x) (hn : n ≤ 100000) (hs : ∀ x ∈ l, x.n ≤ 100000) (hxn : x.n ≤ 100000)
    (h1 : Cel u b1 x.enc 32) (h2 : Cel u b2 [Value.int .u8 self.toNat] 5) :
    Con Try.prog 57 [.slice p n c, .int .i64 room, .pointer (some ⟨b1, 0, none⟩), .pointer (some ⟨b2, 0, none⟩)] u (fun r u' => ∃ v, r = .tuple #[v, .bool (dPut (ds l) x.d self room).2] ∧ Back u u' v (dPut (ds l) x.d self room).1) := by
  refine spec_of_vc Ty.mixed Try.func57 rfl (by kernel_rfl) (by kernel_rfl) rfl [.tmp 6, .tmp 7] rfl ?_
  (simp only [go_sem, vc_block_seq, vc_block_region, vc_block_cond, vc_block_block, Nat.reduceBEq, Nat.reduceAdd, Nat.reduceLeDiff, Nat.reduceEqDiff, Int.reduceAdd, Int.reduceBEq, Int.reduceBNe, reduceCtorEq, beq_self_eq_true, Bool.true_beq, Bool.false_beq]; repeat ((with_reducible refine leK_refl ?_); simp only [go_sem, vc_block_seq, vc_block_region, vc_block_cond, vc_block_block, Nat.reduceBEq, Nat.reduceAdd, Nat.reduceLeDiff, Nat.reduceEqDiff, Int.reduceAdd, Int.reduceBEq, Int.reduceBNe, reduceCtorEq, beq_self_eq_true, Bool.true_beq, Bool.false_beq]))
  refine ptr_load h1 (.inr rfl) (Nat.le_of_ble_eq_true rfl) ?_
  (simp only [go_sem, vc_block_seq, vc_block_region, vc_block_cond, vc_block_block, Nat.reduceBEq, Nat.reduceAdd, Nat.reduceLeDiff, Nat.reduceEqDiff, Int.reduceAdd, Int.reduceBEq, Int.reduceBNe, reduceCtorEq, beq_self_eq_true, Bool.true_beq, Bool.false_beq]; repeat ((with_reducible refine leK_refl ?_); simp only [go_sem, vc_block_seq, vc_block_region, vc_block_cond, vc_block_block, Nat.reduceBEq, Nat.reduceAdd, Nat.reduceLeDiff, Nat.reduceEqDiff, Int.reduceAdd, Int.reduceBEq, Int.reduceBNe, reduceCtorEq, beq_self_eq_true, Bool.true_beq, Bool.false_beq]))
  refine ptr_load h2 (.inl rfl) (Nat.le_of_ble_eq_true rfl) ?_
  (simp only [go_sem, vc_block_seq, vc_block_region, vc_block_cond, vc_block_block, Nat.reduceBEq, Nat.reduceAdd, Nat.reduceLeDiff, Nat.reduceEqDiff, Int.reduceAdd, Int.reduceBEq, Int.reduceBNe, reduceCtorEq, beq_self_eq_true, Bool.true_beq, Bool.false_beq]; repeat ((with_reducible refine leK_refl ?_); simp only [go_sem, vc_block_seq, vc_block_region, vc_block_cond, vc_block_block, Nat.reduceBEq, Nat.reduceAdd, Nat.reduceLeDiff, Nat.reduceEqDiff, Int.reduceAdd, Int.reduceBEq, Int.reduceBNe, reduceCtorEq, beq_self_eq_true, Bool.true_beq, Bool.false_beq]))
  refine AtCall.of_spec (put_con l hu x self room p n c u hl hx hn hs hxn) ?_
  rintro r u1 hs1 ⟨v, rfl, hb⟩
  generalize (dPut (ds l) x.d self room).2 = P
  (simp -implicitDefEqProofs only [go_sem, vc_block_seq, vc_block_region, vc_block_cond, vc_block_block, Nat.reduceBEq, Nat.reduceAdd, Nat.reduceLeDiff, Nat.reduceEqDiff, Int.reduceAdd, Int.reduceBEq, Int.reduceBNe, reduceCtorEq, beq_self_eq_true, Bool.true_beq, Bool.false_beq]; repeat ((with_reducible refine leK_refl ?_); simp -implicitDefEqProofs only [go_sem, vc_block_seq, vc_block_region, vc_block_cond, vc_block_block, Nat.reduceBEq, Nat.reduceAdd, Nat.reduceLeDiff, Nat.reduceEqDiff, Int.reduceAdd, Int.reduceBEq, Int.reduceBNe, reduceCtorEq, beq_self_eq_true, Bool.true_beq, Bool.false_beq]))
  exact ⟨hs1, v, rfl, hb⟩

theorem admit_keep {L : List GDesc} {d : GDesc} {self : UInt8} {room : Int} (hP : (dPut L d self room).2 = false) (h : L = [] ∨ d.node = self ∨ d.inc = 0 ∨ dIdx L d.node ≠ none) : sAdmit L d self room = L := by
  unfold sAdmit
  rw [if_neg (by rw [hP]; simp)]
  split
  · rfl
  · rename_i hn
    rcases h with rfl | h | h | h
    · rfl
    · exact absurd (.inl h) hn
    · exact absurd (.inr (.inl h)) hn
    · exact absurd (.inr (.inr h)) hn

theorem admit_old {L : List GDesc} {d o : GDesc} {self : UInt8} {room : Int} {i : Nat} (hP : (dPut L d self room).2 = false) (h1 : d.node ≠ self) (h2 : d.inc ≠ 0) (h3 : dIdx L d.node = none) (hi : dOld L = some i) (ho : L[i]? = some o) :
    sAdmit L d self room = (dPut (dDrop L o.node) d self L.length).1 := by
  unfold sAdmit
  rw [if_neg (by rw [hP]; simp), if_neg (by rintro (h | h | h); exact h1 h; exact h2 h; exact h h3), hi]
  simp only [ho]

theorem find_neg {L : List GDesc} {node : UInt8} : dFind L node < 0 ↔ dIdx L node = none := by
  unfold dFind
  cases h : dIdx L node with
  | none => simp
  | some i => simp only; constructor; intro h; omega; intro h; cases h

theorem admit_con (l : List PD) (x : PD) (self : UInt8) (room : Int) (p : Option Addr) (n c : Nat) (u : World) (hl : DL u p n c l) (hv : Vw self (ds l)) (hx : Fl u x) (hn : n ≤ 1000) (hs : ∀ x ∈ l, x.n ≤ 8) (hxn : x.n ≤ 8) :
    Con Try.prog 43 [.slice p n c, x.val, .int .u8 self.toNat, .int .i64 room] u (fun r u' => Back u u' r (sAdmit (ds l) x.d self room)) := by
  have ll := hl.len
  refine spec_of_vc Ty.mixed Try.func43 rfl (by kernel_rfl) (by kernel_rfl) rfl [.tmp 8] rfl ?_
  (simp only [go_sem, vc_block_seq, vc_block_region, vc_block_cond, vc_block_block, Nat.reduceBEq, Nat.reduceAdd, Nat.reduceLeDiff, Nat.reduceEqDiff, Int.reduceAdd, Int.reduceBEq, Int.reduceBNe, reduceCtorEq, beq_self_eq_true, Bool.true_beq, Bool.false_beq]; repeat ((with_reducible refine leK_refl ?_); simp only [go_sem, vc_block_seq, vc_block_region, vc_block_cond, vc_block_block, Nat.reduceBEq, Nat.reduceAdd, Nat.reduceLeDiff, Nat.reduceEqDiff, Int.reduceAdd, Int.reduceBEq, Int.reduceBNe, reduceCtorEq, beq_self_eq_true, Bool.true_beq, Bool.false_beq]))
  intro b1 b2 u1 hs1 hf1 hf1' hb1 hg1 u2 hs2 hf2 hf2' hb2 hg2
  have hS := hs1.trans hs2
  have hc1 : Cel u2 b1 x.enc 32 := hs2 _ _ hb1 cells_ne_junk
  have hc2 : Cel u2 b2 [Value.int .u8 self.toNat] 5 := hb2
  replace hl := hl.mono hS
  replace hx := hx.mono hS
  refine AtCall.of_spec (admit1_con l hv.2 x self room p n c b1 b2 _ hl hx (by omega) (fun y hy => by have := hs y hy; omega) (by omega) hc1 hc2) ?_
  rintro r W1 H1 ⟨v3, rfl, p3, n3, c3, l3, rfl, o3, e3⟩
  replace hl := hl.mono H1
  replace hx := hx.mono H1
  replace hS := hS.trans H1
  replace hc1 := hc1.mono H1
  replace hc2 := hc2.mono H1
  generalize hP : (dPut (ds l) x.d self room).2 = P
  (simp -implicitDefEqProofs only [go_sem, vc_block_seq, vc_block_region, vc_block_cond, vc_block_block, Nat.reduceBEq, Nat.reduceAdd, Nat.reduceLeDiff, Nat.reduceEqDiff, Int.reduceAdd, Int.reduceBEq, Int.reduceBNe, reduceCtorEq, beq_self_eq_true, Bool.true_beq, Bool.false_beq]; repeat ((with_reducible refine leK_refl ?_); simp -implicitDefEqProofs only [go_sem, vc_block_seq, vc_block_region, vc_block_cond, vc_block_block, Nat.reduceBEq, Nat.reduceAdd, Nat.reduceLeDiff, Nat.reduceEqDiff, Int.reduceAdd, Int.reduceBEq, Int.reduceBNe, reduceCtorEq, beq_self_eq_true, Bool.true_beq, Bool.false_beq]))
  refine cond_split (fun h => ?_) (fun h => ?_)
  · subst h
    (simp only [go_sem, vc_block_seq, vc_block_region, vc_block_cond, vc_block_block, Nat.reduceBEq, Nat.reduceAdd, Nat.reduceLeDiff, Nat.reduceEqDiff, Int.reduceAdd, Int.reduceBEq, Int.reduceBNe, reduceCtorEq, beq_self_eq_true, Bool.true_beq, Bool.false_beq]; repeat ((with_reducible refine leK_refl ?_); simp only [go_sem, vc_block_seq, vc_block_region, vc_block_cond, vc_block_block, Nat.reduceBEq, Nat.reduceAdd, Nat.reduceLeDiff, Nat.reduceEqDiff, Int.reduceAdd, Int.reduceBEq, Int.reduceBNe, reduceCtorEq, beq_self_eq_true, Bool.true_beq, Bool.false_beq]))
    exact ⟨hS, p3, n3, c3, l3, rfl, o3.anti (hs1.trans hs2), by unfold sAdmit; rw [if_pos hP]; exact e3⟩
  subst h
  have hs0 : ∀ y ∈ l, y.n ≤ 1000000 := fun y hy => by have := hs y hy; omega
  (simp only [go_sem, vc_block_seq, vc_block_region, vc_block_cond, vc_block_block, Nat.reduceBEq, Nat.reduceAdd, Nat.reduceLeDiff, Nat.reduceEqDiff, Int.reduceAdd, Int.reduceBEq, Int.reduceBNe, reduceCtorEq, beq_self_eq_true, Bool.true_beq, Bool.false_beq]; repeat ((with_reducible refine leK_refl ?_); simp only [go_sem, vc_block_seq, vc_block_region, vc_block_cond, vc_block_block, Nat.reduceBEq, Nat.reduceAdd, Nat.reduceLeDiff, Nat.reduceEqDiff, Int.reduceAdd, Int.reduceBEq, Int.reduceBNe, reduceCtorEq, beq_self_eq_true, Bool.true_beq, Bool.false_beq]))
  have hS0 := hS
  by_cases h0 : n = 0
  · have hkeep := admit_keep hP (.inl (by have : l = [] := List.eq_nil_of_length_eq_zero (by omega); rw [this]; rfl))
    rw [show ((n : Int) == 0) = true by simp; omega]
    (simp only [go_sem, vc_block_seq, vc_block_region, vc_block_cond, vc_block_block, Nat.reduceBEq, Nat.reduceAdd, Nat.reduceLeDiff, Nat.reduceEqDiff, Int.reduceAdd, Int.reduceBEq, Int.reduceBNe, reduceCtorEq, beq_self_eq_true, Bool.true_beq, Bool.false_beq]; repeat ((with_reducible refine leK_refl ?_); simp only [go_sem, vc_block_seq, vc_block_region, vc_block_cond, vc_block_block, Nat.reduceBEq, Nat.reduceAdd, Nat.reduceLeDiff, Nat.reduceEqDiff, Int.reduceAdd, Int.reduceBEq, Int.reduceBNe, reduceCtorEq, beq_self_eq_true, Bool.true_beq, Bool.false_beq]))
    refine AtCall.of_spec (copy_con l p n c _ hl (by omega) hs0) ?_
    rintro r W2 H2 ⟨p4, c4, l4, rfl, o4, e4, _⟩
    replace hl := hl.mono H2
    replace hx := hx.mono H2
    replace hS := hS.trans H2
    replace hc1 := hc1.mono H2
    replace hc2 := hc2.mono H2
    (simp only [go_sem, vc_block_seq, vc_block_region, vc_block_cond, vc_block_block, Nat.reduceBEq, Nat.reduceAdd, Nat.reduceLeDiff, Nat.reduceEqDiff, Int.reduceAdd, Int.reduceBEq, Int.reduceBNe, reduceCtorEq, beq_self_eq_true, Bool.true_beq, Bool.false_beq]; repeat ((with_reducible refine leK_refl ?_); simp only [go_sem, vc_block_seq, vc_block_region, vc_block_cond, vc_block_block, Nat.reduceBEq, Nat.reduceAdd, Nat.reduceLeDiff, Nat.reduceEqDiff, Int.reduceAdd, Int.reduceBEq, Int.reduceBNe, reduceCtorEq, beq_self_eq_true, Bool.true_beq, Bool.false_beq]))
    exact ⟨hS, p4, n, c4, l4, rfl, o4.anti hS0, by rw [e4, hkeep]⟩
  rw [show ((n : Int) == 0) = false by simp; omega]
  (simp only [go_sem, vc_block_seq, vc_block_region, vc_block_cond, vc_block_block, Nat.reduceBEq, Nat.reduceAdd, Nat.reduceLeDiff, Nat.reduceEqDiff, Int.reduceAdd, Int.reduceBEq, Int.reduceBNe, reduceCtorEq, beq_self_eq_true, Bool.true_beq, Bool.false_beq]; repeat ((with_reducible refine leK_refl ?_); simp only [go_sem, vc_block_seq, vc_block_region, vc_block_cond, vc_block_block, Nat.reduceBEq, Nat.reduceAdd, Nat.reduceLeDiff, Nat.reduceEqDiff, Int.reduceAdd, Int.reduceBEq, Int.reduceBNe, reduceCtorEq, beq_self_eq_true, Bool.true_beq, Bool.false_beq]))
  refine ptr_load hc1 (.inl rfl) (Nat.le_of_ble_eq_true rfl) ?_
  (simp only [go_sem, vc_block_seq, vc_block_region, vc_block_cond, vc_block_block, Nat.reduceBEq, Nat.reduceAdd, Nat.reduceLeDiff, Nat.reduceEqDiff, Int.reduceAdd, Int.reduceBEq, Int.reduceBNe, reduceCtorEq, beq_self_eq_true, Bool.true_beq, Bool.false_beq]; repeat ((with_reducible refine leK_refl ?_); simp only [go_sem, vc_block_seq, vc_block_region, vc_block_cond, vc_block_block, Nat.reduceBEq, Nat.reduceAdd, Nat.reduceLeDiff, Nat.reduceEqDiff, Int.reduceAdd, Int.reduceBEq, Int.reduceBNe, reduceCtorEq, beq_self_eq_true, Bool.true_beq, Bool.false_beq]))
  refine ptr_load hc2 (.inl rfl) (Nat.le_of_ble_eq_true rfl) ?_
  (simp only [go_sem, vc_block_seq, vc_block_region, vc_block_cond, vc_block_block, Nat.reduceBEq, Nat.reduceAdd, Nat.reduceLeDiff, Nat.reduceEqDiff, Int.reduceAdd, Int.reduceBEq, Int.reduceBNe, reduceCtorEq, beq_self_eq_true, Bool.true_beq, Bool.false_beq]; repeat ((with_reducible refine leK_refl ?_); simp only [go_sem, vc_block_seq, vc_block_region, vc_block_cond, vc_block_block, Nat.reduceBEq, Nat.reduceAdd, Nat.reduceLeDiff, Nat.reduceEqDiff, Int.reduceAdd, Int.reduceBEq, Int.reduceBNe, reduceCtorEq, beq_self_eq_true, Bool.true_beq, Bool.false_beq]))
  rw [u8_beq]
  by_cases h1 : x.d.node = self
  · have hkeep := admit_keep hP (.inr (.inl h1))
    rw [decide_eq_true h1]
    (simp only [go_sem, vc_block_seq, vc_block_region, vc_block_cond, vc_block_block, Nat.reduceBEq, Nat.reduceAdd, Nat.reduceLeDiff, Nat.reduceEqDiff, Int.reduceAdd, Int.reduceBEq, Int.reduceBNe, reduceCtorEq, beq_self_eq_true, Bool.true_beq, Bool.false_beq]; repeat ((with_reducible refine leK_refl ?_); simp only [go_sem, vc_block_seq, vc_block_region, vc_block_cond, vc_block_block, Nat.reduceBEq, Nat.reduceAdd, Nat.reduceLeDiff, Nat.reduceEqDiff, Int.reduceAdd, Int.reduceBEq, Int.reduceBNe, reduceCtorEq, beq_self_eq_true, Bool.true_beq, Bool.false_beq]))
    refine AtCall.of_spec (copy_con l p n c _ hl (by omega) hs0) ?_
    rintro r W3 H3 ⟨p4, c4, l4, rfl, o4, e4, _⟩
    replace hl := hl.mono H3
    replace hx := hx.mono H3
    replace hS := hS.trans H3
    replace hc1 := hc1.mono H3
    replace hc2 := hc2.mono H3
    (simp only [go_sem, vc_block_seq, vc_block_region, vc_block_cond, vc_block_block, Nat.reduceBEq, Nat.reduceAdd, Nat.reduceLeDiff, Nat.reduceEqDiff, Int.reduceAdd, Int.reduceBEq, Int.reduceBNe, reduceCtorEq, beq_self_eq_true, Bool.true_beq, Bool.false_beq]; repeat ((with_reducible refine leK_refl ?_); simp only [go_sem, vc_block_seq, vc_block_region, vc_block_cond, vc_block_block, Nat.reduceBEq, Nat.reduceAdd, Nat.reduceLeDiff, Nat.reduceEqDiff, Int.reduceAdd, Int.reduceBEq, Int.reduceBNe, reduceCtorEq, beq_self_eq_true, Bool.true_beq, Bool.false_beq]))
    exact ⟨hS, p4, n, c4, l4, rfl, o4.anti hS0, by rw [e4, hkeep]⟩
  rw [decide_eq_false h1]
  (simp only [go_sem, vc_block_seq, vc_block_region, vc_block_cond, vc_block_block, Nat.reduceBEq, Nat.reduceAdd, Nat.reduceLeDiff, Nat.reduceEqDiff, Int.reduceAdd, Int.reduceBEq, Int.reduceBNe, reduceCtorEq, beq_self_eq_true, Bool.true_beq, Bool.false_beq]; repeat ((with_reducible refine leK_refl ?_); simp only [go_sem, vc_block_seq, vc_block_region, vc_block_cond, vc_block_block, Nat.reduceBEq, Nat.reduceAdd, Nat.reduceLeDiff, Nat.reduceEqDiff, Int.reduceAdd, Int.reduceBEq, Int.reduceBNe, reduceCtorEq, beq_self_eq_true, Bool.true_beq, Bool.false_beq]))
  refine ptr_load hc1 (.inl rfl) (Nat.le_of_ble_eq_true rfl) ?_
  (simp only [go_sem, vc_block_seq, vc_block_region, vc_block_cond, vc_block_block, Nat.reduceBEq, Nat.reduceAdd, Nat.reduceLeDiff, Nat.reduceEqDiff, Int.reduceAdd, Int.reduceBEq, Int.reduceBNe, reduceCtorEq, beq_self_eq_true, Bool.true_beq, Bool.false_beq]; repeat ((with_reducible refine leK_refl ?_); simp only [go_sem, vc_block_seq, vc_block_region, vc_block_cond, vc_block_block, Nat.reduceBEq, Nat.reduceAdd, Nat.reduceLeDiff, Nat.reduceEqDiff, Int.reduceAdd, Int.reduceBEq, Int.reduceBNe, reduceCtorEq, beq_self_eq_true, Bool.true_beq, Bool.false_beq]))
  rw [u16_eq0]
  by_cases h2 : x.d.inc = 0
  · have hkeep := admit_keep hP (.inr (.inr (.inl h2)))
    rw [decide_eq_true h2]
    (simp only [go_sem, vc_block_seq, vc_block_region, vc_block_cond, vc_block_block, Nat.reduceBEq, Nat.reduceAdd, Nat.reduceLeDiff, Nat.reduceEqDiff, Int.reduceAdd, Int.reduceBEq, Int.reduceBNe, reduceCtorEq, beq_self_eq_true, Bool.true_beq, Bool.false_beq]; repeat ((with_reducible refine leK_refl ?_); simp only [go_sem, vc_block_seq, vc_block_region, vc_block_cond, vc_block_block, Nat.reduceBEq, Nat.reduceAdd, Nat.reduceLeDiff, Nat.reduceEqDiff, Int.reduceAdd, Int.reduceBEq, Int.reduceBNe, reduceCtorEq, beq_self_eq_true, Bool.true_beq, Bool.false_beq]))
    refine AtCall.of_spec (copy_con l p n c _ hl (by omega) hs0) ?_
    rintro r W4 H4 ⟨p4, c4, l4, rfl, o4, e4, _⟩
    replace hl := hl.mono H4
    replace hx := hx.mono H4
    replace hS := hS.trans H4
    replace hc1 := hc1.mono H4
    replace hc2 := hc2.mono H4
    (simp only [go_sem, vc_block_seq, vc_block_region, vc_block_cond, vc_block_block, Nat.reduceBEq, Nat.reduceAdd, Nat.reduceLeDiff, Nat.reduceEqDiff, Int.reduceAdd, Int.reduceBEq, Int.reduceBNe, reduceCtorEq, beq_self_eq_true, Bool.true_beq, Bool.false_beq]; repeat ((with_reducible refine leK_refl ?_); simp only [go_sem, vc_block_seq, vc_block_region, vc_block_cond, vc_block_block, Nat.reduceBEq, Nat.reduceAdd, Nat.reduceLeDiff, Nat.reduceEqDiff, Int.reduceAdd, Int.reduceBEq, Int.reduceBNe, reduceCtorEq, beq_self_eq_true, Bool.true_beq, Bool.false_beq]))
    exact ⟨hS, p4, n, c4, l4, rfl, o4.anti hS0, by rw [e4, hkeep]⟩
  rw [decide_eq_false h2]
  (simp only [go_sem, vc_block_seq, vc_block_region, vc_block_cond, vc_block_block, Nat.reduceBEq, Nat.reduceAdd, Nat.reduceLeDiff, Nat.reduceEqDiff, Int.reduceAdd, Int.reduceBEq, Int.reduceBNe, reduceCtorEq, beq_self_eq_true, Bool.true_beq, Bool.false_beq]; repeat ((with_reducible refine leK_refl ?_); simp only [go_sem, vc_block_seq, vc_block_region, vc_block_cond, vc_block_block, Nat.reduceBEq, Nat.reduceAdd, Nat.reduceLeDiff, Nat.reduceEqDiff, Int.reduceAdd, Int.reduceBEq, Int.reduceBNe, reduceCtorEq, beq_self_eq_true, Bool.true_beq, Bool.false_beq]))
  refine ptr_load hc1 (.inl rfl) (Nat.le_of_ble_eq_true rfl) ?_
  (simp only [go_sem, vc_block_seq, vc_block_region, vc_block_cond, vc_block_block, Nat.reduceBEq, Nat.reduceAdd, Nat.reduceLeDiff, Nat.reduceEqDiff, Int.reduceAdd, Int.reduceBEq, Int.reduceBNe, reduceCtorEq, beq_self_eq_true, Bool.true_beq, Bool.false_beq]; repeat ((with_reducible refine leK_refl ?_); simp only [go_sem, vc_block_seq, vc_block_region, vc_block_cond, vc_block_block, Nat.reduceBEq, Nat.reduceAdd, Nat.reduceLeDiff, Nat.reduceEqDiff, Int.reduceAdd, Int.reduceBEq, Int.reduceBNe, reduceCtorEq, beq_self_eq_true, Bool.true_beq, Bool.false_beq]))
  refine AtCall.of_spec (find_con l hv.2 x.d.node p n c _ hl (by omega)) ?_
  rintro r W5 H5 rfl
  replace hl := hl.mono H5
  replace hx := hx.mono H5
  replace hS := hS.trans H5
  replace hc1 := hc1.mono H5
  replace hc2 := hc2.mono H5
  (simp only [go_sem, vc_block_seq, vc_block_region, vc_block_cond, vc_block_block, Nat.reduceBEq, Nat.reduceAdd, Nat.reduceLeDiff, Nat.reduceEqDiff, Int.reduceAdd, Int.reduceBEq, Int.reduceBNe, reduceCtorEq, beq_self_eq_true, Bool.true_beq, Bool.false_beq]; repeat ((with_reducible refine leK_refl ?_); simp only [go_sem, vc_block_seq, vc_block_region, vc_block_cond, vc_block_block, Nat.reduceBEq, Nat.reduceAdd, Nat.reduceLeDiff, Nat.reduceEqDiff, Int.reduceAdd, Int.reduceBEq, Int.reduceBNe, reduceCtorEq, beq_self_eq_true, Bool.true_beq, Bool.false_beq]))
  replace hS0 := hS0.trans H5
  by_cases h3 : dIdx (ds l) x.d.node = none
  case neg =>
    have hkeep := admit_keep hP (.inr (.inr (.inr h3)))
    rw [decide_eq_true (show 0 ≤ dFind (ds l) x.d.node from Int.not_lt.1 (mt find_neg.1 h3))]
    (simp only [go_sem, vc_block_seq, vc_block_region, vc_block_cond, vc_block_block, Nat.reduceBEq, Nat.reduceAdd, Nat.reduceLeDiff, Nat.reduceEqDiff, Int.reduceAdd, Int.reduceBEq, Int.reduceBNe, reduceCtorEq, beq_self_eq_true, Bool.true_beq, Bool.false_beq]; repeat ((with_reducible refine leK_refl ?_); simp only [go_sem, vc_block_seq, vc_block_region, vc_block_cond, vc_block_block, Nat.reduceBEq, Nat.reduceAdd, Nat.reduceLeDiff, Nat.reduceEqDiff, Int.reduceAdd, Int.reduceBEq, Int.reduceBNe, reduceCtorEq, beq_self_eq_true, Bool.true_beq, Bool.false_beq]))
    refine AtCall.of_spec (copy_con l p n c _ hl (by omega) hs0) ?_
    rintro r W6 H6 ⟨p4, c4, l4, rfl, o4, e4, _⟩
    replace hl := hl.mono H6
    replace hx := hx.mono H6
    replace hS := hS.trans H6
    replace hc1 := hc1.mono H6
    replace hc2 := hc2.mono H6
    (simp only [go_sem, vc_block_seq, vc_block_region, vc_block_cond, vc_block_block, Nat.reduceBEq, Nat.reduceAdd, Nat.reduceLeDiff, Nat.reduceEqDiff, Int.reduceAdd, Int.reduceBEq, Int.reduceBNe, reduceCtorEq, beq_self_eq_true, Bool.true_beq, Bool.false_beq]; repeat ((with_reducible refine leK_refl ?_); simp only [go_sem, vc_block_seq, vc_block_region, vc_block_cond, vc_block_block, Nat.reduceBEq, Nat.reduceAdd, Nat.reduceLeDiff, Nat.reduceEqDiff, Int.reduceAdd, Int.reduceBEq, Int.reduceBNe, reduceCtorEq, beq_self_eq_true, Bool.true_beq, Bool.false_beq]))
    exact ⟨hS, p4, n, c4, l4, rfl, o4.anti hS0, by rw [e4, hkeep]⟩
  rw [decide_eq_false (show ¬ 0 ≤ dFind (ds l) x.d.node from Int.not_le.2 (find_neg.2 h3))]
  (simp only [go_sem, vc_block_seq, vc_block_region, vc_block_cond, vc_block_block, Nat.reduceBEq, Nat.reduceAdd, Nat.reduceLeDiff, Nat.reduceEqDiff, Int.reduceAdd, Int.reduceBEq, Int.reduceBNe, reduceCtorEq, beq_self_eq_true, Bool.true_beq, Bool.false_beq]; repeat ((with_reducible refine leK_refl ?_); simp only [go_sem, vc_block_seq, vc_block_region, vc_block_cond, vc_block_block, Nat.reduceBEq, Nat.reduceAdd, Nat.reduceLeDiff, Nat.reduceEqDiff, Int.reduceAdd, Int.reduceBEq, Int.reduceBNe, reduceCtorEq, beq_self_eq_true, Bool.true_beq, Bool.false_beq]))
  refine AtCall.of_spec (oldest_con l p n c _ hl (by omega)) ?_
  rintro r W7 H7 rfl
  replace hl := hl.mono H7
  replace hx := hx.mono H7
  replace hS := hS.trans H7
  replace hc1 := hc1.mono H7
  replace hc2 := hc2.mono H7
  (simp only [go_sem, vc_block_seq, vc_block_region, vc_block_cond, vc_block_block, Nat.reduceBEq, Nat.reduceAdd, Nat.reduceLeDiff, Nat.reduceEqDiff, Int.reduceAdd, Int.reduceBEq, Int.reduceBNe, reduceCtorEq, beq_self_eq_true, Bool.true_beq, Bool.false_beq]; repeat ((with_reducible refine leK_refl ?_); simp only [go_sem, vc_block_seq, vc_block_region, vc_block_cond, vc_block_block, Nat.reduceBEq, Nat.reduceAdd, Nat.reduceLeDiff, Nat.reduceEqDiff, Int.reduceAdd, Int.reduceBEq, Int.reduceBNe, reduceCtorEq, beq_self_eq_true, Bool.true_beq, Bool.false_beq]))
  replace hS0 := hS0.trans H7
  obtain ⟨i, hi⟩ := old_some (l := ds l) (fun e => h0 (by rw [← ll]; simpa using e))
  obtain ⟨o, ho, _, _⟩ := old_spec hi
  have hin : i < n := by obtain ⟨h, _⟩ := List.getElem?_eq_some_iff.1 ho; simp at h; omega
  obtain ⟨y, hy⟩ := exAt hin ll
  have hyo := atDs hy ho
  rw [show dOldest (ds l) = (i : Int) by unfold dOldest; rw [hi]]
  rw [decide_eq_false (show ¬ (i : Int) < 0 by omega)]
  (simp only [go_sem, vc_block_seq, vc_block_region, vc_block_cond, vc_block_block, Nat.reduceBEq, Nat.reduceAdd, Nat.reduceLeDiff, Nat.reduceEqDiff, Int.reduceAdd, Int.reduceBEq, Int.reduceBNe, reduceCtorEq, beq_self_eq_true, Bool.true_beq, Bool.false_beq]; repeat ((with_reducible refine leK_refl ?_); simp only [go_sem, vc_block_seq, vc_block_region, vc_block_cond, vc_block_block, Nat.reduceBEq, Nat.reduceAdd, Nat.reduceLeDiff, Nat.reduceEqDiff, Int.reduceAdd, Int.reduceBEq, Int.reduceBNe, reduceCtorEq, beq_self_eq_true, Bool.true_beq, Bool.false_beq]))
  refine ⟨⟨hl.sl.some_ hin, by omega, by omega⟩, ?_⟩
  refine hl.sl.load (getMap hy) (.inl rfl) (Nat.le_of_ble_eq_true rfl) ?_
  (simp only [go_sem, vc_block_seq, vc_block_region, vc_block_cond, vc_block_block, Nat.reduceBEq, Nat.reduceAdd, Nat.reduceLeDiff, Nat.reduceEqDiff, Int.reduceAdd, Int.reduceBEq, Int.reduceBNe, reduceCtorEq, beq_self_eq_true, Bool.true_beq, Bool.false_beq]; repeat ((with_reducible refine leK_refl ?_); simp only [go_sem, vc_block_seq, vc_block_region, vc_block_cond, vc_block_block, Nat.reduceBEq, Nat.reduceAdd, Nat.reduceLeDiff, Nat.reduceEqDiff, Int.reduceAdd, Int.reduceBEq, Int.reduceBNe, reduceCtorEq, beq_self_eq_true, Bool.true_beq, Bool.false_beq]))
  refine AtCall.of_spec (drop_con l hv.2 y.d.node p n c _ hl (by omega) (fun z hz => by have := hs z hz; omega)) ?_
  rintro r W8 H8 ⟨p5, n5, c5, l5, rfl, o5, e5⟩
  replace hl := hl.mono H8
  replace hx := hx.mono H8
  replace hS := hS.trans H8
  replace hc1 := hc1.mono H8
  replace hc2 := hc2.mono H8
  (simp only [go_sem, vc_block_seq, vc_block_region, vc_block_cond, vc_block_block, Nat.reduceBEq, Nat.reduceAdd, Nat.reduceLeDiff, Nat.reduceEqDiff, Int.reduceAdd, Int.reduceBEq, Int.reduceBNe, reduceCtorEq, beq_self_eq_true, Bool.true_beq, Bool.false_beq]; repeat ((with_reducible refine leK_refl ?_); simp only [go_sem, vc_block_seq, vc_block_region, vc_block_cond, vc_block_block, Nat.reduceBEq, Nat.reduceAdd, Nat.reduceLeDiff, Nat.reduceEqDiff, Int.reduceAdd, Int.reduceBEq, Int.reduceBNe, reduceCtorEq, beq_self_eq_true, Bool.true_beq, Bool.false_beq]))
  replace hS0 := hS0.trans H8
  have hl5 := o5.len
  have h5n : n5 ≤ n := by have h6 := congrArg List.length e5; have h7 := drop_len_le (ds l) y.d.node; simp at h6 h7; omega
  have hsm5 : ∀ z ∈ l5, z.n ≤ 100000 := fun z hz => by
    rw [← (o5.dl.fl z hz).len]
    have hm : z.d ∈ dDrop (ds l) y.d.node := by rw [← e5]; exact List.mem_map_of_mem hz
    obtain ⟨z2, hz2, e6⟩ := List.mem_map.1 (List.mem_filter.1 hm).1
    rw [← e6, (hl.fl z2 hz2).len]
    have := hs z2 hz2
    omega
  refine AtCall.of_spec (admit1_con l5 (by rw [e5]; exact (vw_drop hv _).2) x self n p5 n5 c5 b1 b2 _ o5.dl hx (by omega) hsm5 (by omega) hc1 hc2) ?_
  rintro r W9 H9 ⟨v6, rfl, p6, n6, c6, l6, rfl, o6, e6⟩
  replace hl := hl.mono H9
  replace hx := hx.mono H9
  replace hS := hS.trans H9
  replace hc1 := hc1.mono H9
  replace hc2 := hc2.mono H9
  generalize hP6 : (dPut (ds l5) x.d self n).2 = P6
  (simp -implicitDefEqProofs only [go_sem, vc_block_seq, vc_block_region, vc_block_cond, vc_block_block, Nat.reduceBEq, Nat.reduceAdd, Nat.reduceLeDiff, Nat.reduceEqDiff, Int.reduceAdd, Int.reduceBEq, Int.reduceBNe, reduceCtorEq, beq_self_eq_true, Bool.true_beq, Bool.false_beq]; repeat ((with_reducible refine leK_refl ?_); simp -implicitDefEqProofs only [go_sem, vc_block_seq, vc_block_region, vc_block_cond, vc_block_block, Nat.reduceBEq, Nat.reduceAdd, Nat.reduceLeDiff, Nat.reduceEqDiff, Int.reduceAdd, Int.reduceBEq, Int.reduceBNe, reduceCtorEq, beq_self_eq_true, Bool.true_beq, Bool.false_beq]))
  refine ⟨hS, p6, n6, c6, l6, rfl, o6.anti hS0, ?_⟩
  rw [e6, admit_old hP h1 h2 h3 hi ho, hyo, e5]
  simp [ll]

end Go.Proofs.Ytcfkcmalkbdphaa

/-
  Walks: the chapter's examples of sample.
-/
set_option linter.unusedSimpArgs false
set_option linter.unusedVariables false
namespace Go.Eng
def oneS (a b : UInt8) : GDesc := ⟨a, 1, b, []⟩
end Go.Eng
namespace Go.Proofs.Ytcfkcmalkbdphaa
open Go.Eng
attribute [local go_sem] GSpan.val GSpan.enc PD.val PD.enc PW.val PW.enc

theorem sone_con (a b : UInt8) (u : World) : Con Try.prog 56 [.int .u8 a.toNat, .int .u8 b.toNat] u (fun r u' => r = PD.val ⟨oneS a b, none, 0, 0⟩) := by
  refine spec_of_vc Ty.mixed Try.func56 rfl (by kernel_rfl) (by kernel_rfl) rfl [.cell 4 32] rfl ?_
  (simp only [go_sem, vc_block_seq, vc_block_region, vc_block_cond, vc_block_block, Nat.reduceBEq, Nat.reduceAdd, Nat.reduceLeDiff, Nat.reduceEqDiff, Int.reduceAdd, Int.reduceBEq, Int.reduceBNe, reduceCtorEq, beq_self_eq_true, Bool.true_beq, Bool.false_beq]; repeat ((with_reducible refine leK_refl ?_); simp only [go_sem, vc_block_seq, vc_block_region, vc_block_cond, vc_block_block, Nat.reduceBEq, Nat.reduceAdd, Nat.reduceLeDiff, Nat.reduceEqDiff, Int.reduceAdd, Int.reduceBEq, Int.reduceBNe, reduceCtorEq, beq_self_eq_true, Bool.true_beq, Bool.false_beq]))
  intro b1
  exact ⟨Sub.refl _, rfl⟩

theorem fl_one (u : World) (a b : UInt8) : Fl u ⟨oneS a b, none, 0, 0⟩ := Sl.none_ _ _

theorem wl_back {u u' : World} {v : Value} {g : GW} (h : BackW u u' v g) (hn : g.sent.length ≤ 100) (h8 : ∀ d ∈ g.sent, d.filter.length ≤ 8) : ∃ w : PW, v = w.val ∧ w.g = g ∧ WL u' w := by
  obtain ⟨w, rfl, rfl, o⟩ := h
  refine ⟨w, rfl, rfl, o.dl, ?_, fun x hx => ?_⟩
  · have := o.len; simp [PW.g] at hn; omega
  · rw [← (o.dl.fl x hx).len]; exact h8 x.d (List.mem_map_of_mem hx)

set_option maxRecDepth 4000 in
set_option maxHeartbeats 2000000 in
theorem sawake_con (u : World) : Con Try.prog 35 [] u (fun r _ => r = .bool true) := by
  refine spec_of_vc Ty.mixed Try.func35 rfl (by kernel_rfl) (by kernel_rfl) rfl [.tmp 0] rfl ?_
  (simp only [go_sem, vc_block_seq, vc_block_region, vc_block_cond, vc_block_block, Nat.reduceBEq, Nat.reduceAdd, Nat.reduceLeDiff, Nat.reduceEqDiff, Int.reduceAdd, Int.reduceBEq, Int.reduceBNe, reduceCtorEq, beq_self_eq_true, Bool.true_beq, Bool.false_beq]; repeat ((with_reducible refine leK_refl ?_); simp only [go_sem, vc_block_seq, vc_block_region, vc_block_cond, vc_block_block, Nat.reduceBEq, Nat.reduceAdd, Nat.reduceLeDiff, Nat.reduceEqDiff, Int.reduceAdd, Int.reduceBEq, Int.reduceBNe, reduceCtorEq, beq_self_eq_true, Bool.true_beq, Bool.false_beq]))
  have hS : Sub u u := Sub.refl _
  refine AtCall.of_spec (sone_con 9 0 u) ?_
  rintro r W1 H1 rfl
  replace hS := hS.trans H1
  (simp only [go_sem, vc_block_seq, vc_block_region, vc_block_cond, vc_block_block, Nat.reduceBEq, Nat.reduceAdd, Nat.reduceLeDiff, Nat.reduceEqDiff, Int.reduceAdd, Int.reduceBEq, Int.reduceBNe, reduceCtorEq, beq_self_eq_true, Bool.true_beq, Bool.false_beq]; repeat ((with_reducible refine leK_refl ?_); simp only [go_sem, vc_block_seq, vc_block_region, vc_block_cond, vc_block_block, Nat.reduceBEq, Nat.reduceAdd, Nat.reduceLeDiff, Nat.reduceEqDiff, Int.reduceAdd, Int.reduceBEq, Int.reduceBNe, reduceCtorEq, beq_self_eq_true, Bool.true_beq, Bool.false_beq]))
  refine eff_lit (n := 1) (vs := [PD.val ⟨oneS 9 0, none, 0, 0⟩]) Ty.el22 rfl rfl (by intro v hv; simp at hv; subst hv; rfl) (by omega) ?_
  intro pl ul hl sl fl
  replace hS := hS.trans sl
  have L : DL ul pl 1 1 [⟨oneS 9 0, none, 0, 0⟩] := ⟨hl.sl, by intro x hx; simp at hx; subst hx; exact fl_one _ _ _⟩
  (simp only [go_sem, vc_block_seq, vc_block_region, vc_block_cond, vc_block_block, Nat.reduceBEq, Nat.reduceAdd, Nat.reduceLeDiff, Nat.reduceEqDiff, Int.reduceAdd, Int.reduceBEq, Int.reduceBNe, reduceCtorEq, beq_self_eq_true, Bool.true_beq, Bool.false_beq]; repeat ((with_reducible refine leK_refl ?_); simp only [go_sem, vc_block_seq, vc_block_region, vc_block_cond, vc_block_block, Nat.reduceBEq, Nat.reduceAdd, Nat.reduceLeDiff, Nat.reduceEqDiff, Int.reduceAdd, Int.reduceBEq, Int.reduceBNe, reduceCtorEq, beq_self_eq_true, Bool.true_beq, Bool.false_beq]))
  refine AtCall.of_spec (start_con 3 2 _ pl 1 1 _ L (by omega) (by intro x hx; simp at hx; subst hx; simp)) ?_
  rintro r W2 H2 B0
  replace hS := hS.trans H2
  obtain ⟨w0, rfl, e0, hw0⟩ := wl_back B0 (by simp [wStart]) (by intro d hd; simp [wStart] at hd; subst hd; simp [oneS])
  have e0' : w0.g = ⟨true, 3, 2, [oneS 9 0]⟩ := e0
  clear L B0 e0
  (simp only [go_sem, vc_block_seq, vc_block_region, vc_block_cond, vc_block_block, Nat.reduceBEq, Nat.reduceAdd, Nat.reduceLeDiff, Nat.reduceEqDiff, Int.reduceAdd, Int.reduceBEq, Int.reduceBNe, reduceCtorEq, beq_self_eq_true, Bool.true_beq, Bool.false_beq]; repeat ((with_reducible refine leK_refl ?_); simp only [go_sem, vc_block_seq, vc_block_region, vc_block_cond, vc_block_block, Nat.reduceBEq, Nat.reduceAdd, Nat.reduceLeDiff, Nat.reduceEqDiff, Int.reduceAdd, Int.reduceBEq, Int.reduceBNe, reduceCtorEq, beq_self_eq_true, Bool.true_beq, Bool.false_beq]))
  intro b1
  refine AtCall.of_spec (answer_con w0 4 _ hw0) ?_
  rintro r W3 H3 ⟨v1, l1, rfl, ⟨w1, rfl, _, _⟩, _⟩
  replace hS := hS.trans H3
  replace hw0 := hw0.mono H3
  rw [e0', show (wAns ⟨true, 3, 2, [oneS 9 0]⟩ 4).2.2 = false from rfl]
  (simp only [go_sem, vc_block_seq, vc_block_region, vc_block_cond, vc_block_block, Nat.reduceBEq, Nat.reduceAdd, Nat.reduceLeDiff, Nat.reduceEqDiff, Int.reduceAdd, Int.reduceBEq, Int.reduceBNe, reduceCtorEq, beq_self_eq_true, Bool.true_beq, Bool.false_beq]; repeat ((with_reducible refine leK_refl ?_); simp only [go_sem, vc_block_seq, vc_block_region, vc_block_cond, vc_block_block, Nat.reduceBEq, Nat.reduceAdd, Nat.reduceLeDiff, Nat.reduceEqDiff, Int.reduceAdd, Int.reduceBEq, Int.reduceBNe, reduceCtorEq, beq_self_eq_true, Bool.true_beq, Bool.false_beq]))
  intro b2
  refine AtCall.of_spec (answer_con w0 3 _ hw0) ?_
  rintro r W4 H4 ⟨v1, l1, rfl, ⟨w2, rfl, _, _⟩, p3, n3, c3, l3, rfl, o3, e3⟩
  replace hS := hS.trans H4
  replace hw0 := hw0.mono H4
  rw [e0', show (wAns ⟨true, 3, 2, [oneS 9 0]⟩ 3) = (wZero, [oneS 9 0], true) from rfl] at e3 ⊢
  have hn3 : n3 = 1 := by have h1 := o3.len; have h2 := congrArg List.length e3; simp at h2; omega
  subst hn3
  (simp only [go_sem, vc_block_seq, vc_block_region, vc_block_cond, vc_block_block, Nat.reduceBEq, Nat.reduceAdd, Nat.reduceLeDiff, Nat.reduceEqDiff, Int.reduceAdd, Int.reduceBEq, Int.reduceBNe, reduceCtorEq, beq_self_eq_true, Bool.true_beq, Bool.false_beq]; repeat ((with_reducible refine leK_refl ?_); simp only [go_sem, vc_block_seq, vc_block_region, vc_block_cond, vc_block_block, Nat.reduceBEq, Nat.reduceAdd, Nat.reduceLeDiff, Nat.reduceEqDiff, Int.reduceAdd, Int.reduceBEq, Int.reduceBNe, reduceCtorEq, beq_self_eq_true, Bool.true_beq, Bool.false_beq]))
  intro b5
  refine AtCall.of_spec (tick_con w0 _ hw0) ?_
  rintro r W5 H5 ⟨v4, rfl, B4⟩
  replace hS := hS.trans H5
  replace hw0 := hw0.mono H5
  rw [e0', show (wTick ⟨true, 3, 2, [oneS 9 0]⟩) = (⟨true, 3, 1, [oneS 9 0]⟩, 0, false) from rfl] at B4 ⊢
  obtain ⟨w4, rfl, e4, hw4⟩ := wl_back B4 (by simp) (by intro d hd; simp at hd; subst hd; simp [oneS])
  (simp only [go_sem, vc_block_seq, vc_block_region, vc_block_cond, vc_block_block, Nat.reduceBEq, Nat.reduceAdd, Nat.reduceLeDiff, Nat.reduceEqDiff, Int.reduceAdd, Int.reduceBEq, Int.reduceBNe, reduceCtorEq, beq_self_eq_true, Bool.true_beq, Bool.false_beq]; repeat ((with_reducible refine leK_refl ?_); simp only [go_sem, vc_block_seq, vc_block_region, vc_block_cond, vc_block_block, Nat.reduceBEq, Nat.reduceAdd, Nat.reduceLeDiff, Nat.reduceEqDiff, Int.reduceAdd, Int.reduceBEq, Int.reduceBNe, reduceCtorEq, beq_self_eq_true, Bool.true_beq, Bool.false_beq]))
  refine AtCall.of_spec (tick_con w4 _ hw4) ?_
  rintro r W6 H6 ⟨v5, rfl, B5⟩
  replace hS := hS.trans H6
  replace hw0 := hw0.mono H6
  replace hw4 := hw4.mono H6
  rw [e4, show (wTick ⟨true, 3, 1, [oneS 9 0]⟩) = (wZero, 3, true) from rfl] at B5 ⊢
  obtain ⟨w5, rfl, e5, hw5⟩ := wl_back B5 (by simp [wZero]) (by intro d hd; simp [wZero] at hd)
  (simp only [go_sem, vc_block_seq, vc_block_region, vc_block_cond, vc_block_block, Nat.reduceBEq, Nat.reduceAdd, Nat.reduceLeDiff, Nat.reduceEqDiff, Int.reduceAdd, Int.reduceBEq, Int.reduceBNe, reduceCtorEq, beq_self_eq_true, Bool.true_beq, Bool.false_beq]; repeat ((with_reducible refine leK_refl ?_); simp only [go_sem, vc_block_seq, vc_block_region, vc_block_cond, vc_block_block, Nat.reduceBEq, Nat.reduceAdd, Nat.reduceLeDiff, Nat.reduceEqDiff, Int.reduceAdd, Int.reduceBEq, Int.reduceBNe, reduceCtorEq, beq_self_eq_true, Bool.true_beq, Bool.false_beq]))
  intro b10
  refine AtCall.of_spec (sone_con 1 5 _) ?_
  rintro r W7 H7 rfl
  replace hS := hS.trans H7
  replace hw0 := hw0.mono H7
  replace hw4 := hw4.mono H7
  replace hw5 := hw5.mono H7
  (simp only [go_sem, vc_block_seq, vc_block_region, vc_block_cond, vc_block_block, Nat.reduceBEq, Nat.reduceAdd, Nat.reduceLeDiff, Nat.reduceEqDiff, Int.reduceAdd, Int.reduceBEq, Int.reduceBNe, reduceCtorEq, beq_self_eq_true, Bool.true_beq, Bool.false_beq]; repeat ((with_reducible refine leK_refl ?_); simp only [go_sem, vc_block_seq, vc_block_region, vc_block_cond, vc_block_block, Nat.reduceBEq, Nat.reduceAdd, Nat.reduceLeDiff, Nat.reduceEqDiff, Int.reduceAdd, Int.reduceBEq, Int.reduceBNe, reduceCtorEq, beq_self_eq_true, Bool.true_beq, Bool.false_beq]))
  refine AtCall.of_spec (sone_con 2 1 _) ?_
  rintro r W8 H8 rfl
  replace hS := hS.trans H8
  replace hw0 := hw0.mono H8
  replace hw4 := hw4.mono H8
  replace hw5 := hw5.mono H8
  (simp only [go_sem, vc_block_seq, vc_block_region, vc_block_cond, vc_block_block, Nat.reduceBEq, Nat.reduceAdd, Nat.reduceLeDiff, Nat.reduceEqDiff, Int.reduceAdd, Int.reduceBEq, Int.reduceBNe, reduceCtorEq, beq_self_eq_true, Bool.true_beq, Bool.false_beq]; repeat ((with_reducible refine leK_refl ?_); simp only [go_sem, vc_block_seq, vc_block_region, vc_block_cond, vc_block_block, Nat.reduceBEq, Nat.reduceAdd, Nat.reduceLeDiff, Nat.reduceEqDiff, Int.reduceAdd, Int.reduceBEq, Int.reduceBNe, reduceCtorEq, beq_self_eq_true, Bool.true_beq, Bool.false_beq]))
  refine eff_lit (n := 2) (vs := [PD.val ⟨oneS 1 5, none, 0, 0⟩, PD.val ⟨oneS 2 1, none, 0, 0⟩]) Ty.el22 rfl rfl (by intro v hv; simp at hv; rcases hv with rfl | rfl <;> rfl) (by omega) ?_
  intro pm um hm sm fm
  have M : DL um pm 2 2 [⟨oneS 1 5, none, 0, 0⟩, ⟨oneS 2 1, none, 0, 0⟩] := ⟨hm.sl, by intro x hx; simp at hx; rcases hx with rfl | rfl <;> exact fl_one _ _ _⟩
  replace hS := hS.trans sm
  replace hw0 := hw0.mono sm
  replace hw4 := hw4.mono sm
  replace hw5 := hw5.mono sm
  (simp only [go_sem, vc_block_seq, vc_block_region, vc_block_cond, vc_block_block, Nat.reduceBEq, Nat.reduceAdd, Nat.reduceLeDiff, Nat.reduceEqDiff, Int.reduceAdd, Int.reduceBEq, Int.reduceBNe, reduceCtorEq, beq_self_eq_true, Bool.true_beq, Bool.false_beq]; repeat ((with_reducible refine leK_refl ?_); simp only [go_sem, vc_block_seq, vc_block_region, vc_block_cond, vc_block_block, Nat.reduceBEq, Nat.reduceAdd, Nat.reduceLeDiff, Nat.reduceEqDiff, Int.reduceAdd, Int.reduceBEq, Int.reduceBNe, reduceCtorEq, beq_self_eq_true, Bool.true_beq, Bool.false_beq]))
  rw [show (((1 : Nat) : Int) == 1) = true from rfl]
  (simp only [go_sem, vc_block_seq, vc_block_region, vc_block_cond, vc_block_block, Nat.reduceBEq, Nat.reduceAdd, Nat.reduceLeDiff, Nat.reduceEqDiff, Int.reduceAdd, Int.reduceBEq, Int.reduceBNe, reduceCtorEq, beq_self_eq_true, Bool.true_beq, Bool.false_beq]; repeat ((with_reducible refine leK_refl ?_); simp only [go_sem, vc_block_seq, vc_block_region, vc_block_cond, vc_block_block, Nat.reduceBEq, Nat.reduceAdd, Nat.reduceLeDiff, Nat.reduceEqDiff, Int.reduceAdd, Int.reduceBEq, Int.reduceBNe, reduceCtorEq, beq_self_eq_true, Bool.true_beq, Bool.false_beq]))
  have h4l : w4.left = 1 := congrArg GW.left e4
  rw [h4l, show (((1 : UInt8).toNat : Int) == 1) = true from rfl]
  (simp only [go_sem, vc_block_seq, vc_block_region, vc_block_cond, vc_block_block, Nat.reduceBEq, Nat.reduceAdd, Nat.reduceLeDiff, Nat.reduceEqDiff, Int.reduceAdd, Int.reduceBEq, Int.reduceBNe, reduceCtorEq, beq_self_eq_true, Bool.true_beq, Bool.false_beq]; repeat ((with_reducible refine leK_refl ?_); simp only [go_sem, vc_block_seq, vc_block_region, vc_block_cond, vc_block_block, Nat.reduceBEq, Nat.reduceAdd, Nat.reduceLeDiff, Nat.reduceEqDiff, Int.reduceAdd, Int.reduceBEq, Int.reduceBNe, reduceCtorEq, beq_self_eq_true, Bool.true_beq, Bool.false_beq]))
  rw [show (((3 : UInt8).toNat : Int) == 3) = true from rfl]
  (simp only [go_sem, vc_block_seq, vc_block_region, vc_block_cond, vc_block_block, Nat.reduceBEq, Nat.reduceAdd, Nat.reduceLeDiff, Nat.reduceEqDiff, Int.reduceAdd, Int.reduceBEq, Int.reduceBNe, reduceCtorEq, beq_self_eq_true, Bool.true_beq, Bool.false_beq]; repeat ((with_reducible refine leK_refl ?_); simp only [go_sem, vc_block_seq, vc_block_region, vc_block_cond, vc_block_block, Nat.reduceBEq, Nat.reduceAdd, Nat.reduceLeDiff, Nat.reduceEqDiff, Int.reduceAdd, Int.reduceBEq, Int.reduceBNe, reduceCtorEq, beq_self_eq_true, Bool.true_beq, Bool.false_beq]))
  refine AtCall.of_spec (wsame_con w5 ⟨false, 0, 0, none, 0, 0, []⟩ _ hw5 ⟨DL.nil_ _, by simp, by simp⟩) ?_
  rintro r W9 H9 rfl
  replace hS := hS.trans H9
  replace hw0 := hw0.mono H9
  replace hw4 := hw4.mono H9
  replace hw5 := hw5.mono H9
  replace M := M.mono H9
  rw [e5, show (decide (wZero = PW.g ⟨false, 0, 0, none, 0, 0, []⟩)) = true from rfl]
  (simp only [go_sem, vc_block_seq, vc_block_region, vc_block_cond, vc_block_block, Nat.reduceBEq, Nat.reduceAdd, Nat.reduceLeDiff, Nat.reduceEqDiff, Int.reduceAdd, Int.reduceBEq, Int.reduceBNe, reduceCtorEq, beq_self_eq_true, Bool.true_beq, Bool.false_beq]; repeat ((with_reducible refine leK_refl ?_); simp only [go_sem, vc_block_seq, vc_block_region, vc_block_cond, vc_block_block, Nat.reduceBEq, Nat.reduceAdd, Nat.reduceLeDiff, Nat.reduceEqDiff, Int.reduceAdd, Int.reduceBEq, Int.reduceBNe, reduceCtorEq, beq_self_eq_true, Bool.true_beq, Bool.false_beq]))
  refine AtCall.of_spec (sone_con 7 0 _) ?_
  rintro r W10 H10 rfl
  replace hS := hS.trans H10
  replace hw0 := hw0.mono H10
  replace hw4 := hw4.mono H10
  replace hw5 := hw5.mono H10
  replace M := M.mono H10
  (simp only [go_sem, vc_block_seq, vc_block_region, vc_block_cond, vc_block_block, Nat.reduceBEq, Nat.reduceAdd, Nat.reduceLeDiff, Nat.reduceEqDiff, Int.reduceAdd, Int.reduceBEq, Int.reduceBNe, reduceCtorEq, beq_self_eq_true, Bool.true_beq, Bool.false_beq]; repeat ((with_reducible refine leK_refl ?_); simp only [go_sem, vc_block_seq, vc_block_region, vc_block_cond, vc_block_block, Nat.reduceBEq, Nat.reduceAdd, Nat.reduceLeDiff, Nat.reduceEqDiff, Int.reduceAdd, Int.reduceBEq, Int.reduceBNe, reduceCtorEq, beq_self_eq_true, Bool.true_beq, Bool.false_beq]))
  refine AtCall.of_spec (admit_con _ ⟨oneS 7 0, none, 0, 0⟩ 0 2 pm 2 2 _ M (by decide) (fl_one _ _ _) (by omega) (by intro x hx; simp at hx; rcases hx with rfl | rfl <;> simp) (by simp)) ?_
  rintro r W11 H11 ⟨p6, n6, c6, l6, rfl, o6, e6⟩
  replace hS := hS.trans H11
  replace hw0 := hw0.mono H11
  replace hw4 := hw4.mono H11
  replace hw5 := hw5.mono H11
  replace M := M.mono H11
  rw [show (sAdmit (ds [⟨oneS 1 5, none, 0, 0⟩, ⟨oneS 2 1, none, 0, 0⟩]) (PD.mk (oneS 7 0) none 0 0).d 0 2) = [oneS 2 1, oneS 7 0] from rfl] at e6
  replace o6 := o6.dl
  (simp only [go_sem, vc_block_seq, vc_block_region, vc_block_cond, vc_block_block, Nat.reduceBEq, Nat.reduceAdd, Nat.reduceLeDiff, Nat.reduceEqDiff, Int.reduceAdd, Int.reduceBEq, Int.reduceBNe, reduceCtorEq, beq_self_eq_true, Bool.true_beq, Bool.false_beq]; repeat ((with_reducible refine leK_refl ?_); simp only [go_sem, vc_block_seq, vc_block_region, vc_block_cond, vc_block_block, Nat.reduceBEq, Nat.reduceAdd, Nat.reduceLeDiff, Nat.reduceEqDiff, Int.reduceAdd, Int.reduceBEq, Int.reduceBNe, reduceCtorEq, beq_self_eq_true, Bool.true_beq, Bool.false_beq]))
  refine AtCall.of_spec (sone_con 2 1 _) ?_
  rintro r W12 H12 rfl
  replace hS := hS.trans H12
  replace hw0 := hw0.mono H12
  replace hw4 := hw4.mono H12
  replace hw5 := hw5.mono H12
  replace M := M.mono H12
  replace o6 := o6.mono H12
  (simp only [go_sem, vc_block_seq, vc_block_region, vc_block_cond, vc_block_block, Nat.reduceBEq, Nat.reduceAdd, Nat.reduceLeDiff, Nat.reduceEqDiff, Int.reduceAdd, Int.reduceBEq, Int.reduceBNe, reduceCtorEq, beq_self_eq_true, Bool.true_beq, Bool.false_beq]; repeat ((with_reducible refine leK_refl ?_); simp only [go_sem, vc_block_seq, vc_block_region, vc_block_cond, vc_block_block, Nat.reduceBEq, Nat.reduceAdd, Nat.reduceLeDiff, Nat.reduceEqDiff, Int.reduceAdd, Int.reduceBEq, Int.reduceBNe, reduceCtorEq, beq_self_eq_true, Bool.true_beq, Bool.false_beq]))
  refine AtCall.of_spec (sone_con 7 0 _) ?_
  rintro r W13 H13 rfl
  replace hS := hS.trans H13
  replace hw0 := hw0.mono H13
  replace hw4 := hw4.mono H13
  replace hw5 := hw5.mono H13
  replace M := M.mono H13
  replace o6 := o6.mono H13
  (simp only [go_sem, vc_block_seq, vc_block_region, vc_block_cond, vc_block_block, Nat.reduceBEq, Nat.reduceAdd, Nat.reduceLeDiff, Nat.reduceEqDiff, Int.reduceAdd, Int.reduceBEq, Int.reduceBNe, reduceCtorEq, beq_self_eq_true, Bool.true_beq, Bool.false_beq]; repeat ((with_reducible refine leK_refl ?_); simp only [go_sem, vc_block_seq, vc_block_region, vc_block_cond, vc_block_block, Nat.reduceBEq, Nat.reduceAdd, Nat.reduceLeDiff, Nat.reduceEqDiff, Int.reduceAdd, Int.reduceBEq, Int.reduceBNe, reduceCtorEq, beq_self_eq_true, Bool.true_beq, Bool.false_beq]))
  refine eff_lit (n := 2) (vs := [PD.val ⟨oneS 2 1, none, 0, 0⟩, PD.val ⟨oneS 7 0, none, 0, 0⟩]) Ty.el22 rfl rfl (by intro v hv; simp at hv; rcases hv with rfl | rfl <;> rfl) (by omega) ?_
  intro pn un hn sn fn
  have N : DL un pn 2 2 [⟨oneS 2 1, none, 0, 0⟩, ⟨oneS 7 0, none, 0, 0⟩] := ⟨hn.sl, by intro x hx; simp at hx; rcases hx with rfl | rfl <;> exact fl_one _ _ _⟩
  replace hS := hS.trans sn
  replace hw0 := hw0.mono sn
  replace hw4 := hw4.mono sn
  replace hw5 := hw5.mono sn
  replace M := M.mono sn
  replace o6 := o6.mono sn
  (simp only [go_sem, vc_block_seq, vc_block_region, vc_block_cond, vc_block_block, Nat.reduceBEq, Nat.reduceAdd, Nat.reduceLeDiff, Nat.reduceEqDiff, Int.reduceAdd, Int.reduceBEq, Int.reduceBNe, reduceCtorEq, beq_self_eq_true, Bool.true_beq, Bool.false_beq]; repeat ((with_reducible refine leK_refl ?_); simp only [go_sem, vc_block_seq, vc_block_region, vc_block_cond, vc_block_block, Nat.reduceBEq, Nat.reduceAdd, Nat.reduceLeDiff, Nat.reduceEqDiff, Int.reduceAdd, Int.reduceBEq, Int.reduceBNe, reduceCtorEq, beq_self_eq_true, Bool.true_beq, Bool.false_beq]))
  have s6 := wl_of o6 (m := [⟨oneS 2 1, none, 0, 0⟩, ⟨oneS 7 0, none, 0, 0⟩]) e6 (by simp) (by intro x hx; simp at hx; rcases hx with rfl | rfl <;> simp [oneS])
  refine AtCall.of_spec (descs_con l6 _ p6 pn n6 c6 2 2 _ o6 N (by omega) (fun x hx => by have := s6.2 x hx; omega)) ?_
  rintro r W14 H14 rfl
  replace hS := hS.trans H14
  replace hw0 := hw0.mono H14
  replace hw4 := hw4.mono H14
  replace hw5 := hw5.mono H14
  replace M := M.mono H14
  replace o6 := o6.mono H14
  rw [e6, show (decide ([oneS 2 1, oneS 7 0] = ds [⟨oneS 2 1, none, 0, 0⟩, ⟨oneS 7 0, none, 0, 0⟩])) = true from rfl]
  (simp only [go_sem, vc_block_seq, vc_block_region, vc_block_cond, vc_block_block, Nat.reduceBEq, Nat.reduceAdd, Nat.reduceLeDiff, Nat.reduceEqDiff, Int.reduceAdd, Int.reduceBEq, Int.reduceBNe, reduceCtorEq, beq_self_eq_true, Bool.true_beq, Bool.false_beq]; repeat ((with_reducible refine leK_refl ?_); simp only [go_sem, vc_block_seq, vc_block_region, vc_block_cond, vc_block_block, Nat.reduceBEq, Nat.reduceAdd, Nat.reduceLeDiff, Nat.reduceEqDiff, Int.reduceAdd, Int.reduceBEq, Int.reduceBNe, reduceCtorEq, beq_self_eq_true, Bool.true_beq, Bool.false_beq]))
  refine AtCall.of_spec (sone_con 7 0 _) ?_
  rintro r W15 H15 rfl
  replace hS := hS.trans H15
  replace hw0 := hw0.mono H15
  replace hw4 := hw4.mono H15
  replace hw5 := hw5.mono H15
  replace M := M.mono H15
  replace o6 := o6.mono H15
  (simp only [go_sem, vc_block_seq, vc_block_region, vc_block_cond, vc_block_block, Nat.reduceBEq, Nat.reduceAdd, Nat.reduceLeDiff, Nat.reduceEqDiff, Int.reduceAdd, Int.reduceBEq, Int.reduceBNe, reduceCtorEq, beq_self_eq_true, Bool.true_beq, Bool.false_beq]; repeat ((with_reducible refine leK_refl ?_); simp only [go_sem, vc_block_seq, vc_block_region, vc_block_cond, vc_block_block, Nat.reduceBEq, Nat.reduceAdd, Nat.reduceLeDiff, Nat.reduceEqDiff, Int.reduceAdd, Int.reduceBEq, Int.reduceBNe, reduceCtorEq, beq_self_eq_true, Bool.true_beq, Bool.false_beq]))
  refine eff_lit (n := 1) (vs := [PD.val ⟨oneS 7 0, none, 0, 0⟩]) Ty.el22 rfl rfl (by intro v hv; simp at hv; subst hv; rfl) (by omega) ?_
  intro po uo ho so fo
  have O : DL uo po 1 1 [⟨oneS 7 0, none, 0, 0⟩] := ⟨ho.sl, by intro x hx; simp at hx; subst hx; exact fl_one _ _ _⟩
  replace hS := hS.trans so
  replace hw0 := hw0.mono so
  replace hw4 := hw4.mono so
  replace hw5 := hw5.mono so
  replace M := M.mono so
  replace o6 := o6.mono so
  (simp only [go_sem, vc_block_seq, vc_block_region, vc_block_cond, vc_block_block, Nat.reduceBEq, Nat.reduceAdd, Nat.reduceLeDiff, Nat.reduceEqDiff, Int.reduceAdd, Int.reduceBEq, Int.reduceBNe, reduceCtorEq, beq_self_eq_true, Bool.true_beq, Bool.false_beq]; repeat ((with_reducible refine leK_refl ?_); simp only [go_sem, vc_block_seq, vc_block_region, vc_block_cond, vc_block_block, Nat.reduceBEq, Nat.reduceAdd, Nat.reduceLeDiff, Nat.reduceEqDiff, Int.reduceAdd, Int.reduceBEq, Int.reduceBNe, reduceCtorEq, beq_self_eq_true, Bool.true_beq, Bool.false_beq]))
  refine AtCall.of_spec (fill_con _ _ 0 2 pm po 2 2 1 1 _ M (by decide) (by decide) O (by omega) (by omega) (by intro x hx; simp at hx; subst hx; simp)) ?_
  rintro r W16 H16 ⟨p7, n7, c7, l7, rfl, o7, e7⟩
  replace hS := hS.trans H16
  replace hw0 := hw0.mono H16
  replace hw4 := hw4.mono H16
  replace hw5 := hw5.mono H16
  replace M := M.mono H16
  replace o6 := o6.mono H16
  rw [show (sFill 0 2 (ds [⟨oneS 1 5, none, 0, 0⟩, ⟨oneS 2 1, none, 0, 0⟩]) (ds [⟨oneS 7 0, none, 0, 0⟩])) = [oneS 1 5, oneS 2 1] from rfl] at e7
  replace o7 := o7.dl
  have s7 := wl_of o7 (m := [⟨oneS 1 5, none, 0, 0⟩, ⟨oneS 2 1, none, 0, 0⟩]) e7 (by simp) (by intro x hx; simp at hx; rcases hx with rfl | rfl <;> simp [oneS])
  (simp only [go_sem, vc_block_seq, vc_block_region, vc_block_cond, vc_block_block, Nat.reduceBEq, Nat.reduceAdd, Nat.reduceLeDiff, Nat.reduceEqDiff, Int.reduceAdd, Int.reduceBEq, Int.reduceBNe, reduceCtorEq, beq_self_eq_true, Bool.true_beq, Bool.false_beq]; repeat ((with_reducible refine leK_refl ?_); simp only [go_sem, vc_block_seq, vc_block_region, vc_block_cond, vc_block_block, Nat.reduceBEq, Nat.reduceAdd, Nat.reduceLeDiff, Nat.reduceEqDiff, Int.reduceAdd, Int.reduceBEq, Int.reduceBNe, reduceCtorEq, beq_self_eq_true, Bool.true_beq, Bool.false_beq]))
  refine AtCall.of_spec (descs_con l7 _ p7 pm n7 c7 2 2 _ o7 M (by omega) (fun x hx => by have := s7.2 x hx; omega)) ?_
  rintro r W17 H17 rfl
  replace hS := hS.trans H17
  replace hw0 := hw0.mono H17
  replace hw4 := hw4.mono H17
  replace hw5 := hw5.mono H17
  replace M := M.mono H17
  replace o6 := o6.mono H17
  rw [e7, show (decide ([oneS 1 5, oneS 2 1] = ds [⟨oneS 1 5, none, 0, 0⟩, ⟨oneS 2 1, none, 0, 0⟩])) = true from rfl]
  (simp only [go_sem, vc_block_seq, vc_block_region, vc_block_cond, vc_block_block, Nat.reduceBEq, Nat.reduceAdd, Nat.reduceLeDiff, Nat.reduceEqDiff, Int.reduceAdd, Int.reduceBEq, Int.reduceBNe, reduceCtorEq, beq_self_eq_true, Bool.true_beq, Bool.false_beq]; repeat ((with_reducible refine leK_refl ?_); simp only [go_sem, vc_block_seq, vc_block_region, vc_block_cond, vc_block_block, Nat.reduceBEq, Nat.reduceAdd, Nat.reduceLeDiff, Nat.reduceEqDiff, Int.reduceAdd, Int.reduceBEq, Int.reduceBNe, reduceCtorEq, beq_self_eq_true, Bool.true_beq, Bool.false_beq]))
  exact ⟨hS, rfl⟩
end Go.Proofs.Ytcfkcmalkbdphaa
