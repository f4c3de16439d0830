/-
  Walks: the chapter's examples of cyclon.
-/
import Derived.Test.YtfdhmmjccnmckaaCd
set_option linter.unusedSimpArgs false
set_option linter.unusedVariables false
namespace Go.Eng
def oneS (a b : UInt8) : GDesc := ⟨a, 1, b, []⟩
abbrev oneP (a b : UInt8) : PD := ⟨oneS a b, none, 0, 0⟩
end Go.Eng
namespace Go.Proofs.Ytfdhmmjccnmckaa
open Go.Eng
attribute [local go_sem] GSpan.val GSpan.enc PD.val PD.enc enc32

theorem cone_con (a b : UInt8) (u : World) : Con Try.prog 26 [.int .u8 a.toNat, .int .u8 b.toNat] u (fun r u' => r = PD.val (oneP a b)) := by
  refine spec_of_vc Ty.mixed Try.func26 rfl (by kernel_rfl) (by kernel_rfl) rfl [.cell 4 34] rfl ?_
  (simp only [go_sem, vc_block_seq, vc_block_region, vc_block_cond, vc_block_block, Nat.reduceBEq, Nat.reduceAdd, Nat.reduceLeDiff, Nat.reduceEqDiff, Int.reduceAdd, Int.reduceBEq, Int.reduceBNe, reduceCtorEq, beq_self_eq_true, Bool.true_beq, Bool.false_beq]; repeat ((with_reducible refine leK_refl ?_); simp only [go_sem, vc_block_seq, vc_block_region, vc_block_cond, vc_block_block, Nat.reduceBEq, Nat.reduceAdd, Nat.reduceLeDiff, Nat.reduceEqDiff, Int.reduceAdd, Int.reduceBEq, Int.reduceBNe, reduceCtorEq, beq_self_eq_true, Bool.true_beq, Bool.false_beq]))
  intro b1
  exact ⟨Sub.refl _, rfl⟩
theorem fl_one (u : World) (a b : UInt8) : Fl u (oneP a b) := Sl.none_ _ _
theorem small_of_eq {u : World} {p : Option Addr} {n c : Nat} {l : List PD} {L : List GDesc} (h : DL u p n c l) (e : ds l = L) (hn : L.length ≤ 1000) (h8 : ∀ d ∈ L, d.filter.length ≤ 8) : n ≤ 1000 ∧ ∀ x ∈ l, x.n ≤ 8 := by
  subst e
  refine ⟨by have := h.len; simp at hn; omega, fun x hx => ?_⟩
  rw [← (h.fl x hx).len]
  exact h8 x.d (List.mem_map_of_mem hx)

set_option maxRecDepth 4000 in
set_option maxHeartbeats 2000000 in
theorem cawake_con (u : World) : Con Try.prog 9 [] u (fun r _ => r = .bool true) := by
  refine spec_of_vc Ty.mixed Try.func9 rfl (by kernel_rfl) (by kernel_rfl) rfl [.tmp 0] rfl ?_
  (simp only [go_sem, vc_block_seq, vc_block_region, vc_block_cond, vc_block_block, Nat.reduceBEq, Nat.reduceAdd, Nat.reduceLeDiff, Nat.reduceEqDiff, Int.reduceAdd, Int.reduceBEq, Int.reduceBNe, reduceCtorEq, beq_self_eq_true, Bool.true_beq, Bool.false_beq]; repeat ((with_reducible refine leK_refl ?_); simp only [go_sem, vc_block_seq, vc_block_region, vc_block_cond, vc_block_block, Nat.reduceBEq, Nat.reduceAdd, Nat.reduceLeDiff, Nat.reduceEqDiff, Int.reduceAdd, Int.reduceBEq, Int.reduceBNe, reduceCtorEq, beq_self_eq_true, Bool.true_beq, Bool.false_beq]))
  have hS : Sub u u := Sub.refl _
  refine AtCall.of_spec (cone_con 1 1 u) ?_
  rintro r W1 H1 rfl
  replace hS := hS.trans H1
  (simp only [go_sem, vc_block_seq, vc_block_region, vc_block_cond, vc_block_block, Nat.reduceBEq, Nat.reduceAdd, Nat.reduceLeDiff, Nat.reduceEqDiff, Int.reduceAdd, Int.reduceBEq, Int.reduceBNe, reduceCtorEq, beq_self_eq_true, Bool.true_beq, Bool.false_beq]; repeat ((with_reducible refine leK_refl ?_); simp only [go_sem, vc_block_seq, vc_block_region, vc_block_cond, vc_block_block, Nat.reduceBEq, Nat.reduceAdd, Nat.reduceLeDiff, Nat.reduceEqDiff, Int.reduceAdd, Int.reduceBEq, Int.reduceBNe, reduceCtorEq, beq_self_eq_true, Bool.true_beq, Bool.false_beq]))
  refine AtCall.of_spec (cone_con 2 5 _) ?_
  rintro r W2 H2 rfl
  replace hS := hS.trans H2
  (simp only [go_sem, vc_block_seq, vc_block_region, vc_block_cond, vc_block_block, Nat.reduceBEq, Nat.reduceAdd, Nat.reduceLeDiff, Nat.reduceEqDiff, Int.reduceAdd, Int.reduceBEq, Int.reduceBNe, reduceCtorEq, beq_self_eq_true, Bool.true_beq, Bool.false_beq]; repeat ((with_reducible refine leK_refl ?_); simp only [go_sem, vc_block_seq, vc_block_region, vc_block_cond, vc_block_block, Nat.reduceBEq, Nat.reduceAdd, Nat.reduceLeDiff, Nat.reduceEqDiff, Int.reduceAdd, Int.reduceBEq, Int.reduceBNe, reduceCtorEq, beq_self_eq_true, Bool.true_beq, Bool.false_beq]))
  refine AtCall.of_spec (cone_con 3 0 _) ?_
  rintro r W3 H3 rfl
  replace hS := hS.trans H3
  (simp only [go_sem, vc_block_seq, vc_block_region, vc_block_cond, vc_block_block, Nat.reduceBEq, Nat.reduceAdd, Nat.reduceLeDiff, Nat.reduceEqDiff, Int.reduceAdd, Int.reduceBEq, Int.reduceBNe, reduceCtorEq, beq_self_eq_true, Bool.true_beq, Bool.false_beq]; repeat ((with_reducible refine leK_refl ?_); simp only [go_sem, vc_block_seq, vc_block_region, vc_block_cond, vc_block_block, Nat.reduceBEq, Nat.reduceAdd, Nat.reduceLeDiff, Nat.reduceEqDiff, Int.reduceAdd, Int.reduceBEq, Int.reduceBNe, reduceCtorEq, beq_self_eq_true, Bool.true_beq, Bool.false_beq]))
  refine eff_lit (n := 3) (vs := [PD.val (oneP 1 1), PD.val (oneP 2 5), PD.val (oneP 3 0)]) Ty.el22 rfl rfl (by intro v hv; simp at hv; rcases hv with rfl | rfl | rfl <;> rfl) (by omega) ?_
  intro pl ul hl sl fl
  replace hS := hS.trans sl
  have L : DL ul pl 3 3 [oneP 1 1, oneP 2 5, oneP 3 0] := ⟨hl.sl, by intro x hx; simp at hx; rcases hx with rfl | rfl | rfl <;> exact fl_one _ _ _⟩
  have L8 : ∀ x ∈ [oneP 1 1, oneP 2 5, oneP 3 0], x.n ≤ 8 := by intro x hx; simp at hx; rcases hx with rfl | rfl | rfl <;> simp
  (simp only [go_sem, vc_block_seq, vc_block_region, vc_block_cond, vc_block_block, Nat.reduceBEq, Nat.reduceAdd, Nat.reduceLeDiff, Nat.reduceEqDiff, Int.reduceAdd, Int.reduceBEq, Int.reduceBNe, reduceCtorEq, beq_self_eq_true, Bool.true_beq, Bool.false_beq]; repeat ((with_reducible refine leK_refl ?_); simp only [go_sem, vc_block_seq, vc_block_region, vc_block_cond, vc_block_block, Nat.reduceBEq, Nat.reduceAdd, Nat.reduceLeDiff, Nat.reduceEqDiff, Int.reduceAdd, Int.reduceBEq, Int.reduceBNe, reduceCtorEq, beq_self_eq_true, Bool.true_beq, Bool.false_beq]))
  refine AtCall.of_spec (cone_con 9 7 _) ?_
  rintro r W4 H4 rfl
  replace hS := hS.trans H4
  replace L := L.mono H4
  (simp only [go_sem, vc_block_seq, vc_block_region, vc_block_cond, vc_block_block, Nat.reduceBEq, Nat.reduceAdd, Nat.reduceLeDiff, Nat.reduceEqDiff, Int.reduceAdd, Int.reduceBEq, Int.reduceBNe, reduceCtorEq, beq_self_eq_true, Bool.true_beq, Bool.false_beq]; repeat ((with_reducible refine leK_refl ?_); simp only [go_sem, vc_block_seq, vc_block_region, vc_block_cond, vc_block_block, Nat.reduceBEq, Nat.reduceAdd, Nat.reduceLeDiff, Nat.reduceEqDiff, Int.reduceAdd, Int.reduceBEq, Int.reduceBNe, reduceCtorEq, beq_self_eq_true, Bool.true_beq, Bool.false_beq]))
  refine eff_lit (n := 1) (vs := [.int .u32 3]) Ty.el23 rfl rfl (by intro v hv; simp at hv; subst hv; rfl) (by omega) ?_
  intro pd ud hd sd fd
  have D : Sl ud 1 pd 1 1 ([(3 : UInt32)].map enc32) := hd.sl
  replace hS := hS.trans sd
  replace L := L.mono sd
  (simp only [go_sem, vc_block_seq, vc_block_region, vc_block_cond, vc_block_block, Nat.reduceBEq, Nat.reduceAdd, Nat.reduceLeDiff, Nat.reduceEqDiff, Int.reduceAdd, Int.reduceBEq, Int.reduceBNe, reduceCtorEq, beq_self_eq_true, Bool.true_beq, Bool.false_beq]; repeat ((with_reducible refine leK_refl ?_); simp only [go_sem, vc_block_seq, vc_block_region, vc_block_cond, vc_block_block, Nat.reduceBEq, Nat.reduceAdd, Nat.reduceLeDiff, Nat.reduceEqDiff, Int.reduceAdd, Int.reduceBEq, Int.reduceBNe, reduceCtorEq, beq_self_eq_true, Bool.true_beq, Bool.false_beq]))
  refine AtCall.of_spec (ask_con _ (oneP 9 7) 2 [3] pl pd 3 3 1 1 _ L (fl_one _ _ _) (by simp) D (by omega) L8 (by omega) (by omega)) ?_
  rintro r W5 H5 A1
  replace hS := hS.trans H5
  replace L := L.mono H5
  rcases A1 with ⟨i, o, v1, hi, ho, _, rfl, p1, n1, c1, l1, rfl, o1, e1⟩ | ⟨h, _⟩
  rotate_left
  · simp at h
  rw [show dOld (ds [oneP 1 1, oneP 2 5, oneP 3 0]) = some 1 from rfl] at hi
  obtain rfl : 1 = i := Option.some.inj hi
  obtain rfl : oneS 2 5 = o := Option.some.inj ho
  replace e1 : ds l1 = [oneS 9 0, oneS 3 0] := e1
  (simp only [go_sem, vc_block_seq, vc_block_region, vc_block_cond, vc_block_block, Nat.reduceBEq, Nat.reduceAdd, Nat.reduceLeDiff, Nat.reduceEqDiff, Int.reduceAdd, Int.reduceBEq, Int.reduceBNe, reduceCtorEq, beq_self_eq_true, Bool.true_beq, Bool.false_beq]; repeat ((with_reducible refine leK_refl ?_); simp only [go_sem, vc_block_seq, vc_block_region, vc_block_cond, vc_block_block, Nat.reduceBEq, Nat.reduceAdd, Nat.reduceLeDiff, Nat.reduceEqDiff, Int.reduceAdd, Int.reduceBEq, Int.reduceBNe, reduceCtorEq, beq_self_eq_true, Bool.true_beq, Bool.false_beq]))
  refine AtCall.of_spec (cone_con 4 0 _) ?_
  rintro r W6 H6 rfl
  replace hS := hS.trans H6
  replace L := L.mono H6
  replace o1 := o1.mono H6
  (simp only [go_sem, vc_block_seq, vc_block_region, vc_block_cond, vc_block_block, Nat.reduceBEq, Nat.reduceAdd, Nat.reduceLeDiff, Nat.reduceEqDiff, Int.reduceAdd, Int.reduceBEq, Int.reduceBNe, reduceCtorEq, beq_self_eq_true, Bool.true_beq, Bool.false_beq]; repeat ((with_reducible refine leK_refl ?_); simp only [go_sem, vc_block_seq, vc_block_region, vc_block_cond, vc_block_block, Nat.reduceBEq, Nat.reduceAdd, Nat.reduceLeDiff, Nat.reduceEqDiff, Int.reduceAdd, Int.reduceBEq, Int.reduceBNe, reduceCtorEq, beq_self_eq_true, Bool.true_beq, Bool.false_beq]))
  refine AtCall.of_spec (cone_con 5 0 _) ?_
  rintro r W7 H7 rfl
  replace hS := hS.trans H7
  replace L := L.mono H7
  replace o1 := o1.mono H7
  (simp only [go_sem, vc_block_seq, vc_block_region, vc_block_cond, vc_block_block, Nat.reduceBEq, Nat.reduceAdd, Nat.reduceLeDiff, Nat.reduceEqDiff, Int.reduceAdd, Int.reduceBEq, Int.reduceBNe, reduceCtorEq, beq_self_eq_true, Bool.true_beq, Bool.false_beq]; repeat ((with_reducible refine leK_refl ?_); simp only [go_sem, vc_block_seq, vc_block_region, vc_block_cond, vc_block_block, Nat.reduceBEq, Nat.reduceAdd, Nat.reduceLeDiff, Nat.reduceEqDiff, Int.reduceAdd, Int.reduceBEq, Int.reduceBNe, reduceCtorEq, beq_self_eq_true, Bool.true_beq, Bool.false_beq]))
  refine eff_lit (n := 2) (vs := [PD.val (oneP 4 0), PD.val (oneP 5 0)]) Ty.el22 rfl rfl (by intro v hv; simp at hv; rcases hv with rfl | rfl <;> rfl) (by omega) ?_
  intro pm um hm sm fm
  replace hS := hS.trans sm
  replace L := L.mono sm
  replace o1 := o1.mono sm
  have M : DL um pm 2 2 [oneP 4 0, oneP 5 0] := ⟨hm.sl, by intro x hx; simp at hx; rcases hx with rfl | rfl <;> exact fl_one _ _ _⟩
  (simp only [go_sem, vc_block_seq, vc_block_region, vc_block_cond, vc_block_block, Nat.reduceBEq, Nat.reduceAdd, Nat.reduceLeDiff, Nat.reduceEqDiff, Int.reduceAdd, Int.reduceBEq, Int.reduceBNe, reduceCtorEq, beq_self_eq_true, Bool.true_beq, Bool.false_beq]; repeat ((with_reducible refine leK_refl ?_); simp only [go_sem, vc_block_seq, vc_block_region, vc_block_cond, vc_block_block, Nat.reduceBEq, Nat.reduceAdd, Nat.reduceLeDiff, Nat.reduceEqDiff, Int.reduceAdd, Int.reduceBEq, Int.reduceBNe, reduceCtorEq, beq_self_eq_true, Bool.true_beq, Bool.false_beq]))
  refine AtCall.of_spec (cone_con 9 0 _) ?_
  rintro r W8 H8 rfl
  replace hS := hS.trans H8
  replace L := L.mono H8
  replace o1 := o1.mono H8
  replace M := M.mono H8
  (simp only [go_sem, vc_block_seq, vc_block_region, vc_block_cond, vc_block_block, Nat.reduceBEq, Nat.reduceAdd, Nat.reduceLeDiff, Nat.reduceEqDiff, Int.reduceAdd, Int.reduceBEq, Int.reduceBNe, reduceCtorEq, beq_self_eq_true, Bool.true_beq, Bool.false_beq]; repeat ((with_reducible refine leK_refl ?_); simp only [go_sem, vc_block_seq, vc_block_region, vc_block_cond, vc_block_block, Nat.reduceBEq, Nat.reduceAdd, Nat.reduceLeDiff, Nat.reduceEqDiff, Int.reduceAdd, Int.reduceBEq, Int.reduceBNe, reduceCtorEq, beq_self_eq_true, Bool.true_beq, Bool.false_beq]))
  refine AtCall.of_spec (cone_con 3 0 _) ?_
  rintro r W9 H9 rfl
  replace hS := hS.trans H9
  replace L := L.mono H9
  replace o1 := o1.mono H9
  replace M := M.mono H9
  (simp only [go_sem, vc_block_seq, vc_block_region, vc_block_cond, vc_block_block, Nat.reduceBEq, Nat.reduceAdd, Nat.reduceLeDiff, Nat.reduceEqDiff, Int.reduceAdd, Int.reduceBEq, Int.reduceBNe, reduceCtorEq, beq_self_eq_true, Bool.true_beq, Bool.false_beq]; repeat ((with_reducible refine leK_refl ?_); simp only [go_sem, vc_block_seq, vc_block_region, vc_block_cond, vc_block_block, Nat.reduceBEq, Nat.reduceAdd, Nat.reduceLeDiff, Nat.reduceEqDiff, Int.reduceAdd, Int.reduceBEq, Int.reduceBNe, reduceCtorEq, beq_self_eq_true, Bool.true_beq, Bool.false_beq]))
  refine eff_lit (n := 2) (vs := [PD.val (oneP 9 0), PD.val (oneP 3 0)]) Ty.el22 rfl rfl (by intro v hv; simp at hv; rcases hv with rfl | rfl <;> rfl) (by omega) ?_
  intro pn un hn sn fn
  replace hS := hS.trans sn
  replace L := L.mono sn
  replace o1 := o1.mono sn
  replace M := M.mono sn
  have N : DL un pn 2 2 [oneP 9 0, oneP 3 0] := ⟨hn.sl, by intro x hx; simp at hx; rcases hx with rfl | rfl <;> exact fl_one _ _ _⟩
  (simp only [go_sem, vc_block_seq, vc_block_region, vc_block_cond, vc_block_block, Nat.reduceBEq, Nat.reduceAdd, Nat.reduceLeDiff, Nat.reduceEqDiff, Int.reduceAdd, Int.reduceBEq, Int.reduceBNe, reduceCtorEq, beq_self_eq_true, Bool.true_beq, Bool.false_beq]; repeat ((with_reducible refine leK_refl ?_); simp only [go_sem, vc_block_seq, vc_block_region, vc_block_cond, vc_block_block, Nat.reduceBEq, Nat.reduceAdd, Nat.reduceLeDiff, Nat.reduceEqDiff, Int.reduceAdd, Int.reduceBEq, Int.reduceBNe, reduceCtorEq, beq_self_eq_true, Bool.true_beq, Bool.false_beq]))
  refine AtCall.of_spec (merge_con _ _ _ 9 3 pl pm pn 3 3 2 2 2 2 _ L (by decide) M N (by omega) (by omega) (by omega) L8 (by intro x hx; simp at hx; rcases hx with rfl | rfl <;> simp)) ?_
  rintro r W10 H10 ⟨p2, n2, c2, l2, rfl, o2, e2⟩
  replace hS := hS.trans H10
  replace L := L.mono H10
  replace o1 := o1.mono H10
  replace M := M.mono H10
  replace e2 : ds l2 = [oneS 1 1, oneS 2 5, oneS 4 0] := e2
  replace o2 := o2.dl
  (simp only [go_sem, vc_block_seq, vc_block_region, vc_block_cond, vc_block_block, Nat.reduceBEq, Nat.reduceAdd, Nat.reduceLeDiff, Nat.reduceEqDiff, Int.reduceAdd, Int.reduceBEq, Int.reduceBNe, reduceCtorEq, beq_self_eq_true, Bool.true_beq, Bool.false_beq]; repeat ((with_reducible refine leK_refl ?_); simp only [go_sem, vc_block_seq, vc_block_region, vc_block_cond, vc_block_block, Nat.reduceBEq, Nat.reduceAdd, Nat.reduceLeDiff, Nat.reduceEqDiff, Int.reduceAdd, Int.reduceBEq, Int.reduceBNe, reduceCtorEq, beq_self_eq_true, Bool.true_beq, Bool.false_beq]))
  refine AtCall.of_spec (cone_con 9 7 _) ?_
  rintro r W11 H11 rfl
  replace hS := hS.trans H11
  replace L := L.mono H11
  replace o1 := o1.mono H11
  replace M := M.mono H11
  replace o2 := o2.mono H11
  (simp only [go_sem, vc_block_seq, vc_block_region, vc_block_cond, vc_block_block, Nat.reduceBEq, Nat.reduceAdd, Nat.reduceLeDiff, Nat.reduceEqDiff, Int.reduceAdd, Int.reduceBEq, Int.reduceBNe, reduceCtorEq, beq_self_eq_true, Bool.true_beq, Bool.false_beq]; repeat ((with_reducible refine leK_refl ?_); simp only [go_sem, vc_block_seq, vc_block_region, vc_block_cond, vc_block_block, Nat.reduceBEq, Nat.reduceAdd, Nat.reduceLeDiff, Nat.reduceEqDiff, Int.reduceAdd, Int.reduceBEq, Int.reduceBNe, reduceCtorEq, beq_self_eq_true, Bool.true_beq, Bool.false_beq]))
  refine eff_lit (n := 1) (vs := [.int .u32 3]) Ty.el23 rfl rfl (by intro v hv; simp at hv; subst hv; rfl) (by omega) ?_
  intro pe ue he se fe
  have E : Sl ue 1 pe 1 1 ([(3 : UInt32)].map enc32) := he.sl
  replace hS := hS.trans se
  replace L := L.mono se
  replace o1 := o1.mono se
  replace M := M.mono se
  replace o2 := o2.mono se
  (simp only [go_sem, vc_block_seq, vc_block_region, vc_block_cond, vc_block_block, Nat.reduceBEq, Nat.reduceAdd, Nat.reduceLeDiff, Nat.reduceEqDiff, Int.reduceAdd, Int.reduceBEq, Int.reduceBNe, reduceCtorEq, beq_self_eq_true, Bool.true_beq, Bool.false_beq]; repeat ((with_reducible refine leK_refl ?_); simp only [go_sem, vc_block_seq, vc_block_region, vc_block_cond, vc_block_block, Nat.reduceBEq, Nat.reduceAdd, Nat.reduceLeDiff, Nat.reduceEqDiff, Int.reduceAdd, Int.reduceBEq, Int.reduceBNe, reduceCtorEq, beq_self_eq_true, Bool.true_beq, Bool.false_beq]))
  refine AtCall.of_spec (ask_con [] (oneP 9 7) 2 [3] none pe 0 0 1 1 _ (DL.nil_ _) (fl_one _ _ _) (by simp) E (by omega) (by simp) (by omega) (by omega)) ?_
  rintro r W12 H12 A2
  replace hS := hS.trans H12
  replace L := L.mono H12
  replace o1 := o1.mono H12
  replace M := M.mono H12
  replace o2 := o2.mono H12
  rcases A2 with ⟨i, o, v2, hi, ho, _, rfl, _⟩ | ⟨_, rfl⟩
  · rw [show dOld (ds []) = none from rfl] at hi; cases hi
  (simp only [go_sem, vc_block_seq, vc_block_region, vc_block_cond, vc_block_block, Nat.reduceBEq, Nat.reduceAdd, Nat.reduceLeDiff, Nat.reduceEqDiff, Int.reduceAdd, Int.reduceBEq, Int.reduceBNe, reduceCtorEq, beq_self_eq_true, Bool.true_beq, Bool.false_beq]; repeat ((with_reducible refine leK_refl ?_); simp only [go_sem, vc_block_seq, vc_block_region, vc_block_cond, vc_block_block, Nat.reduceBEq, Nat.reduceAdd, Nat.reduceLeDiff, Nat.reduceEqDiff, Int.reduceAdd, Int.reduceBEq, Int.reduceBNe, reduceCtorEq, beq_self_eq_true, Bool.true_beq, Bool.false_beq]))
  rw [show (((oneS 2 5).node.toNat : Int) == 2) = true from rfl]
  (simp only [go_sem, vc_block_seq, vc_block_region, vc_block_cond, vc_block_block, Nat.reduceBEq, Nat.reduceAdd, Nat.reduceLeDiff, Nat.reduceEqDiff, Int.reduceAdd, Int.reduceBEq, Int.reduceBNe, reduceCtorEq, beq_self_eq_true, Bool.true_beq, Bool.false_beq]; repeat ((with_reducible refine leK_refl ?_); simp only [go_sem, vc_block_seq, vc_block_region, vc_block_cond, vc_block_block, Nat.reduceBEq, Nat.reduceAdd, Nat.reduceLeDiff, Nat.reduceEqDiff, Int.reduceAdd, Int.reduceBEq, Int.reduceBNe, reduceCtorEq, beq_self_eq_true, Bool.true_beq, Bool.false_beq]))
  refine AtCall.of_spec (cone_con 9 0 _) ?_
  rintro r W13 H13 rfl
  replace hS := hS.trans H13
  replace L := L.mono H13
  replace o1 := o1.mono H13
  replace M := M.mono H13
  replace o2 := o2.mono H13
  (simp only [go_sem, vc_block_seq, vc_block_region, vc_block_cond, vc_block_block, Nat.reduceBEq, Nat.reduceAdd, Nat.reduceLeDiff, Nat.reduceEqDiff, Int.reduceAdd, Int.reduceBEq, Int.reduceBNe, reduceCtorEq, beq_self_eq_true, Bool.true_beq, Bool.false_beq]; repeat ((with_reducible refine leK_refl ?_); simp only [go_sem, vc_block_seq, vc_block_region, vc_block_cond, vc_block_block, Nat.reduceBEq, Nat.reduceAdd, Nat.reduceLeDiff, Nat.reduceEqDiff, Int.reduceAdd, Int.reduceBEq, Int.reduceBNe, reduceCtorEq, beq_self_eq_true, Bool.true_beq, Bool.false_beq]))
  refine AtCall.of_spec (cone_con 3 0 _) ?_
  rintro r W14 H14 rfl
  replace hS := hS.trans H14
  replace L := L.mono H14
  replace o1 := o1.mono H14
  replace M := M.mono H14
  replace o2 := o2.mono H14
  (simp only [go_sem, vc_block_seq, vc_block_region, vc_block_cond, vc_block_block, Nat.reduceBEq, Nat.reduceAdd, Nat.reduceLeDiff, Nat.reduceEqDiff, Int.reduceAdd, Int.reduceBEq, Int.reduceBNe, reduceCtorEq, beq_self_eq_true, Bool.true_beq, Bool.false_beq]; repeat ((with_reducible refine leK_refl ?_); simp only [go_sem, vc_block_seq, vc_block_region, vc_block_cond, vc_block_block, Nat.reduceBEq, Nat.reduceAdd, Nat.reduceLeDiff, Nat.reduceEqDiff, Int.reduceAdd, Int.reduceBEq, Int.reduceBNe, reduceCtorEq, beq_self_eq_true, Bool.true_beq, Bool.false_beq]))
  refine eff_lit (n := 2) (vs := [PD.val (oneP 9 0), PD.val (oneP 3 0)]) Ty.el22 rfl rfl (by intro v hv; simp at hv; rcases hv with rfl | rfl <;> rfl) (by omega) ?_
  intro pf uf hf sf ff
  replace hS := hS.trans sf
  replace L := L.mono sf
  replace o1 := o1.mono sf
  replace M := M.mono sf
  replace o2 := o2.mono sf
  have F : DL uf pf 2 2 [oneP 9 0, oneP 3 0] := ⟨hf.sl, by intro x hx; simp at hx; rcases hx with rfl | rfl <;> exact fl_one _ _ _⟩
  have s1 := small_of_eq o1 e1 (by simp) (by intro d hd; simp at hd; rcases hd with rfl | rfl <;> simp [oneS])
  have s2 := small_of_eq o2 e2 (by simp) (by intro d hd; simp at hd; rcases hd with rfl | rfl | rfl <;> simp [oneS])
  (simp only [go_sem, vc_block_seq, vc_block_region, vc_block_cond, vc_block_block, Nat.reduceBEq, Nat.reduceAdd, Nat.reduceLeDiff, Nat.reduceEqDiff, Int.reduceAdd, Int.reduceBEq, Int.reduceBNe, reduceCtorEq, beq_self_eq_true, Bool.true_beq, Bool.false_beq]; repeat ((with_reducible refine leK_refl ?_); simp only [go_sem, vc_block_seq, vc_block_region, vc_block_cond, vc_block_block, Nat.reduceBEq, Nat.reduceAdd, Nat.reduceLeDiff, Nat.reduceEqDiff, Int.reduceAdd, Int.reduceBEq, Int.reduceBNe, reduceCtorEq, beq_self_eq_true, Bool.true_beq, Bool.false_beq]))
  refine AtCall.of_spec (descs_con l1 _ p1 pf n1 c1 2 2 _ o1 F (by omega) (fun x hx => by have := s1.2 x hx; omega)) ?_
  rintro r W15 H15 rfl
  replace hS := hS.trans H15
  replace L := L.mono H15
  replace o1 := o1.mono H15
  replace M := M.mono H15
  replace o2 := o2.mono H15
  rw [e1, show (decide ([oneS 9 0, oneS 3 0] = ds [oneP 9 0, oneP 3 0])) = true from rfl]
  (simp only [go_sem, vc_block_seq, vc_block_region, vc_block_cond, vc_block_block, Nat.reduceBEq, Nat.reduceAdd, Nat.reduceLeDiff, Nat.reduceEqDiff, Int.reduceAdd, Int.reduceBEq, Int.reduceBNe, reduceCtorEq, beq_self_eq_true, Bool.true_beq, Bool.false_beq]; repeat ((with_reducible refine leK_refl ?_); simp only [go_sem, vc_block_seq, vc_block_region, vc_block_cond, vc_block_block, Nat.reduceBEq, Nat.reduceAdd, Nat.reduceLeDiff, Nat.reduceEqDiff, Int.reduceAdd, Int.reduceBEq, Int.reduceBNe, reduceCtorEq, beq_self_eq_true, Bool.true_beq, Bool.false_beq]))
  refine AtCall.of_spec (cone_con 1 1 _) ?_
  rintro r W16 H16 rfl
  replace hS := hS.trans H16
  replace L := L.mono H16
  replace o1 := o1.mono H16
  replace M := M.mono H16
  replace o2 := o2.mono H16
  (simp only [go_sem, vc_block_seq, vc_block_region, vc_block_cond, vc_block_block, Nat.reduceBEq, Nat.reduceAdd, Nat.reduceLeDiff, Nat.reduceEqDiff, Int.reduceAdd, Int.reduceBEq, Int.reduceBNe, reduceCtorEq, beq_self_eq_true, Bool.true_beq, Bool.false_beq]; repeat ((with_reducible refine leK_refl ?_); simp only [go_sem, vc_block_seq, vc_block_region, vc_block_cond, vc_block_block, Nat.reduceBEq, Nat.reduceAdd, Nat.reduceLeDiff, Nat.reduceEqDiff, Int.reduceAdd, Int.reduceBEq, Int.reduceBNe, reduceCtorEq, beq_self_eq_true, Bool.true_beq, Bool.false_beq]))
  refine AtCall.of_spec (cone_con 2 5 _) ?_
  rintro r W17 H17 rfl
  replace hS := hS.trans H17
  replace L := L.mono H17
  replace o1 := o1.mono H17
  replace M := M.mono H17
  replace o2 := o2.mono H17
  (simp only [go_sem, vc_block_seq, vc_block_region, vc_block_cond, vc_block_block, Nat.reduceBEq, Nat.reduceAdd, Nat.reduceLeDiff, Nat.reduceEqDiff, Int.reduceAdd, Int.reduceBEq, Int.reduceBNe, reduceCtorEq, beq_self_eq_true, Bool.true_beq, Bool.false_beq]; repeat ((with_reducible refine leK_refl ?_); simp only [go_sem, vc_block_seq, vc_block_region, vc_block_cond, vc_block_block, Nat.reduceBEq, Nat.reduceAdd, Nat.reduceLeDiff, Nat.reduceEqDiff, Int.reduceAdd, Int.reduceBEq, Int.reduceBNe, reduceCtorEq, beq_self_eq_true, Bool.true_beq, Bool.false_beq]))
  refine AtCall.of_spec (cone_con 4 0 _) ?_
  rintro r W18 H18 rfl
  replace hS := hS.trans H18
  replace L := L.mono H18
  replace o1 := o1.mono H18
  replace M := M.mono H18
  replace o2 := o2.mono H18
  (simp only [go_sem, vc_block_seq, vc_block_region, vc_block_cond, vc_block_block, Nat.reduceBEq, Nat.reduceAdd, Nat.reduceLeDiff, Nat.reduceEqDiff, Int.reduceAdd, Int.reduceBEq, Int.reduceBNe, reduceCtorEq, beq_self_eq_true, Bool.true_beq, Bool.false_beq]; repeat ((with_reducible refine leK_refl ?_); simp only [go_sem, vc_block_seq, vc_block_region, vc_block_cond, vc_block_block, Nat.reduceBEq, Nat.reduceAdd, Nat.reduceLeDiff, Nat.reduceEqDiff, Int.reduceAdd, Int.reduceBEq, Int.reduceBNe, reduceCtorEq, beq_self_eq_true, Bool.true_beq, Bool.false_beq]))
  refine eff_lit (n := 3) (vs := [PD.val (oneP 1 1), PD.val (oneP 2 5), PD.val (oneP 4 0)]) Ty.el22 rfl rfl (by intro v hv; simp at hv; rcases hv with rfl | rfl | rfl <;> rfl) (by omega) ?_
  intro pg ug hg sg fg
  replace hS := hS.trans sg
  replace L := L.mono sg
  replace o1 := o1.mono sg
  replace M := M.mono sg
  replace o2 := o2.mono sg
  have G : DL ug pg 3 3 [oneP 1 1, oneP 2 5, oneP 4 0] := ⟨hg.sl, by intro x hx; simp at hx; rcases hx with rfl | rfl | rfl <;> exact fl_one _ _ _⟩
  (simp only [go_sem, vc_block_seq, vc_block_region, vc_block_cond, vc_block_block, Nat.reduceBEq, Nat.reduceAdd, Nat.reduceLeDiff, Nat.reduceEqDiff, Int.reduceAdd, Int.reduceBEq, Int.reduceBNe, reduceCtorEq, beq_self_eq_true, Bool.true_beq, Bool.false_beq]; repeat ((with_reducible refine leK_refl ?_); simp only [go_sem, vc_block_seq, vc_block_region, vc_block_cond, vc_block_block, Nat.reduceBEq, Nat.reduceAdd, Nat.reduceLeDiff, Nat.reduceEqDiff, Int.reduceAdd, Int.reduceBEq, Int.reduceBNe, reduceCtorEq, beq_self_eq_true, Bool.true_beq, Bool.false_beq]))
  refine AtCall.of_spec (descs_con l2 _ p2 pg n2 c2 3 3 _ o2 G (by omega) (fun x hx => by have := s2.2 x hx; omega)) ?_
  rintro r W19 H19 rfl
  replace hS := hS.trans H19
  replace L := L.mono H19
  replace o1 := o1.mono H19
  replace M := M.mono H19
  replace o2 := o2.mono H19
  rw [e2, show (decide ([oneS 1 1, oneS 2 5, oneS 4 0] = ds [oneP 1 1, oneP 2 5, oneP 4 0])) = true from rfl]
  (simp only [go_sem, vc_block_seq, vc_block_region, vc_block_cond, vc_block_block, Nat.reduceBEq, Nat.reduceAdd, Nat.reduceLeDiff, Nat.reduceEqDiff, Int.reduceAdd, Int.reduceBEq, Int.reduceBNe, reduceCtorEq, beq_self_eq_true, Bool.true_beq, Bool.false_beq]; repeat ((with_reducible refine leK_refl ?_); simp only [go_sem, vc_block_seq, vc_block_region, vc_block_cond, vc_block_block, Nat.reduceBEq, Nat.reduceAdd, Nat.reduceLeDiff, Nat.reduceEqDiff, Int.reduceAdd, Int.reduceBEq, Int.reduceBNe, reduceCtorEq, beq_self_eq_true, Bool.true_beq, Bool.false_beq]))
  refine eff_lit (n := 3) (vs := [.int .u32 7, .int .u32 8, .int .u32 9]) Ty.el23 rfl rfl (by intro v hv; simp at hv; rcases hv with rfl | rfl | rfl <;> rfl) (by omega) ?_
  intro pk uk hk sk fk
  have Q : Sl uk 1 pk 3 3 ([(7 : UInt32), 8, 9].map enc32) := hk.sl
  replace hS := hS.trans sk
  replace L := L.mono sk
  replace o1 := o1.mono sk
  replace M := M.mono sk
  replace o2 := o2.mono sk
  (simp only [go_sem, vc_block_seq, vc_block_region, vc_block_cond, vc_block_block, Nat.reduceBEq, Nat.reduceAdd, Nat.reduceLeDiff, Nat.reduceEqDiff, Int.reduceAdd, Int.reduceBEq, Int.reduceBNe, reduceCtorEq, beq_self_eq_true, Bool.true_beq, Bool.false_beq]; repeat ((with_reducible refine leK_refl ?_); simp only [go_sem, vc_block_seq, vc_block_region, vc_block_cond, vc_block_block, Nat.reduceBEq, Nat.reduceAdd, Nat.reduceLeDiff, Nat.reduceEqDiff, Int.reduceAdd, Int.reduceBEq, Int.reduceBNe, reduceCtorEq, beq_self_eq_true, Bool.true_beq, Bool.false_beq]))
  refine AtCall.of_spec (pick_con _ 2 1 [7, 8, 9] pl pk 3 3 3 3 _ L Q (by omega) L8 (by omega)) ?_
  rintro r W20 H20 ⟨p3, n3, c3, l3, rfl, o3, e3⟩
  replace hS := hS.trans H20
  replace L := L.mono H20
  replace o1 := o1.mono H20
  replace M := M.mono H20
  replace o2 := o2.mono H20
  replace e3 : ds l3 = [oneS 3 0, oneS 2 5] := e3
  have hn3 : n3 = 2 := by have h1 := o3.len; have h2 := congrArg List.length e3; simp at h2; omega
  subst hn3
  (simp only [go_sem, vc_block_seq, vc_block_region, vc_block_cond, vc_block_block, Nat.reduceBEq, Nat.reduceAdd, Nat.reduceLeDiff, Nat.reduceEqDiff, Int.reduceAdd, Int.reduceBEq, Int.reduceBNe, reduceCtorEq, beq_self_eq_true, Bool.true_beq, Bool.false_beq]; repeat ((with_reducible refine leK_refl ?_); simp only [go_sem, vc_block_seq, vc_block_region, vc_block_cond, vc_block_block, Nat.reduceBEq, Nat.reduceAdd, Nat.reduceLeDiff, Nat.reduceEqDiff, Int.reduceAdd, Int.reduceBEq, Int.reduceBNe, reduceCtorEq, beq_self_eq_true, Bool.true_beq, Bool.false_beq]))
  rw [show (((2 : Nat) : Int) == 2) = true from rfl]
  exact ⟨hS, rfl⟩
end Go.Proofs.Ytfdhmmjccnmckaa
