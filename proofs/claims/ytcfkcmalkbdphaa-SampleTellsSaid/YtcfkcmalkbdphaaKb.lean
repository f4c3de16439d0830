/-
  Walks: the chapter's examples of sample.
-/
import Derived.Test.YtcfkcmalkbdphaaKa
set_option linter.unusedSimpArgs false
set_option linter.unusedVariables false
namespace Go.Eng
def oneS (a b : UInt8) : GDesc := ⟨a, 1, b, []⟩
end Go.Eng
namespace Go.Proofs.Ytcfkcmalkbdphaa
open Go.Eng
attribute [local go_sem] GSpan.val GSpan.enc PD.val PD.enc PW.val PW.enc

theorem sone_con (a b : UInt8) (u : World) : Con Try.prog 56 [.int .u8 a.toNat, .int .u8 b.toNat] u (fun r u' => r = PD.val ⟨oneS a b, none, 0, 0⟩) := by
  refine spec_of_vc Ty.mixed Try.func56 rfl (by kernel_rfl) (by kernel_rfl) rfl [.cell 4 32] rfl ?_
  (simp only [go_sem, vc_block_seq, vc_block_region, vc_block_cond, vc_block_block, Nat.reduceBEq, Nat.reduceAdd, Nat.reduceLeDiff, Nat.reduceEqDiff, Int.reduceAdd, Int.reduceBEq, Int.reduceBNe, reduceCtorEq, beq_self_eq_true, Bool.true_beq, Bool.false_beq]; repeat ((with_reducible refine leK_refl ?_); simp only [go_sem, vc_block_seq, vc_block_region, vc_block_cond, vc_block_block, Nat.reduceBEq, Nat.reduceAdd, Nat.reduceLeDiff, Nat.reduceEqDiff, Int.reduceAdd, Int.reduceBEq, Int.reduceBNe, reduceCtorEq, beq_self_eq_true, Bool.true_beq, Bool.false_beq]))
  intro b1
  exact ⟨Sub.refl _, rfl⟩

theorem fl_one (u : World) (a b : UInt8) : Fl u ⟨oneS a b, none, 0, 0⟩ := Sl.none_ _ _

theorem wl_back {u u' : World} {v : Value} {g : GW} (h : BackW u u' v g) (hn : g.sent.length ≤ 100) (h8 : ∀ d ∈ g.sent, d.filter.length ≤ 8) : ∃ w : PW, v = w.val ∧ w.g = g ∧ WL u' w := by
  obtain ⟨w, rfl, rfl, o⟩ := h
  refine ⟨w, rfl, rfl, o.dl, ?_, fun x hx => ?_⟩
  · have := o.len; simp [PW.g] at hn; omega
  · rw [← (o.dl.fl x hx).len]; exact h8 x.d (List.mem_map_of_mem hx)

set_option maxRecDepth 4000 in
set_option maxHeartbeats 2000000 in
theorem sawake_con (u : World) : Con Try.prog 35 [] u (fun r _ => r = .bool true) := by
  refine spec_of_vc Ty.mixed Try.func35 rfl (by kernel_rfl) (by kernel_rfl) rfl [.tmp 0] rfl ?_
  (simp only [go_sem, vc_block_seq, vc_block_region, vc_block_cond, vc_block_block, Nat.reduceBEq, Nat.reduceAdd, Nat.reduceLeDiff, Nat.reduceEqDiff, Int.reduceAdd, Int.reduceBEq, Int.reduceBNe, reduceCtorEq, beq_self_eq_true, Bool.true_beq, Bool.false_beq]; repeat ((with_reducible refine leK_refl ?_); simp only [go_sem, vc_block_seq, vc_block_region, vc_block_cond, vc_block_block, Nat.reduceBEq, Nat.reduceAdd, Nat.reduceLeDiff, Nat.reduceEqDiff, Int.reduceAdd, Int.reduceBEq, Int.reduceBNe, reduceCtorEq, beq_self_eq_true, Bool.true_beq, Bool.false_beq]))
  have hS : Sub u u := Sub.refl _
  refine AtCall.of_spec (sone_con 9 0 u) ?_
  rintro r W1 H1 rfl
  replace hS := hS.trans H1
  (simp only [go_sem, vc_block_seq, vc_block_region, vc_block_cond, vc_block_block, Nat.reduceBEq, Nat.reduceAdd, Nat.reduceLeDiff, Nat.reduceEqDiff, Int.reduceAdd, Int.reduceBEq, Int.reduceBNe, reduceCtorEq, beq_self_eq_true, Bool.true_beq, Bool.false_beq]; repeat ((with_reducible refine leK_refl ?_); simp only [go_sem, vc_block_seq, vc_block_region, vc_block_cond, vc_block_block, Nat.reduceBEq, Nat.reduceAdd, Nat.reduceLeDiff, Nat.reduceEqDiff, Int.reduceAdd, Int.reduceBEq, Int.reduceBNe, reduceCtorEq, beq_self_eq_true, Bool.true_beq, Bool.false_beq]))
  refine eff_lit (n := 1) (vs := [PD.val ⟨oneS 9 0, none, 0, 0⟩]) Ty.el22 rfl rfl (by intro v hv; simp at hv; subst hv; rfl) (by omega) ?_
  intro pl ul hl sl fl
  replace hS := hS.trans sl
  have L : DL ul pl 1 1 [⟨oneS 9 0, none, 0, 0⟩] := ⟨hl.sl, by intro x hx; simp at hx; subst hx; exact fl_one _ _ _⟩
  (simp only [go_sem, vc_block_seq, vc_block_region, vc_block_cond, vc_block_block, Nat.reduceBEq, Nat.reduceAdd, Nat.reduceLeDiff, Nat.reduceEqDiff, Int.reduceAdd, Int.reduceBEq, Int.reduceBNe, reduceCtorEq, beq_self_eq_true, Bool.true_beq, Bool.false_beq]; repeat ((with_reducible refine leK_refl ?_); simp only [go_sem, vc_block_seq, vc_block_region, vc_block_cond, vc_block_block, Nat.reduceBEq, Nat.reduceAdd, Nat.reduceLeDiff, Nat.reduceEqDiff, Int.reduceAdd, Int.reduceBEq, Int.reduceBNe, reduceCtorEq, beq_self_eq_true, Bool.true_beq, Bool.false_beq]))
  refine AtCall.of_spec (start_con 3 2 _ pl 1 1 _ L (by omega) (by intro x hx; simp at hx; subst hx; simp)) ?_
  rintro r W2 H2 B0
  replace hS := hS.trans H2
  obtain ⟨w0, rfl, e0, hw0⟩ := wl_back B0 (by simp [wStart]) (by intro d hd; simp [wStart] at hd; subst hd; simp [oneS])
  have e0' : w0.g = ⟨true, 3, 2, [oneS 9 0]⟩ := e0
  clear L B0 e0
  (simp only [go_sem, vc_block_seq, vc_block_region, vc_block_cond, vc_block_block, Nat.reduceBEq, Nat.reduceAdd, Nat.reduceLeDiff, Nat.reduceEqDiff, Int.reduceAdd, Int.reduceBEq, Int.reduceBNe, reduceCtorEq, beq_self_eq_true, Bool.true_beq, Bool.false_beq]; repeat ((with_reducible refine leK_refl ?_); simp only [go_sem, vc_block_seq, vc_block_region, vc_block_cond, vc_block_block, Nat.reduceBEq, Nat.reduceAdd, Nat.reduceLeDiff, Nat.reduceEqDiff, Int.reduceAdd, Int.reduceBEq, Int.reduceBNe, reduceCtorEq, beq_self_eq_true, Bool.true_beq, Bool.false_beq]))
  intro b1
  refine AtCall.of_spec (answer_con w0 4 _ hw0) ?_
  rintro r W3 H3 ⟨v1, l1, rfl, ⟨w1, rfl, _, _⟩, _⟩
  replace hS := hS.trans H3
  replace hw0 := hw0.mono H3
  rw [e0', show (wAns ⟨true, 3, 2, [oneS 9 0]⟩ 4).2.2 = false from rfl]
  (simp only [go_sem, vc_block_seq, vc_block_region, vc_block_cond, vc_block_block, Nat.reduceBEq, Nat.reduceAdd, Nat.reduceLeDiff, Nat.reduceEqDiff, Int.reduceAdd, Int.reduceBEq, Int.reduceBNe, reduceCtorEq, beq_self_eq_true, Bool.true_beq, Bool.false_beq]; repeat ((with_reducible refine leK_refl ?_); simp only [go_sem, vc_block_seq, vc_block_region, vc_block_cond, vc_block_block, Nat.reduceBEq, Nat.reduceAdd, Nat.reduceLeDiff, Nat.reduceEqDiff, Int.reduceAdd, Int.reduceBEq, Int.reduceBNe, reduceCtorEq, beq_self_eq_true, Bool.true_beq, Bool.false_beq]))
  intro b2
  refine AtCall.of_spec (answer_con w0 3 _ hw0) ?_
  rintro r W4 H4 ⟨v1, l1, rfl, ⟨w2, rfl, _, _⟩, p3, n3, c3, l3, rfl, o3, e3⟩
  replace hS := hS.trans H4
  replace hw0 := hw0.mono H4
  rw [e0', show (wAns ⟨true, 3, 2, [oneS 9 0]⟩ 3) = (wZero, [oneS 9 0], true) from rfl] at e3 ⊢
  have hn3 : n3 = 1 := by have h1 := o3.len; have h2 := congrArg List.length e3; simp at h2; omega
  subst hn3
  (simp only [go_sem, vc_block_seq, vc_block_region, vc_block_cond, vc_block_block, Nat.reduceBEq, Nat.reduceAdd, Nat.reduceLeDiff, Nat.reduceEqDiff, Int.reduceAdd, Int.reduceBEq, Int.reduceBNe, reduceCtorEq, beq_self_eq_true, Bool.true_beq, Bool.false_beq]; repeat ((with_reducible refine leK_refl ?_); simp only [go_sem, vc_block_seq, vc_block_region, vc_block_cond, vc_block_block, Nat.reduceBEq, Nat.reduceAdd, Nat.reduceLeDiff, Nat.reduceEqDiff, Int.reduceAdd, Int.reduceBEq, Int.reduceBNe, reduceCtorEq, beq_self_eq_true, Bool.true_beq, Bool.false_beq]))
  intro b5
  refine AtCall.of_spec (tick_con w0 _ hw0) ?_
  rintro r W5 H5 ⟨v4, rfl, B4⟩
  replace hS := hS.trans H5
  replace hw0 := hw0.mono H5
  rw [e0', show (wTick ⟨true, 3, 2, [oneS 9 0]⟩) = (⟨true, 3, 1, [oneS 9 0]⟩, 0, false) from rfl] at B4 ⊢
  obtain ⟨w4, rfl, e4, hw4⟩ := wl_back B4 (by simp) (by intro d hd; simp at hd; subst hd; simp [oneS])
  (simp only [go_sem, vc_block_seq, vc_block_region, vc_block_cond, vc_block_block, Nat.reduceBEq, Nat.reduceAdd, Nat.reduceLeDiff, Nat.reduceEqDiff, Int.reduceAdd, Int.reduceBEq, Int.reduceBNe, reduceCtorEq, beq_self_eq_true, Bool.true_beq, Bool.false_beq]; repeat ((with_reducible refine leK_refl ?_); simp only [go_sem, vc_block_seq, vc_block_region, vc_block_cond, vc_block_block, Nat.reduceBEq, Nat.reduceAdd, Nat.reduceLeDiff, Nat.reduceEqDiff, Int.reduceAdd, Int.reduceBEq, Int.reduceBNe, reduceCtorEq, beq_self_eq_true, Bool.true_beq, Bool.false_beq]))
  refine AtCall.of_spec (tick_con w4 _ hw4) ?_
  rintro r W6 H6 ⟨v5, rfl, B5⟩
  replace hS := hS.trans H6
  replace hw0 := hw0.mono H6
  replace hw4 := hw4.mono H6
  rw [e4, show (wTick ⟨true, 3, 1, [oneS 9 0]⟩) = (wZero, 3, true) from rfl] at B5 ⊢
  obtain ⟨w5, rfl, e5, hw5⟩ := wl_back B5 (by simp [wZero]) (by intro d hd; simp [wZero] at hd)
  (simp only [go_sem, vc_block_seq, vc_block_region, vc_block_cond, vc_block_block, Nat.reduceBEq, Nat.reduceAdd, Nat.reduceLeDiff, Nat.reduceEqDiff, Int.reduceAdd, Int.reduceBEq, Int.reduceBNe, reduceCtorEq, beq_self_eq_true, Bool.true_beq, Bool.false_beq]; repeat ((with_reducible refine leK_refl ?_); simp only [go_sem, vc_block_seq, vc_block_region, vc_block_cond, vc_block_block, Nat.reduceBEq, Nat.reduceAdd, Nat.reduceLeDiff, Nat.reduceEqDiff, Int.reduceAdd, Int.reduceBEq, Int.reduceBNe, reduceCtorEq, beq_self_eq_true, Bool.true_beq, Bool.false_beq]))
  intro b10
  refine AtCall.of_spec (sone_con 1 5 _) ?_
  rintro r W7 H7 rfl
  replace hS := hS.trans H7
  replace hw0 := hw0.mono H7
  replace hw4 := hw4.mono H7
  replace hw5 := hw5.mono H7
  (simp only [go_sem, vc_block_seq, vc_block_region, vc_block_cond, vc_block_block, Nat.reduceBEq, Nat.reduceAdd, Nat.reduceLeDiff, Nat.reduceEqDiff, Int.reduceAdd, Int.reduceBEq, Int.reduceBNe, reduceCtorEq, beq_self_eq_true, Bool.true_beq, Bool.false_beq]; repeat ((with_reducible refine leK_refl ?_); simp only [go_sem, vc_block_seq, vc_block_region, vc_block_cond, vc_block_block, Nat.reduceBEq, Nat.reduceAdd, Nat.reduceLeDiff, Nat.reduceEqDiff, Int.reduceAdd, Int.reduceBEq, Int.reduceBNe, reduceCtorEq, beq_self_eq_true, Bool.true_beq, Bool.false_beq]))
  refine AtCall.of_spec (sone_con 2 1 _) ?_
  rintro r W8 H8 rfl
  replace hS := hS.trans H8
  replace hw0 := hw0.mono H8
  replace hw4 := hw4.mono H8
  replace hw5 := hw5.mono H8
  (simp only [go_sem, vc_block_seq, vc_block_region, vc_block_cond, vc_block_block, Nat.reduceBEq, Nat.reduceAdd, Nat.reduceLeDiff, Nat.reduceEqDiff, Int.reduceAdd, Int.reduceBEq, Int.reduceBNe, reduceCtorEq, beq_self_eq_true, Bool.true_beq, Bool.false_beq]; repeat ((with_reducible refine leK_refl ?_); simp only [go_sem, vc_block_seq, vc_block_region, vc_block_cond, vc_block_block, Nat.reduceBEq, Nat.reduceAdd, Nat.reduceLeDiff, Nat.reduceEqDiff, Int.reduceAdd, Int.reduceBEq, Int.reduceBNe, reduceCtorEq, beq_self_eq_true, Bool.true_beq, Bool.false_beq]))
  refine eff_lit (n := 2) (vs := [PD.val ⟨oneS 1 5, none, 0, 0⟩, PD.val ⟨oneS 2 1, none, 0, 0⟩]) Ty.el22 rfl rfl (by intro v hv; simp at hv; rcases hv with rfl | rfl <;> rfl) (by omega) ?_
  intro pm um hm sm fm
  have M : DL um pm 2 2 [⟨oneS 1 5, none, 0, 0⟩, ⟨oneS 2 1, none, 0, 0⟩] := ⟨hm.sl, by intro x hx; simp at hx; rcases hx with rfl | rfl <;> exact fl_one _ _ _⟩
  replace hS := hS.trans sm
  replace hw0 := hw0.mono sm
  replace hw4 := hw4.mono sm
  replace hw5 := hw5.mono sm
  (simp only [go_sem, vc_block_seq, vc_block_region, vc_block_cond, vc_block_block, Nat.reduceBEq, Nat.reduceAdd, Nat.reduceLeDiff, Nat.reduceEqDiff, Int.reduceAdd, Int.reduceBEq, Int.reduceBNe, reduceCtorEq, beq_self_eq_true, Bool.true_beq, Bool.false_beq]; repeat ((with_reducible refine leK_refl ?_); simp only [go_sem, vc_block_seq, vc_block_region, vc_block_cond, vc_block_block, Nat.reduceBEq, Nat.reduceAdd, Nat.reduceLeDiff, Nat.reduceEqDiff, Int.reduceAdd, Int.reduceBEq, Int.reduceBNe, reduceCtorEq, beq_self_eq_true, Bool.true_beq, Bool.false_beq]))
  rw [show (((1 : Nat) : Int) == 1) = true from rfl]
  (simp only [go_sem, vc_block_seq, vc_block_region, vc_block_cond, vc_block_block, Nat.reduceBEq, Nat.reduceAdd, Nat.reduceLeDiff, Nat.reduceEqDiff, Int.reduceAdd, Int.reduceBEq, Int.reduceBNe, reduceCtorEq, beq_self_eq_true, Bool.true_beq, Bool.false_beq]; repeat ((with_reducible refine leK_refl ?_); simp only [go_sem, vc_block_seq, vc_block_region, vc_block_cond, vc_block_block, Nat.reduceBEq, Nat.reduceAdd, Nat.reduceLeDiff, Nat.reduceEqDiff, Int.reduceAdd, Int.reduceBEq, Int.reduceBNe, reduceCtorEq, beq_self_eq_true, Bool.true_beq, Bool.false_beq]))
  have h4l : w4.left = 1 := congrArg GW.left e4
  rw [h4l, show (((1 : UInt8).toNat : Int) == 1) = true from rfl]
  (simp only [go_sem, vc_block_seq, vc_block_region, vc_block_cond, vc_block_block, Nat.reduceBEq, Nat.reduceAdd, Nat.reduceLeDiff, Nat.reduceEqDiff, Int.reduceAdd, Int.reduceBEq, Int.reduceBNe, reduceCtorEq, beq_self_eq_true, Bool.true_beq, Bool.false_beq]; repeat ((with_reducible refine leK_refl ?_); simp only [go_sem, vc_block_seq, vc_block_region, vc_block_cond, vc_block_block, Nat.reduceBEq, Nat.reduceAdd, Nat.reduceLeDiff, Nat.reduceEqDiff, Int.reduceAdd, Int.reduceBEq, Int.reduceBNe, reduceCtorEq, beq_self_eq_true, Bool.true_beq, Bool.false_beq]))
  rw [show (((3 : UInt8).toNat : Int) == 3) = true from rfl]
  (simp only [go_sem, vc_block_seq, vc_block_region, vc_block_cond, vc_block_block, Nat.reduceBEq, Nat.reduceAdd, Nat.reduceLeDiff, Nat.reduceEqDiff, Int.reduceAdd, Int.reduceBEq, Int.reduceBNe, reduceCtorEq, beq_self_eq_true, Bool.true_beq, Bool.false_beq]; repeat ((with_reducible refine leK_refl ?_); simp only [go_sem, vc_block_seq, vc_block_region, vc_block_cond, vc_block_block, Nat.reduceBEq, Nat.reduceAdd, Nat.reduceLeDiff, Nat.reduceEqDiff, Int.reduceAdd, Int.reduceBEq, Int.reduceBNe, reduceCtorEq, beq_self_eq_true, Bool.true_beq, Bool.false_beq]))
  refine AtCall.of_spec (wsame_con w5 ⟨false, 0, 0, none, 0, 0, []⟩ _ hw5 ⟨DL.nil_ _, by simp, by simp⟩) ?_
  rintro r W9 H9 rfl
  replace hS := hS.trans H9
  replace hw0 := hw0.mono H9
  replace hw4 := hw4.mono H9
  replace hw5 := hw5.mono H9
  replace M := M.mono H9
  rw [e5, show (decide (wZero = PW.g ⟨false, 0, 0, none, 0, 0, []⟩)) = true from rfl]
  (simp only [go_sem, vc_block_seq, vc_block_region, vc_block_cond, vc_block_block, Nat.reduceBEq, Nat.reduceAdd, Nat.reduceLeDiff, Nat.reduceEqDiff, Int.reduceAdd, Int.reduceBEq, Int.reduceBNe, reduceCtorEq, beq_self_eq_true, Bool.true_beq, Bool.false_beq]; repeat ((with_reducible refine leK_refl ?_); simp only [go_sem, vc_block_seq, vc_block_region, vc_block_cond, vc_block_block, Nat.reduceBEq, Nat.reduceAdd, Nat.reduceLeDiff, Nat.reduceEqDiff, Int.reduceAdd, Int.reduceBEq, Int.reduceBNe, reduceCtorEq, beq_self_eq_true, Bool.true_beq, Bool.false_beq]))
  refine AtCall.of_spec (sone_con 7 0 _) ?_
  rintro r W10 H10 rfl
  replace hS := hS.trans H10
  replace hw0 := hw0.mono H10
  replace hw4 := hw4.mono H10
  replace hw5 := hw5.mono H10
  replace M := M.mono H10
  (simp only [go_sem, vc_block_seq, vc_block_region, vc_block_cond, vc_block_block, Nat.reduceBEq, Nat.reduceAdd, Nat.reduceLeDiff, Nat.reduceEqDiff, Int.reduceAdd, Int.reduceBEq, Int.reduceBNe, reduceCtorEq, beq_self_eq_true, Bool.true_beq, Bool.false_beq]; repeat ((with_reducible refine leK_refl ?_); simp only [go_sem, vc_block_seq, vc_block_region, vc_block_cond, vc_block_block, Nat.reduceBEq, Nat.reduceAdd, Nat.reduceLeDiff, Nat.reduceEqDiff, Int.reduceAdd, Int.reduceBEq, Int.reduceBNe, reduceCtorEq, beq_self_eq_true, Bool.true_beq, Bool.false_beq]))
  refine AtCall.of_spec (admit_con _ ⟨oneS 7 0, none, 0, 0⟩ 0 2 pm 2 2 _ M (by decide) (fl_one _ _ _) (by omega) (by intro x hx; simp at hx; rcases hx with rfl | rfl <;> simp) (by simp)) ?_
  rintro r W11 H11 ⟨p6, n6, c6, l6, rfl, o6, e6⟩
  replace hS := hS.trans H11
  replace hw0 := hw0.mono H11
  replace hw4 := hw4.mono H11
  replace hw5 := hw5.mono H11
  replace M := M.mono H11
  rw [show (sAdmit (ds [⟨oneS 1 5, none, 0, 0⟩, ⟨oneS 2 1, none, 0, 0⟩]) (PD.mk (oneS 7 0) none 0 0).d 0 2) = [oneS 2 1, oneS 7 0] from rfl] at e6
  replace o6 := o6.dl
  (simp only [go_sem, vc_block_seq, vc_block_region, vc_block_cond, vc_block_block, Nat.reduceBEq, Nat.reduceAdd, Nat.reduceLeDiff, Nat.reduceEqDiff, Int.reduceAdd, Int.reduceBEq, Int.reduceBNe, reduceCtorEq, beq_self_eq_true, Bool.true_beq, Bool.false_beq]; repeat ((with_reducible refine leK_refl ?_); simp only [go_sem, vc_block_seq, vc_block_region, vc_block_cond, vc_block_block, Nat.reduceBEq, Nat.reduceAdd, Nat.reduceLeDiff, Nat.reduceEqDiff, Int.reduceAdd, Int.reduceBEq, Int.reduceBNe, reduceCtorEq, beq_self_eq_true, Bool.true_beq, Bool.false_beq]))
  refine AtCall.of_spec (sone_con 2 1 _) ?_
  rintro r W12 H12 rfl
  replace hS := hS.trans H12
  replace hw0 := hw0.mono H12
  replace hw4 := hw4.mono H12
  replace hw5 := hw5.mono H12
  replace M := M.mono H12
  replace o6 := o6.mono H12
  (simp only [go_sem, vc_block_seq, vc_block_region, vc_block_cond, vc_block_block, Nat.reduceBEq, Nat.reduceAdd, Nat.reduceLeDiff, Nat.reduceEqDiff, Int.reduceAdd, Int.reduceBEq, Int.reduceBNe, reduceCtorEq, beq_self_eq_true, Bool.true_beq, Bool.false_beq]; repeat ((with_reducible refine leK_refl ?_); simp only [go_sem, vc_block_seq, vc_block_region, vc_block_cond, vc_block_block, Nat.reduceBEq, Nat.reduceAdd, Nat.reduceLeDiff, Nat.reduceEqDiff, Int.reduceAdd, Int.reduceBEq, Int.reduceBNe, reduceCtorEq, beq_self_eq_true, Bool.true_beq, Bool.false_beq]))
  refine AtCall.of_spec (sone_con 7 0 _) ?_
  rintro r W13 H13 rfl
  replace hS := hS.trans H13
  replace hw0 := hw0.mono H13
  replace hw4 := hw4.mono H13
  replace hw5 := hw5.mono H13
  replace M := M.mono H13
  replace o6 := o6.mono H13
  (simp only [go_sem, vc_block_seq, vc_block_region, vc_block_cond, vc_block_block, Nat.reduceBEq, Nat.reduceAdd, Nat.reduceLeDiff, Nat.reduceEqDiff, Int.reduceAdd, Int.reduceBEq, Int.reduceBNe, reduceCtorEq, beq_self_eq_true, Bool.true_beq, Bool.false_beq]; repeat ((with_reducible refine leK_refl ?_); simp only [go_sem, vc_block_seq, vc_block_region, vc_block_cond, vc_block_block, Nat.reduceBEq, Nat.reduceAdd, Nat.reduceLeDiff, Nat.reduceEqDiff, Int.reduceAdd, Int.reduceBEq, Int.reduceBNe, reduceCtorEq, beq_self_eq_true, Bool.true_beq, Bool.false_beq]))
  refine eff_lit (n := 2) (vs := [PD.val ⟨oneS 2 1, none, 0, 0⟩, PD.val ⟨oneS 7 0, none, 0, 0⟩]) Ty.el22 rfl rfl (by intro v hv; simp at hv; rcases hv with rfl | rfl <;> rfl) (by omega) ?_
  intro pn un hn sn fn
  have N : DL un pn 2 2 [⟨oneS 2 1, none, 0, 0⟩, ⟨oneS 7 0, none, 0, 0⟩] := ⟨hn.sl, by intro x hx; simp at hx; rcases hx with rfl | rfl <;> exact fl_one _ _ _⟩
  replace hS := hS.trans sn
  replace hw0 := hw0.mono sn
  replace hw4 := hw4.mono sn
  replace hw5 := hw5.mono sn
  replace M := M.mono sn
  replace o6 := o6.mono sn
  (simp only [go_sem, vc_block_seq, vc_block_region, vc_block_cond, vc_block_block, Nat.reduceBEq, Nat.reduceAdd, Nat.reduceLeDiff, Nat.reduceEqDiff, Int.reduceAdd, Int.reduceBEq, Int.reduceBNe, reduceCtorEq, beq_self_eq_true, Bool.true_beq, Bool.false_beq]; repeat ((with_reducible refine leK_refl ?_); simp only [go_sem, vc_block_seq, vc_block_region, vc_block_cond, vc_block_block, Nat.reduceBEq, Nat.reduceAdd, Nat.reduceLeDiff, Nat.reduceEqDiff, Int.reduceAdd, Int.reduceBEq, Int.reduceBNe, reduceCtorEq, beq_self_eq_true, Bool.true_beq, Bool.false_beq]))
  have s6 := wl_of o6 (m := [⟨oneS 2 1, none, 0, 0⟩, ⟨oneS 7 0, none, 0, 0⟩]) e6 (by simp) (by intro x hx; simp at hx; rcases hx with rfl | rfl <;> simp [oneS])
  refine AtCall.of_spec (descs_con l6 _ p6 pn n6 c6 2 2 _ o6 N (by omega) (fun x hx => by have := s6.2 x hx; omega)) ?_
  rintro r W14 H14 rfl
  replace hS := hS.trans H14
  replace hw0 := hw0.mono H14
  replace hw4 := hw4.mono H14
  replace hw5 := hw5.mono H14
  replace M := M.mono H14
  replace o6 := o6.mono H14
  rw [e6, show (decide ([oneS 2 1, oneS 7 0] = ds [⟨oneS 2 1, none, 0, 0⟩, ⟨oneS 7 0, none, 0, 0⟩])) = true from rfl]
  (simp only [go_sem, vc_block_seq, vc_block_region, vc_block_cond, vc_block_block, Nat.reduceBEq, Nat.reduceAdd, Nat.reduceLeDiff, Nat.reduceEqDiff, Int.reduceAdd, Int.reduceBEq, Int.reduceBNe, reduceCtorEq, beq_self_eq_true, Bool.true_beq, Bool.false_beq]; repeat ((with_reducible refine leK_refl ?_); simp only [go_sem, vc_block_seq, vc_block_region, vc_block_cond, vc_block_block, Nat.reduceBEq, Nat.reduceAdd, Nat.reduceLeDiff, Nat.reduceEqDiff, Int.reduceAdd, Int.reduceBEq, Int.reduceBNe, reduceCtorEq, beq_self_eq_true, Bool.true_beq, Bool.false_beq]))
  refine AtCall.of_spec (sone_con 7 0 _) ?_
  rintro r W15 H15 rfl
  replace hS := hS.trans H15
  replace hw0 := hw0.mono H15
  replace hw4 := hw4.mono H15
  replace hw5 := hw5.mono H15
  replace M := M.mono H15
  replace o6 := o6.mono H15
  (simp only [go_sem, vc_block_seq, vc_block_region, vc_block_cond, vc_block_block, Nat.reduceBEq, Nat.reduceAdd, Nat.reduceLeDiff, Nat.reduceEqDiff, Int.reduceAdd, Int.reduceBEq, Int.reduceBNe, reduceCtorEq, beq_self_eq_true, Bool.true_beq, Bool.false_beq]; repeat ((with_reducible refine leK_refl ?_); simp only [go_sem, vc_block_seq, vc_block_region, vc_block_cond, vc_block_block, Nat.reduceBEq, Nat.reduceAdd, Nat.reduceLeDiff, Nat.reduceEqDiff, Int.reduceAdd, Int.reduceBEq, Int.reduceBNe, reduceCtorEq, beq_self_eq_true, Bool.true_beq, Bool.false_beq]))
  refine eff_lit (n := 1) (vs := [PD.val ⟨oneS 7 0, none, 0, 0⟩]) Ty.el22 rfl rfl (by intro v hv; simp at hv; subst hv; rfl) (by omega) ?_
  intro po uo ho so fo
  have O : DL uo po 1 1 [⟨oneS 7 0, none, 0, 0⟩] := ⟨ho.sl, by intro x hx; simp at hx; subst hx; exact fl_one _ _ _⟩
  replace hS := hS.trans so
  replace hw0 := hw0.mono so
  replace hw4 := hw4.mono so
  replace hw5 := hw5.mono so
  replace M := M.mono so
  replace o6 := o6.mono so
  (simp only [go_sem, vc_block_seq, vc_block_region, vc_block_cond, vc_block_block, Nat.reduceBEq, Nat.reduceAdd, Nat.reduceLeDiff, Nat.reduceEqDiff, Int.reduceAdd, Int.reduceBEq, Int.reduceBNe, reduceCtorEq, beq_self_eq_true, Bool.true_beq, Bool.false_beq]; repeat ((with_reducible refine leK_refl ?_); simp only [go_sem, vc_block_seq, vc_block_region, vc_block_cond, vc_block_block, Nat.reduceBEq, Nat.reduceAdd, Nat.reduceLeDiff, Nat.reduceEqDiff, Int.reduceAdd, Int.reduceBEq, Int.reduceBNe, reduceCtorEq, beq_self_eq_true, Bool.true_beq, Bool.false_beq]))
  refine AtCall.of_spec (fill_con _ _ 0 2 pm po 2 2 1 1 _ M (by decide) (by decide) O (by omega) (by omega) (by intro x hx; simp at hx; subst hx; simp)) ?_
  rintro r W16 H16 ⟨p7, n7, c7, l7, rfl, o7, e7⟩
  replace hS := hS.trans H16
  replace hw0 := hw0.mono H16
  replace hw4 := hw4.mono H16
  replace hw5 := hw5.mono H16
  replace M := M.mono H16
  replace o6 := o6.mono H16
  rw [show (sFill 0 2 (ds [⟨oneS 1 5, none, 0, 0⟩, ⟨oneS 2 1, none, 0, 0⟩]) (ds [⟨oneS 7 0, none, 0, 0⟩])) = [oneS 1 5, oneS 2 1] from rfl] at e7
  replace o7 := o7.dl
  have s7 := wl_of o7 (m := [⟨oneS 1 5, none, 0, 0⟩, ⟨oneS 2 1, none, 0, 0⟩]) e7 (by simp) (by intro x hx; simp at hx; rcases hx with rfl | rfl <;> simp [oneS])
  (simp only [go_sem, vc_block_seq, vc_block_region, vc_block_cond, vc_block_block, Nat.reduceBEq, Nat.reduceAdd, Nat.reduceLeDiff, Nat.reduceEqDiff, Int.reduceAdd, Int.reduceBEq, Int.reduceBNe, reduceCtorEq, beq_self_eq_true, Bool.true_beq, Bool.false_beq]; repeat ((with_reducible refine leK_refl ?_); simp only [go_sem, vc_block_seq, vc_block_region, vc_block_cond, vc_block_block, Nat.reduceBEq, Nat.reduceAdd, Nat.reduceLeDiff, Nat.reduceEqDiff, Int.reduceAdd, Int.reduceBEq, Int.reduceBNe, reduceCtorEq, beq_self_eq_true, Bool.true_beq, Bool.false_beq]))
  refine AtCall.of_spec (descs_con l7 _ p7 pm n7 c7 2 2 _ o7 M (by omega) (fun x hx => by have := s7.2 x hx; omega)) ?_
  rintro r W17 H17 rfl
  replace hS := hS.trans H17
  replace hw0 := hw0.mono H17
  replace hw4 := hw4.mono H17
  replace hw5 := hw5.mono H17
  replace M := M.mono H17
  replace o6 := o6.mono H17
  rw [e7, show (decide ([oneS 1 5, oneS 2 1] = ds [⟨oneS 1 5, none, 0, 0⟩, ⟨oneS 2 1, none, 0, 0⟩])) = true from rfl]
  (simp only [go_sem, vc_block_seq, vc_block_region, vc_block_cond, vc_block_block, Nat.reduceBEq, Nat.reduceAdd, Nat.reduceLeDiff, Nat.reduceEqDiff, Int.reduceAdd, Int.reduceBEq, Int.reduceBNe, reduceCtorEq, beq_self_eq_true, Bool.true_beq, Bool.false_beq]; repeat ((with_reducible refine leK_refl ?_); simp only [go_sem, vc_block_seq, vc_block_region, vc_block_cond, vc_block_block, Nat.reduceBEq, Nat.reduceAdd, Nat.reduceLeDiff, Nat.reduceEqDiff, Int.reduceAdd, Int.reduceBEq, Int.reduceBNe, reduceCtorEq, beq_self_eq_true, Bool.true_beq, Bool.false_beq]))
  exact ⟨hS, rfl⟩
end Go.Proofs.Ytcfkcmalkbdphaa
