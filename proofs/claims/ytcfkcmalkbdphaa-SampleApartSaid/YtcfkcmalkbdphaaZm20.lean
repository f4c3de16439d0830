/-
  Part 20 of the proof of Zm: the engine and the walks, in their order.
-/
import Derived.Test.YtcfkcmalkbdphaaZm19
set_option linter.unusedSimpArgs false
set_option linter.unusedVariables false
/-
  Walks: the chapter's examples of layer 9.
-/
set_option linter.unusedSimpArgs false
set_option linter.unusedVariables false
namespace Go.Eng
theorem Own.len1 {u0 u : World} {e sz : Nat} {p : Option Addr} {n c : Nat} {xs : List (List Value)} (h : Own u0 u e sz p n c xs) : xs.length = n := h.len
def oneDd (a b : UInt8) : GDesc := ⟨a, 1, b, [⟨0, 1⟩]⟩
end Go.Eng
namespace Go.Proofs.Ytcfkcmalkbdphaa
open Go.Eng
attribute [local go_sem] GSpan.val GSpan.enc PD.val PD.enc

theorem one_con (a b : UInt8) (u : World) : Con Try.prog 47 [.int .u8 a.toNat, .int .u8 b.toNat] u (fun r u' => ∃ p n c, r = PD.val ⟨oneDd a b, p, n, c⟩ ∧ Fo u u' 39 ⟨oneDd a b, p, n, c⟩) := by
  refine spec_of_vc Ty.mixed Try.func47 rfl (by kernel_rfl) (by kernel_rfl) rfl [.cell 4 32] rfl ?_
  (simp only [go_sem, vc_block_seq, vc_block_region, vc_block_cond, vc_block_block, Nat.reduceBEq, Nat.reduceAdd, Nat.reduceLeDiff, Nat.reduceEqDiff, Int.reduceAdd, Int.reduceBEq, Int.reduceBNe, reduceCtorEq, beq_self_eq_true, Bool.true_beq, Bool.false_beq]; repeat ((with_reducible refine leK_refl ?_); simp only [go_sem, vc_block_seq, vc_block_region, vc_block_cond, vc_block_block, Nat.reduceBEq, Nat.reduceAdd, Nat.reduceLeDiff, Nat.reduceEqDiff, Int.reduceAdd, Int.reduceBEq, Int.reduceBNe, reduceCtorEq, beq_self_eq_true, Bool.true_beq, Bool.false_beq]))
  intro b1
  refine eff_lit (n := 1) (vs := [GSpan.val ⟨0, 1⟩]) Ty.el30 rfl rfl (by intro v hv; simp at hv; subst hv; rfl) (by omega) ?_
  intro p1 v1 h1 s1 f1
  (simp only [go_sem, vc_block_seq, vc_block_region, vc_block_cond, vc_block_block, Nat.reduceBEq, Nat.reduceAdd, Nat.reduceLeDiff, Nat.reduceEqDiff, Int.reduceAdd, Int.reduceBEq, Int.reduceBNe, reduceCtorEq, beq_self_eq_true, Bool.true_beq, Bool.false_beq]; repeat ((with_reducible refine leK_refl ?_); simp only [go_sem, vc_block_seq, vc_block_region, vc_block_cond, vc_block_block, Nat.reduceBEq, Nat.reduceAdd, Nat.reduceLeDiff, Nat.reduceEqDiff, Int.reduceAdd, Int.reduceBEq, Int.reduceBNe, reduceCtorEq, beq_self_eq_true, Bool.true_beq, Bool.false_beq]))
  exact ⟨s1, p1, 1, 1, rfl, h1⟩

set_option maxRecDepth 4000 in
set_option maxHeartbeats 2000000 in
theorem awake_con (u : World) : Con Try.prog 14 [] u (fun r _ => r = .bool true) := by
  refine spec_of_vc Ty.mixed Try.func14 rfl (by kernel_rfl) (by kernel_rfl) rfl [.tmp 0] rfl ?_
  (simp only [go_sem, vc_block_seq, vc_block_region, vc_block_cond, vc_block_block, Nat.reduceBEq, Nat.reduceAdd, Nat.reduceLeDiff, Nat.reduceEqDiff, Int.reduceAdd, Int.reduceBEq, Int.reduceBNe, reduceCtorEq, beq_self_eq_true, Bool.true_beq, Bool.false_beq]; repeat ((with_reducible refine leK_refl ?_); simp only [go_sem, vc_block_seq, vc_block_region, vc_block_cond, vc_block_block, Nat.reduceBEq, Nat.reduceAdd, Nat.reduceLeDiff, Nat.reduceEqDiff, Int.reduceAdd, Int.reduceBEq, Int.reduceBNe, reduceCtorEq, beq_self_eq_true, Bool.true_beq, Bool.false_beq]))
  have hS : Sub u u := Sub.refl _
  refine AtCall.of_spec (one_con 1 4 u) ?_
  rintro r W1 H1 ⟨p1, n1, c1, rfl, f1⟩
  replace hS := hS.trans H1
  (simp only [go_sem, vc_block_seq, vc_block_region, vc_block_cond, vc_block_block, Nat.reduceBEq, Nat.reduceAdd, Nat.reduceLeDiff, Nat.reduceEqDiff, Int.reduceAdd, Int.reduceBEq, Int.reduceBNe, reduceCtorEq, beq_self_eq_true, Bool.true_beq, Bool.false_beq]; repeat ((with_reducible refine leK_refl ?_); simp only [go_sem, vc_block_seq, vc_block_region, vc_block_cond, vc_block_block, Nat.reduceBEq, Nat.reduceAdd, Nat.reduceLeDiff, Nat.reduceEqDiff, Int.reduceAdd, Int.reduceBEq, Int.reduceBNe, reduceCtorEq, beq_self_eq_true, Bool.true_beq, Bool.false_beq]))
  refine AtCall.of_spec (one_con 3 4 _) ?_
  rintro r W2 H2 ⟨p2, n2, c2, rfl, f2⟩
  replace hS := hS.trans H2
  replace f1 := f1.mono H2
  (simp only [go_sem, vc_block_seq, vc_block_region, vc_block_cond, vc_block_block, Nat.reduceBEq, Nat.reduceAdd, Nat.reduceLeDiff, Nat.reduceEqDiff, Int.reduceAdd, Int.reduceBEq, Int.reduceBNe, reduceCtorEq, beq_self_eq_true, Bool.true_beq, Bool.false_beq]; repeat ((with_reducible refine leK_refl ?_); simp only [go_sem, vc_block_seq, vc_block_region, vc_block_cond, vc_block_block, Nat.reduceBEq, Nat.reduceAdd, Nat.reduceLeDiff, Nat.reduceEqDiff, Int.reduceAdd, Int.reduceBEq, Int.reduceBNe, reduceCtorEq, beq_self_eq_true, Bool.true_beq, Bool.false_beq]))
  have hn1 : n1 ≤ 8 := by have := f1.fl.len; simp [oneDd] at this; omega
  have hn2 : n2 ≤ 8 := by have := f2.fl.len; simp [oneDd] at this; omega
  refine eff_lit (n := 2) (vs := [PD.val ⟨oneDd 1 4, p1, n1, c1⟩, PD.val ⟨oneDd 3 4, p2, n2, c2⟩]) Ty.el22 rfl rfl (by intro v hv; simp at hv; rcases hv with rfl | rfl <;> rfl) (by omega) ?_
  intro pl ul hl sl fl
  replace hS := hS.trans sl
  replace f1 := f1.mono sl
  replace f2 := f2.mono sl
  have L : DL ul pl 2 2 [⟨oneDd 1 4, p1, n1, c1⟩, ⟨oneDd 3 4, p2, n2, c2⟩] := ⟨hl.sl, by intro x hx; simp at hx; rcases hx with rfl | rfl; exact f1.fl; exact f2.fl⟩
  have hL8 : ∀ x ∈ [(⟨oneDd 1 4, p1, n1, c1⟩ : PD), ⟨oneDd 3 4, p2, n2, c2⟩], x.n ≤ 100000 := by intro x hx; simp at hx; rcases hx with rfl | rfl <;> simp only <;> omega
  have eL : ds [(⟨oneDd 1 4, p1, n1, c1⟩ : PD), ⟨oneDd 3 4, p2, n2, c2⟩] = [oneDd 1 4, oneDd 3 4] := rfl
  have hl' : Own u ul 32 4 pl 2 2 ([(⟨oneDd 1 4, p1, n1, c1⟩ : PD), ⟨oneDd 3 4, p2, n2, c2⟩].map PD.enc) := hl
  generalize [(⟨oneDd 1 4, p1, n1, c1⟩ : PD), ⟨oneDd 3 4, p2, n2, c2⟩] = LL at L hL8 eL hl'
  have hU : Up dKey (ds LL) := by rw [eL]; decide
  have hl := hl'
  clear f1 f2 hl'
  (simp only [go_sem, vc_block_seq, vc_block_region, vc_block_cond, vc_block_block, Nat.reduceBEq, Nat.reduceAdd, Nat.reduceLeDiff, Nat.reduceEqDiff, Int.reduceAdd, Int.reduceBEq, Int.reduceBNe, reduceCtorEq, beq_self_eq_true, Bool.true_beq, Bool.false_beq]; repeat ((with_reducible refine leK_refl ?_); simp only [go_sem, vc_block_seq, vc_block_region, vc_block_cond, vc_block_block, Nat.reduceBEq, Nat.reduceAdd, Nat.reduceLeDiff, Nat.reduceEqDiff, Int.reduceAdd, Int.reduceBEq, Int.reduceBNe, reduceCtorEq, beq_self_eq_true, Bool.true_beq, Bool.false_beq]))
  refine AtCall.of_spec (one_con 2 0 _) ?_
  rintro r W3 H3 ⟨p3, n3, c3, rfl, f3⟩
  replace hS := hS.trans H3
  replace L := L.mono H3
  replace hl := hl.mono H3
  (simp only [go_sem, vc_block_seq, vc_block_region, vc_block_cond, vc_block_block, Nat.reduceBEq, Nat.reduceAdd, Nat.reduceLeDiff, Nat.reduceEqDiff, Int.reduceAdd, Int.reduceBEq, Int.reduceBNe, reduceCtorEq, beq_self_eq_true, Bool.true_beq, Bool.false_beq]; repeat ((with_reducible refine leK_refl ?_); simp only [go_sem, vc_block_seq, vc_block_region, vc_block_cond, vc_block_block, Nat.reduceBEq, Nat.reduceAdd, Nat.reduceLeDiff, Nat.reduceEqDiff, Int.reduceAdd, Int.reduceBEq, Int.reduceBNe, reduceCtorEq, beq_self_eq_true, Bool.true_beq, Bool.false_beq]))
  have hn3 : n3 ≤ 8 := by have := f3.fl.len; simp [oneDd] at this; omega
  refine AtCall.of_spec (put_con LL hU ⟨oneDd 2 0, p3, n3, c3⟩ 0 2 pl 2 2 _ L f3.fl (by omega) hL8 (by simp only; omega)) ?_
  rintro r W4 H4 ⟨v3, rfl, _⟩
  replace hS := hS.trans H4
  replace L := L.mono H4
  replace hl := hl.mono H4
  rw [eL, show (dPut [oneDd 1 4, oneDd 3 4] (oneDd 2 0) 0 2).2 = false from rfl]
  (simp only [go_sem, vc_block_seq, vc_block_region, vc_block_cond, vc_block_block, Nat.reduceBEq, Nat.reduceAdd, Nat.reduceLeDiff, Nat.reduceEqDiff, Int.reduceAdd, Int.reduceBEq, Int.reduceBNe, reduceCtorEq, beq_self_eq_true, Bool.true_beq, Bool.false_beq]; repeat ((with_reducible refine leK_refl ?_); simp only [go_sem, vc_block_seq, vc_block_region, vc_block_cond, vc_block_block, Nat.reduceBEq, Nat.reduceAdd, Nat.reduceLeDiff, Nat.reduceEqDiff, Int.reduceAdd, Int.reduceBEq, Int.reduceBNe, reduceCtorEq, beq_self_eq_true, Bool.true_beq, Bool.false_beq]))
  refine AtCall.of_spec (one_con 3 2 _) ?_
  rintro r W5 H5 ⟨p4, n4, c4, rfl, f4⟩
  replace hS := hS.trans H5
  replace L := L.mono H5
  replace hl := hl.mono H5
  (simp only [go_sem, vc_block_seq, vc_block_region, vc_block_cond, vc_block_block, Nat.reduceBEq, Nat.reduceAdd, Nat.reduceLeDiff, Nat.reduceEqDiff, Int.reduceAdd, Int.reduceBEq, Int.reduceBNe, reduceCtorEq, beq_self_eq_true, Bool.true_beq, Bool.false_beq]; repeat ((with_reducible refine leK_refl ?_); simp only [go_sem, vc_block_seq, vc_block_region, vc_block_cond, vc_block_block, Nat.reduceBEq, Nat.reduceAdd, Nat.reduceLeDiff, Nat.reduceEqDiff, Int.reduceAdd, Int.reduceBEq, Int.reduceBNe, reduceCtorEq, beq_self_eq_true, Bool.true_beq, Bool.false_beq]))
  have hn4 : n4 ≤ 8 := by have := f4.fl.len; simp [oneDd] at this; omega
  refine AtCall.of_spec (put_con LL hU ⟨oneDd 3 2, p4, n4, c4⟩ 0 2 pl 2 2 _ L f4.fl (by omega) hL8 (by simp only; omega)) ?_
  rintro r W6 H6 ⟨v4, rfl, pa, na, ca, la, rfl, oa, ea⟩
  replace hS := hS.trans H6
  replace L := L.mono H6
  replace hl := hl.mono H6
  rw [eL, show (dPut [oneDd 1 4, oneDd 3 4] (oneDd 3 2) 0 2) = ([oneDd 1 4, oneDd 3 2], true) from rfl] at ea
  rw [eL, show (dPut [oneDd 1 4, oneDd 3 4] (oneDd 3 2) 0 2) = ([oneDd 1 4, oneDd 3 2], true) from rfl]
  have hna : na = 2 := by have h1 := oa.len; have h2 := congrArg List.length ea; simp at h2; omega
  subst hna
  (simp only [go_sem, vc_block_seq, vc_block_region, vc_block_cond, vc_block_block, Nat.reduceBEq, Nat.reduceAdd, Nat.reduceLeDiff, Nat.reduceEqDiff, Int.reduceAdd, Int.reduceBEq, Int.reduceBNe, reduceCtorEq, beq_self_eq_true, Bool.true_beq, Bool.false_beq]; repeat ((with_reducible refine leK_refl ?_); simp only [go_sem, vc_block_seq, vc_block_region, vc_block_cond, vc_block_block, Nat.reduceBEq, Nat.reduceAdd, Nat.reduceLeDiff, Nat.reduceEqDiff, Int.reduceAdd, Int.reduceBEq, Int.reduceBNe, reduceCtorEq, beq_self_eq_true, Bool.true_beq, Bool.false_beq]))
  refine AtCall.of_spec (one_con 3 4 _) ?_
  rintro r W7 H7 ⟨p5, n5, c5, rfl, f5⟩
  replace hS := hS.trans H7
  replace L := L.mono H7
  replace hl := hl.mono H7
  replace oa := oa.mono H7
  (simp only [go_sem, vc_block_seq, vc_block_region, vc_block_cond, vc_block_block, Nat.reduceBEq, Nat.reduceAdd, Nat.reduceLeDiff, Nat.reduceEqDiff, Int.reduceAdd, Int.reduceBEq, Int.reduceBNe, reduceCtorEq, beq_self_eq_true, Bool.true_beq, Bool.false_beq]; repeat ((with_reducible refine leK_refl ?_); simp only [go_sem, vc_block_seq, vc_block_region, vc_block_cond, vc_block_block, Nat.reduceBEq, Nat.reduceAdd, Nat.reduceLeDiff, Nat.reduceEqDiff, Int.reduceAdd, Int.reduceBEq, Int.reduceBNe, reduceCtorEq, beq_self_eq_true, Bool.true_beq, Bool.false_beq]))
  have hn5 : n5 ≤ 8 := by have := f5.fl.len; simp [oneDd] at this; omega
  refine AtCall.of_spec (put_con LL hU ⟨oneDd 3 4, p5, n5, c5⟩ 0 2 pl 2 2 _ L f5.fl (by omega) hL8 (by simp only; omega)) ?_
  rintro r W8 H8 ⟨v5, rfl, _⟩
  replace hS := hS.trans H8
  replace L := L.mono H8
  replace hl := hl.mono H8
  replace oa := oa.mono H8
  rw [eL, show (dPut [oneDd 1 4, oneDd 3 4] (oneDd 3 4) 0 2).2 = false from rfl]
  (simp only [go_sem, vc_block_seq, vc_block_region, vc_block_cond, vc_block_block, Nat.reduceBEq, Nat.reduceAdd, Nat.reduceLeDiff, Nat.reduceEqDiff, Int.reduceAdd, Int.reduceBEq, Int.reduceBNe, reduceCtorEq, beq_self_eq_true, Bool.true_beq, Bool.false_beq]; repeat ((with_reducible refine leK_refl ?_); simp only [go_sem, vc_block_seq, vc_block_region, vc_block_cond, vc_block_block, Nat.reduceBEq, Nat.reduceAdd, Nat.reduceLeDiff, Nat.reduceEqDiff, Int.reduceAdd, Int.reduceBEq, Int.reduceBNe, reduceCtorEq, beq_self_eq_true, Bool.true_beq, Bool.false_beq]))
  refine AtCall.of_spec (one_con 0 0 _) ?_
  rintro r W9 H9 ⟨p6, n6, c6, rfl, f6⟩
  replace hS := hS.trans H9
  replace L := L.mono H9
  replace hl := hl.mono H9
  replace oa := oa.mono H9
  (simp only [go_sem, vc_block_seq, vc_block_region, vc_block_cond, vc_block_block, Nat.reduceBEq, Nat.reduceAdd, Nat.reduceLeDiff, Nat.reduceEqDiff, Int.reduceAdd, Int.reduceBEq, Int.reduceBNe, reduceCtorEq, beq_self_eq_true, Bool.true_beq, Bool.false_beq]; repeat ((with_reducible refine leK_refl ?_); simp only [go_sem, vc_block_seq, vc_block_region, vc_block_cond, vc_block_block, Nat.reduceBEq, Nat.reduceAdd, Nat.reduceLeDiff, Nat.reduceEqDiff, Int.reduceAdd, Int.reduceBEq, Int.reduceBNe, reduceCtorEq, beq_self_eq_true, Bool.true_beq, Bool.false_beq]))
  have hn6 : n6 ≤ 8 := by have := f6.fl.len; simp [oneDd] at this; omega
  refine AtCall.of_spec (put_con LL hU ⟨oneDd 0 0, p6, n6, c6⟩ 0 9 pl 2 2 _ L f6.fl (by omega) hL8 (by simp only; omega)) ?_
  rintro r W10 H10 ⟨v6, rfl, _⟩
  replace hS := hS.trans H10
  replace L := L.mono H10
  replace hl := hl.mono H10
  replace oa := oa.mono H10
  rw [eL, show (dPut [oneDd 1 4, oneDd 3 4] (oneDd 0 0) 0 9).2 = false from rfl]
  (simp only [go_sem, vc_block_seq, vc_block_region, vc_block_cond, vc_block_block, Nat.reduceBEq, Nat.reduceAdd, Nat.reduceLeDiff, Nat.reduceEqDiff, Int.reduceAdd, Int.reduceBEq, Int.reduceBNe, reduceCtorEq, beq_self_eq_true, Bool.true_beq, Bool.false_beq]; repeat ((with_reducible refine leK_refl ?_); simp only [go_sem, vc_block_seq, vc_block_region, vc_block_cond, vc_block_block, Nat.reduceBEq, Nat.reduceAdd, Nat.reduceLeDiff, Nat.reduceEqDiff, Int.reduceAdd, Int.reduceBEq, Int.reduceBNe, reduceCtorEq, beq_self_eq_true, Bool.true_beq, Bool.false_beq]))
  rw [show (((2 : Nat) : Int) != 2) = false from rfl]
  (simp only [go_sem, vc_block_seq, vc_block_region, vc_block_cond, vc_block_block, Nat.reduceBEq, Nat.reduceAdd, Nat.reduceLeDiff, Nat.reduceEqDiff, Int.reduceAdd, Int.reduceBEq, Int.reduceBNe, reduceCtorEq, beq_self_eq_true, Bool.true_beq, Bool.false_beq]; repeat ((with_reducible refine leK_refl ?_); simp only [go_sem, vc_block_seq, vc_block_region, vc_block_cond, vc_block_block, Nat.reduceBEq, Nat.reduceAdd, Nat.reduceLeDiff, Nat.reduceEqDiff, Int.reduceAdd, Int.reduceBEq, Int.reduceBNe, reduceCtorEq, beq_self_eq_true, Bool.true_beq, Bool.false_beq]))
  obtain ⟨xa, hxa⟩ := exAt (show 1 < 2 by omega) oa.len
  have hxa' : xa.d = oneDd 3 2 := by have h := getDs hxa; rw [ea] at h; exact (Option.some.inj h).symm
  obtain ⟨xl, hxl⟩ := exAt (show 1 < 2 by omega) L.len
  have hxl' : xl.d = oneDd 3 4 := by have h := getDs hxl; rw [eL] at h; exact (Option.some.inj h).symm
  refine ⟨⟨oa.own.sl.some_ (show 0 < 2 by omega), by omega, by omega⟩, ?_⟩
  refine oa.own.sl.load (i := 1) (getMap hxa) (.inl rfl) (Nat.le_of_ble_eq_true rfl) ?_
  (simp only [go_sem, vc_block_seq, vc_block_region, vc_block_cond, vc_block_block, Nat.reduceBEq, Nat.reduceAdd, Nat.reduceLeDiff, Nat.reduceEqDiff, Int.reduceAdd, Int.reduceBEq, Int.reduceBNe, reduceCtorEq, beq_self_eq_true, Bool.true_beq, Bool.false_beq]; repeat ((with_reducible refine leK_refl ?_); simp only [go_sem, vc_block_seq, vc_block_region, vc_block_cond, vc_block_block, Nat.reduceBEq, Nat.reduceAdd, Nat.reduceLeDiff, Nat.reduceEqDiff, Int.reduceAdd, Int.reduceBEq, Int.reduceBNe, reduceCtorEq, beq_self_eq_true, Bool.true_beq, Bool.false_beq]))
  rw [hxa', show (((oneDd 3 2).age.toNat : Int) != 2) = false from rfl]
  (simp only [go_sem, vc_block_seq, vc_block_region, vc_block_cond, vc_block_block, Nat.reduceBEq, Nat.reduceAdd, Nat.reduceLeDiff, Nat.reduceEqDiff, Int.reduceAdd, Int.reduceBEq, Int.reduceBNe, reduceCtorEq, beq_self_eq_true, Bool.true_beq, Bool.false_beq]; repeat ((with_reducible refine leK_refl ?_); simp only [go_sem, vc_block_seq, vc_block_region, vc_block_cond, vc_block_block, Nat.reduceBEq, Nat.reduceAdd, Nat.reduceLeDiff, Nat.reduceEqDiff, Int.reduceAdd, Int.reduceBEq, Int.reduceBNe, reduceCtorEq, beq_self_eq_true, Bool.true_beq, Bool.false_beq]))
  refine ⟨⟨L.sl.some_ (show 0 < 2 by omega), by omega, by omega⟩, ?_⟩
  refine L.sl.load (i := 1) (getMap hxl) (.inl rfl) (Nat.le_of_ble_eq_true rfl) ?_
  (simp only [go_sem, vc_block_seq, vc_block_region, vc_block_cond, vc_block_block, Nat.reduceBEq, Nat.reduceAdd, Nat.reduceLeDiff, Nat.reduceEqDiff, Int.reduceAdd, Int.reduceBEq, Int.reduceBNe, reduceCtorEq, beq_self_eq_true, Bool.true_beq, Bool.false_beq]; repeat ((with_reducible refine leK_refl ?_); simp only [go_sem, vc_block_seq, vc_block_region, vc_block_cond, vc_block_block, Nat.reduceBEq, Nat.reduceAdd, Nat.reduceLeDiff, Nat.reduceEqDiff, Int.reduceAdd, Int.reduceBEq, Int.reduceBNe, reduceCtorEq, beq_self_eq_true, Bool.true_beq, Bool.false_beq]))
  rw [hxl', show (((oneDd 3 4).age.toNat : Int) != 4) = false from rfl]
  (simp only [go_sem, vc_block_seq, vc_block_region, vc_block_cond, vc_block_block, Nat.reduceBEq, Nat.reduceAdd, Nat.reduceLeDiff, Nat.reduceEqDiff, Int.reduceAdd, Int.reduceBEq, Int.reduceBNe, reduceCtorEq, beq_self_eq_true, Bool.true_beq, Bool.false_beq]; repeat ((with_reducible refine leK_refl ?_); simp only [go_sem, vc_block_seq, vc_block_region, vc_block_cond, vc_block_block, Nat.reduceBEq, Nat.reduceAdd, Nat.reduceLeDiff, Nat.reduceEqDiff, Int.reduceAdd, Int.reduceBEq, Int.reduceBNe, reduceCtorEq, beq_self_eq_true, Bool.true_beq, Bool.false_beq]))
  refine AtCall.of_spec (one_con 5 255 _) ?_
  rintro r W11 H11 ⟨p7, n7, c7, rfl, f7⟩
  replace hS := hS.trans H11
  replace L := L.mono H11
  replace hl := hl.mono H11
  replace oa := oa.mono H11
  (simp only [go_sem, vc_block_seq, vc_block_region, vc_block_cond, vc_block_block, Nat.reduceBEq, Nat.reduceAdd, Nat.reduceLeDiff, Nat.reduceEqDiff, Int.reduceAdd, Int.reduceBEq, Int.reduceBNe, reduceCtorEq, beq_self_eq_true, Bool.true_beq, Bool.false_beq]; repeat ((with_reducible refine leK_refl ?_); simp only [go_sem, vc_block_seq, vc_block_region, vc_block_cond, vc_block_block, Nat.reduceBEq, Nat.reduceAdd, Nat.reduceLeDiff, Nat.reduceEqDiff, Int.reduceAdd, Int.reduceBEq, Int.reduceBNe, reduceCtorEq, beq_self_eq_true, Bool.true_beq, Bool.false_beq]))
  have hn7 : n7 ≤ 8 := by have := f7.fl.len; simp [oneDd] at this; omega
  refine eff_lit (n := 1) (vs := [PD.val ⟨oneDd 5 255, p7, n7, c7⟩]) Ty.el22 rfl rfl (by intro v hv; simp at hv; subst hv; rfl) (by omega) ?_
  intro p8 u8 h8 s8 f8
  replace f7 := f7.mono s8
  replace hS := hS.trans s8
  replace L := L.mono s8
  replace hl := hl.mono s8
  replace oa := oa.mono s8
  (simp only [go_sem, vc_block_seq, vc_block_region, vc_block_cond, vc_block_block, Nat.reduceBEq, Nat.reduceAdd, Nat.reduceLeDiff, Nat.reduceEqDiff, Int.reduceAdd, Int.reduceBEq, Int.reduceBNe, reduceCtorEq, beq_self_eq_true, Bool.true_beq, Bool.false_beq]; repeat ((with_reducible refine leK_refl ?_); simp only [go_sem, vc_block_seq, vc_block_region, vc_block_cond, vc_block_block, Nat.reduceBEq, Nat.reduceAdd, Nat.reduceLeDiff, Nat.reduceEqDiff, Int.reduceAdd, Int.reduceBEq, Int.reduceBNe, reduceCtorEq, beq_self_eq_true, Bool.true_beq, Bool.false_beq]))
  refine eff_append_grows Ty.el22 hl h8.sl (by intro y hy; simp at hy; subst hy; rfl) (by omega) (by omega) (.inl rfl) (by omega) ?_
  intro p9 c9 u9 h9 s9 _
  replace f7 := f7.mono s9
  replace hS := hS.trans s9
  replace L := L.mono s9
  replace hl := hl.mono s9
  replace oa := oa.mono s9
  have hL3 : DL u9 p9 (2 + 1) c9 (LL ++ [⟨oneDd 5 255, p7, n7, c7⟩]) := by
    refine ⟨by rw [List.map_append]; exact h9.sl, fun x hx => ?_⟩
    rcases List.mem_append.1 hx with hx | hx
    · exact L.fl x hx
    · simp at hx; subst hx; exact f7.fl
  have e3 : ds (LL ++ [⟨oneDd 5 255, p7, n7, c7⟩]) = [oneDd 1 4, oneDd 3 4, oneDd 5 255] := by rw [ds, List.map_append, show LL.map PD.d = _ from eL]; rfl
  (simp only [go_sem, vc_block_seq, vc_block_region, vc_block_cond, vc_block_block, Nat.reduceBEq, Nat.reduceAdd, Nat.reduceLeDiff, Nat.reduceEqDiff, Int.reduceAdd, Int.reduceBEq, Int.reduceBNe, reduceCtorEq, beq_self_eq_true, Bool.true_beq, Bool.false_beq]; repeat ((with_reducible refine leK_refl ?_); simp only [go_sem, vc_block_seq, vc_block_region, vc_block_cond, vc_block_block, Nat.reduceBEq, Nat.reduceAdd, Nat.reduceLeDiff, Nat.reduceEqDiff, Int.reduceAdd, Int.reduceBEq, Int.reduceBNe, reduceCtorEq, beq_self_eq_true, Bool.true_beq, Bool.false_beq]))
  refine AtCall.of_spec (older_con _ p9 (2 + 1) c9 _ hL3 (by omega) (by intro x hx; rcases List.mem_append.1 hx with hx | hx; exact hL8 x hx; simp at hx; subst hx; simp only; omega)) ?_
  rintro r W12 H12 ⟨po, no, co, lo, rfl, oo, eo⟩
  replace hS := hS.trans H12
  replace L := L.mono H12
  replace hl := hl.mono H12
  replace oa := oa.mono H12
  rw [e3, show dOlder [oneDd 1 4, oneDd 3 4, oneDd 5 255] = [oneDd 1 5, oneDd 3 5, oneDd 5 255] from rfl] at eo
  have hno : no = 3 := by have h1 := oo.len; have h2 := congrArg List.length eo; simp at h2; omega
  subst hno
  obtain ⟨x0, hx0⟩ := exAt (show 0 < 3 by omega) oo.len
  have hx0' : x0.d = oneDd 1 5 := by have h := getDs hx0; rw [eo] at h; exact (Option.some.inj h).symm
  obtain ⟨x1, hx1⟩ := exAt (show 1 < 3 by omega) oo.len
  have hx1' : x1.d = oneDd 3 5 := by have h := getDs hx1; rw [eo] at h; exact (Option.some.inj h).symm
  obtain ⟨x2, hx2⟩ := exAt (show 2 < 3 by omega) oo.len
  have hx2' : x2.d = oneDd 5 255 := by have h := getDs hx2; rw [eo] at h; exact (Option.some.inj h).symm
  (simp only [go_sem, vc_block_seq, vc_block_region, vc_block_cond, vc_block_block, Nat.reduceBEq, Nat.reduceAdd, Nat.reduceLeDiff, Nat.reduceEqDiff, Int.reduceAdd, Int.reduceBEq, Int.reduceBNe, reduceCtorEq, beq_self_eq_true, Bool.true_beq, Bool.false_beq]; repeat ((with_reducible refine leK_refl ?_); simp only [go_sem, vc_block_seq, vc_block_region, vc_block_cond, vc_block_block, Nat.reduceBEq, Nat.reduceAdd, Nat.reduceLeDiff, Nat.reduceEqDiff, Int.reduceAdd, Int.reduceBEq, Int.reduceBNe, reduceCtorEq, beq_self_eq_true, Bool.true_beq, Bool.false_beq]))
  refine .inl ⟨[(0, false), (1, false), (2, false), (3, false), (4, false), (5, false), (6, false), (7, false), (8, false), (9, false), (10, false), (11, false), (12, false), (13, false), (14, false), (15, false), (16, false), (17, false), (18, false), (19, false), (20, false), (21, false), (22, false), (23, false), (24, false), (25, false), (26, false), (27, false), (28, false), (29, false), (30, false), (31, false), (32, false), (33, false), (34, false), (35, false), (36, false), (37, false), (38, false), (39, false), (41, false), (42, false), (40, false), (43, false), (44, false), (45, false), (46, false), (47, false), (48, false), (49, false), (50, false), (51, false), (52, false), (53, false), (54, false), (55, false), (56, false), (57, false), (58, false), (59, false)], by kernel_rfl, ?_⟩
  (simp only [go_sem, vc_block_seq, vc_block_region, vc_block_cond, vc_block_block, Nat.reduceBEq, Nat.reduceAdd, Nat.reduceLeDiff, Nat.reduceEqDiff, Int.reduceAdd, Int.reduceBEq, Int.reduceBNe, reduceCtorEq, beq_self_eq_true, Bool.true_beq, Bool.false_beq]; repeat ((with_reducible refine leK_refl ?_); simp only [go_sem, vc_block_seq, vc_block_region, vc_block_cond, vc_block_block, Nat.reduceBEq, Nat.reduceAdd, Nat.reduceLeDiff, Nat.reduceEqDiff, Int.reduceAdd, Int.reduceBEq, Int.reduceBNe, reduceCtorEq, beq_self_eq_true, Bool.true_beq, Bool.false_beq]))
  rw [show (((3 : Nat) : Int) == 3) = true from rfl]
  (simp only [go_sem, vc_block_seq, vc_block_region, vc_block_cond, vc_block_block, Nat.reduceBEq, Nat.reduceAdd, Nat.reduceLeDiff, Nat.reduceEqDiff, Int.reduceAdd, Int.reduceBEq, Int.reduceBNe, reduceCtorEq, beq_self_eq_true, Bool.true_beq, Bool.false_beq]; repeat ((with_reducible refine leK_refl ?_); simp only [go_sem, vc_block_seq, vc_block_region, vc_block_cond, vc_block_block, Nat.reduceBEq, Nat.reduceAdd, Nat.reduceLeDiff, Nat.reduceEqDiff, Int.reduceAdd, Int.reduceBEq, Int.reduceBNe, reduceCtorEq, beq_self_eq_true, Bool.true_beq, Bool.false_beq]))
  refine ⟨⟨oo.own.sl.some_ (show 0 < 3 by omega), by omega, by omega⟩, ?_⟩
  refine oo.own.sl.load (i := 0) (getMap hx0) (.inl rfl) (Nat.le_of_ble_eq_true rfl) ?_
  (simp only [go_sem, vc_block_seq, vc_block_region, vc_block_cond, vc_block_block, Nat.reduceBEq, Nat.reduceAdd, Nat.reduceLeDiff, Nat.reduceEqDiff, Int.reduceAdd, Int.reduceBEq, Int.reduceBNe, reduceCtorEq, beq_self_eq_true, Bool.true_beq, Bool.false_beq]; repeat ((with_reducible refine leK_refl ?_); simp only [go_sem, vc_block_seq, vc_block_region, vc_block_cond, vc_block_block, Nat.reduceBEq, Nat.reduceAdd, Nat.reduceLeDiff, Nat.reduceEqDiff, Int.reduceAdd, Int.reduceBEq, Int.reduceBNe, reduceCtorEq, beq_self_eq_true, Bool.true_beq, Bool.false_beq]))
  rw [hx0', show (((oneDd 1 5).age.toNat : Int) == 5) = true from rfl]
  (simp only [go_sem, vc_block_seq, vc_block_region, vc_block_cond, vc_block_block, Nat.reduceBEq, Nat.reduceAdd, Nat.reduceLeDiff, Nat.reduceEqDiff, Int.reduceAdd, Int.reduceBEq, Int.reduceBNe, reduceCtorEq, beq_self_eq_true, Bool.true_beq, Bool.false_beq]; repeat ((with_reducible refine leK_refl ?_); simp only [go_sem, vc_block_seq, vc_block_region, vc_block_cond, vc_block_block, Nat.reduceBEq, Nat.reduceAdd, Nat.reduceLeDiff, Nat.reduceEqDiff, Int.reduceAdd, Int.reduceBEq, Int.reduceBNe, reduceCtorEq, beq_self_eq_true, Bool.true_beq, Bool.false_beq]))
  refine ⟨⟨oo.own.sl.some_ (show 0 < 3 by omega), by omega, by omega⟩, ?_⟩
  refine oo.own.sl.load (i := 1) (getMap hx1) (.inl rfl) (Nat.le_of_ble_eq_true rfl) ?_
  (simp only [go_sem, vc_block_seq, vc_block_region, vc_block_cond, vc_block_block, Nat.reduceBEq, Nat.reduceAdd, Nat.reduceLeDiff, Nat.reduceEqDiff, Int.reduceAdd, Int.reduceBEq, Int.reduceBNe, reduceCtorEq, beq_self_eq_true, Bool.true_beq, Bool.false_beq]; repeat ((with_reducible refine leK_refl ?_); simp only [go_sem, vc_block_seq, vc_block_region, vc_block_cond, vc_block_block, Nat.reduceBEq, Nat.reduceAdd, Nat.reduceLeDiff, Nat.reduceEqDiff, Int.reduceAdd, Int.reduceBEq, Int.reduceBNe, reduceCtorEq, beq_self_eq_true, Bool.true_beq, Bool.false_beq]))
  rw [hx1', show (((oneDd 3 5).age.toNat : Int) == 5) = true from rfl]
  (simp only [go_sem, vc_block_seq, vc_block_region, vc_block_cond, vc_block_block, Nat.reduceBEq, Nat.reduceAdd, Nat.reduceLeDiff, Nat.reduceEqDiff, Int.reduceAdd, Int.reduceBEq, Int.reduceBNe, reduceCtorEq, beq_self_eq_true, Bool.true_beq, Bool.false_beq]; repeat ((with_reducible refine leK_refl ?_); simp only [go_sem, vc_block_seq, vc_block_region, vc_block_cond, vc_block_block, Nat.reduceBEq, Nat.reduceAdd, Nat.reduceLeDiff, Nat.reduceEqDiff, Int.reduceAdd, Int.reduceBEq, Int.reduceBNe, reduceCtorEq, beq_self_eq_true, Bool.true_beq, Bool.false_beq]))
  refine ⟨⟨oo.own.sl.some_ (show 0 < 3 by omega), by omega, by omega⟩, ?_⟩
  refine oo.own.sl.load (i := 2) (getMap hx2) (.inl rfl) (Nat.le_of_ble_eq_true rfl) ?_
  (simp only [go_sem, vc_block_seq, vc_block_region, vc_block_cond, vc_block_block, Nat.reduceBEq, Nat.reduceAdd, Nat.reduceLeDiff, Nat.reduceEqDiff, Int.reduceAdd, Int.reduceBEq, Int.reduceBNe, reduceCtorEq, beq_self_eq_true, Bool.true_beq, Bool.false_beq]; repeat ((with_reducible refine leK_refl ?_); simp only [go_sem, vc_block_seq, vc_block_region, vc_block_cond, vc_block_block, Nat.reduceBEq, Nat.reduceAdd, Nat.reduceLeDiff, Nat.reduceEqDiff, Int.reduceAdd, Int.reduceBEq, Int.reduceBNe, reduceCtorEq, beq_self_eq_true, Bool.true_beq, Bool.false_beq]))
  rw [hx2', show (((oneDd 5 255).age.toNat : Int) == 255) = true from rfl]
  (simp only [go_sem, vc_block_seq, vc_block_region, vc_block_cond, vc_block_block, Nat.reduceBEq, Nat.reduceAdd, Nat.reduceLeDiff, Nat.reduceEqDiff, Int.reduceAdd, Int.reduceBEq, Int.reduceBNe, reduceCtorEq, beq_self_eq_true, Bool.true_beq, Bool.false_beq]; repeat ((with_reducible refine leK_refl ?_); simp only [go_sem, vc_block_seq, vc_block_region, vc_block_cond, vc_block_block, Nat.reduceBEq, Nat.reduceAdd, Nat.reduceLeDiff, Nat.reduceEqDiff, Int.reduceAdd, Int.reduceBEq, Int.reduceBNe, reduceCtorEq, beq_self_eq_true, Bool.true_beq, Bool.false_beq]))
  refine AtCall.of_spec (oldest_con LL pl 2 2 _ L (by omega)) ?_
  rintro r W13 H13 rfl
  replace hS := hS.trans H13
  replace L := L.mono H13
  replace hl := hl.mono H13
  replace oa := oa.mono H13
  replace oo := oo.mono H13
  rw [eL, show dOldest [oneDd 1 4, oneDd 3 4] = 0 from rfl]
  (simp only [go_sem, vc_block_seq, vc_block_region, vc_block_cond, vc_block_block, Nat.reduceBEq, Nat.reduceAdd, Nat.reduceLeDiff, Nat.reduceEqDiff, Int.reduceAdd, Int.reduceBEq, Int.reduceBNe, reduceCtorEq, beq_self_eq_true, Bool.true_beq, Bool.false_beq]; repeat ((with_reducible refine leK_refl ?_); simp only [go_sem, vc_block_seq, vc_block_region, vc_block_cond, vc_block_block, Nat.reduceBEq, Nat.reduceAdd, Nat.reduceLeDiff, Nat.reduceEqDiff, Int.reduceAdd, Int.reduceBEq, Int.reduceBNe, reduceCtorEq, beq_self_eq_true, Bool.true_beq, Bool.false_beq]))
  refine AtCall.of_spec (oldest_con lo po 3 co _ oo.dl (by omega)) ?_
  rintro r W14 H14 rfl
  replace hS := hS.trans H14
  replace L := L.mono H14
  replace hl := hl.mono H14
  replace oa := oa.mono H14
  replace oo := oo.mono H14
  rw [eo, show dOldest [oneDd 1 5, oneDd 3 5, oneDd 5 255] = 2 from rfl]
  (simp only [go_sem, vc_block_seq, vc_block_region, vc_block_cond, vc_block_block, Nat.reduceBEq, Nat.reduceAdd, Nat.reduceLeDiff, Nat.reduceEqDiff, Int.reduceAdd, Int.reduceBEq, Int.reduceBNe, reduceCtorEq, beq_self_eq_true, Bool.true_beq, Bool.false_beq]; repeat ((with_reducible refine leK_refl ?_); simp only [go_sem, vc_block_seq, vc_block_region, vc_block_cond, vc_block_block, Nat.reduceBEq, Nat.reduceAdd, Nat.reduceLeDiff, Nat.reduceEqDiff, Int.reduceAdd, Int.reduceBEq, Int.reduceBNe, reduceCtorEq, beq_self_eq_true, Bool.true_beq, Bool.false_beq]))
  refine AtCall.of_spec (oldest_con [] none 0 0 _ (DL.nil_ _) (by omega)) ?_
  rintro r W15 H15 rfl
  replace hS := hS.trans H15
  replace L := L.mono H15
  replace hl := hl.mono H15
  replace oa := oa.mono H15
  replace oo := oo.mono H15
  rw [show dOldest (ds []) = -1 from rfl]
  (simp only [go_sem, vc_block_seq, vc_block_region, vc_block_cond, vc_block_block, Nat.reduceBEq, Nat.reduceAdd, Nat.reduceLeDiff, Nat.reduceEqDiff, Int.reduceAdd, Int.reduceBEq, Int.reduceBNe, reduceCtorEq, beq_self_eq_true, Bool.true_beq, Bool.false_beq]; repeat ((with_reducible refine leK_refl ?_); simp only [go_sem, vc_block_seq, vc_block_region, vc_block_cond, vc_block_block, Nat.reduceBEq, Nat.reduceAdd, Nat.reduceLeDiff, Nat.reduceEqDiff, Int.reduceAdd, Int.reduceBEq, Int.reduceBNe, reduceCtorEq, beq_self_eq_true, Bool.true_beq, Bool.false_beq]))
  rw [slice_fromN (i := 1) (k0 := 1) Ty.el22 rfl (by omega)]
  (simp only [go_sem, vc_block_seq, vc_block_region, vc_block_cond, vc_block_block, Nat.reduceBEq, Nat.reduceAdd, Nat.reduceLeDiff, Nat.reduceEqDiff, Int.reduceAdd, Int.reduceBEq, Int.reduceBNe, reduceCtorEq, beq_self_eq_true, Bool.true_beq, Bool.false_beq]; repeat ((with_reducible refine leK_refl ?_); simp only [go_sem, vc_block_seq, vc_block_region, vc_block_cond, vc_block_block, Nat.reduceBEq, Nat.reduceAdd, Nat.reduceLeDiff, Nat.reduceEqDiff, Int.reduceAdd, Int.reduceBEq, Int.reduceBNe, reduceCtorEq, beq_self_eq_true, Bool.true_beq, Bool.false_beq]))
  refine AtCall.of_spec (drop_con LL hU 1 pl 2 2 _ L (by omega) hL8) ?_
  rintro r W16 H16 ⟨pd, nd, cd, ld, rfl, od, ed⟩
  replace hS := hS.trans H16
  replace L := L.mono H16
  replace hl := hl.mono H16
  replace oa := oa.mono H16
  replace oo := oo.mono H16
  rw [eL, show dDrop [oneDd 1 4, oneDd 3 4] 1 = [oneDd 3 4] from rfl] at ed
  (simp only [go_sem, vc_block_seq, vc_block_region, vc_block_cond, vc_block_block, Nat.reduceBEq, Nat.reduceAdd, Nat.reduceLeDiff, Nat.reduceEqDiff, Int.reduceAdd, Int.reduceBEq, Int.reduceBNe, reduceCtorEq, beq_self_eq_true, Bool.true_beq, Bool.false_beq]; repeat ((with_reducible refine leK_refl ?_); simp only [go_sem, vc_block_seq, vc_block_region, vc_block_cond, vc_block_block, Nat.reduceBEq, Nat.reduceAdd, Nat.reduceLeDiff, Nat.reduceEqDiff, Int.reduceAdd, Int.reduceBEq, Int.reduceBNe, reduceCtorEq, beq_self_eq_true, Bool.true_beq, Bool.false_beq]))
  have hD : DL _ (cutP pl 2 1 4) (2 - 1) (2 - 1) (LL.drop 1) := ⟨by rw [List.map_drop]; exact L.sl.drop (l := 1) (by omega), fun x hx => L.fl x (List.mem_of_mem_drop hx)⟩
  have hnd : nd ≤ 8 := by have h1 := od.len; have h2 := congrArg List.length ed; simp at h2; omega
  refine AtCall.of_spec (descs_con ld (LL.drop 1) pd (cutP pl 2 1 4) nd cd _ _ _ od.dl hD (by omega) (fun x hx => by have h1 := (od.fl x hx).fl.len; have h2 : x.d ∈ ds ld := List.mem_map_of_mem hx; rw [ed] at h2; simp at h2; rw [h2] at h1; simp [oneDd] at h1; omega)) ?_
  rintro r W17 H17 rfl
  replace hS := hS.trans H17
  replace L := L.mono H17
  replace hl := hl.mono H17
  replace oa := oa.mono H17
  replace oo := oo.mono H17
  rw [decide_eq_true (by rw [ed, ds, List.map_drop, show LL.map PD.d = _ from eL]; rfl)]
  (simp only [go_sem, vc_block_seq, vc_block_region, vc_block_cond, vc_block_block, Nat.reduceBEq, Nat.reduceAdd, Nat.reduceLeDiff, Nat.reduceEqDiff, Int.reduceAdd, Int.reduceBEq, Int.reduceBNe, reduceCtorEq, beq_self_eq_true, Bool.true_beq, Bool.false_beq]; repeat ((with_reducible refine leK_refl ?_); simp only [go_sem, vc_block_seq, vc_block_region, vc_block_cond, vc_block_block, Nat.reduceBEq, Nat.reduceAdd, Nat.reduceLeDiff, Nat.reduceEqDiff, Int.reduceAdd, Int.reduceBEq, Int.reduceBNe, reduceCtorEq, beq_self_eq_true, Bool.true_beq, Bool.false_beq]))
  refine AtCall.of_spec (right_con LL 0 2 pl 2 2 _ L (by omega)) ?_
  rintro r W18 H18 rfl
  replace hS := hS.trans H18
  replace L := L.mono H18
  replace hl := hl.mono H18
  replace oa := oa.mono H18
  replace oo := oo.mono H18
  rw [eL, show dRight [oneDd 1 4, oneDd 3 4] 0 2 = true from by decide]
  (simp only [go_sem, vc_block_seq, vc_block_region, vc_block_cond, vc_block_block, Nat.reduceBEq, Nat.reduceAdd, Nat.reduceLeDiff, Nat.reduceEqDiff, Int.reduceAdd, Int.reduceBEq, Int.reduceBNe, reduceCtorEq, beq_self_eq_true, Bool.true_beq, Bool.false_beq]; repeat ((with_reducible refine leK_refl ?_); simp only [go_sem, vc_block_seq, vc_block_region, vc_block_cond, vc_block_block, Nat.reduceBEq, Nat.reduceAdd, Nat.reduceLeDiff, Nat.reduceEqDiff, Int.reduceAdd, Int.reduceBEq, Int.reduceBNe, reduceCtorEq, beq_self_eq_true, Bool.true_beq, Bool.false_beq]))
  refine AtCall.of_spec (right_con LL 0 1 pl 2 2 _ L (by omega)) ?_
  rintro r W19 H19 rfl
  replace hS := hS.trans H19
  replace L := L.mono H19
  replace hl := hl.mono H19
  replace oa := oa.mono H19
  replace oo := oo.mono H19
  rw [eL, show dRight [oneDd 1 4, oneDd 3 4] 0 1 = false from by decide]
  (simp only [go_sem, vc_block_seq, vc_block_region, vc_block_cond, vc_block_block, Nat.reduceBEq, Nat.reduceAdd, Nat.reduceLeDiff, Nat.reduceEqDiff, Int.reduceAdd, Int.reduceBEq, Int.reduceBNe, reduceCtorEq, beq_self_eq_true, Bool.true_beq, Bool.false_beq]; repeat ((with_reducible refine leK_refl ?_); simp only [go_sem, vc_block_seq, vc_block_region, vc_block_cond, vc_block_block, Nat.reduceBEq, Nat.reduceAdd, Nat.reduceLeDiff, Nat.reduceEqDiff, Int.reduceAdd, Int.reduceBEq, Int.reduceBNe, reduceCtorEq, beq_self_eq_true, Bool.true_beq, Bool.false_beq]))
  refine AtCall.of_spec (right_con LL 3 2 pl 2 2 _ L (by omega)) ?_
  rintro r W20 H20 rfl
  replace hS := hS.trans H20
  replace L := L.mono H20
  replace hl := hl.mono H20
  replace oa := oa.mono H20
  replace oo := oo.mono H20
  rw [eL, show dRight [oneDd 1 4, oneDd 3 4] 3 2 = false from by decide]
  (simp only [go_sem, vc_block_seq, vc_block_region, vc_block_cond, vc_block_block, Nat.reduceBEq, Nat.reduceAdd, Nat.reduceLeDiff, Nat.reduceEqDiff, Int.reduceAdd, Int.reduceBEq, Int.reduceBNe, reduceCtorEq, beq_self_eq_true, Bool.true_beq, Bool.false_beq]; repeat ((with_reducible refine leK_refl ?_); simp only [go_sem, vc_block_seq, vc_block_region, vc_block_cond, vc_block_block, Nat.reduceBEq, Nat.reduceAdd, Nat.reduceLeDiff, Nat.reduceEqDiff, Int.reduceAdd, Int.reduceBEq, Int.reduceBNe, reduceCtorEq, beq_self_eq_true, Bool.true_beq, Bool.false_beq]))
  exact ⟨hS, rfl⟩
end Go.Proofs.Ytcfkcmalkbdphaa
