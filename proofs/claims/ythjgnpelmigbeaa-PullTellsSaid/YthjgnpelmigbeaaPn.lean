/-
  The walk of PullTells.
-/
import Derived.Test.YthjgnpelmigbeaaPm
import Derived.Test.YthjgnpelmigbeaaPi
set_option linter.unusedSimpArgs false
set_option linter.unusedVariables false
namespace Go.Proofs.Ythjgnpelmigbeaa
open Go.Eng
attribute [local go_sem] GID.val GAsk.val GID.enc GAsk.enc

theorem tells_con (l : List GAsk) (x : GAsk) (most : Int) (p : Option Addr) (n c : Nat) (u : World) (hl : Sl u 5 p n c (l.map GAsk.enc)) :
    Con Try.prog 5 [.slice p n c, x.val, .int .i64 most] u (fun r _ => r = .bool true) := by
  have hlen : l.length = n := by simpa using hl.len
  refine spec_of_vc Ty.mixed Try.func5 rfl (by kernel_rfl) (by kernel_rfl) rfl [.tmp 6] rfl ?_
  simp only [go_sem, Nat.reduceBEq, Nat.reduceAdd, Nat.reduceLeDiff, Nat.reduceEqDiff, Int.reduceAdd, Int.reduceBEq, Int.reduceBNe, reduceCtorEq]
  intro b1
  refine cond_dec (fun h => ?_) (fun h => ?_)
  · simp only [go_sem, Nat.reduceBEq, Nat.reduceAdd, Nat.reduceLeDiff, Nat.reduceEqDiff, Int.reduceAdd, Int.reduceBEq, Int.reduceBNe, reduceCtorEq]
    refine AtCall.of_spec (awake_con u) ?_
    rintro r u1 hs rfl
    simp only [go_sem, Nat.reduceBEq, Nat.reduceAdd, Nat.reduceLeDiff, Nat.reduceEqDiff, Int.reduceAdd, Int.reduceBEq, Int.reduceBNe, reduceCtorEq]
    exact ⟨hs, rfl⟩
  have hn : n ≤ 100 := by omega
  simp only [go_sem, Nat.reduceBEq, Nat.reduceAdd, Nat.reduceLeDiff, Nat.reduceEqDiff, Int.reduceAdd, Int.reduceBEq, Int.reduceBNe, reduceCtorEq]
  refine ⟨[(0, false), (1, false), (3, false), (4, false), (2, false), (5, false), (6, false), (7, false), (8, false), (9, false), (12, false), (13, false), (10, false), (14, false), (11, true), (15, false), (16, false), (17, false)], by kernel_rfl, ?_⟩
  simp only [go_sem, Nat.reduceBEq, Nat.reduceAdd, Nat.reduceLeDiff, Nat.reduceEqDiff, Int.reduceAdd, Int.reduceBEq, Int.reduceBNe, reduceCtorEq]
  refine AtCall.of_spec (right_con l most p n c u hl (by omega)) ?_
  rintro r u1 hs1 rfl
  simp only [go_sem, Nat.reduceBEq, Nat.reduceAdd, Nat.reduceLeDiff, Nat.reduceEqDiff, Int.reduceAdd, Int.reduceBEq, Int.reduceBNe, reduceCtorEq]
  refine AtCall.of_spec (rright_con l most p n c u1 (hl.mono hs1) (by omega)) ?_
  rintro r u2 hs2 rfl
  have s2 := hs1.trans hs2
  generalize pRight l most = R
  simp -implicitDefEqProofs only [go_sem, Nat.reduceBEq, Nat.reduceAdd, Nat.reduceLeDiff, Nat.reduceEqDiff, Int.reduceAdd, Int.reduceBEq, Int.reduceBNe, reduceCtorEq]
  rw [show (!(R == R)) = false from by cases R <;> rfl]
  simp -implicitDefEqProofs only [go_sem, Nat.reduceBEq, Nat.reduceAdd, Nat.reduceLeDiff, Nat.reduceEqDiff, Int.reduceAdd, Int.reduceBEq, Int.reduceBNe, reduceCtorEq]
  refine AtCall.of_spec (has_con l x.id p n c u2 (hl.mono s2) (by omega)) ?_
  rintro r u3 hs3 rfl
  have s3 := s2.trans hs3
  simp only [go_sem, Nat.reduceBEq, Nat.reduceAdd, Nat.reduceLeDiff, Nat.reduceEqDiff, Int.reduceAdd, Int.reduceBEq, Int.reduceBNe, reduceCtorEq]
  refine AtCall.of_spec (rhas_con l x.id p n c u3 (hl.mono s3) (by omega)) ?_
  rintro r u4 hs4 rfl
  have s4 := s3.trans hs4
  have e3 : (l.any fun a => decide (a.id = x.id)) = pHas l x.id := rfl
  rw [e3]
  generalize pHas l x.id = B
  simp -implicitDefEqProofs only [go_sem, Nat.reduceBEq, Nat.reduceAdd, Nat.reduceLeDiff, Nat.reduceEqDiff, Int.reduceAdd, Int.reduceBEq, Int.reduceBNe, reduceCtorEq]
  simp only [beq_self_eq_true]
  simp -implicitDefEqProofs only [go_sem, Nat.reduceBEq, Nat.reduceAdd, Nat.reduceLeDiff, Nat.reduceEqDiff, Int.reduceAdd, Int.reduceBEq, Int.reduceBNe, reduceCtorEq]
  refine AtCall.of_spec (rright_con l 100 p n c u4 (hl.mono s4) (by omega)) ?_
  rintro r u5 hs5 rfl
  have s5 := s4.trans hs5
  generalize pRight l 100 = G
  simp -implicitDefEqProofs only [go_sem, Nat.reduceBEq, Nat.reduceAdd, Nat.reduceLeDiff, Nat.reduceEqDiff, Int.reduceAdd, Int.reduceBEq, Int.reduceBNe, reduceCtorEq]
  refine cond_split (fun h5 => ?_) (fun h5 => ?_)
  case refine_2 =>
    simp only [go_sem, Nat.reduceBEq, Nat.reduceAdd, Nat.reduceLeDiff, Nat.reduceEqDiff, Int.reduceAdd, Int.reduceBEq, Int.reduceBNe, reduceCtorEq]
    refine AtCall.of_spec (awake_con u5) ?_
    rintro r u6 hs rfl
    simp only [go_sem, Nat.reduceBEq, Nat.reduceAdd, Nat.reduceLeDiff, Nat.reduceEqDiff, Int.reduceAdd, Int.reduceBEq, Int.reduceBNe, reduceCtorEq]
    exact ⟨s5.trans hs, rfl⟩
  simp only [go_sem, Nat.reduceBEq, Nat.reduceAdd, Nat.reduceLeDiff, Nat.reduceEqDiff, Int.reduceAdd, Int.reduceBEq, Int.reduceBNe, reduceCtorEq]
  refine AtCall.of_spec (add_con l x most p n c u5 (hl.mono s5) (by omega)) ?_
  rintro r u6 hs6 ⟨p6, m6, c6, rfl, o6⟩
  have s6 := s5.trans hs6
  simp only [go_sem, Nat.reduceBEq, Nat.reduceAdd, Nat.reduceLeDiff, Nat.reduceEqDiff, Int.reduceAdd, Int.reduceBEq, Int.reduceBNe, reduceCtorEq]
  refine AtCall.of_spec (radd_con l x most p n c u6 (hl.mono s6) (by omega)) ?_
  rintro r u7 hs7 ⟨p7, m7, c7, rfl, o7⟩
  have s7 := s6.trans hs7
  simp only [go_sem, Nat.reduceBEq, Nat.reduceAdd, Nat.reduceLeDiff, Nat.reduceEqDiff, Int.reduceAdd, Int.reduceBEq, Int.reduceBNe, reduceCtorEq]
  refine AtCall.of_spec (tick_con l p n c u7 (hl.mono s7) (by omega)) ?_
  rintro r u8 hs8 ⟨p8, m8, c8, q8, k8, d8, rfl, o8, g8⟩
  have s8 := s7.trans hs8
  simp only [go_sem, Nat.reduceBEq, Nat.reduceAdd, Nat.reduceLeDiff, Nat.reduceEqDiff, Int.reduceAdd, Int.reduceBEq, Int.reduceBNe, reduceCtorEq]
  refine AtCall.of_spec (rtick_con l p n c u8 (hl.mono s8) (by omega)) ?_
  rintro r u9 hs9 ⟨p9, m9, c9, q9, k9, d9, rfl, o9, g9⟩
  have s9 := s8.trans hs9
  simp only [go_sem, Nat.reduceBEq, Nat.reduceAdd, Nat.reduceLeDiff, Nat.reduceEqDiff, Int.reduceAdd, Int.reduceBEq, Int.reduceBNe, reduceCtorEq]
  have la : (pAdd l x most).length ≤ n + 1 := by
    unfold pAdd
    split
    · rw [pIns_len]; omega
    · omega
  have lt : (pTick l).length ≤ n := by
    unfold pTick
    rw [List.length_map, ← hlen]
    exact List.length_filter_le _ _
  have lg : (pGone l).length ≤ n := by
    unfold pGone
    rw [List.length_map, ← hlen]
    exact List.length_filter_le _ _
  have ld : (pDrop l x.id).length ≤ n := by
    unfold pDrop
    rw [← hlen]
    exact List.length_filter_le _ _
  have l6 := o6.len
  have l8 := o8.len
  have lg8 := g8.len
  rw [List.length_map] at l6 l8 lg8
  refine ⟨[(0, false), (1, false), (2, false), (3, false), (4, false), (5, false), (6, false), (7, false), (8, false), (9, false), (10, false), (13, false), (14, false), (11, false), (15, false), (12, true), (16, false), (17, false), (18, false), (19, false), (20, false), (21, false), (22, false), (23, false), (24, false), (25, false), (26, false), (27, false), (28, false), (29, false), (30, false), (31, false), (32, false)], by kernel_rfl, ?_⟩
  simp only [go_sem, Nat.reduceBEq, Nat.reduceAdd, Nat.reduceLeDiff, Nat.reduceEqDiff, Int.reduceAdd, Int.reduceBEq, Int.reduceBNe, reduceCtorEq]
  refine AtCall.of_spec (sameAsk_con (pAdd l x most) (pAdd l x most) p6 p7 m6 c6 m7 c7 u9 (o6.mono (hs7.trans (hs8.trans hs9))).sl (o7.mono (hs8.trans hs9)).sl (by omega)) ?_
  rintro r v1 t1 rfl
  rw [decide_eq_true rfl]
  simp only [go_sem, Nat.reduceBEq, Nat.reduceAdd, Nat.reduceLeDiff, Nat.reduceEqDiff, Int.reduceAdd, Int.reduceBEq, Int.reduceBNe, reduceCtorEq]
  rw [beq_self_eq_true]
  simp only [go_sem, Nat.reduceBEq, Nat.reduceAdd, Nat.reduceLeDiff, Nat.reduceEqDiff, Int.reduceAdd, Int.reduceBEq, Int.reduceBNe, reduceCtorEq]
  refine AtCall.of_spec (drop_con l x.id p n c v1 (hl.mono (s9.trans t1)) (by omega)) ?_
  rintro r v2 t2 ⟨pd, md, cd, rfl, od⟩
  simp only [go_sem, Nat.reduceBEq, Nat.reduceAdd, Nat.reduceLeDiff, Nat.reduceEqDiff, Int.reduceAdd, Int.reduceBEq, Int.reduceBNe, reduceCtorEq]
  refine AtCall.of_spec (rdrop_con l x.id p n c v2 (hl.mono (s9.trans (t1.trans t2))) (by omega)) ?_
  rintro r v3 t3 ⟨pe, me, ce, rfl, oe⟩
  have l3 := od.len
  rw [List.length_map] at l3
  simp only [go_sem, Nat.reduceBEq, Nat.reduceAdd, Nat.reduceLeDiff, Nat.reduceEqDiff, Int.reduceAdd, Int.reduceBEq, Int.reduceBNe, reduceCtorEq]
  refine AtCall.of_spec (sameAsk_con (pDrop l x.id) (pDrop l x.id) pd pe md cd me ce v3 (od.mono t3).sl oe.sl (by omega)) ?_
  rintro r v4 t4 rfl
  rw [decide_eq_true rfl]
  have tt := t1.trans (t2.trans (t3.trans t4))
  simp only [go_sem, Nat.reduceBEq, Nat.reduceAdd, Nat.reduceLeDiff, Nat.reduceEqDiff, Int.reduceAdd, Int.reduceBEq, Int.reduceBNe, reduceCtorEq]
  refine AtCall.of_spec (sameAsk_con (pTick l) (pTick l) p8 p9 m8 c8 m9 c9 v4 (o8.mono (hs9.trans tt)).sl (o9.mono tt).sl (by omega)) ?_
  rintro r v5 t5 rfl
  rw [decide_eq_true rfl]
  have tu := tt.trans t5
  simp only [go_sem, Nat.reduceBEq, Nat.reduceAdd, Nat.reduceLeDiff, Nat.reduceEqDiff, Int.reduceAdd, Int.reduceBEq, Int.reduceBNe, reduceCtorEq]
  refine AtCall.of_spec (sameID_con (pGone l) (pGone l) q8 q9 k8 d8 k9 d9 v5 (g8.mono (hs9.trans tu)).sl (g9.mono tu).sl (by omega)) ?_
  rintro r v6 t6 rfl
  rw [decide_eq_true rfl]
  simp only [go_sem, Nat.reduceBEq, Nat.reduceAdd, Nat.reduceLeDiff, Nat.reduceEqDiff, Int.reduceAdd, Int.reduceBEq, Int.reduceBNe, reduceCtorEq]
  refine AtCall.of_spec (awake_con v6) ?_
  rintro r v7 t7 rfl
  simp only [go_sem, Nat.reduceBEq, Nat.reduceAdd, Nat.reduceLeDiff, Nat.reduceEqDiff, Int.reduceAdd, Int.reduceBEq, Int.reduceBNe, reduceCtorEq]
  exact ⟨s9.trans (tu.trans (t6.trans t7)), rfl⟩

end Go.Proofs.Ythjgnpelmigbeaa
