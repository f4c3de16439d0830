/-
  Walks: cyclon: giver, Merge.
-/
import Derived.Test.YtfdhmmjccnmckaaCb
set_option linter.unusedSimpArgs false
set_option linter.unusedVariables false
namespace Go.Eng
/-- The first one sent that may be given up: what is left of the list, was there one, and what is still to be looked at. -/
def gGive (L got : List GDesc) : List GDesc → List GDesc × Bool × List GDesc
  | [] => (L, false, [])
  | s :: r => if dIdx L s.node ≠ none ∧ dIdx got s.node = none then (dDrop L s.node, true, r) else gGive L got r
/-- What becomes of a view, behind what came. -/
def cMerge (got0 : List GDesc) (self : UInt8) (room : Int) : List GDesc → List GDesc → List GDesc → List GDesc
  | L, _, [] => L
  | L, S, d :: r =>
    if (dPut L d self room).2 = true then cMerge got0 self room (dPut L d self room).1 S r
    else if d.node = self ∨ d.inc = 0 ∨ dIdx L d.node ≠ none then cMerge got0 self room L S r
    else if (gGive L got0 S).2.1 = true then cMerge got0 self room (dPut (gGive L got0 S).1 d self ((gGive L got0 S).1.length + 1)).1 (gGive L got0 S).2.2 r
    else cMerge got0 self room L (gGive L got0 S).2.2 r
abbrev cellP (b : Nat) : Option Addr := some ⟨b, 0, none⟩
end Go.Eng
namespace Go.Proofs.Ytfdhmmjccnmckaa
open Go.Eng
attribute [local go_sem] GSpan.val GSpan.enc PD.val PD.enc enc32

theorem giver_con (ps pg : Option Addr) (ns cs ng cg : Nat) (u : World) : Con Try.prog 34 [.slice ps ns cs, .slice pg ng cg] u (fun r u' => ∃ b5 b2 b3, r = .func (.func 44) #[] #[.pointer (some ⟨b5, 0, none⟩), .pointer (some ⟨b2, 0, none⟩), .pointer (some ⟨b3, 0, none⟩)] ∧
    Cel u' b5 [.int .i64 0] 3 ∧ Cel u' b2 [.slice ps ns cs] 22 ∧ Cel u' b3 [.slice pg ng cg] 22 ∧ Fresh u b5) := by
  refine spec_of_vc Ty.mixed Try.func34 rfl (by kernel_rfl) (by kernel_rfl) rfl [.tmp 4] rfl ?_
  (simp only [go_sem, vc_block_seq, vc_block_region, vc_block_cond, vc_block_block, Nat.reduceBEq, Nat.reduceAdd, Nat.reduceLeDiff, Nat.reduceEqDiff, Int.reduceAdd, Int.reduceBEq, Int.reduceBNe, reduceCtorEq, beq_self_eq_true, Bool.true_beq, Bool.false_beq]; repeat ((with_reducible refine leK_refl ?_); simp only [go_sem, vc_block_seq, vc_block_region, vc_block_cond, vc_block_block, Nat.reduceBEq, Nat.reduceAdd, Nat.reduceLeDiff, Nat.reduceEqDiff, Int.reduceAdd, Int.reduceBEq, Int.reduceBNe, reduceCtorEq, beq_self_eq_true, Bool.true_beq, Bool.false_beq]))
  intro b2 b3 b5 u1 hs1 hf1 hf1' hb1 hg1 u2 hs2 hf2 hf2' hb2 hg2 u3 hs3 hf3 hf3' hb3 hg3
  exact ⟨hs1.trans (hs2.trans hs3), b5, b2, b3, rfl, (hs2.trans hs3) _ _ hb1 cells_ne_junk, hs3 _ _ hb2 cells_ne_junk, hb3, hf1⟩

theorem cel_ne {u : World} {b b' : Nat} {x y : Value} {T T' : TypeId} (h : Cel u b [x] T) (h' : Cel u b' [y] T') (hT : T ≠ T') : b' ≠ b := by
  rintro rfl
  unfold Cel at h h'
  rw [h] at h'
  injection h' with h'
  injection h' with _ h2
  exact hT h2

set_option maxHeartbeats 1000000 in
theorem give_call (l sent got : List PD) (hu : Up dKey (ds l)) (k : Nat) (p ps pg : Option Addr) (n c ns cs ng cg b5 b2 b3 : Nat) (u0 u : World) (ho : DO u0 u 34 30 p n c l) (hne : NE p (cellP b5)) (hnx : ∀ x ∈ l, NE x.p (cellP b5))
    (hsent : DL u0 ps ns cs sent) (hgot : DL u0 pg ng cg got) (hS : Sub u0 u) (hf5 : Fresh u0 b5) (h5 : Cel u b5 [.int .i64 k] 3) (h2 : Cel u b2 [.slice ps ns cs] 22) (h3 : Cel u b3 [.slice pg ng cg] 22) (hk : k ≤ ns)
    (hn : n ≤ 1000) (hns : ns ≤ 1000) (hng : ng ≤ 1000) (hs8 : ∀ x ∈ l, x.n ≤ 8) {K : Value → World → Prop}
    (hK : ∀ v k' u', SubX (cellP b5) u u' → Sub u0 u' → Cel u' b5 [.int .i64 (k' : Nat)] 3 → k' ≤ ns → (gGive (ds l) (ds got) ((ds sent).drop k)).2.2 = (ds sent).drop k' →
      (((gGive (ds l) (ds got) ((ds sent).drop k)).2.1 = false ∧ v = .slice p n c) ∨ ((gGive (ds l) (ds got) ((ds sent).drop k)).2.1 = true ∧ ∃ p' n' c' l', v = .slice p' n' c' ∧ DO u0 u' 34 30 p' n' c' l' ∧ NE p' (cellP b5) ∧ (∀ x ∈ l', NE x.p (cellP b5)) ∧ ds l' = (gGive (ds l) (ds got) ((ds sent).drop k)).1)) →
      K (.tuple #[v, .bool (gGive (ds l) (ds got) ((ds sent).drop k)).2.1]) u') :
    AtCall false Try.prog 44 [.slice p n c, .pointer (some ⟨b5, 0, none⟩), .pointer (some ⟨b2, 0, none⟩), .pointer (some ⟨b3, 0, none⟩)] u0 u K := by
  have ls := hsent.len
  have h52 : b2 ≠ b5 := cel_ne h5 h2 (by decide)
  have h53 : b3 ≠ b5 := cel_ne h5 h3 (by decide)
  generalize hG : gGive (ds l) (ds got) ((ds sent).drop k) = G at hK
  refine .inl (call_of_vc Ty.mixed Try.func44 rfl (by kernel_rfl) (by kernel_rfl) rfl [.tmp 5, .tmp 6] rfl ?_)
  (simp only [go_sem, vc_block_seq, vc_block_region, vc_block_cond, vc_block_block, Nat.reduceBEq, Nat.reduceAdd, Nat.reduceLeDiff, Nat.reduceEqDiff, Int.reduceAdd, Int.reduceBEq, Int.reduceBNe, reduceCtorEq, beq_self_eq_true, Bool.true_beq, Bool.false_beq]; repeat ((with_reducible refine leK_refl ?_); simp only [go_sem, vc_block_seq, vc_block_region, vc_block_cond, vc_block_block, Nat.reduceBEq, Nat.reduceAdd, Nat.reduceLeDiff, Nat.reduceEqDiff, Int.reduceAdd, Int.reduceBEq, Int.reduceBNe, reduceCtorEq, beq_self_eq_true, Bool.true_beq, Bool.false_beq]))
  refine vc_for (fun (_ : Nat) => []) (fun _ => [])
    (fun k' u' => SubX (cellP b5) u u' ∧ Sub u0 u' ∧ Cel u' b5 [.int .i64 (k' : Nat)] 3 ∧ Cel u' b2 [.slice ps ns cs] 22 ∧ Cel u' b3 [.slice pg ng cg] 22 ∧ k' ≤ ns ∧ gGive (ds l) (ds got) ((ds sent).drop k') = G ∧ DO u0 u' 34 30 p n c l)
    (fun k' => ns - k') k (le_chk (by simp only [go_sem, vc_block_seq, vc_block_region, vc_block_cond, vc_block_block, Nat.reduceBEq, Nat.reduceAdd, Nat.reduceLeDiff, Nat.reduceEqDiff, Int.reduceAdd, Int.reduceBEq, Int.reduceBNe, reduceCtorEq, beq_self_eq_true, Bool.true_beq, Bool.false_beq])) ⟨SubX.of_sub (Sub.refl _), hS, h5, h2, h3, hk, hG, ho⟩ ?_
  rintro k' u1 ⟨hx1, hS1, g5, g2, g3, hk1, hG1, o1⟩
  (simp only [go_sem, vc_block_seq, vc_block_region, vc_block_cond, vc_block_block, Nat.reduceBEq, Nat.reduceAdd, Nat.reduceLeDiff, Nat.reduceEqDiff, Int.reduceAdd, Int.reduceBEq, Int.reduceBNe, reduceCtorEq, beq_self_eq_true, Bool.true_beq, Bool.false_beq]; repeat ((with_reducible refine leK_refl ?_); simp only [go_sem, vc_block_seq, vc_block_region, vc_block_cond, vc_block_block, Nat.reduceBEq, Nat.reduceAdd, Nat.reduceLeDiff, Nat.reduceEqDiff, Int.reduceAdd, Int.reduceBEq, Int.reduceBNe, reduceCtorEq, beq_self_eq_true, Bool.true_beq, Bool.false_beq]))
  refine ptr_load g5 (.inl rfl) (Nat.le_of_ble_eq_true rfl) ?_
  (simp only [go_sem, vc_block_seq, vc_block_region, vc_block_cond, vc_block_block, Nat.reduceBEq, Nat.reduceAdd, Nat.reduceLeDiff, Nat.reduceEqDiff, Int.reduceAdd, Int.reduceBEq, Int.reduceBNe, reduceCtorEq, beq_self_eq_true, Bool.true_beq, Bool.false_beq]; repeat ((with_reducible refine leK_refl ?_); simp only [go_sem, vc_block_seq, vc_block_region, vc_block_cond, vc_block_block, Nat.reduceBEq, Nat.reduceAdd, Nat.reduceLeDiff, Nat.reduceEqDiff, Int.reduceAdd, Int.reduceBEq, Int.reduceBNe, reduceCtorEq, beq_self_eq_true, Bool.true_beq, Bool.false_beq]))
  refine ptr_load g2 (.inl rfl) (Nat.le_of_ble_eq_true rfl) ?_
  (simp only [go_sem, vc_block_seq, vc_block_region, vc_block_cond, vc_block_block, Nat.reduceBEq, Nat.reduceAdd, Nat.reduceLeDiff, Nat.reduceEqDiff, Int.reduceAdd, Int.reduceBEq, Int.reduceBNe, reduceCtorEq, beq_self_eq_true, Bool.true_beq, Bool.false_beq]; repeat ((with_reducible refine leK_refl ?_); simp only [go_sem, vc_block_seq, vc_block_region, vc_block_cond, vc_block_block, Nat.reduceBEq, Nat.reduceAdd, Nat.reduceLeDiff, Nat.reduceEqDiff, Int.reduceAdd, Int.reduceBEq, Int.reduceBNe, reduceCtorEq, beq_self_eq_true, Bool.true_beq, Bool.false_beq]))
  refine cond_dec (fun h => ?_) (fun h => ?_)
  · have hkn : k' < ns := by omega
    obtain ⟨s, hs⟩ := exAt hkn ls
    rw [drop_at (getDs hs)] at hG1
    (simp only [go_sem, vc_block_seq, vc_block_region, vc_block_cond, vc_block_block, Nat.reduceBEq, Nat.reduceAdd, Nat.reduceLeDiff, Nat.reduceEqDiff, Int.reduceAdd, Int.reduceBEq, Int.reduceBNe, reduceCtorEq, beq_self_eq_true, Bool.true_beq, Bool.false_beq]; repeat ((with_reducible refine leK_refl ?_); simp only [go_sem, vc_block_seq, vc_block_region, vc_block_cond, vc_block_block, Nat.reduceBEq, Nat.reduceAdd, Nat.reduceLeDiff, Nat.reduceEqDiff, Int.reduceAdd, Int.reduceBEq, Int.reduceBNe, reduceCtorEq, beq_self_eq_true, Bool.true_beq, Bool.false_beq]))
    refine ptr_load g2 (.inl rfl) (Nat.le_of_ble_eq_true rfl) ?_
    (simp only [go_sem, vc_block_seq, vc_block_region, vc_block_cond, vc_block_block, Nat.reduceBEq, Nat.reduceAdd, Nat.reduceLeDiff, Nat.reduceEqDiff, Int.reduceAdd, Int.reduceBEq, Int.reduceBNe, reduceCtorEq, beq_self_eq_true, Bool.true_beq, Bool.false_beq]; repeat ((with_reducible refine leK_refl ?_); simp only [go_sem, vc_block_seq, vc_block_region, vc_block_cond, vc_block_block, Nat.reduceBEq, Nat.reduceAdd, Nat.reduceLeDiff, Nat.reduceEqDiff, Int.reduceAdd, Int.reduceBEq, Int.reduceBNe, reduceCtorEq, beq_self_eq_true, Bool.true_beq, Bool.false_beq]))
    refine ptr_load g5 (.inl rfl) (Nat.le_of_ble_eq_true rfl) ?_
    (simp only [go_sem, vc_block_seq, vc_block_region, vc_block_cond, vc_block_block, Nat.reduceBEq, Nat.reduceAdd, Nat.reduceLeDiff, Nat.reduceEqDiff, Int.reduceAdd, Int.reduceBEq, Int.reduceBNe, reduceCtorEq, beq_self_eq_true, Bool.true_beq, Bool.false_beq]; repeat ((with_reducible refine leK_refl ?_); simp only [go_sem, vc_block_seq, vc_block_region, vc_block_cond, vc_block_block, Nat.reduceBEq, Nat.reduceAdd, Nat.reduceLeDiff, Nat.reduceEqDiff, Int.reduceAdd, Int.reduceBEq, Int.reduceBNe, reduceCtorEq, beq_self_eq_true, Bool.true_beq, Bool.false_beq]))
    refine ⟨⟨hsent.sl.some_ hkn, by omega, by omega⟩, ?_⟩
    refine (hsent.sl.mono hS1).load (getMap hs) (.inl rfl) (Nat.le_of_ble_eq_true rfl) ?_
    (simp only [go_sem, vc_block_seq, vc_block_region, vc_block_cond, vc_block_block, Nat.reduceBEq, Nat.reduceAdd, Nat.reduceLeDiff, Nat.reduceEqDiff, Int.reduceAdd, Int.reduceBEq, Int.reduceBNe, reduceCtorEq, beq_self_eq_true, Bool.true_beq, Bool.false_beq]; repeat ((with_reducible refine leK_refl ?_); simp only [go_sem, vc_block_seq, vc_block_region, vc_block_cond, vc_block_block, Nat.reduceBEq, Nat.reduceAdd, Nat.reduceLeDiff, Nat.reduceEqDiff, Int.reduceAdd, Int.reduceBEq, Int.reduceBNe, reduceCtorEq, beq_self_eq_true, Bool.true_beq, Bool.false_beq]))
    refine ptr_load g5 (.inl rfl) (Nat.le_of_ble_eq_true rfl) ?_
    (simp only [go_sem, vc_block_seq, vc_block_region, vc_block_cond, vc_block_block, Nat.reduceBEq, Nat.reduceAdd, Nat.reduceLeDiff, Nat.reduceEqDiff, Int.reduceAdd, Int.reduceBEq, Int.reduceBNe, reduceCtorEq, beq_self_eq_true, Bool.true_beq, Bool.false_beq]; repeat ((with_reducible refine leK_refl ?_); simp only [go_sem, vc_block_seq, vc_block_region, vc_block_cond, vc_block_block, Nat.reduceBEq, Nat.reduceAdd, Nat.reduceLeDiff, Nat.reduceEqDiff, Int.reduceAdd, Int.reduceBEq, Int.reduceBNe, reduceCtorEq, beq_self_eq_true, Bool.true_beq, Bool.false_beq]))
    rw [arith_i64 (by omega)]
    (simp only [go_sem, vc_block_seq, vc_block_region, vc_block_cond, vc_block_block, Nat.reduceBEq, Nat.reduceAdd, Nat.reduceLeDiff, Nat.reduceEqDiff, Int.reduceAdd, Int.reduceBEq, Int.reduceBNe, reduceCtorEq, beq_self_eq_true, Bool.true_beq, Bool.false_beq]; repeat ((with_reducible refine leK_refl ?_); simp only [go_sem, vc_block_seq, vc_block_region, vc_block_cond, vc_block_block, Nat.reduceBEq, Nat.reduceAdd, Nat.reduceLeDiff, Nat.reduceEqDiff, Int.reduceAdd, Int.reduceBEq, Int.reduceBNe, reduceCtorEq, beq_self_eq_true, Bool.true_beq, Bool.false_beq]))
    refine do_store Ty.lay3 g5 hf5 rfl (by simp) rfl ?_
    intro u2 g5' x2
    have g5'' : Cel u2 b5 [.int .i64 ((k' + 1 : Nat) : Int)] 3 := by
      unfold Cel
      rw [g5', show ((k' + 1 : Nat) : Int) = (k' : Int) + 1 by omega]
      rfl
    clear g5'
    have hS2 : Sub u0 u2 := x2.sub hS1 (fun a ha => by cases ha; exact hf5)
    have g2' := g2.subX x2 (fun a ha => by cases ha; exact h52)
    have g3' := g3.subX x2 (fun a ha => by cases ha; exact h53)
    have o2 := o1.subX x2 hne hnx
    have hx2 : SubX (cellP b5) u u2 := hx1.trans x2
    (simp only [go_sem, vc_block_seq, vc_block_region, vc_block_cond, vc_block_block, Nat.reduceBEq, Nat.reduceAdd, Nat.reduceLeDiff, Nat.reduceEqDiff, Int.reduceAdd, Int.reduceBEq, Int.reduceBNe, reduceCtorEq, beq_self_eq_true, Bool.true_beq, Bool.false_beq]; repeat ((with_reducible refine leK_refl ?_); simp only [go_sem, vc_block_seq, vc_block_region, vc_block_cond, vc_block_block, Nat.reduceBEq, Nat.reduceAdd, Nat.reduceLeDiff, Nat.reduceEqDiff, Int.reduceAdd, Int.reduceBEq, Int.reduceBNe, reduceCtorEq, beq_self_eq_true, Bool.true_beq, Bool.false_beq]))
    refine .inl ⟨[(0, false), (1, false), (2, false), (3, false), (4, false), (5, false), (6, false), (7, true), (8, false), (9, false), (10, false)], by kernel_rfl, ?_⟩
    (simp only [go_sem, vc_block_seq, vc_block_region, vc_block_cond, vc_block_block, Nat.reduceBEq, Nat.reduceAdd, Nat.reduceLeDiff, Nat.reduceEqDiff, Int.reduceAdd, Int.reduceBEq, Int.reduceBNe, reduceCtorEq, beq_self_eq_true, Bool.true_beq, Bool.false_beq]; repeat ((with_reducible refine leK_refl ?_); simp only [go_sem, vc_block_seq, vc_block_region, vc_block_cond, vc_block_block, Nat.reduceBEq, Nat.reduceAdd, Nat.reduceLeDiff, Nat.reduceEqDiff, Int.reduceAdd, Int.reduceBEq, Int.reduceBNe, reduceCtorEq, beq_self_eq_true, Bool.true_beq, Bool.false_beq]))
    refine AtCall.of_spec (find_con l hu s.d.node p n c u2 o2.dl (by omega)) ?_
    rintro r u3 hs3 rfl
    have g5a := g5''.mono hs3
    have g2a := g2'.mono hs3
    have g3a := g3'.mono hs3
    have o3 := o2.mono hs3
    have hS3 := hS2.trans hs3
    have hx3 := hx2.then hs3
    (simp only [go_sem, vc_block_seq, vc_block_region, vc_block_cond, vc_block_block, Nat.reduceBEq, Nat.reduceAdd, Nat.reduceLeDiff, Nat.reduceEqDiff, Int.reduceAdd, Int.reduceBEq, Int.reduceBNe, reduceCtorEq, beq_self_eq_true, Bool.true_beq, Bool.false_beq]; repeat ((with_reducible refine leK_refl ?_); simp only [go_sem, vc_block_seq, vc_block_region, vc_block_cond, vc_block_block, Nat.reduceBEq, Nat.reduceAdd, Nat.reduceLeDiff, Nat.reduceEqDiff, Int.reduceAdd, Int.reduceBEq, Int.reduceBNe, reduceCtorEq, beq_self_eq_true, Bool.true_beq, Bool.false_beq]))
    by_cases hfd : dIdx (ds l) s.d.node = none
    · have hG2 : gGive (ds l) (ds got) ((ds sent).drop (k' + 1)) = G := by rw [← hG1, gGive, if_neg (fun h => h.1 hfd)]
      rw [decide_eq_false (show ¬ 0 ≤ dFind (ds l) s.d.node from Int.not_le.2 (find_neg.2 hfd))]
      (simp only [go_sem, vc_block_seq, vc_block_region, vc_block_cond, vc_block_block, Nat.reduceBEq, Nat.reduceAdd, Nat.reduceLeDiff, Nat.reduceEqDiff, Int.reduceAdd, Int.reduceBEq, Int.reduceBNe, reduceCtorEq, beq_self_eq_true, Bool.true_beq, Bool.false_beq]; repeat ((with_reducible refine leK_refl ?_); simp only [go_sem, vc_block_seq, vc_block_region, vc_block_cond, vc_block_block, Nat.reduceBEq, Nat.reduceAdd, Nat.reduceLeDiff, Nat.reduceEqDiff, Int.reduceAdd, Int.reduceBEq, Int.reduceBNe, reduceCtorEq, beq_self_eq_true, Bool.true_beq, Bool.false_beq]))
      exact ⟨k' + 1, le_chk (by simp only [go_sem, vc_block_seq, vc_block_region, vc_block_cond, vc_block_block, Nat.reduceBEq, Nat.reduceAdd, Nat.reduceLeDiff, Nat.reduceEqDiff, Int.reduceAdd, Int.reduceBEq, Int.reduceBNe, reduceCtorEq, beq_self_eq_true, Bool.true_beq, Bool.false_beq]), ⟨hx3, hS3, g5a, g2a, g3a, by omega, hG2, o3⟩, by omega⟩
    rw [decide_eq_true (show 0 ≤ dFind (ds l) s.d.node from Int.not_lt.1 (mt find_neg.1 hfd))]
    (simp only [go_sem, vc_block_seq, vc_block_region, vc_block_cond, vc_block_block, Nat.reduceBEq, Nat.reduceAdd, Nat.reduceLeDiff, Nat.reduceEqDiff, Int.reduceAdd, Int.reduceBEq, Int.reduceBNe, reduceCtorEq, beq_self_eq_true, Bool.true_beq, Bool.false_beq]; repeat ((with_reducible refine leK_refl ?_); simp only [go_sem, vc_block_seq, vc_block_region, vc_block_cond, vc_block_block, Nat.reduceBEq, Nat.reduceAdd, Nat.reduceLeDiff, Nat.reduceEqDiff, Int.reduceAdd, Int.reduceBEq, Int.reduceBNe, reduceCtorEq, beq_self_eq_true, Bool.true_beq, Bool.false_beq]))
    refine ptr_load g3a (.inl rfl) (Nat.le_of_ble_eq_true rfl) ?_
    (simp only [go_sem, vc_block_seq, vc_block_region, vc_block_cond, vc_block_block, Nat.reduceBEq, Nat.reduceAdd, Nat.reduceLeDiff, Nat.reduceEqDiff, Int.reduceAdd, Int.reduceBEq, Int.reduceBNe, reduceCtorEq, beq_self_eq_true, Bool.true_beq, Bool.false_beq]; repeat ((with_reducible refine leK_refl ?_); simp only [go_sem, vc_block_seq, vc_block_region, vc_block_cond, vc_block_block, Nat.reduceBEq, Nat.reduceAdd, Nat.reduceLeDiff, Nat.reduceEqDiff, Int.reduceAdd, Int.reduceBEq, Int.reduceBNe, reduceCtorEq, beq_self_eq_true, Bool.true_beq, Bool.false_beq]))
    refine AtCall.of_spec (of_con s.d.node u3) ?_
    rintro r u4 hs4 ⟨b, rfl, hb, hfb⟩
    (simp only [go_sem, vc_block_seq, vc_block_region, vc_block_cond, vc_block_block, Nat.reduceBEq, Nat.reduceAdd, Nat.reduceLeDiff, Nat.reduceEqDiff, Int.reduceAdd, Int.reduceBEq, Int.reduceBNe, reduceCtorEq, beq_self_eq_true, Bool.true_beq, Bool.false_beq]; repeat ((with_reducible refine leK_refl ?_); simp only [go_sem, vc_block_seq, vc_block_region, vc_block_cond, vc_block_block, Nat.reduceBEq, Nat.reduceAdd, Nat.reduceLeDiff, Nat.reduceEqDiff, Int.reduceAdd, Int.reduceBEq, Int.reduceBNe, reduceCtorEq, beq_self_eq_true, Bool.true_beq, Bool.false_beq]))
    refine AtCall.of_spec (containsf_con got s.d.node pg ng cg u4 (hgot.mono (hS3.trans hs4)) (by omega) 43 [] [_] (fun x u' hx => of1_con x s.d.node b u' (hb.mono hx))) ?_
    rintro r u5 hs5 rfl
    have hs45 := hs4.trans hs5
    have g5b := g5a.mono hs45
    have o5 := o3.mono hs45
    have hS5 := hS3.trans hs45
    have hx5 := hx3.then hs45
    (simp only [go_sem, vc_block_seq, vc_block_region, vc_block_cond, vc_block_block, Nat.reduceBEq, Nat.reduceAdd, Nat.reduceLeDiff, Nat.reduceEqDiff, Int.reduceAdd, Int.reduceBEq, Int.reduceBNe, reduceCtorEq, beq_self_eq_true, Bool.true_beq, Bool.false_beq]; repeat ((with_reducible refine leK_refl ?_); simp only [go_sem, vc_block_seq, vc_block_region, vc_block_cond, vc_block_block, Nat.reduceBEq, Nat.reduceAdd, Nat.reduceLeDiff, Nat.reduceEqDiff, Int.reduceAdd, Int.reduceBEq, Int.reduceBNe, reduceCtorEq, beq_self_eq_true, Bool.true_beq, Bool.false_beq]))
    by_cases hgd : dIdx (ds got) s.d.node = none
    · have hG2 : G = (dDrop (ds l) s.d.node, true, (ds sent).drop (k' + 1)) := by rw [← hG1, gGive, if_pos ⟨hfd, hgd⟩]
      rw [decide_eq_false (show ¬ 0 ≤ dFind (ds got) s.d.node from Int.not_le.2 (find_neg.2 hgd))]
      (simp only [go_sem, vc_block_seq, vc_block_region, vc_block_cond, vc_block_block, Nat.reduceBEq, Nat.reduceAdd, Nat.reduceLeDiff, Nat.reduceEqDiff, Int.reduceAdd, Int.reduceBEq, Int.reduceBNe, reduceCtorEq, beq_self_eq_true, Bool.true_beq, Bool.false_beq]; repeat ((with_reducible refine leK_refl ?_); simp only [go_sem, vc_block_seq, vc_block_region, vc_block_cond, vc_block_block, Nat.reduceBEq, Nat.reduceAdd, Nat.reduceLeDiff, Nat.reduceEqDiff, Int.reduceAdd, Int.reduceBEq, Int.reduceBNe, reduceCtorEq, beq_self_eq_true, Bool.true_beq, Bool.false_beq]))
      refine AtCall.of_spec (drop_con l hu s.d.node p n c u5 o5.dl (by omega) (fun z hz => by have := hs8 z hz; omega)) ?_
      rintro r u6 hs6 ⟨p6, n6, c6, l6, rfl, o6, e6⟩
      subst hG2
      have hq : ∀ (q : Option Addr), FreshP u5 q → NE q (cellP b5) := fun q hf a b ha hb e => by cases hb; exact (g5b.ne hf) a ha e.symm
      (simp only [go_sem, vc_block_seq, vc_block_region, vc_block_cond, vc_block_block, Nat.reduceBEq, Nat.reduceAdd, Nat.reduceLeDiff, Nat.reduceEqDiff, Int.reduceAdd, Int.reduceBEq, Int.reduceBNe, reduceCtorEq, beq_self_eq_true, Bool.true_beq, Bool.false_beq]; repeat ((with_reducible refine leK_refl ?_); simp only [go_sem, vc_block_seq, vc_block_region, vc_block_cond, vc_block_block, Nat.reduceBEq, Nat.reduceAdd, Nat.reduceLeDiff, Nat.reduceEqDiff, Int.reduceAdd, Int.reduceBEq, Int.reduceBNe, reduceCtorEq, beq_self_eq_true, Bool.true_beq, Bool.false_beq]))
      refine hK _ (k' + 1) u6 (hx5.then hs6) (hS5.trans hs6) (g5b.mono hs6) (by omega) rfl (.inr ⟨rfl, p6, n6, c6, l6, rfl, o6.anti hS5, hq _ o6.own.fresh, fun z hz => hq _ (Own.fresh (o6.fl z hz)), e6⟩)
    · have hG2 : gGive (ds l) (ds got) ((ds sent).drop (k' + 1)) = G := by rw [← hG1, gGive, if_neg (fun h => hgd h.2)]
      rw [decide_eq_true (show 0 ≤ dFind (ds got) s.d.node from Int.not_lt.1 (mt find_neg.1 hgd))]
      (simp only [go_sem, vc_block_seq, vc_block_region, vc_block_cond, vc_block_block, Nat.reduceBEq, Nat.reduceAdd, Nat.reduceLeDiff, Nat.reduceEqDiff, Int.reduceAdd, Int.reduceBEq, Int.reduceBNe, reduceCtorEq, beq_self_eq_true, Bool.true_beq, Bool.false_beq]; repeat ((with_reducible refine leK_refl ?_); simp only [go_sem, vc_block_seq, vc_block_region, vc_block_cond, vc_block_block, Nat.reduceBEq, Nat.reduceAdd, Nat.reduceLeDiff, Nat.reduceEqDiff, Int.reduceAdd, Int.reduceBEq, Int.reduceBNe, reduceCtorEq, beq_self_eq_true, Bool.true_beq, Bool.false_beq]))
      exact ⟨k' + 1, le_chk (by simp only [go_sem, vc_block_seq, vc_block_region, vc_block_cond, vc_block_block, Nat.reduceBEq, Nat.reduceAdd, Nat.reduceLeDiff, Nat.reduceEqDiff, Int.reduceAdd, Int.reduceBEq, Int.reduceBNe, reduceCtorEq, beq_self_eq_true, Bool.true_beq, Bool.false_beq]), ⟨hx5, hS5, g5b, g2a.mono hs45, g3a.mono hs45, by omega, hG2, o5⟩, by omega⟩
  · have hkn : k' = ns := by omega
    rw [List.drop_eq_nil_of_le (by simp; omega)] at hG1
    have hG2 : G = (ds l, false, []) := hG1.symm
    subst hG2
    (simp only [go_sem, vc_block_seq, vc_block_region, vc_block_cond, vc_block_block, Nat.reduceBEq, Nat.reduceAdd, Nat.reduceLeDiff, Nat.reduceEqDiff, Int.reduceAdd, Int.reduceBEq, Int.reduceBNe, reduceCtorEq, beq_self_eq_true, Bool.true_beq, Bool.false_beq]; repeat ((with_reducible refine leK_refl ?_); simp only [go_sem, vc_block_seq, vc_block_region, vc_block_cond, vc_block_block, Nat.reduceBEq, Nat.reduceAdd, Nat.reduceLeDiff, Nat.reduceEqDiff, Int.reduceAdd, Int.reduceBEq, Int.reduceBNe, reduceCtorEq, beq_self_eq_true, Bool.true_beq, Bool.false_beq]))
    exact hK _ k' u1 hx1 hS1 g5 hk1 (by rw [List.drop_eq_nil_of_le (by simp; omega)]) (.inl ⟨rfl, rfl⟩)

end Go.Proofs.Ytfdhmmjccnmckaa
