/-
  The walk of BufferAny.
-/
import Derived.Test.YtcaobkpfafcnjaaBf
import Derived.Test.YtcaobkpfafcnjaaBi
set_option linter.unusedSimpArgs false
set_option linter.unusedVariables false
namespace Go.Proofs.Ytcaobkpfafcnjaa
open Go.Eng
attribute [local go_sem] GID.val GID.enc PE.val PE.enc PB.val PB.enc encI encB

set_option maxHeartbeats 1000000 in
theorem filled_con (l : List PE) (p : Option Addr) (n c : Nat) (u : World) (hl : EL EvK u p n c l) (hn : n ≤ 40) (h8 : ∀ x ∈ l, x.n ≤ 8 ∧ x.m ≤ 70) (hnd : (bIds (es l)).Nodup) :
    Con Try.prog 19 [.slice p n c] u (fun r u' => ∃ b : PB, r = .tuple #[b.val, .bool true] ∧ BR u' 41 b ∧ (es b.l).Perm (es l)) := by
  have ll := hl.len
  refine spec_of_vc Ty.mixed Try.func19 rfl (by kernel_rfl) (by kernel_rfl) rfl [.cell 2 27, .tmp 3] rfl ?_
  (simp only [go_sem, vc_block_seq, vc_block_region, vc_block_cond, vc_block_block, Nat.reduceBEq, Nat.reduceAdd, Nat.reduceLeDiff, Nat.reduceEqDiff, Int.reduceAdd, Int.reduceBEq, Int.reduceBNe, reduceCtorEq, beq_self_eq_true, Bool.true_beq, Bool.false_beq]; repeat ((with_reducible refine leK_refl ?_); simp only [go_sem, vc_block_seq, vc_block_region, vc_block_cond, vc_block_block, Nat.reduceBEq, Nat.reduceAdd, Nat.reduceLeDiff, Nat.reduceEqDiff, Int.reduceAdd, Int.reduceBEq, Int.reduceBNe, reduceCtorEq, beq_self_eq_true, Bool.true_beq, Bool.false_beq]))
  intro b2 b4
  refine vc_range n (fun (_ : PB) => [(5, .v (.bool true))]) (fun g => [(4, ⟨b4, g.enc, 27⟩)]) (fun k g u' => Sub u u' ∧ BR u' 41 g ∧ (es g.l).Perm ((es l).take k)) ⟨41, none, 0, 0, []⟩ (le_chk (by simp only [go_sem, vc_block_seq, vc_block_region, vc_block_cond, vc_block_block, Nat.reduceBEq, Nat.reduceAdd, Nat.reduceLeDiff, Nat.reduceEqDiff, Int.reduceAdd, Int.reduceBEq, Int.reduceBNe, reduceCtorEq, beq_self_eq_true, Bool.true_beq, Bool.false_beq])) ⟨Sub.refl _, br_nil _ _, by simp⟩ (fun _ _ => rfl) (by omega) (fun _ => rfl) ?_ ?_
  · rintro k g u2 hk ⟨hs2, hg, hp⟩
    obtain ⟨x, hx⟩ := exAt hk ll
    have hx8 := h8 x (List.mem_of_getElem? hx)
    have hlen := hp.length_eq
    have hE : bErr (es g.l) ((41 : Nat) : Int) x.g.id = 0 := by
      have h1 : bHas (es g.l) x.g.id = false := by
        rw [perm_ids hp]
        refine bHas_false (fun e he h => ?_)
        obtain ⟨j, hj, rfl⟩ := List.mem_take_iff_getElem.1 he
        have h2 := List.pairwise_iff_getElem.1 hnd j k (by simp [bIds] at hj ⊢; omega) (by simp [bIds]; omega) (by omega)
        have h3 := getEs hx
        obtain ⟨h4, h5⟩ := List.getElem?_eq_some_iff.1 h3
        simp only [bIds, List.getElem_map] at h2 h5 h
        rw [h5] at h2
        exact h2 h
      unfold bErr
      rw [h1, if_neg (by simp), if_neg]
      simp at hlen
      simp
      omega
    (simp only [go_sem, vc_block_seq, vc_block_region, vc_block_cond, vc_block_block, Nat.reduceBEq, Nat.reduceAdd, Nat.reduceLeDiff, Nat.reduceEqDiff, Int.reduceAdd, Int.reduceBEq, Int.reduceBNe, reduceCtorEq, beq_self_eq_true, Bool.true_beq, Bool.false_beq]; repeat ((with_reducible refine leK_refl ?_); simp only [go_sem, vc_block_seq, vc_block_region, vc_block_cond, vc_block_block, Nat.reduceBEq, Nat.reduceAdd, Nat.reduceLeDiff, Nat.reduceEqDiff, Int.reduceAdd, Int.reduceBEq, Int.reduceBNe, reduceCtorEq, beq_self_eq_true, Bool.true_beq, Bool.false_beq]))
    refine ⟨⟨hl.sl.some_ hk, by omega, by omega⟩, ?_⟩
    refine (hl.sl.mono hs2).load (getMap hx) (.inr rfl) (Nat.le_of_ble_eq_true rfl) ?_
    (simp only [go_sem, vc_block_seq, vc_block_region, vc_block_cond, vc_block_block, Nat.reduceBEq, Nat.reduceAdd, Nat.reduceLeDiff, Nat.reduceEqDiff, Int.reduceAdd, Int.reduceBEq, Int.reduceBNe, reduceCtorEq, beq_self_eq_true, Bool.true_beq, Bool.false_beq]; repeat ((with_reducible refine leK_refl ?_); simp only [go_sem, vc_block_seq, vc_block_region, vc_block_cond, vc_block_block, Nat.reduceBEq, Nat.reduceAdd, Nat.reduceLeDiff, Nat.reduceEqDiff, Int.reduceAdd, Int.reduceBEq, Int.reduceBNe, reduceCtorEq, beq_self_eq_true, Bool.true_beq, Bool.false_beq]))
    intro b7
    refine AtCall.of_spec (putR_con g x 41 u2 hg (by omega) ((hl.at_ hx).mono hs2) hx8.1 hx8.2) ?_
    rintro r u3 hs3 ⟨g3, rfl, e3, hg3⟩
    rw [hE]
    (simp only [go_sem, vc_block_seq, vc_block_region, vc_block_cond, vc_block_block, Nat.reduceBEq, Nat.reduceAdd, Nat.reduceLeDiff, Nat.reduceEqDiff, Int.reduceAdd, Int.reduceBEq, Int.reduceBNe, reduceCtorEq, beq_self_eq_true, Bool.true_beq, Bool.false_beq]; repeat ((with_reducible refine leK_refl ?_); simp only [go_sem, vc_block_seq, vc_block_region, vc_block_cond, vc_block_block, Nat.reduceBEq, Nat.reduceAdd, Nat.reduceLeDiff, Nat.reduceEqDiff, Int.reduceAdd, Int.reduceBEq, Int.reduceBNe, reduceCtorEq, beq_self_eq_true, Bool.true_beq, Bool.false_beq]))
    intro b8
    refine ⟨g3, le_chk (by simp only [go_sem, vc_block_seq, vc_block_region, vc_block_cond, vc_block_block, Nat.reduceBEq, Nat.reduceAdd, Nat.reduceLeDiff, Nat.reduceEqDiff, Int.reduceAdd, Int.reduceBEq, Int.reduceBNe, reduceCtorEq, beq_self_eq_true, Bool.true_beq, Bool.false_beq]), hs2.trans hs3, hg3, ?_⟩
    rw [e3, take_succ (getEs hx)]
    exact (put_perm hE).trans ((hp.cons x.g).trans (by simpa using (List.perm_append_comm (l₁ := [x.g]) (l₂ := (es l).take k))))
  rintro g u2 ⟨hs2, hg, hp⟩
  rw [take_all (by simpa using ll)] at hp
  (simp only [go_sem, vc_block_seq, vc_block_region, vc_block_cond, vc_block_block, Nat.reduceBEq, Nat.reduceAdd, Nat.reduceLeDiff, Nat.reduceEqDiff, Int.reduceAdd, Int.reduceBEq, Int.reduceBNe, reduceCtorEq, beq_self_eq_true, Bool.true_beq, Bool.false_beq]; repeat ((with_reducible refine leK_refl ?_); simp only [go_sem, vc_block_seq, vc_block_region, vc_block_cond, vc_block_block, Nat.reduceBEq, Nat.reduceAdd, Nat.reduceLeDiff, Nat.reduceEqDiff, Int.reduceAdd, Int.reduceBEq, Int.reduceBNe, reduceCtorEq, beq_self_eq_true, Bool.true_beq, Bool.false_beq]))
  exact ⟨hs2, g, rfl, hg, hp⟩

set_option maxRecDepth 4000 in
set_option maxHeartbeats 4000000 in
theorem bany_con (l : List PE) (turn : UInt8) (e : PE) (p : Option Addr) (n c : Nat) (u : World) (hl : EL EvK u p n c l) (he : There u (EvK.parts e)) (hn : n ≤ 9223372036854775807) :
    Con Try.prog 5 [.slice p n c, .int .u8 turn.toNat, e.val] u (fun r _ => r = .bool true) := by
  have ll := hl.len
  refine spec_of_vc Ty.mixed Try.func5 rfl (by kernel_rfl) (by kernel_rfl) rfl [.tmp 6] rfl ?_
  (simp only [go_sem, vc_block_seq, vc_block_region, vc_block_cond, vc_block_block, Nat.reduceBEq, Nat.reduceAdd, Nat.reduceLeDiff, Nat.reduceEqDiff, Int.reduceAdd, Int.reduceBEq, Int.reduceBNe, reduceCtorEq, beq_self_eq_true, Bool.true_beq, Bool.false_beq]; repeat ((with_reducible refine leK_refl ?_); simp only [go_sem, vc_block_seq, vc_block_region, vc_block_cond, vc_block_block, Nat.reduceBEq, Nat.reduceAdd, Nat.reduceLeDiff, Nat.reduceEqDiff, Int.reduceAdd, Int.reduceBEq, Int.reduceBNe, reduceCtorEq, beq_self_eq_true, Bool.true_beq, Bool.false_beq]))
  intro b5
  refine AtCall.of_spec (few_con l 40 p n c u hl.sl hn) ?_
  rintro r u1 hs1 ⟨B, rfl, hB⟩
  cases B with
  | false =>
    (simp only [go_sem, vc_block_seq, vc_block_region, vc_block_cond, vc_block_block, Nat.reduceBEq, Nat.reduceAdd, Nat.reduceLeDiff, Nat.reduceEqDiff, Int.reduceAdd, Int.reduceBEq, Int.reduceBNe, reduceCtorEq, beq_self_eq_true, Bool.true_beq, Bool.false_beq]; repeat ((with_reducible refine leK_refl ?_); simp only [go_sem, vc_block_seq, vc_block_region, vc_block_cond, vc_block_block, Nat.reduceBEq, Nat.reduceAdd, Nat.reduceLeDiff, Nat.reduceEqDiff, Int.reduceAdd, Int.reduceBEq, Int.reduceBNe, reduceCtorEq, beq_self_eq_true, Bool.true_beq, Bool.false_beq]))
    refine AtCall.of_spec (bawake_con u1) ?_
    rintro r u2 hs2 rfl
    (simp only [go_sem, vc_block_seq, vc_block_region, vc_block_cond, vc_block_block, Nat.reduceBEq, Nat.reduceAdd, Nat.reduceLeDiff, Nat.reduceEqDiff, Int.reduceAdd, Int.reduceBEq, Int.reduceBNe, reduceCtorEq, beq_self_eq_true, Bool.true_beq, Bool.false_beq]; repeat ((with_reducible refine leK_refl ?_); simp only [go_sem, vc_block_seq, vc_block_region, vc_block_cond, vc_block_block, Nat.reduceBEq, Nat.reduceAdd, Nat.reduceLeDiff, Nat.reduceEqDiff, Int.reduceAdd, Int.reduceBEq, Int.reduceBNe, reduceCtorEq, beq_self_eq_true, Bool.true_beq, Bool.false_beq]))
    exact ⟨hs1.trans hs2, rfl⟩
  | true =>
  have hf := hB rfl
  have hf40 := hf.1
  (simp only [go_sem, vc_block_seq, vc_block_region, vc_block_cond, vc_block_block, Nat.reduceBEq, Nat.reduceAdd, Nat.reduceLeDiff, Nat.reduceEqDiff, Int.reduceAdd, Int.reduceBEq, Int.reduceBNe, reduceCtorEq, beq_self_eq_true, Bool.true_beq, Bool.false_beq]; repeat ((with_reducible refine leK_refl ?_); simp only [go_sem, vc_block_seq, vc_block_region, vc_block_cond, vc_block_block, Nat.reduceBEq, Nat.reduceAdd, Nat.reduceLeDiff, Nat.reduceEqDiff, Int.reduceAdd, Int.reduceBEq, Int.reduceBNe, reduceCtorEq, beq_self_eq_true, Bool.true_beq, Bool.false_beq]))
  refine eff_lit (n := 1) (vs := [e.val]) Ty.el22 rfl rfl (by intro v hv; simp at hv; subst hv; rfl) (by omega) ?_
  intro pe u2 oe se fe
  have oe' : Sl u2 5 pe 1 1 ([e].map PE.enc) := oe.sl
  (simp only [go_sem, vc_block_seq, vc_block_region, vc_block_cond, vc_block_block, Nat.reduceBEq, Nat.reduceAdd, Nat.reduceLeDiff, Nat.reduceEqDiff, Int.reduceAdd, Int.reduceBEq, Int.reduceBNe, reduceCtorEq, beq_self_eq_true, Bool.true_beq, Bool.false_beq]; repeat ((with_reducible refine leK_refl ?_); simp only [go_sem, vc_block_seq, vc_block_region, vc_block_cond, vc_block_block, Nat.reduceBEq, Nat.reduceAdd, Nat.reduceLeDiff, Nat.reduceEqDiff, Int.reduceAdd, Int.reduceBEq, Int.reduceBNe, reduceCtorEq, beq_self_eq_true, Bool.true_beq, Bool.false_beq]))
  refine AtCall.of_spec (few_con [e] 1 pe 1 1 u2 oe' (by omega)) ?_
  rintro r u3 hs3 ⟨B, rfl, hB2⟩
  have hS3 := hs1.trans (se.trans hs3)
  cases B with
  | false =>
    (simp only [go_sem, vc_block_seq, vc_block_region, vc_block_cond, vc_block_block, Nat.reduceBEq, Nat.reduceAdd, Nat.reduceLeDiff, Nat.reduceEqDiff, Int.reduceAdd, Int.reduceBEq, Int.reduceBNe, reduceCtorEq, beq_self_eq_true, Bool.true_beq, Bool.false_beq]; repeat ((with_reducible refine leK_refl ?_); simp only [go_sem, vc_block_seq, vc_block_region, vc_block_cond, vc_block_block, Nat.reduceBEq, Nat.reduceAdd, Nat.reduceLeDiff, Nat.reduceEqDiff, Int.reduceAdd, Int.reduceBEq, Int.reduceBNe, reduceCtorEq, beq_self_eq_true, Bool.true_beq, Bool.false_beq]))
    refine AtCall.of_spec (bawake_con u3) ?_
    rintro r u4 hs4 rfl
    (simp only [go_sem, vc_block_seq, vc_block_region, vc_block_cond, vc_block_block, Nat.reduceBEq, Nat.reduceAdd, Nat.reduceLeDiff, Nat.reduceEqDiff, Int.reduceAdd, Int.reduceBEq, Int.reduceBNe, reduceCtorEq, beq_self_eq_true, Bool.true_beq, Bool.false_beq]; repeat ((with_reducible refine leK_refl ?_); simp only [go_sem, vc_block_seq, vc_block_region, vc_block_cond, vc_block_block, Nat.reduceBEq, Nat.reduceAdd, Nat.reduceLeDiff, Nat.reduceEqDiff, Int.reduceAdd, Int.reduceBEq, Int.reduceBNe, reduceCtorEq, beq_self_eq_true, Bool.true_beq, Bool.false_beq]))
    exact ⟨hS3.trans hs4, rfl⟩
  | true =>
  have he8 := (hB2 rfl).2 e (by simp)
  (simp only [go_sem, vc_block_seq, vc_block_region, vc_block_cond, vc_block_block, Nat.reduceBEq, Nat.reduceAdd, Nat.reduceLeDiff, Nat.reduceEqDiff, Int.reduceAdd, Int.reduceBEq, Int.reduceBNe, reduceCtorEq, beq_self_eq_true, Bool.true_beq, Bool.false_beq]; repeat ((with_reducible refine leK_refl ?_); simp only [go_sem, vc_block_seq, vc_block_region, vc_block_cond, vc_block_block, Nat.reduceBEq, Nat.reduceAdd, Nat.reduceLeDiff, Nat.reduceEqDiff, Int.reduceAdd, Int.reduceBEq, Int.reduceBNe, reduceCtorEq, beq_self_eq_true, Bool.true_beq, Bool.false_beq]))
  refine vc_range n (fun (g : Option Addr × Nat × Nat) => [(7, .v (.slice g.1 g.2.1 g.2.2))]) (fun _ => []) (fun k g u' => Sub u3 u' ∧ g.2.1 = k ∧ FreshP u3 g.1 ∧ Own u u' 30 3 g.1 g.2.1 g.2.2 ((bIds ((es l).take k)).map GID.enc) ∧ (bIds ((es l).take k)).Nodup) (none, 0, 0) (le_chk (by simp only [go_sem, vc_block_seq, vc_block_region, vc_block_cond, vc_block_block, Nat.reduceBEq, Nat.reduceAdd, Nat.reduceLeDiff, Nat.reduceEqDiff, Int.reduceAdd, Int.reduceBEq, Int.reduceBNe, reduceCtorEq, beq_self_eq_true, Bool.true_beq, Bool.false_beq])) ⟨Sub.refl _, rfl, (fun a h => by cases h), Own.nil_ _ _ _ _, by simp [bIds]⟩ (fun _ _ => rfl) (by omega) (fun _ => rfl) ?_ ?_
  · rintro k ⟨q, m, d⟩ u4 hk ⟨hs4, hmk, hfr, o1, hnd⟩
    simp only at hmk hfr o1
    subst hmk
    obtain ⟨x, hx⟩ := exAt hk ll
    (simp only [go_sem, vc_block_seq, vc_block_region, vc_block_cond, vc_block_block, Nat.reduceBEq, Nat.reduceAdd, Nat.reduceLeDiff, Nat.reduceEqDiff, Int.reduceAdd, Int.reduceBEq, Int.reduceBNe, reduceCtorEq, beq_self_eq_true, Bool.true_beq, Bool.false_beq]; repeat ((with_reducible refine leK_refl ?_); simp only [go_sem, vc_block_seq, vc_block_region, vc_block_cond, vc_block_block, Nat.reduceBEq, Nat.reduceAdd, Nat.reduceLeDiff, Nat.reduceEqDiff, Int.reduceAdd, Int.reduceBEq, Int.reduceBNe, reduceCtorEq, beq_self_eq_true, Bool.true_beq, Bool.false_beq]))
    refine ⟨⟨hl.sl.some_ hk, by omega, by omega⟩, ?_⟩
    refine (hl.sl.mono (hS3.trans hs4)).load (getMap hx) (.inr rfl) (Nat.le_of_ble_eq_true rfl) ?_
    (simp only [go_sem, vc_block_seq, vc_block_region, vc_block_cond, vc_block_block, Nat.reduceBEq, Nat.reduceAdd, Nat.reduceLeDiff, Nat.reduceEqDiff, Int.reduceAdd, Int.reduceBEq, Int.reduceBNe, reduceCtorEq, beq_self_eq_true, Bool.true_beq, Bool.false_beq]; repeat ((with_reducible refine leK_refl ?_); simp only [go_sem, vc_block_seq, vc_block_region, vc_block_cond, vc_block_block, Nat.reduceBEq, Nat.reduceAdd, Nat.reduceLeDiff, Nat.reduceEqDiff, Int.reduceAdd, Int.reduceBEq, Int.reduceBNe, reduceCtorEq, beq_self_eq_true, Bool.true_beq, Bool.false_beq]))
    intro b9
    refine AtCall.of_spec (ihas_con (bIds ((es l).take m)) x.g.id q m d u4 o1.sl (by omega)) ?_
    rintro r u5 hs5 rfl
    generalize hH : iHas (bIds ((es l).take m)) x.g.id = H
    cases H with
    | true =>
      (simp only [go_sem, vc_block_seq, vc_block_region, vc_block_cond, vc_block_block, Nat.reduceBEq, Nat.reduceAdd, Nat.reduceLeDiff, Nat.reduceEqDiff, Int.reduceAdd, Int.reduceBEq, Int.reduceBNe, reduceCtorEq, beq_self_eq_true, Bool.true_beq, Bool.false_beq]; repeat ((with_reducible refine leK_refl ?_); simp only [go_sem, vc_block_seq, vc_block_region, vc_block_cond, vc_block_block, Nat.reduceBEq, Nat.reduceAdd, Nat.reduceLeDiff, Nat.reduceEqDiff, Int.reduceAdd, Int.reduceBEq, Int.reduceBNe, reduceCtorEq, beq_self_eq_true, Bool.true_beq, Bool.false_beq]))
      refine AtCall.of_spec (bawake_con u5) ?_
      rintro r u6 hs6 rfl
      (simp only [go_sem, vc_block_seq, vc_block_region, vc_block_cond, vc_block_block, Nat.reduceBEq, Nat.reduceAdd, Nat.reduceLeDiff, Nat.reduceEqDiff, Int.reduceAdd, Int.reduceBEq, Int.reduceBNe, reduceCtorEq, beq_self_eq_true, Bool.true_beq, Bool.false_beq]; repeat ((with_reducible refine leK_refl ?_); simp only [go_sem, vc_block_seq, vc_block_region, vc_block_cond, vc_block_block, Nat.reduceBEq, Nat.reduceAdd, Nat.reduceLeDiff, Nat.reduceEqDiff, Int.reduceAdd, Int.reduceBEq, Int.reduceBNe, reduceCtorEq, beq_self_eq_true, Bool.true_beq, Bool.false_beq]))
      exact ⟨hS3.trans (hs4.trans (hs5.trans hs6)), rfl⟩
    | false =>
    (simp only [go_sem, vc_block_seq, vc_block_region, vc_block_cond, vc_block_block, Nat.reduceBEq, Nat.reduceAdd, Nat.reduceLeDiff, Nat.reduceEqDiff, Int.reduceAdd, Int.reduceBEq, Int.reduceBNe, reduceCtorEq, beq_self_eq_true, Bool.true_beq, Bool.false_beq]; repeat ((with_reducible refine leK_refl ?_); simp only [go_sem, vc_block_seq, vc_block_region, vc_block_cond, vc_block_block, Nat.reduceBEq, Nat.reduceAdd, Nat.reduceLeDiff, Nat.reduceEqDiff, Int.reduceAdd, Int.reduceBEq, Int.reduceBNe, reduceCtorEq, beq_self_eq_true, Bool.true_beq, Bool.false_beq]))
    refine eff_lit (n := 1) (vs := [x.g.id.val]) Ty.el38 rfl rfl (by intro v hv; simp at hv; subst hv; rfl) (by omega) ?_
    intro pv u6 hov hs6 hfv
    (simp only [go_sem, vc_block_seq, vc_block_region, vc_block_cond, vc_block_block, Nat.reduceBEq, Nat.reduceAdd, Nat.reduceLeDiff, Nat.reduceEqDiff, Int.reduceAdd, Int.reduceBEq, Int.reduceBNe, reduceCtorEq, beq_self_eq_true, Bool.true_beq, Bool.false_beq]; repeat ((with_reducible refine leK_refl ?_); simp only [go_sem, vc_block_seq, vc_block_region, vc_block_cond, vc_block_block, Nat.reduceBEq, Nat.reduceAdd, Nat.reduceLeDiff, Nat.reduceEqDiff, Int.reduceAdd, Int.reduceBEq, Int.reduceBNe, reduceCtorEq, beq_self_eq_true, Bool.true_beq, Bool.false_beq]))
    refine eff_append Ty.el38 (o1.mono (hs5.trans hs6)) hov.sl (by intro y hy; simp at hy; subst hy; rfl) (by omega) (by omega) ?_
    intro p4 c4 u7 o4 x4 y4
    (simp only [go_sem, vc_block_seq, vc_block_region, vc_block_cond, vc_block_block, Nat.reduceBEq, Nat.reduceAdd, Nat.reduceLeDiff, Nat.reduceEqDiff, Int.reduceAdd, Int.reduceBEq, Int.reduceBNe, reduceCtorEq, beq_self_eq_true, Bool.true_beq, Bool.false_beq]; repeat ((with_reducible refine leK_refl ?_); simp only [go_sem, vc_block_seq, vc_block_region, vc_block_cond, vc_block_block, Nat.reduceBEq, Nat.reduceAdd, Nat.reduceLeDiff, Nat.reduceEqDiff, Int.reduceAdd, Int.reduceBEq, Int.reduceBNe, reduceCtorEq, beq_self_eq_true, Bool.true_beq, Bool.false_beq]))
    refine ⟨(p4, m + 1, c4), le_chk (by simp only [go_sem, vc_block_seq, vc_block_region, vc_block_cond, vc_block_block, Nat.reduceBEq, Nat.reduceAdd, Nat.reduceLeDiff, Nat.reduceEqDiff, Int.reduceAdd, Int.reduceBEq, Int.reduceBNe, reduceCtorEq, beq_self_eq_true, Bool.true_beq, Bool.false_beq]), x4.sub (hs4.trans (hs5.trans hs6)) hfr, rfl, freshP_app y4 hfr (hs4.trans (hs5.trans hs6)), ?_, ?_⟩
    · rw [take_succ (getEs hx), bIds, List.map_append, List.map_append]
      exact o4
    · rw [take_succ (getEs hx), bIds, List.map_append, List.nodup_append]
      refine ⟨hnd, by simp, fun a ha b hb => ?_⟩
      simp at hb
      subst hb
      intro e
      rw [ids_has] at hH
      obtain ⟨z, hz, rfl⟩ := List.mem_map.1 ha
      exact bHas_not hH z hz e
  rintro ⟨q, m, d⟩ u4 ⟨hs4, hmk, hfr, o1, hnd⟩
  simp only at hmk o1
  subst hmk
  rw [take_all (by simpa using ll)] at o1 hnd
  replace o1 := o1.sl
  have hS4 := hS3.trans hs4
  replace hl := hl.mono hS4
  replace he := he.mono hS4
  clear hs4 hfr hS3 hs3 se hs1 oe' oe fe
  (simp only [go_sem, vc_block_seq, vc_block_region, vc_block_cond, vc_block_block, Nat.reduceBEq, Nat.reduceAdd, Nat.reduceLeDiff, Nat.reduceEqDiff, Int.reduceAdd, Int.reduceBEq, Int.reduceBNe, reduceCtorEq, beq_self_eq_true, Bool.true_beq, Bool.false_beq]; repeat ((with_reducible refine leK_refl ?_); simp only [go_sem, vc_block_seq, vc_block_region, vc_block_cond, vc_block_block, Nat.reduceBEq, Nat.reduceAdd, Nat.reduceLeDiff, Nat.reduceEqDiff, Int.reduceAdd, Int.reduceBEq, Int.reduceBNe, reduceCtorEq, beq_self_eq_true, Bool.true_beq, Bool.false_beq]))
  rw [arith_i64 (by have := turn.toNat_lt; omega)]
  (simp only [go_sem, vc_block_seq, vc_block_region, vc_block_cond, vc_block_block, Nat.reduceBEq, Nat.reduceAdd, Nat.reduceLeDiff, Nat.reduceEqDiff, Int.reduceAdd, Int.reduceBEq, Int.reduceBNe, reduceCtorEq, beq_self_eq_true, Bool.true_beq, Bool.false_beq]; repeat ((with_reducible refine leK_refl ?_); simp only [go_sem, vc_block_seq, vc_block_region, vc_block_cond, vc_block_block, Nat.reduceBEq, Nat.reduceAdd, Nat.reduceLeDiff, Nat.reduceEqDiff, Int.reduceAdd, Int.reduceBEq, Int.reduceBNe, reduceCtorEq, beq_self_eq_true, Bool.true_beq, Bool.false_beq]))
  rw [arith_i64 (by omega)]
  (simp only [go_sem, vc_block_seq, vc_block_region, vc_block_cond, vc_block_block, Nat.reduceBEq, Nat.reduceAdd, Nat.reduceLeDiff, Nat.reduceEqDiff, Int.reduceAdd, Int.reduceBEq, Int.reduceBNe, reduceCtorEq, beq_self_eq_true, Bool.true_beq, Bool.false_beq]; repeat ((with_reducible refine leK_refl ?_); simp only [go_sem, vc_block_seq, vc_block_region, vc_block_cond, vc_block_block, Nat.reduceBEq, Nat.reduceAdd, Nat.reduceLeDiff, Nat.reduceEqDiff, Int.reduceAdd, Int.reduceBEq, Int.reduceBNe, reduceCtorEq, beq_self_eq_true, Bool.true_beq, Bool.false_beq]))
  rw [bin_remN (a := turn.toNat) (b := m + 1) rfl (by omega) (by omega)]
  have hk0 : turn.toNat % (m + 1) ≤ m := by have := Nat.mod_lt turn.toNat (show 0 < m + 1 by omega); omega
  generalize turn.toNat % (m + 1) = k0 at hk0
  (simp only [go_sem, vc_block_seq, vc_block_region, vc_block_cond, vc_block_block, Nat.reduceBEq, Nat.reduceAdd, Nat.reduceLeDiff, Nat.reduceEqDiff, Int.reduceAdd, Int.reduceBEq, Int.reduceBNe, reduceCtorEq, beq_self_eq_true, Bool.true_beq, Bool.false_beq]; repeat ((with_reducible refine leK_refl ?_); simp only [go_sem, vc_block_seq, vc_block_region, vc_block_cond, vc_block_block, Nat.reduceBEq, Nat.reduceAdd, Nat.reduceLeDiff, Nat.reduceEqDiff, Int.reduceAdd, Int.reduceBEq, Int.reduceBNe, reduceCtorEq, beq_self_eq_true, Bool.true_beq, Bool.false_beq]))
  refine AtCall.of_spec (filled_con l p m c u4 hl (by omega) hf.2 hnd) ?_
  rintro r u5 hs5 ⟨a, rfl, ha, hpa⟩
  replace hl := hl.mono hs5
  replace he := he.mono hs5
  replace o1 := o1.mono hs5
  replace hS4 := hS4.trans hs5
  clear hs5
  have hcap := hl.sl.cap
  (simp only [go_sem, vc_block_seq, vc_block_region, vc_block_cond, vc_block_block, Nat.reduceBEq, Nat.reduceAdd, Nat.reduceLeDiff, Nat.reduceEqDiff, Int.reduceAdd, Int.reduceBEq, Int.reduceBNe, reduceCtorEq, beq_self_eq_true, Bool.true_beq, Bool.false_beq]; repeat ((with_reducible refine leK_refl ?_); simp only [go_sem, vc_block_seq, vc_block_region, vc_block_cond, vc_block_block, Nat.reduceBEq, Nat.reduceAdd, Nat.reduceLeDiff, Nat.reduceEqDiff, Int.reduceAdd, Int.reduceBEq, Int.reduceBNe, reduceCtorEq, beq_self_eq_true, Bool.true_beq, Bool.false_beq]))
  intro b12
  refine draw_treeL (.fl 0 (.fl 2 (.fl 3 (.fl 6 (.fl 7 (.fl 4 (.fl 8 (.eff 1 false (.eff 5 false (.eff 9 false (.eff 10 false (.fl 11 (.fl 12 (.fl 13 (.eff 14 false (.eff 15 false (.fl 16 .done) .no) .no)))) (.eff 14 false (.eff 10 false (.fl 11 (.fl 12 (.fl 13 (.eff 15 false (.fl 16 .done) .no)))) .no) .no)) (.eff 14 false (.eff 9 false (.eff 10 false (.fl 11 (.fl 12 (.fl 13 (.eff 15 false (.fl 16 .done) .no)))) .no) .no) .no)) (.eff 14 false (.eff 5 false (.eff 9 false (.eff 10 false (.fl 11 (.fl 12 (.fl 13 (.eff 15 false (.fl 16 .done) .no)))) .no) .no) .no) .no)) (.eff 14 false (.eff 1 false (.eff 5 false (.eff 9 false (.eff 10 false (.fl 11 (.fl 12 (.fl 13 (.eff 15 false (.fl 16 .done) .no)))) .no) .no) .no) .no) .no))))))))) (by kernel_rfl) (fun (g : PB × Nat) => [(15, .v (.bool true)), (14, .loc 14 0)]) (fun g => [(14, ⟨g.2, g.1.enc, 27⟩)]) (fun g u' => Sub u5 u' ∧ BR u' 41 g.1 ∧ (es g.1.l).Perm (es l)) ?_ ?_
  · (simp only [go_sem, vc_block_seq, vc_block_region, vc_block_cond, vc_block_block, Nat.reduceBEq, Nat.reduceAdd, Nat.reduceLeDiff, Nat.reduceEqDiff, Int.reduceAdd, Int.reduceBEq, Int.reduceBNe, reduceCtorEq, beq_self_eq_true, Bool.true_beq, Bool.false_beq]; repeat ((with_reducible refine leK_refl ?_); simp only [go_sem, vc_block_seq, vc_block_region, vc_block_cond, vc_block_block, Nat.reduceBEq, Nat.reduceAdd, Nat.reduceLeDiff, Nat.reduceEqDiff, Int.reduceAdd, Int.reduceBEq, Int.reduceBNe, reduceCtorEq, beq_self_eq_true, Bool.true_beq, Bool.false_beq]))
    rw [slice_fromN (k0 := k0) Ty.el22 rfl (by omega)]
    (simp only [go_sem, vc_block_seq, vc_block_region, vc_block_cond, vc_block_block, Nat.reduceBEq, Nat.reduceAdd, Nat.reduceLeDiff, Nat.reduceEqDiff, Int.reduceAdd, Int.reduceBEq, Int.reduceBNe, reduceCtorEq, beq_self_eq_true, Bool.true_beq, Bool.false_beq]; repeat ((with_reducible refine leK_refl ?_); simp only [go_sem, vc_block_seq, vc_block_region, vc_block_cond, vc_block_block, Nat.reduceBEq, Nat.reduceAdd, Nat.reduceLeDiff, Nat.reduceEqDiff, Int.reduceAdd, Int.reduceBEq, Int.reduceBNe, reduceCtorEq, beq_self_eq_true, Bool.true_beq, Bool.false_beq]))
    rw [slice_toN (k0 := k0) Ty.el22 rfl (by omega)]
    (simp only [go_sem, vc_block_seq, vc_block_region, vc_block_cond, vc_block_block, Nat.reduceBEq, Nat.reduceAdd, Nat.reduceLeDiff, Nat.reduceEqDiff, Int.reduceAdd, Int.reduceBEq, Int.reduceBNe, reduceCtorEq, beq_self_eq_true, Bool.true_beq, Bool.false_beq]; repeat ((with_reducible refine leK_refl ?_); simp only [go_sem, vc_block_seq, vc_block_region, vc_block_cond, vc_block_block, Nat.reduceBEq, Nat.reduceAdd, Nat.reduceLeDiff, Nat.reduceEqDiff, Int.reduceAdd, Int.reduceBEq, Int.reduceBNe, reduceCtorEq, beq_self_eq_true, Bool.true_beq, Bool.false_beq]))
    have hT := Sub.refl u5
    have hD := hl.sl.drop (l := k0) (by omega)
    have hE := hl.sl.take (k := k0) (by omega)
    rw [← List.map_drop] at hD
    rw [← List.map_take] at hE
    refine ⟨?_, ?_⟩
    · refine eff_lit (n := 0) (vs := []) Ty.el22 rfl rfl (by simp) (by omega) ?_
      intro q1 w1 o6 t1 f1
      replace f1 := f1.anti hT
      replace hT := hT.trans t1
      (simp only [go_sem, vc_block_seq, vc_block_region, vc_block_cond, vc_block_block, Nat.reduceBEq, Nat.reduceAdd, Nat.reduceLeDiff, Nat.reduceEqDiff, Int.reduceAdd, Int.reduceBEq, Int.reduceBNe, reduceCtorEq, beq_self_eq_true, Bool.true_beq, Bool.false_beq]; repeat ((with_reducible refine leK_refl ?_); simp only [go_sem, vc_block_seq, vc_block_region, vc_block_cond, vc_block_block, Nat.reduceBEq, Nat.reduceAdd, Nat.reduceLeDiff, Nat.reduceEqDiff, Int.reduceAdd, Int.reduceBEq, Int.reduceBNe, reduceCtorEq, beq_self_eq_true, Bool.true_beq, Bool.false_beq]))
      refine ⟨?_, ?_⟩
      · refine eff_append Ty.el22 o6 (hD.mono hT) (PE.ones _) (by omega) (by omega) ?_
        intro q2 d2 w2 o7 x2 y2
        simp only [Nat.zero_add] at o7
        have f2 := freshP_app y2 f1 hT
        replace hT := x2.sub hT f1
        (simp only [go_sem, vc_block_seq, vc_block_region, vc_block_cond, vc_block_block, Nat.reduceBEq, Nat.reduceAdd, Nat.reduceLeDiff, Nat.reduceEqDiff, Int.reduceAdd, Int.reduceBEq, Int.reduceBNe, reduceCtorEq, beq_self_eq_true, Bool.true_beq, Bool.false_beq]; repeat ((with_reducible refine leK_refl ?_); simp only [go_sem, vc_block_seq, vc_block_region, vc_block_cond, vc_block_block, Nat.reduceBEq, Nat.reduceAdd, Nat.reduceLeDiff, Nat.reduceEqDiff, Int.reduceAdd, Int.reduceBEq, Int.reduceBNe, reduceCtorEq, beq_self_eq_true, Bool.true_beq, Bool.false_beq]))
        refine ⟨?_, ?_⟩
        · refine eff_append Ty.el22 o7 (hE.mono hT) (PE.ones _) (by omega) (by omega) ?_
          intro q3 d3 w3 o8 x3 y3
          replace hT := x3.sub hT f2
          (simp only [go_sem, vc_block_seq, vc_block_region, vc_block_cond, vc_block_block, Nat.reduceBEq, Nat.reduceAdd, Nat.reduceLeDiff, Nat.reduceEqDiff, Int.reduceAdd, Int.reduceBEq, Int.reduceBNe, reduceCtorEq, beq_self_eq_true, Bool.true_beq, Bool.false_beq]; repeat ((with_reducible refine leK_refl ?_); simp only [go_sem, vc_block_seq, vc_block_region, vc_block_cond, vc_block_block, Nat.reduceBEq, Nat.reduceAdd, Nat.reduceLeDiff, Nat.reduceEqDiff, Int.reduceAdd, Int.reduceBEq, Int.reduceBNe, reduceCtorEq, beq_self_eq_true, Bool.true_beq, Bool.false_beq]))
          refine ⟨?_, ?_⟩
          · have o9 : Sl w3 5 q3 m d3 ((l.drop k0 ++ l.take k0).map PE.enc) := by
              have h := o8.sl
              rw [show (m - k0) + k0 = m by omega] at h
              simpa using h
            rw [show (m - k0) + k0 = m by omega]
            refine AtCall.of_spec (filled_con (l.drop k0 ++ l.take k0) q3 m d3 _ ⟨o9.mono ?_, ?_⟩ (by omega) ?_ ?_) ?_
            · exact Sub.refl _
            · intro x hx
              rcases List.mem_append.1 hx with hx | hx
              · exact (hl.fl x (List.mem_of_mem_drop hx)).mono hT
              · exact (hl.fl x (List.mem_of_mem_take hx)).mono hT
            · intro x hx
              rcases List.mem_append.1 hx with hx | hx
              · exact hf.2 x (List.mem_of_mem_drop hx)
              · exact hf.2 x (List.mem_of_mem_take hx)
            · have hpl : (bIds (es (l.drop k0 ++ l.take k0))).Perm (bIds (es l)) := by
                unfold bIds es
                refine List.Perm.map _ (List.Perm.map _ ?_)
                exact List.perm_append_comm.trans (by rw [List.take_append_drop])
              exact (hpl.nodup_iff).2 hnd
            rintro r w4 t4 ⟨b, rfl, hb, hpb⟩
            replace hT := hT.trans t4
            replace hpb : (es b.l).Perm (es l) := hpb.trans (by
              unfold es
              refine List.Perm.map _ ?_
              exact List.perm_append_comm.trans (by rw [List.take_append_drop]))
            (simp only [go_sem, vc_block_seq, vc_block_region, vc_block_cond, vc_block_block, Nat.reduceBEq, Nat.reduceAdd, Nat.reduceLeDiff, Nat.reduceEqDiff, Int.reduceAdd, Int.reduceBEq, Int.reduceBNe, reduceCtorEq, beq_self_eq_true, Bool.true_beq, Bool.false_beq]; repeat ((with_reducible refine leK_refl ?_); simp only [go_sem, vc_block_seq, vc_block_region, vc_block_cond, vc_block_block, Nat.reduceBEq, Nat.reduceAdd, Nat.reduceLeDiff, Nat.reduceEqDiff, Int.reduceAdd, Int.reduceBEq, Int.reduceBNe, reduceCtorEq, beq_self_eq_true, Bool.true_beq, Bool.false_beq]))
            intro b14
            exact ⟨(b, b14), le_chk (by simp only [go_sem, vc_block_seq, vc_block_region, vc_block_cond, vc_block_block, Nat.reduceBEq, Nat.reduceAdd, Nat.reduceLeDiff, Nat.reduceEqDiff, Int.reduceAdd, Int.reduceBEq, Int.reduceBNe, reduceCtorEq, beq_self_eq_true, Bool.true_beq, Bool.false_beq]), hT, hb, hpb⟩
          · intro b14
            have o9 : Sl w3 5 q3 m d3 ((l.drop k0 ++ l.take k0).map PE.enc) := by
              have h := o8.sl
              rw [show (m - k0) + k0 = m by omega] at h
              simpa using h
            rw [show (m - k0) + k0 = m by omega]
            refine AtCall.of_spec (filled_con (l.drop k0 ++ l.take k0) q3 m d3 _ ⟨o9.mono ?_, ?_⟩ (by omega) ?_ ?_) ?_
            · exact Sub.refl _
            · intro x hx
              rcases List.mem_append.1 hx with hx | hx
              · exact (hl.fl x (List.mem_of_mem_drop hx)).mono hT
              · exact (hl.fl x (List.mem_of_mem_take hx)).mono hT
            · intro x hx
              rcases List.mem_append.1 hx with hx | hx
              · exact hf.2 x (List.mem_of_mem_drop hx)
              · exact hf.2 x (List.mem_of_mem_take hx)
            · have hpl : (bIds (es (l.drop k0 ++ l.take k0))).Perm (bIds (es l)) := by
                unfold bIds es
                refine List.Perm.map _ (List.Perm.map _ ?_)
                exact List.perm_append_comm.trans (by rw [List.take_append_drop])
              exact (hpl.nodup_iff).2 hnd
            rintro r w4 t4 ⟨b, rfl, hb, hpb⟩
            replace hT := hT.trans t4
            replace hpb : (es b.l).Perm (es l) := hpb.trans (by
              unfold es
              refine List.Perm.map _ ?_
              exact List.perm_append_comm.trans (by rw [List.take_append_drop]))
            (simp only [go_sem, vc_block_seq, vc_block_region, vc_block_cond, vc_block_block, Nat.reduceBEq, Nat.reduceAdd, Nat.reduceLeDiff, Nat.reduceEqDiff, Int.reduceAdd, Int.reduceBEq, Int.reduceBNe, reduceCtorEq, beq_self_eq_true, Bool.true_beq, Bool.false_beq]; repeat ((with_reducible refine leK_refl ?_); simp only [go_sem, vc_block_seq, vc_block_region, vc_block_cond, vc_block_block, Nat.reduceBEq, Nat.reduceAdd, Nat.reduceLeDiff, Nat.reduceEqDiff, Int.reduceAdd, Int.reduceBEq, Int.reduceBNe, reduceCtorEq, beq_self_eq_true, Bool.true_beq, Bool.false_beq]))
            exact ⟨(b, b14), le_chk (by simp only [go_sem, vc_block_seq, vc_block_region, vc_block_cond, vc_block_block, Nat.reduceBEq, Nat.reduceAdd, Nat.reduceLeDiff, Nat.reduceEqDiff, Int.reduceAdd, Int.reduceBEq, Int.reduceBNe, reduceCtorEq, beq_self_eq_true, Bool.true_beq, Bool.false_beq]), hT, hb, hpb⟩
        · intro b14
          refine eff_append Ty.el22 o7 (hE.mono hT) (PE.ones _) (by omega) (by omega) ?_
          intro q3 d3 w3 o8 x3 y3
          replace hT := x3.sub hT f2
          (simp only [go_sem, vc_block_seq, vc_block_region, vc_block_cond, vc_block_block, Nat.reduceBEq, Nat.reduceAdd, Nat.reduceLeDiff, Nat.reduceEqDiff, Int.reduceAdd, Int.reduceBEq, Int.reduceBNe, reduceCtorEq, beq_self_eq_true, Bool.true_beq, Bool.false_beq]; repeat ((with_reducible refine leK_refl ?_); simp only [go_sem, vc_block_seq, vc_block_region, vc_block_cond, vc_block_block, Nat.reduceBEq, Nat.reduceAdd, Nat.reduceLeDiff, Nat.reduceEqDiff, Int.reduceAdd, Int.reduceBEq, Int.reduceBNe, reduceCtorEq, beq_self_eq_true, Bool.true_beq, Bool.false_beq]))
          have o9 : Sl w3 5 q3 m d3 ((l.drop k0 ++ l.take k0).map PE.enc) := by
            have h := o8.sl
            rw [show (m - k0) + k0 = m by omega] at h
            simpa using h
          rw [show (m - k0) + k0 = m by omega]
          refine AtCall.of_spec (filled_con (l.drop k0 ++ l.take k0) q3 m d3 _ ⟨o9.mono ?_, ?_⟩ (by omega) ?_ ?_) ?_
          · exact Sub.refl _
          · intro x hx
            rcases List.mem_append.1 hx with hx | hx
            · exact (hl.fl x (List.mem_of_mem_drop hx)).mono hT
            · exact (hl.fl x (List.mem_of_mem_take hx)).mono hT
          · intro x hx
            rcases List.mem_append.1 hx with hx | hx
            · exact hf.2 x (List.mem_of_mem_drop hx)
            · exact hf.2 x (List.mem_of_mem_take hx)
          · have hpl : (bIds (es (l.drop k0 ++ l.take k0))).Perm (bIds (es l)) := by
              unfold bIds es
              refine List.Perm.map _ (List.Perm.map _ ?_)
              exact List.perm_append_comm.trans (by rw [List.take_append_drop])
            exact (hpl.nodup_iff).2 hnd
          rintro r w4 t4 ⟨b, rfl, hb, hpb⟩
          replace hT := hT.trans t4
          replace hpb : (es b.l).Perm (es l) := hpb.trans (by
            unfold es
            refine List.Perm.map _ ?_
            exact List.perm_append_comm.trans (by rw [List.take_append_drop]))
          (simp only [go_sem, vc_block_seq, vc_block_region, vc_block_cond, vc_block_block, Nat.reduceBEq, Nat.reduceAdd, Nat.reduceLeDiff, Nat.reduceEqDiff, Int.reduceAdd, Int.reduceBEq, Int.reduceBNe, reduceCtorEq, beq_self_eq_true, Bool.true_beq, Bool.false_beq]; repeat ((with_reducible refine leK_refl ?_); simp only [go_sem, vc_block_seq, vc_block_region, vc_block_cond, vc_block_block, Nat.reduceBEq, Nat.reduceAdd, Nat.reduceLeDiff, Nat.reduceEqDiff, Int.reduceAdd, Int.reduceBEq, Int.reduceBNe, reduceCtorEq, beq_self_eq_true, Bool.true_beq, Bool.false_beq]))
          exact ⟨(b, b14), le_chk (by simp only [go_sem, vc_block_seq, vc_block_region, vc_block_cond, vc_block_block, Nat.reduceBEq, Nat.reduceAdd, Nat.reduceLeDiff, Nat.reduceEqDiff, Int.reduceAdd, Int.reduceBEq, Int.reduceBNe, reduceCtorEq, beq_self_eq_true, Bool.true_beq, Bool.false_beq]), hT, hb, hpb⟩
      · intro b14
        refine eff_append Ty.el22 o6 (hD.mono hT) (PE.ones _) (by omega) (by omega) ?_
        intro q2 d2 w2 o7 x2 y2
        simp only [Nat.zero_add] at o7
        have f2 := freshP_app y2 f1 hT
        replace hT := x2.sub hT f1
        (simp only [go_sem, vc_block_seq, vc_block_region, vc_block_cond, vc_block_block, Nat.reduceBEq, Nat.reduceAdd, Nat.reduceLeDiff, Nat.reduceEqDiff, Int.reduceAdd, Int.reduceBEq, Int.reduceBNe, reduceCtorEq, beq_self_eq_true, Bool.true_beq, Bool.false_beq]; repeat ((with_reducible refine leK_refl ?_); simp only [go_sem, vc_block_seq, vc_block_region, vc_block_cond, vc_block_block, Nat.reduceBEq, Nat.reduceAdd, Nat.reduceLeDiff, Nat.reduceEqDiff, Int.reduceAdd, Int.reduceBEq, Int.reduceBNe, reduceCtorEq, beq_self_eq_true, Bool.true_beq, Bool.false_beq]))
        refine eff_append Ty.el22 o7 (hE.mono hT) (PE.ones _) (by omega) (by omega) ?_
        intro q3 d3 w3 o8 x3 y3
        replace hT := x3.sub hT f2
        (simp only [go_sem, vc_block_seq, vc_block_region, vc_block_cond, vc_block_block, Nat.reduceBEq, Nat.reduceAdd, Nat.reduceLeDiff, Nat.reduceEqDiff, Int.reduceAdd, Int.reduceBEq, Int.reduceBNe, reduceCtorEq, beq_self_eq_true, Bool.true_beq, Bool.false_beq]; repeat ((with_reducible refine leK_refl ?_); simp only [go_sem, vc_block_seq, vc_block_region, vc_block_cond, vc_block_block, Nat.reduceBEq, Nat.reduceAdd, Nat.reduceLeDiff, Nat.reduceEqDiff, Int.reduceAdd, Int.reduceBEq, Int.reduceBNe, reduceCtorEq, beq_self_eq_true, Bool.true_beq, Bool.false_beq]))
        have o9 : Sl w3 5 q3 m d3 ((l.drop k0 ++ l.take k0).map PE.enc) := by
          have h := o8.sl
          rw [show (m - k0) + k0 = m by omega] at h
          simpa using h
        rw [show (m - k0) + k0 = m by omega]
        refine AtCall.of_spec (filled_con (l.drop k0 ++ l.take k0) q3 m d3 _ ⟨o9.mono ?_, ?_⟩ (by omega) ?_ ?_) ?_
        · exact Sub.refl _
        · intro x hx
          rcases List.mem_append.1 hx with hx | hx
          · exact (hl.fl x (List.mem_of_mem_drop hx)).mono hT
          · exact (hl.fl x (List.mem_of_mem_take hx)).mono hT
        · intro x hx
          rcases List.mem_append.1 hx with hx | hx
          · exact hf.2 x (List.mem_of_mem_drop hx)
          · exact hf.2 x (List.mem_of_mem_take hx)
        · have hpl : (bIds (es (l.drop k0 ++ l.take k0))).Perm (bIds (es l)) := by
            unfold bIds es
            refine List.Perm.map _ (List.Perm.map _ ?_)
            exact List.perm_append_comm.trans (by rw [List.take_append_drop])
          exact (hpl.nodup_iff).2 hnd
        rintro r w4 t4 ⟨b, rfl, hb, hpb⟩
        replace hT := hT.trans t4
        replace hpb : (es b.l).Perm (es l) := hpb.trans (by
          unfold es
          refine List.Perm.map _ ?_
          exact List.perm_append_comm.trans (by rw [List.take_append_drop]))
        (simp only [go_sem, vc_block_seq, vc_block_region, vc_block_cond, vc_block_block, Nat.reduceBEq, Nat.reduceAdd, Nat.reduceLeDiff, Nat.reduceEqDiff, Int.reduceAdd, Int.reduceBEq, Int.reduceBNe, reduceCtorEq, beq_self_eq_true, Bool.true_beq, Bool.false_beq]; repeat ((with_reducible refine leK_refl ?_); simp only [go_sem, vc_block_seq, vc_block_region, vc_block_cond, vc_block_block, Nat.reduceBEq, Nat.reduceAdd, Nat.reduceLeDiff, Nat.reduceEqDiff, Int.reduceAdd, Int.reduceBEq, Int.reduceBNe, reduceCtorEq, beq_self_eq_true, Bool.true_beq, Bool.false_beq]))
        exact ⟨(b, b14), le_chk (by simp only [go_sem, vc_block_seq, vc_block_region, vc_block_cond, vc_block_block, Nat.reduceBEq, Nat.reduceAdd, Nat.reduceLeDiff, Nat.reduceEqDiff, Int.reduceAdd, Int.reduceBEq, Int.reduceBNe, reduceCtorEq, beq_self_eq_true, Bool.true_beq, Bool.false_beq]), hT, hb, hpb⟩
    · intro b14
      refine eff_lit (n := 0) (vs := []) Ty.el22 rfl rfl (by simp) (by omega) ?_
      intro q1 w1 o6 t1 f1
      replace f1 := f1.anti hT
      replace hT := hT.trans t1
      (simp only [go_sem, vc_block_seq, vc_block_region, vc_block_cond, vc_block_block, Nat.reduceBEq, Nat.reduceAdd, Nat.reduceLeDiff, Nat.reduceEqDiff, Int.reduceAdd, Int.reduceBEq, Int.reduceBNe, reduceCtorEq, beq_self_eq_true, Bool.true_beq, Bool.false_beq]; repeat ((with_reducible refine leK_refl ?_); simp only [go_sem, vc_block_seq, vc_block_region, vc_block_cond, vc_block_block, Nat.reduceBEq, Nat.reduceAdd, Nat.reduceLeDiff, Nat.reduceEqDiff, Int.reduceAdd, Int.reduceBEq, Int.reduceBNe, reduceCtorEq, beq_self_eq_true, Bool.true_beq, Bool.false_beq]))
      refine eff_append Ty.el22 o6 (hD.mono hT) (PE.ones _) (by omega) (by omega) ?_
      intro q2 d2 w2 o7 x2 y2
      simp only [Nat.zero_add] at o7
      have f2 := freshP_app y2 f1 hT
      replace hT := x2.sub hT f1
      (simp only [go_sem, vc_block_seq, vc_block_region, vc_block_cond, vc_block_block, Nat.reduceBEq, Nat.reduceAdd, Nat.reduceLeDiff, Nat.reduceEqDiff, Int.reduceAdd, Int.reduceBEq, Int.reduceBNe, reduceCtorEq, beq_self_eq_true, Bool.true_beq, Bool.false_beq]; repeat ((with_reducible refine leK_refl ?_); simp only [go_sem, vc_block_seq, vc_block_region, vc_block_cond, vc_block_block, Nat.reduceBEq, Nat.reduceAdd, Nat.reduceLeDiff, Nat.reduceEqDiff, Int.reduceAdd, Int.reduceBEq, Int.reduceBNe, reduceCtorEq, beq_self_eq_true, Bool.true_beq, Bool.false_beq]))
      refine eff_append Ty.el22 o7 (hE.mono hT) (PE.ones _) (by omega) (by omega) ?_
      intro q3 d3 w3 o8 x3 y3
      replace hT := x3.sub hT f2
      (simp only [go_sem, vc_block_seq, vc_block_region, vc_block_cond, vc_block_block, Nat.reduceBEq, Nat.reduceAdd, Nat.reduceLeDiff, Nat.reduceEqDiff, Int.reduceAdd, Int.reduceBEq, Int.reduceBNe, reduceCtorEq, beq_self_eq_true, Bool.true_beq, Bool.false_beq]; repeat ((with_reducible refine leK_refl ?_); simp only [go_sem, vc_block_seq, vc_block_region, vc_block_cond, vc_block_block, Nat.reduceBEq, Nat.reduceAdd, Nat.reduceLeDiff, Nat.reduceEqDiff, Int.reduceAdd, Int.reduceBEq, Int.reduceBNe, reduceCtorEq, beq_self_eq_true, Bool.true_beq, Bool.false_beq]))
      have o9 : Sl w3 5 q3 m d3 ((l.drop k0 ++ l.take k0).map PE.enc) := by
        have h := o8.sl
        rw [show (m - k0) + k0 = m by omega] at h
        simpa using h
      rw [show (m - k0) + k0 = m by omega]
      refine AtCall.of_spec (filled_con (l.drop k0 ++ l.take k0) q3 m d3 _ ⟨o9.mono ?_, ?_⟩ (by omega) ?_ ?_) ?_
      · exact Sub.refl _
      · intro x hx
        rcases List.mem_append.1 hx with hx | hx
        · exact (hl.fl x (List.mem_of_mem_drop hx)).mono hT
        · exact (hl.fl x (List.mem_of_mem_take hx)).mono hT
      · intro x hx
        rcases List.mem_append.1 hx with hx | hx
        · exact hf.2 x (List.mem_of_mem_drop hx)
        · exact hf.2 x (List.mem_of_mem_take hx)
      · have hpl : (bIds (es (l.drop k0 ++ l.take k0))).Perm (bIds (es l)) := by
          unfold bIds es
          refine List.Perm.map _ (List.Perm.map _ ?_)
          exact List.perm_append_comm.trans (by rw [List.take_append_drop])
        exact (hpl.nodup_iff).2 hnd
      rintro r w4 t4 ⟨b, rfl, hb, hpb⟩
      replace hT := hT.trans t4
      replace hpb : (es b.l).Perm (es l) := hpb.trans (by
        unfold es
        refine List.Perm.map _ ?_
        exact List.perm_append_comm.trans (by rw [List.take_append_drop]))
      (simp only [go_sem, vc_block_seq, vc_block_region, vc_block_cond, vc_block_block, Nat.reduceBEq, Nat.reduceAdd, Nat.reduceLeDiff, Nat.reduceEqDiff, Int.reduceAdd, Int.reduceBEq, Int.reduceBNe, reduceCtorEq, beq_self_eq_true, Bool.true_beq, Bool.false_beq]; repeat ((with_reducible refine leK_refl ?_); simp only [go_sem, vc_block_seq, vc_block_region, vc_block_cond, vc_block_block, Nat.reduceBEq, Nat.reduceAdd, Nat.reduceLeDiff, Nat.reduceEqDiff, Int.reduceAdd, Int.reduceBEq, Int.reduceBNe, reduceCtorEq, beq_self_eq_true, Bool.true_beq, Bool.false_beq]))
      exact ⟨(b, b14), le_chk (by simp only [go_sem, vc_block_seq, vc_block_region, vc_block_cond, vc_block_block, Nat.reduceBEq, Nat.reduceAdd, Nat.reduceLeDiff, Nat.reduceEqDiff, Int.reduceAdd, Int.reduceBEq, Int.reduceBNe, reduceCtorEq, beq_self_eq_true, Bool.true_beq, Bool.false_beq]), hT, hb, hpb⟩
  rintro ⟨b, b14⟩ u6 ⟨hs6, hb, hpb⟩
  simp only at hb hpb
  replace ha := ha.mono hs6
  replace hl := hl.mono hs6
  replace he := he.mono hs6
  replace o1 := o1.mono hs6
  replace hS4 := hS4.trans hs6
  clear hs6
  have hab : es a.l = es b.l := up_ext ha.up hb.up (hpa.trans hpb.symm)
  (simp only [go_sem, vc_block_seq, vc_block_region, vc_block_cond, vc_block_block, Nat.reduceBEq, Nat.reduceAdd, Nat.reduceLeDiff, Nat.reduceEqDiff, Int.reduceAdd, Int.reduceBEq, Int.reduceBNe, reduceCtorEq, beq_self_eq_true, Bool.true_beq, Bool.false_beq]; repeat ((with_reducible refine leK_refl ?_); simp only [go_sem, vc_block_seq, vc_block_region, vc_block_cond, vc_block_block, Nat.reduceBEq, Nat.reduceAdd, Nat.reduceLeDiff, Nat.reduceEqDiff, Int.reduceAdd, Int.reduceBEq, Int.reduceBNe, reduceCtorEq, beq_self_eq_true, Bool.true_beq, Bool.false_beq]))
  refine AtCall.of_spec (bufsame_con a b u6 (ha.bl.wide (by omega)) hb.bl.el) ?_
  rintro r u7 hs7 rfl
  rw [decide_eq_true (ha.room.trans hb.room.symm), decide_eq_true hab]
  replace ha := ha.mono hs7
  (simp only [go_sem, vc_block_seq, vc_block_region, vc_block_cond, vc_block_block, Nat.reduceBEq, Nat.reduceAdd, Nat.reduceLeDiff, Nat.reduceEqDiff, Int.reduceAdd, Int.reduceBEq, Int.reduceBNe, reduceCtorEq, beq_self_eq_true, Bool.true_beq, Bool.false_beq]; repeat ((with_reducible refine leK_refl ?_); simp only [go_sem, vc_block_seq, vc_block_region, vc_block_cond, vc_block_block, Nat.reduceBEq, Nat.reduceAdd, Nat.reduceLeDiff, Nat.reduceEqDiff, Int.reduceAdd, Int.reduceBEq, Int.reduceBNe, reduceCtorEq, beq_self_eq_true, Bool.true_beq, Bool.false_beq]))
  refine AtCall.of_spec (bufsame_con a ⟨40, a.p, a.n, a.c, a.l⟩ u7 (ha.bl.wide (by omega)) ha.bl.el) ?_
  rintro r u8 hs8 rfl
  rw [decide_eq_false (show ¬ a.room = 40 by rw [ha.room]; decide), Bool.false_and]
  replace ha := ha.mono hs8
  have hs78 := hs7.trans hs8
  replace he := he.mono hs78
  replace o1 := o1.mono hs78
  replace hS4 := hS4.trans hs78
  clear hs7 hs8 hs78
  (simp only [go_sem, vc_block_seq, vc_block_region, vc_block_cond, vc_block_block, Nat.reduceBEq, Nat.reduceAdd, Nat.reduceLeDiff, Nat.reduceEqDiff, Int.reduceAdd, Int.reduceBEq, Int.reduceBNe, reduceCtorEq, beq_self_eq_true, Bool.true_beq, Bool.false_beq]; repeat ((with_reducible refine leK_refl ?_); simp only [go_sem, vc_block_seq, vc_block_region, vc_block_cond, vc_block_block, Nat.reduceBEq, Nat.reduceAdd, Nat.reduceLeDiff, Nat.reduceEqDiff, Int.reduceAdd, Int.reduceBEq, Int.reduceBNe, reduceCtorEq, beq_self_eq_true, Bool.true_beq, Bool.false_beq]))
  refine AtCall.of_spec (putR_con a e 41 u8 ha (by omega) he he8.1 he8.2) ?_
  rintro r u9 hs9 ⟨m9, rfl, e9, hm9⟩
  replace ha := ha.mono hs9
  replace o1 := o1.mono hs9
  replace hS4 := hS4.trans hs9
  clear hs9
  have hlenA : (es a.l).length = m := by rw [hpa.length_eq]; simpa using ll
  by_cases hE : bErr (es a.l) ((41 : Nat) : Int) e.g.id = 0
  case neg =>
    have hH : bHas (es a.l) e.g.id = true := by
      unfold bErr at hE
      cases hb : bHas (es a.l) e.g.id with
      | true => rfl
      | false =>
        rw [hb, if_neg (by simp), if_neg (by rw [hlenA]; omega)] at hE
        exact absurd rfl hE
    have hE2 : bErr (es a.l) ((41 : Nat) : Int) e.g.id = 150 := by unfold bErr; rw [if_pos hH]
    rw [hE2]
    (simp only [go_sem, vc_block_seq, vc_block_region, vc_block_cond, vc_block_block, Nat.reduceBEq, Nat.reduceAdd, Nat.reduceLeDiff, Nat.reduceEqDiff, Int.reduceAdd, Int.reduceBEq, Int.reduceBNe, reduceCtorEq, beq_self_eq_true, Bool.true_beq, Bool.false_beq]; repeat ((with_reducible refine leK_refl ?_); simp only [go_sem, vc_block_seq, vc_block_region, vc_block_cond, vc_block_block, Nat.reduceBEq, Nat.reduceAdd, Nat.reduceLeDiff, Nat.reduceEqDiff, Int.reduceAdd, Int.reduceBEq, Int.reduceBNe, reduceCtorEq, beq_self_eq_true, Bool.true_beq, Bool.false_beq]))
    intro b16
    refine AtCall.of_spec (ihas_con (bIds (es l)) e.g.id q m d u9 o1 (by omega)) ?_
    rintro r u10 hs10 rfl
    rw [ids_has, ← perm_ids hpa, hH]
    (simp only [go_sem, vc_block_seq, vc_block_region, vc_block_cond, vc_block_block, Nat.reduceBEq, Nat.reduceAdd, Nat.reduceLeDiff, Nat.reduceEqDiff, Int.reduceAdd, Int.reduceBEq, Int.reduceBNe, reduceCtorEq, beq_self_eq_true, Bool.true_beq, Bool.false_beq]; repeat ((with_reducible refine leK_refl ?_); simp only [go_sem, vc_block_seq, vc_block_region, vc_block_cond, vc_block_block, Nat.reduceBEq, Nat.reduceAdd, Nat.reduceLeDiff, Nat.reduceEqDiff, Int.reduceAdd, Int.reduceBEq, Int.reduceBNe, reduceCtorEq, beq_self_eq_true, Bool.true_beq, Bool.false_beq]))
    refine AtCall.of_spec (bawake_con u10) ?_
    rintro r u11 hs11 rfl
    (simp only [go_sem, vc_block_seq, vc_block_region, vc_block_cond, vc_block_block, Nat.reduceBEq, Nat.reduceAdd, Nat.reduceLeDiff, Nat.reduceEqDiff, Int.reduceAdd, Int.reduceBEq, Int.reduceBNe, reduceCtorEq, beq_self_eq_true, Bool.true_beq, Bool.false_beq]; repeat ((with_reducible refine leK_refl ?_); simp only [go_sem, vc_block_seq, vc_block_region, vc_block_cond, vc_block_block, Nat.reduceBEq, Nat.reduceAdd, Nat.reduceLeDiff, Nat.reduceEqDiff, Int.reduceAdd, Int.reduceBEq, Int.reduceBNe, reduceCtorEq, beq_self_eq_true, Bool.true_beq, Bool.false_beq]))
    exact ⟨hS4.trans (hs10.trans hs11), rfl⟩
  rw [hE]
  obtain ⟨hr1, hr2⟩ := rem_put hE
  rw [bPut_ok hE] at e9
  (simp only [go_sem, vc_block_seq, vc_block_region, vc_block_cond, vc_block_block, Nat.reduceBEq, Nat.reduceAdd, Nat.reduceLeDiff, Nat.reduceEqDiff, Int.reduceAdd, Int.reduceBEq, Int.reduceBNe, reduceCtorEq, beq_self_eq_true, Bool.true_beq, Bool.false_beq]; repeat ((with_reducible refine leK_refl ?_); simp only [go_sem, vc_block_seq, vc_block_region, vc_block_cond, vc_block_block, Nat.reduceBEq, Nat.reduceAdd, Nat.reduceLeDiff, Nat.reduceEqDiff, Int.reduceAdd, Int.reduceBEq, Int.reduceBNe, reduceCtorEq, beq_self_eq_true, Bool.true_beq, Bool.false_beq]))
  intro b16
  refine AtCall.of_spec (removeR_con m9 e.g.id 41 u9 hm9 (by omega)) ?_
  rintro r u10 hs10 ⟨m10, rfl, e10, hm10⟩
  rw [e9] at e10 ⊢
  rw [hr1, hr2] at e10
  rw [show bHas (kIns evKey (es a.l) e.g) e.g.id = true by unfold bHas; rw [hr1]; rfl]
  replace ha := ha.mono hs10
  replace hm9 := hm9.mono hs10
  (simp only [go_sem, vc_block_seq, vc_block_region, vc_block_cond, vc_block_block, Nat.reduceBEq, Nat.reduceAdd, Nat.reduceLeDiff, Nat.reduceEqDiff, Int.reduceAdd, Int.reduceBEq, Int.reduceBNe, reduceCtorEq, beq_self_eq_true, Bool.true_beq, Bool.false_beq]; repeat ((with_reducible refine leK_refl ?_); simp only [go_sem, vc_block_seq, vc_block_region, vc_block_cond, vc_block_block, Nat.reduceBEq, Nat.reduceAdd, Nat.reduceLeDiff, Nat.reduceEqDiff, Int.reduceAdd, Int.reduceBEq, Int.reduceBNe, reduceCtorEq, beq_self_eq_true, Bool.true_beq, Bool.false_beq]))
  intro b18
  refine AtCall.of_spec (bufsame_con m10 a u10 (hm10.bl.wide (by omega)) ha.bl.el) ?_
  rintro r u11 hs11 rfl
  rw [decide_eq_true (hm10.room.trans ha.room.symm), decide_eq_true e10]
  replace ha := ha.mono hs11
  replace hm9 := hm9.mono hs11
  (simp only [go_sem, vc_block_seq, vc_block_region, vc_block_cond, vc_block_block, Nat.reduceBEq, Nat.reduceAdd, Nat.reduceLeDiff, Nat.reduceEqDiff, Int.reduceAdd, Int.reduceBEq, Int.reduceBNe, reduceCtorEq, beq_self_eq_true, Bool.true_beq, Bool.false_beq]; repeat ((with_reducible refine leK_refl ?_); simp only [go_sem, vc_block_seq, vc_block_region, vc_block_cond, vc_block_block, Nat.reduceBEq, Nat.reduceAdd, Nat.reduceLeDiff, Nat.reduceEqDiff, Int.reduceAdd, Int.reduceBEq, Int.reduceBNe, reduceCtorEq, beq_self_eq_true, Bool.true_beq, Bool.false_beq]))
  refine AtCall.of_spec (bufsame_con m9 a u11 (hm9.bl.wide (by omega)) ha.bl.el) ?_
  rintro r u12 hs12 rfl
  rw [decide_eq_true (hm9.room.trans ha.room.symm), decide_eq_false (show ¬ es m9.l = es a.l from fun h => by
    rw [e9] at h
    have := congrArg List.length h
    rw [kIns_len'] at this
    omega), Bool.true_and]
  (simp only [go_sem, vc_block_seq, vc_block_region, vc_block_cond, vc_block_block, Nat.reduceBEq, Nat.reduceAdd, Nat.reduceLeDiff, Nat.reduceEqDiff, Int.reduceAdd, Int.reduceBEq, Int.reduceBNe, reduceCtorEq, beq_self_eq_true, Bool.true_beq, Bool.false_beq]; repeat ((with_reducible refine leK_refl ?_); simp only [go_sem, vc_block_seq, vc_block_region, vc_block_cond, vc_block_block, Nat.reduceBEq, Nat.reduceAdd, Nat.reduceLeDiff, Nat.reduceEqDiff, Int.reduceAdd, Int.reduceBEq, Int.reduceBNe, reduceCtorEq, beq_self_eq_true, Bool.true_beq, Bool.false_beq]))
  refine AtCall.of_spec (bawake_con u12) ?_
  rintro r u13 hs13 rfl
  (simp only [go_sem, vc_block_seq, vc_block_region, vc_block_cond, vc_block_block, Nat.reduceBEq, Nat.reduceAdd, Nat.reduceLeDiff, Nat.reduceEqDiff, Int.reduceAdd, Int.reduceBEq, Int.reduceBNe, reduceCtorEq, beq_self_eq_true, Bool.true_beq, Bool.false_beq]; repeat ((with_reducible refine leK_refl ?_); simp only [go_sem, vc_block_seq, vc_block_region, vc_block_cond, vc_block_block, Nat.reduceBEq, Nat.reduceAdd, Nat.reduceLeDiff, Nat.reduceEqDiff, Int.reduceAdd, Int.reduceBEq, Int.reduceBNe, reduceCtorEq, beq_self_eq_true, Bool.true_beq, Bool.false_beq]))
  exact ⟨hS4.trans (hs10.trans (hs11.trans (hs12.trans hs13))), rfl⟩
end Go.Proofs.Ytcaobkpfafcnjaa
