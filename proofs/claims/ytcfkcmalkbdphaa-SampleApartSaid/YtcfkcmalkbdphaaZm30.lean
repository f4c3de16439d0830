/-
  Part 30 of the proof of Zm: the engine and the walks, in their order.
-/
import Derived.Test.YtcfkcmalkbdphaaZm22
import Derived.Test.YtcfkcmalkbdphaaZm29
set_option linter.unusedSimpArgs false
set_option linter.unusedVariables false
/-
  The law of samples: what is told is nobody else's.
-/
set_option linter.unusedSimpArgs false
set_option linter.unusedVariables false
namespace Go.Eng
theorem Sl.empty {u u' : World} {sz c : Nat} {p : Option Addr} (h : Sl u sz p 0 c []) : Sl u' sz p 0 c [] := ⟨rfl, Nat.zero_le _, by simp, h.nil, fun a ha => ⟨fun h => absurd h (Nat.lt_irrefl 0), by simp⟩⟩
end Go.Eng
namespace Go.Proofs.Ytcfkcmalkbdphaa
open Go.Eng
attribute [local go_sem] PD.val PD.enc PW.val PW.enc
theorem DL.empty {u u' : World} {p : Option Addr} {n c : Nat} {l : List PD} (h : DL u p n c l) (hl : l = []) : DL u' p n c l := by
  subst hl
  have hn := h.len
  simp at hn
  subst hn
  exact ⟨Sl.empty h.sl, by simp⟩

set_option maxRecDepth 4000 in
set_option maxHeartbeats 4000000 in
theorem sapart_con (l sent : List PD) (d : PD) (self : UInt8) (p q : Option Addr) (n c m e : Nat) (u : World) (hl : DL u p n c l) (hm : DL u q m e sent) (hd : Fl u d) (hc : n ≤ 9223372036854775807) (hmn : m ≤ 9223372036854775807) (hdn : d.n ≤ 9223372036854775807) :
    Con Try.prog 10 [.slice p n c, .slice q m e, d.val, .int .u8 self.toNat] u (fun r _ => r = .bool true) := by
  refine spec_of_vc Ty.mixed Try.func10 rfl (by kernel_rfl) (by kernel_rfl) rfl [.tmp 8] rfl ?_
  (simp only [go_sem, vc_block_seq, vc_block_region, vc_block_cond, vc_block_block, Nat.reduceBEq, Nat.reduceAdd, Nat.reduceLeDiff, Nat.reduceEqDiff, Int.reduceAdd, Int.reduceBEq, Int.reduceBNe, reduceCtorEq, beq_self_eq_true, Bool.true_beq, Bool.false_beq]; repeat ((with_reducible refine leK_refl ?_); simp only [go_sem, vc_block_seq, vc_block_region, vc_block_cond, vc_block_block, Nat.reduceBEq, Nat.reduceAdd, Nat.reduceLeDiff, Nat.reduceEqDiff, Int.reduceAdd, Int.reduceBEq, Int.reduceBNe, reduceCtorEq, beq_self_eq_true, Bool.true_beq, Bool.false_beq]))
  have hS : Sub u u := Sub.refl _
  intro b6
  refine AtCall.of_spec (few_con l p n c _ hl hc) ?_
  rintro r W1 H1 ⟨B, rfl, hB⟩
  replace hS := hS.trans H1
  replace hl := hl.mono H1
  replace hm := hm.mono H1
  replace hd := hd.mono H1
  cases B with
  | false =>
    (simp only [go_sem, vc_block_seq, vc_block_region, vc_block_cond, vc_block_block, Nat.reduceBEq, Nat.reduceAdd, Nat.reduceLeDiff, Nat.reduceEqDiff, Int.reduceAdd, Int.reduceBEq, Int.reduceBNe, reduceCtorEq, beq_self_eq_true, Bool.true_beq, Bool.false_beq]; repeat ((with_reducible refine leK_refl ?_); simp only [go_sem, vc_block_seq, vc_block_region, vc_block_cond, vc_block_block, Nat.reduceBEq, Nat.reduceAdd, Nat.reduceLeDiff, Nat.reduceEqDiff, Int.reduceAdd, Int.reduceBEq, Int.reduceBNe, reduceCtorEq, beq_self_eq_true, Bool.true_beq, Bool.false_beq]))
    refine AtCall.of_spec (sawake_con _) ?_
    rintro r W2 H2 rfl
    replace hS := hS.trans H2
    replace hl := hl.mono H2
    replace hm := hm.mono H2
    replace hd := hd.mono H2
    (simp only [go_sem, vc_block_seq, vc_block_region, vc_block_cond, vc_block_block, Nat.reduceBEq, Nat.reduceAdd, Nat.reduceLeDiff, Nat.reduceEqDiff, Int.reduceAdd, Int.reduceBEq, Int.reduceBNe, reduceCtorEq, beq_self_eq_true, Bool.true_beq, Bool.false_beq]; repeat ((with_reducible refine leK_refl ?_); simp only [go_sem, vc_block_seq, vc_block_region, vc_block_cond, vc_block_block, Nat.reduceBEq, Nat.reduceAdd, Nat.reduceLeDiff, Nat.reduceEqDiff, Int.reduceAdd, Int.reduceBEq, Int.reduceBNe, reduceCtorEq, beq_self_eq_true, Bool.true_beq, Bool.false_beq]))
    exact ⟨hS, rfl⟩
  | true =>
  have hf := hB rfl
  (simp only [go_sem, vc_block_seq, vc_block_region, vc_block_cond, vc_block_block, Nat.reduceBEq, Nat.reduceAdd, Nat.reduceLeDiff, Nat.reduceEqDiff, Int.reduceAdd, Int.reduceBEq, Int.reduceBNe, reduceCtorEq, beq_self_eq_true, Bool.true_beq, Bool.false_beq]; repeat ((with_reducible refine leK_refl ?_); simp only [go_sem, vc_block_seq, vc_block_region, vc_block_cond, vc_block_block, Nat.reduceBEq, Nat.reduceAdd, Nat.reduceLeDiff, Nat.reduceEqDiff, Int.reduceAdd, Int.reduceBEq, Int.reduceBNe, reduceCtorEq, beq_self_eq_true, Bool.true_beq, Bool.false_beq]))
  refine AtCall.of_spec (few_con sent q m e _ hm hmn) ?_
  rintro r W3 H3 ⟨B, rfl, hB2⟩
  replace hS := hS.trans H3
  replace hl := hl.mono H3
  replace hm := hm.mono H3
  replace hd := hd.mono H3
  cases B with
  | false =>
    (simp only [go_sem, vc_block_seq, vc_block_region, vc_block_cond, vc_block_block, Nat.reduceBEq, Nat.reduceAdd, Nat.reduceLeDiff, Nat.reduceEqDiff, Int.reduceAdd, Int.reduceBEq, Int.reduceBNe, reduceCtorEq, beq_self_eq_true, Bool.true_beq, Bool.false_beq]; repeat ((with_reducible refine leK_refl ?_); simp only [go_sem, vc_block_seq, vc_block_region, vc_block_cond, vc_block_block, Nat.reduceBEq, Nat.reduceAdd, Nat.reduceLeDiff, Nat.reduceEqDiff, Int.reduceAdd, Int.reduceBEq, Int.reduceBNe, reduceCtorEq, beq_self_eq_true, Bool.true_beq, Bool.false_beq]))
    refine AtCall.of_spec (sawake_con _) ?_
    rintro r W4 H4 rfl
    replace hS := hS.trans H4
    replace hl := hl.mono H4
    replace hm := hm.mono H4
    replace hd := hd.mono H4
    (simp only [go_sem, vc_block_seq, vc_block_region, vc_block_cond, vc_block_block, Nat.reduceBEq, Nat.reduceAdd, Nat.reduceLeDiff, Nat.reduceEqDiff, Int.reduceAdd, Int.reduceBEq, Int.reduceBNe, reduceCtorEq, beq_self_eq_true, Bool.true_beq, Bool.false_beq]; repeat ((with_reducible refine leK_refl ?_); simp only [go_sem, vc_block_seq, vc_block_region, vc_block_cond, vc_block_block, Nat.reduceBEq, Nat.reduceAdd, Nat.reduceLeDiff, Nat.reduceEqDiff, Int.reduceAdd, Int.reduceBEq, Int.reduceBNe, reduceCtorEq, beq_self_eq_true, Bool.true_beq, Bool.false_beq]))
    exact ⟨hS, rfl⟩
  | true =>
  have hf2 := hB2 rfl
  (simp only [go_sem, vc_block_seq, vc_block_region, vc_block_cond, vc_block_block, Nat.reduceBEq, Nat.reduceAdd, Nat.reduceLeDiff, Nat.reduceEqDiff, Int.reduceAdd, Int.reduceBEq, Int.reduceBNe, reduceCtorEq, beq_self_eq_true, Bool.true_beq, Bool.false_beq]; repeat ((with_reducible refine leK_refl ?_); simp only [go_sem, vc_block_seq, vc_block_region, vc_block_cond, vc_block_block, Nat.reduceBEq, Nat.reduceAdd, Nat.reduceLeDiff, Nat.reduceEqDiff, Int.reduceAdd, Int.reduceBEq, Int.reduceBNe, reduceCtorEq, beq_self_eq_true, Bool.true_beq, Bool.false_beq]))
  refine cond_dec (fun h => ?_) (fun h => ?_)
  · (simp only [go_sem, vc_block_seq, vc_block_region, vc_block_cond, vc_block_block, Nat.reduceBEq, Nat.reduceAdd, Nat.reduceLeDiff, Nat.reduceEqDiff, Int.reduceAdd, Int.reduceBEq, Int.reduceBNe, reduceCtorEq, beq_self_eq_true, Bool.true_beq, Bool.false_beq]; repeat ((with_reducible refine leK_refl ?_); simp only [go_sem, vc_block_seq, vc_block_region, vc_block_cond, vc_block_block, Nat.reduceBEq, Nat.reduceAdd, Nat.reduceLeDiff, Nat.reduceEqDiff, Int.reduceAdd, Int.reduceBEq, Int.reduceBNe, reduceCtorEq, beq_self_eq_true, Bool.true_beq, Bool.false_beq]))
    refine AtCall.of_spec (sawake_con _) ?_
    rintro r W5 H5 rfl
    replace hS := hS.trans H5
    replace hl := hl.mono H5
    replace hm := hm.mono H5
    replace hd := hd.mono H5
    (simp only [go_sem, vc_block_seq, vc_block_region, vc_block_cond, vc_block_block, Nat.reduceBEq, Nat.reduceAdd, Nat.reduceLeDiff, Nat.reduceEqDiff, Int.reduceAdd, Int.reduceBEq, Int.reduceBNe, reduceCtorEq, beq_self_eq_true, Bool.true_beq, Bool.false_beq]; repeat ((with_reducible refine leK_refl ?_); simp only [go_sem, vc_block_seq, vc_block_region, vc_block_cond, vc_block_block, Nat.reduceBEq, Nat.reduceAdd, Nat.reduceLeDiff, Nat.reduceEqDiff, Int.reduceAdd, Int.reduceBEq, Int.reduceBNe, reduceCtorEq, beq_self_eq_true, Bool.true_beq, Bool.false_beq]))
    exact ⟨hS, rfl⟩
  have hd8 : d.n ≤ 8 := by omega
  have hmm : m = sent.length := hm.len.symm
  have hm20 := hf2.1
  (simp only [go_sem, vc_block_seq, vc_block_region, vc_block_cond, vc_block_block, Nat.reduceBEq, Nat.reduceAdd, Nat.reduceLeDiff, Nat.reduceEqDiff, Int.reduceAdd, Int.reduceBEq, Int.reduceBNe, reduceCtorEq, beq_self_eq_true, Bool.true_beq, Bool.false_beq]; repeat ((with_reducible refine leK_refl ?_); simp only [go_sem, vc_block_seq, vc_block_region, vc_block_cond, vc_block_block, Nat.reduceBEq, Nat.reduceAdd, Nat.reduceLeDiff, Nat.reduceEqDiff, Int.reduceAdd, Int.reduceBEq, Int.reduceBNe, reduceCtorEq, beq_self_eq_true, Bool.true_beq, Bool.false_beq]))
  refine AtCall.of_spec (view_con l self 20 p n c _ hl hf) ?_
  rintro r W6 H6 ⟨p0, n0, c0, l0, rfl, o0, hv0, hvm0, hv256, hv8⟩
  replace hS := hS.trans H6
  replace hl := hl.mono H6
  replace hm := hm.mono H6
  replace hd := hd.mono H6
  (simp only [go_sem, vc_block_seq, vc_block_region, vc_block_cond, vc_block_block, Nat.reduceBEq, Nat.reduceAdd, Nat.reduceLeDiff, Nat.reduceEqDiff, Int.reduceAdd, Int.reduceBEq, Int.reduceBNe, reduceCtorEq, beq_self_eq_true, Bool.true_beq, Bool.false_beq]; repeat ((with_reducible refine leK_refl ?_); simp only [go_sem, vc_block_seq, vc_block_region, vc_block_cond, vc_block_block, Nat.reduceBEq, Nat.reduceAdd, Nat.reduceLeDiff, Nat.reduceEqDiff, Int.reduceAdd, Int.reduceBEq, Int.reduceBNe, reduceCtorEq, beq_self_eq_true, Bool.true_beq, Bool.false_beq]))
  refine AtCall.of_spec (anew_con l0 p0 n0 c0 _ o0.dl (by omega) (fun x hx => by have := hv8 x hx; omega)) ?_
  rintro r W7 H7 ⟨pv, nv, cv, lv, rfl, ov, ev⟩
  replace hS := hS.trans H7
  replace hl := hl.mono H7
  replace hm := hm.mono H7
  replace hd := hd.mono H7
  replace o0 := o0.mono H7
  (simp only [go_sem, vc_block_seq, vc_block_region, vc_block_cond, vc_block_block, Nat.reduceBEq, Nat.reduceAdd, Nat.reduceLeDiff, Nat.reduceEqDiff, Int.reduceAdd, Int.reduceBEq, Int.reduceBNe, reduceCtorEq, beq_self_eq_true, Bool.true_beq, Bool.false_beq]; repeat ((with_reducible refine leK_refl ?_); simp only [go_sem, vc_block_seq, vc_block_region, vc_block_cond, vc_block_block, Nat.reduceBEq, Nat.reduceAdd, Nat.reduceLeDiff, Nat.reduceEqDiff, Int.reduceAdd, Int.reduceBEq, Int.reduceBNe, reduceCtorEq, beq_self_eq_true, Bool.true_beq, Bool.false_beq]))
  refine AtCall.of_spec (anew_con sent q m e _ hm (by omega) (fun x hx => by have := hf2.2 x hx; omega)) ?_
  rintro r W8 H8 ⟨ps, ns, cs, ls, rfl, os, es⟩
  replace hS := hS.trans H8
  replace hl := hl.mono H8
  replace hm := hm.mono H8
  replace hd := hd.mono H8
  replace o0 := o0.mono H8
  replace ov := ov.mono H8
  (simp only [go_sem, vc_block_seq, vc_block_region, vc_block_cond, vc_block_block, Nat.reduceBEq, Nat.reduceAdd, Nat.reduceLeDiff, Nat.reduceEqDiff, Int.reduceAdd, Int.reduceBEq, Int.reduceBNe, reduceCtorEq, beq_self_eq_true, Bool.true_beq, Bool.false_beq]; repeat ((with_reducible refine leK_refl ?_); simp only [go_sem, vc_block_seq, vc_block_region, vc_block_cond, vc_block_block, Nat.reduceBEq, Nat.reduceAdd, Nat.reduceLeDiff, Nat.reduceEqDiff, Int.reduceAdd, Int.reduceBEq, Int.reduceBNe, reduceCtorEq, beq_self_eq_true, Bool.true_beq, Bool.false_beq]))
  have small : ∀ (a b : List PD) (w : World) (p : Option Addr) (n c : Nat) (w' : World) (p' : Option Addr) (n' c' : Nat), DL w p n c a → DL w' p' n' c' b → ds a = ds b → (∀ x ∈ b, x.n ≤ 8) → n = n' ∧ ∀ x ∈ a, x.n ≤ 8 := by
    intro a b w p n c w' p' n' c' ha hb e h8
    have h1 := ha.len; have h2 := congrArg List.length e; have h3 := hb.len
    simp at h2
    refine ⟨by omega, fun x hx => ?_⟩
    have h4 : x.d ∈ ds b := by rw [← e]; exact List.mem_map_of_mem hx
    obtain ⟨y, hy, e5⟩ := List.mem_map.1 h4
    have h6 := h8 y hy
    have h7 := (hb.fl y hy).len
    have h8 := (ha.fl x hx).len
    rw [e5] at h7; omega
  obtain ⟨hnv, hlv8⟩ := small lv l0 _ _ _ _ _ _ _ _ ov.dl o0.dl ev hv8
  obtain ⟨hns, hls8⟩ := small ls sent _ _ _ _ _ _ _ _ os.dl hm es hf2.2
  have hvw : Vw self (ds lv) := by rw [ev]; exact hv0
  have hn20 : n0 ≤ 20 := by omega
  refine AtCall.of_spec (anew_con lv pv nv cv _ ov.dl (by omega) (fun x hx => by have := hlv8 x hx; omega)) ?_
  rintro r W9 H9 ⟨pk, nk, ck, lk, rfl, ok, ek⟩
  replace hS := hS.trans H9
  replace hl := hl.mono H9
  replace hm := hm.mono H9
  replace hd := hd.mono H9
  replace o0 := o0.mono H9
  replace ov := ov.mono H9
  replace os := os.mono H9
  (simp only [go_sem, vc_block_seq, vc_block_region, vc_block_cond, vc_block_block, Nat.reduceBEq, Nat.reduceAdd, Nat.reduceLeDiff, Nat.reduceEqDiff, Int.reduceAdd, Int.reduceBEq, Int.reduceBNe, reduceCtorEq, beq_self_eq_true, Bool.true_beq, Bool.false_beq]; repeat ((with_reducible refine leK_refl ?_); simp only [go_sem, vc_block_seq, vc_block_region, vc_block_cond, vc_block_block, Nat.reduceBEq, Nat.reduceAdd, Nat.reduceLeDiff, Nat.reduceEqDiff, Int.reduceAdd, Int.reduceBEq, Int.reduceBNe, reduceCtorEq, beq_self_eq_true, Bool.true_beq, Bool.false_beq]))
  refine AtCall.of_spec (anew_con ls ps ns cs _ os.dl (by omega) (fun x hx => by have := hls8 x hx; omega)) ?_
  rintro r W10 H10 ⟨pg, ng, cg, lg, rfl, og, eg⟩
  replace hS := hS.trans H10
  replace hl := hl.mono H10
  replace hm := hm.mono H10
  replace hd := hd.mono H10
  replace o0 := o0.mono H10
  replace ov := ov.mono H10
  replace os := os.mono H10
  replace ok := ok.mono H10
  (simp only [go_sem, vc_block_seq, vc_block_region, vc_block_cond, vc_block_block, Nat.reduceBEq, Nat.reduceAdd, Nat.reduceLeDiff, Nat.reduceEqDiff, Int.reduceAdd, Int.reduceBEq, Int.reduceBNe, reduceCtorEq, beq_self_eq_true, Bool.true_beq, Bool.false_beq]; repeat ((with_reducible refine leK_refl ?_); simp only [go_sem, vc_block_seq, vc_block_region, vc_block_cond, vc_block_block, Nat.reduceBEq, Nat.reduceAdd, Nat.reduceLeDiff, Nat.reduceEqDiff, Int.reduceAdd, Int.reduceBEq, Int.reduceBNe, reduceCtorEq, beq_self_eq_true, Bool.true_beq, Bool.false_beq]))
  refine AtCall.of_spec (start_con 1 9 ls ps ns cs _ os.dl (by omega) (fun x hx => by have := hls8 x hx; omega)) ?_
  rintro r W11 H11 ⟨⟨w1, w2, w3, w4, w5, w6, w7⟩, rfl, ew, ow⟩
  replace hS := hS.trans H11
  replace hl := hl.mono H11
  replace hm := hm.mono H11
  replace hd := hd.mono H11
  replace o0 := o0.mono H11
  replace ov := ov.mono H11
  replace os := os.mono H11
  replace ok := ok.mono H11
  replace og := og.mono H11
  (simp only [go_sem, vc_block_seq, vc_block_region, vc_block_cond, vc_block_block, Nat.reduceBEq, Nat.reduceAdd, Nat.reduceLeDiff, Nat.reduceEqDiff, Int.reduceAdd, Int.reduceBEq, Int.reduceBNe, reduceCtorEq, beq_self_eq_true, Bool.true_beq, Bool.false_beq]; repeat ((with_reducible refine leK_refl ?_); simp only [go_sem, vc_block_seq, vc_block_region, vc_block_cond, vc_block_block, Nat.reduceBEq, Nat.reduceAdd, Nat.reduceLeDiff, Nat.reduceEqDiff, Int.reduceAdd, Int.reduceBEq, Int.reduceBNe, reduceCtorEq, beq_self_eq_true, Bool.true_beq, Bool.false_beq]))
  simp only [PW.g, wStart, GW.mk.injEq] at ew
  obtain ⟨rfl, rfl, rfl, ew⟩ := ew
  simp only at ow
  intro b13
  obtain ⟨hnw, hlw8⟩ := small w7 ls _ _ _ _ _ _ _ _ ow.dl os.dl ew hls8
  have hS0 := hS
  have ov9 := ov
  have os9 := os
  have ok9 := ok.dl
  have og9 := og.dl
  have ow9 := ow.dl
  have hw8 : (u1 9).toNat = 9 := by decide
  have hS : Sub W11 W11 := Sub.refl _
  refine AtCall.of_spec (tick_con ⟨true, 1, u1 9, w4, w5, w6, w7⟩ _ ⟨ow.dl, by show w5 ≤ 100; omega, hlw8⟩) ?_
  rintro r W12 H12 ⟨v1, rfl, ⟨t1, t2, t3, t4, t5, t6, t7⟩, rfl, et, ot⟩
  replace hS := hS.trans H12
  replace hd := hd.mono H12
  replace ov := ov.mono H12
  replace os := os.mono H12
  replace ow := ow.mono H12
  (simp only [go_sem, vc_block_seq, vc_block_region, vc_block_cond, vc_block_block, Nat.reduceBEq, Nat.reduceAdd, Nat.reduceLeDiff, Nat.reduceEqDiff, Int.reduceAdd, Int.reduceBEq, Int.reduceBNe, reduceCtorEq, beq_self_eq_true, Bool.true_beq, Bool.false_beq]; repeat ((with_reducible refine leK_refl ?_); simp only [go_sem, vc_block_seq, vc_block_region, vc_block_cond, vc_block_block, Nat.reduceBEq, Nat.reduceAdd, Nat.reduceLeDiff, Nat.reduceEqDiff, Int.reduceAdd, Int.reduceBEq, Int.reduceBNe, reduceCtorEq, beq_self_eq_true, Bool.true_beq, Bool.false_beq]))
  simp only [PW.g, wTick, GW.mk.injEq, if_true, show ¬ (u1 9 ≤ 1) from by decide, if_false] at et
  obtain ⟨rfl, rfl, rfl, et⟩ := et
  try simp only at ot
  obtain ⟨hnt, hlt8⟩ := small t7 w7 _ _ _ _ _ _ _ _ ot.dl ow.dl et hlw8
  intro b14
  have hSa := hS
  refine AtCall.of_spec (answer_con ⟨true, 1, u1 9 - 1, t4, t5, t6, t7⟩ 1 _ ⟨ot.dl, by show t5 ≤ 100; omega, hlt8⟩) ?_
  rintro r W13 H13 ⟨v2, v3, rfl, ⟨⟨x1, x2, x3, x4, x5, x6, x7⟩, rfl, ex, ox⟩, pb, nb, cb, lb, rfl, ob, eb⟩
  replace hS := hS.trans H13
  replace hd := hd.mono H13
  replace ov := ov.mono H13
  replace os := os.mono H13
  replace ow := ow.mono H13
  replace ot := ot.mono H13
  (simp only [go_sem, vc_block_seq, vc_block_region, vc_block_cond, vc_block_block, Nat.reduceBEq, Nat.reduceAdd, Nat.reduceLeDiff, Nat.reduceEqDiff, Int.reduceAdd, Int.reduceBEq, Int.reduceBNe, reduceCtorEq, beq_self_eq_true, Bool.true_beq, Bool.false_beq]; repeat ((with_reducible refine leK_refl ?_); simp only [go_sem, vc_block_seq, vc_block_region, vc_block_cond, vc_block_block, Nat.reduceBEq, Nat.reduceAdd, Nat.reduceLeDiff, Nat.reduceEqDiff, Int.reduceAdd, Int.reduceBEq, Int.reduceBNe, reduceCtorEq, beq_self_eq_true, Bool.true_beq, Bool.false_beq]))
  simp only [PW.g, wAns, GW.mk.injEq, if_true, and_self, wZero] at ex eb
  obtain ⟨rfl, rfl, rfl, ex⟩ := ex
  try simp only at ox
  replace ox := ox.anti hSa
  replace ob := ob.anti hSa
  intro b17
  have hSb := hS
  refine AtCall.of_spec (answer_con ⟨true, 1, u1 9 - 1, t4, t5, t6, t7⟩ 2 _ ⟨ot.dl, by show t5 ≤ 100; omega, hlt8⟩) ?_
  rintro r W14 H14 ⟨v4, v5, rfl, ⟨⟨y1, y2, y3, y4, y5, y6, y7⟩, rfl, ey, oy⟩, pz, nz, cz, lz, rfl, oz, ez⟩
  replace hS := hS.trans H14
  replace hd := hd.mono H14
  replace ov := ov.mono H14
  replace os := os.mono H14
  replace ow := ow.mono H14
  replace ot := ot.mono H14
  replace ox := ox.mono H14
  replace ob := ob.mono H14
  (simp only [go_sem, vc_block_seq, vc_block_region, vc_block_cond, vc_block_block, Nat.reduceBEq, Nat.reduceAdd, Nat.reduceLeDiff, Nat.reduceEqDiff, Int.reduceAdd, Int.reduceBEq, Int.reduceBNe, reduceCtorEq, beq_self_eq_true, Bool.true_beq, Bool.false_beq]; repeat ((with_reducible refine leK_refl ?_); simp only [go_sem, vc_block_seq, vc_block_region, vc_block_cond, vc_block_block, Nat.reduceBEq, Nat.reduceAdd, Nat.reduceLeDiff, Nat.reduceEqDiff, Int.reduceAdd, Int.reduceBEq, Int.reduceBNe, reduceCtorEq, beq_self_eq_true, Bool.true_beq, Bool.false_beq]))
  try simp only at oy
  replace oy := oy.anti hSb
  intro b20
  have hSc := hS
  have hok : (wAns (PW.g ⟨true, 1, u1 9 - 1, t4, t5, t6, t7⟩) 1).2.2 = true := by simp [wAns, PW.g]
  have hvl : ds lv = ds l0 := ev
  generalize (wAns (PW.g ⟨true, 1, u1 9 - 1, t4, t5, t6, t7⟩) 2).2.2 = B3
  rw [hok]
  refine .inl ⟨[(0, false), (2, false), (3, false), (5, false), (6, false), (7, false), (9, false), (10, false), (11, false), (15, false), (1, false), (4, false), (8, true), (12, true), (13, false), (14, false)], by kernel_rfl, ?_⟩
  (simp only [go_sem, vc_block_seq, vc_block_region, vc_block_cond, vc_block_block, Nat.reduceBEq, Nat.reduceAdd, Nat.reduceLeDiff, Nat.reduceEqDiff, Int.reduceAdd, Int.reduceBEq, Int.reduceBNe, reduceCtorEq, beq_self_eq_true, Bool.true_beq, Bool.false_beq]; repeat ((with_reducible refine leK_refl ?_); simp only [go_sem, vc_block_seq, vc_block_region, vc_block_cond, vc_block_block, Nat.reduceBEq, Nat.reduceAdd, Nat.reduceLeDiff, Nat.reduceEqDiff, Int.reduceAdd, Int.reduceBEq, Int.reduceBNe, reduceCtorEq, beq_self_eq_true, Bool.true_beq, Bool.false_beq]))
  have h8v : ∀ d ∈ ds lv, d.filter.length ≤ 8 := fun x hx => by
    obtain ⟨y, hy, rfl⟩ := List.mem_map.1 hx
    have h1 := hlv8 y hy
    have h2 := (ov.dl.fl y hy).len
    omega
  refine AtCall.of_spec (admit_con lv d self 20 pv nv cv _ ov.dl hvw hd (by omega) hlv8 hd8) ?_
  rintro r W15 H15 ⟨pA, nA, cA, lA, rfl, oA, eA⟩
  replace hS := hS.trans H15
  replace hd := hd.mono H15
  replace ov := ov.mono H15
  replace os := os.mono H15
  replace ow := ow.mono H15
  replace ot := ot.mono H15
  replace ox := ox.mono H15
  replace ob := ob.mono H15
  replace oy := oy.mono H15
  (simp only [go_sem, vc_block_seq, vc_block_region, vc_block_cond, vc_block_block, Nat.reduceBEq, Nat.reduceAdd, Nat.reduceLeDiff, Nat.reduceEqDiff, Int.reduceAdd, Int.reduceBEq, Int.reduceBNe, reduceCtorEq, beq_self_eq_true, Bool.true_beq, Bool.false_beq]; repeat ((with_reducible refine leK_refl ?_); simp only [go_sem, vc_block_seq, vc_block_region, vc_block_cond, vc_block_block, Nat.reduceBEq, Nat.reduceAdd, Nat.reduceLeDiff, Nat.reduceEqDiff, Int.reduceAdd, Int.reduceBEq, Int.reduceBNe, reduceCtorEq, beq_self_eq_true, Bool.true_beq, Bool.false_beq]))
  replace oA := oA.anti hSc
  have hSd := hS
  refine AtCall.of_spec (fill_con lv ls self 20 pv ps nv cv ns cs _ ov.dl hvw h8v os.dl (by omega) (by omega) hls8) ?_
  rintro r W16 H16 ⟨pF, nF, cF, lF, rfl, oF, eF⟩
  replace hS := hS.trans H16
  replace hd := hd.mono H16
  replace ov := ov.mono H16
  replace os := os.mono H16
  replace ow := ow.mono H16
  replace ot := ot.mono H16
  replace ox := ox.mono H16
  replace ob := ob.mono H16
  replace oy := oy.mono H16
  replace oA := oA.mono H16
  (simp only [go_sem, vc_block_seq, vc_block_region, vc_block_cond, vc_block_block, Nat.reduceBEq, Nat.reduceAdd, Nat.reduceLeDiff, Nat.reduceEqDiff, Int.reduceAdd, Int.reduceBEq, Int.reduceBNe, reduceCtorEq, beq_self_eq_true, Bool.true_beq, Bool.false_beq]; repeat ((with_reducible refine leK_refl ?_); simp only [go_sem, vc_block_seq, vc_block_region, vc_block_cond, vc_block_block, Nat.reduceBEq, Nat.reduceAdd, Nat.reduceLeDiff, Nat.reduceEqDiff, Int.reduceAdd, Int.reduceBEq, Int.reduceBNe, reduceCtorEq, beq_self_eq_true, Bool.true_beq, Bool.false_beq]))
  replace oF := oF.anti hSd
  have hSe := hS
  refine eff_lit (n := 5) (vs := [.slice t4 t5 t6, .slice pb nb cb, .slice y4 y5 y6, .slice pA nA cA, .slice pF nF cF]) Ty.el37 rfl rfl (by intro v hv; simp at hv; rcases hv with rfl | rfl | rfl | rfl | rfl <;> rfl) (by omega) ?_
  intro pq uq oq hsq fq
  replace hS := hS.trans hsq
  replace hd := hd.mono hsq
  replace ov := ov.mono hsq
  replace os := os.mono hsq
  replace ow := ow.mono hsq
  replace ot := ot.mono hsq
  replace ox := ox.mono hsq
  replace ob := ob.mono hsq
  replace oy := oy.mono hsq
  replace oA := oA.mono hsq
  replace oF := oF.mono hsq
  replace oq := (oq.base fq).anti hSe
  generalize hR : Rof 39 32 22 [⟨t4, t5, t6, t7⟩, ⟨pb, nb, cb, lb⟩, ⟨y4, y5, y6, y7⟩, ⟨pA, nA, cA, lA⟩, ⟨pF, nF, cF, lF⟩] pq = R
  have hA : AllW W11 uq R := by
    rw [← hR]
    refine Rof.all (fun t ht => ?_) oq
    simp only [List.mem_cons, List.not_mem_nil, or_false] at ht
    rcases ht with rfl | rfl | rfl | rfl | rfl
    · exact ot
    · exact ob
    · exact oy
    · exact oA
    · exact oF
  have hC : Coh R := by rw [← hR]; exact Rof.coh (by decide) (by decide) (by decide)
  generalize hF : Fof [⟨t4, t5, t6, t7⟩, ⟨pb, nb, cb, lb⟩, ⟨y4, y5, y6, y7⟩, ⟨pA, nA, cA, lA⟩, ⟨pF, nF, cF, lF⟩] = F at hR
  generalize hG : Gof [⟨t4, t5, t6, t7⟩, ⟨pb, nb, cb, lb⟩, ⟨y4, y5, y6, y7⟩, ⟨pA, nA, cA, lA⟩, ⟨pF, nF, cF, lF⟩] = G at hR
  have r0 : R ⟨kO 22 G, pq, 5, 5⟩ := by rw [← hR, ← hG]; exact .inr (.inr rfl)
  have rD : ∀ p n c, G p n c → R ⟨kD 32 F, p, n, c⟩ := fun p n c h => by rw [← hR, ← hF]; rw [← hG] at h; exact .inr (.inl ⟨rfl, h⟩)
  have rS : ∀ p n c, F p n c → R ⟨kS 39, p, n, c⟩ := fun p n c h => by rw [← hR]; rw [← hF] at h; exact .inl ⟨rfl, h⟩
  clear hR hF hG oq
  (simp only [go_sem, vc_block_seq, vc_block_region, vc_block_cond, vc_block_block, Nat.reduceBEq, Nat.reduceAdd, Nat.reduceLeDiff, Nat.reduceEqDiff, Int.reduceAdd, Int.reduceBEq, Int.reduceBNe, reduceCtorEq, beq_self_eq_true, Bool.true_beq, Bool.false_beq]; repeat ((with_reducible refine leK_refl ?_); simp only [go_sem, vc_block_seq, vc_block_region, vc_block_cond, vc_block_block, Nat.reduceBEq, Nat.reduceAdd, Nat.reduceLeDiff, Nat.reduceEqDiff, Int.reduceAdd, Int.reduceBEq, Int.reduceBNe, reduceCtorEq, beq_self_eq_true, Bool.true_beq, Bool.false_beq]))
  refine vc_range 5 (fun (_ : Unit) => []) (fun _ => []) (fun j _ u' => AllW W11 u' R ∧ Sub W11 u') () (le_chk (by simp only [go_sem, vc_block_seq, vc_block_region, vc_block_cond, vc_block_block, Nat.reduceBEq, Nat.reduceAdd, Nat.reduceLeDiff, Nat.reduceEqDiff, Int.reduceAdd, Int.reduceBEq, Int.reduceBNe, reduceCtorEq, beq_self_eq_true, Bool.true_beq, Bool.false_beq])) ⟨hA, hS⟩ (fun _ _ => rfl) (by omega) (fun _ => rfl) ?_ ?_
  · rintro j _ u1 hj ⟨hA1, hs1⟩
    obtain ⟨xs, x, hx1, hx2, pe, ne, ce, rfl, hGe⟩ := (hA1 _ r0).at_ (i := j) hj
    have rde := rD _ _ _ hGe
    have hce := (hA1 _ rde).cap
    simp only [maxLen] at hce
    (simp only [go_sem, vc_block_seq, vc_block_region, vc_block_cond, vc_block_block, Nat.reduceBEq, Nat.reduceAdd, Nat.reduceLeDiff, Nat.reduceEqDiff, Int.reduceAdd, Int.reduceBEq, Int.reduceBNe, reduceCtorEq, beq_self_eq_true, Bool.true_beq, Bool.false_beq]; repeat ((with_reducible refine leK_refl ?_); simp only [go_sem, vc_block_seq, vc_block_region, vc_block_cond, vc_block_block, Nat.reduceBEq, Nat.reduceAdd, Nat.reduceLeDiff, Nat.reduceEqDiff, Int.reduceAdd, Int.reduceBEq, Int.reduceBNe, reduceCtorEq, beq_self_eq_true, Bool.true_beq, Bool.false_beq]))
    refine ⟨⟨hx1.sl.some_ hj, by omega, by omega⟩, ?_⟩
    refine hx1.sl.load hx2 (.inl rfl) (Nat.le_of_ble_eq_true rfl) ?_
    (simp only [go_sem, vc_block_seq, vc_block_region, vc_block_cond, vc_block_block, Nat.reduceBEq, Nat.reduceAdd, Nat.reduceLeDiff, Nat.reduceEqDiff, Int.reduceAdd, Int.reduceBEq, Int.reduceBNe, reduceCtorEq, beq_self_eq_true, Bool.true_beq, Bool.false_beq]; repeat ((with_reducible refine leK_refl ?_); simp only [go_sem, vc_block_seq, vc_block_region, vc_block_cond, vc_block_block, Nat.reduceBEq, Nat.reduceAdd, Nat.reduceLeDiff, Nat.reduceEqDiff, Int.reduceAdd, Int.reduceBEq, Int.reduceBNe, reduceCtorEq, beq_self_eq_true, Bool.true_beq, Bool.false_beq]))
    refine vc_range ne (fun (_ : Unit) => []) (fun _ => []) (fun i _ u' => AllW W11 u' R ∧ Sub W11 u') () (le_chk (by simp only [go_sem, vc_block_seq, vc_block_region, vc_block_cond, vc_block_block, Nat.reduceBEq, Nat.reduceAdd, Nat.reduceLeDiff, Nat.reduceEqDiff, Int.reduceAdd, Int.reduceBEq, Int.reduceBNe, reduceCtorEq, beq_self_eq_true, Bool.true_beq, Bool.false_beq])) ⟨hA1, hs1⟩ (fun _ _ => rfl) (by omega) (fun _ => rfl) ?_ ?_
    · rintro i _ u2 hi ⟨hA2, hs2⟩
      obtain ⟨ys, y, hy1, hy2, ya, yb, yg, yp, yn, yc, rfl, hFy⟩ := (hA2 _ rde).at_ (i := i) hi
      (simp only [go_sem, vc_block_seq, vc_block_region, vc_block_cond, vc_block_block, Nat.reduceBEq, Nat.reduceAdd, Nat.reduceLeDiff, Nat.reduceEqDiff, Int.reduceAdd, Int.reduceBEq, Int.reduceBNe, reduceCtorEq, beq_self_eq_true, Bool.true_beq, Bool.false_beq]; repeat ((with_reducible refine leK_refl ?_); simp only [go_sem, vc_block_seq, vc_block_region, vc_block_cond, vc_block_block, Nat.reduceBEq, Nat.reduceAdd, Nat.reduceLeDiff, Nat.reduceEqDiff, Int.reduceAdd, Int.reduceBEq, Int.reduceBNe, reduceCtorEq, beq_self_eq_true, Bool.true_beq, Bool.false_beq]))
      refine ⟨⟨hy1.sl.some_ hi, by omega, by omega⟩, ?_⟩
      refine hy1.sl.load hy2 (.inl rfl) (Nat.le_of_ble_eq_true rfl) ?_
      (simp only [go_sem, vc_block_seq, vc_block_region, vc_block_cond, vc_block_block, Nat.reduceBEq, Nat.reduceAdd, Nat.reduceLeDiff, Nat.reduceEqDiff, Int.reduceAdd, Int.reduceBEq, Int.reduceBNe, reduceCtorEq, beq_self_eq_true, Bool.true_beq, Bool.false_beq]; repeat ((with_reducible refine leK_refl ?_); simp only [go_sem, vc_block_seq, vc_block_region, vc_block_cond, vc_block_block, Nat.reduceBEq, Nat.reduceAdd, Nat.reduceLeDiff, Nat.reduceEqDiff, Int.reduceAdd, Int.reduceBEq, Int.reduceBNe, reduceCtorEq, beq_self_eq_true, Bool.true_beq, Bool.false_beq]))
      rw [arith_any]
      (simp only [go_sem, vc_block_seq, vc_block_region, vc_block_cond, vc_block_block, Nat.reduceBEq, Nat.reduceAdd, Nat.reduceLeDiff, Nat.reduceEqDiff, Int.reduceAdd, Int.reduceBEq, Int.reduceBNe, reduceCtorEq, beq_self_eq_true, Bool.true_beq, Bool.false_beq]; repeat ((with_reducible refine leK_refl ?_); simp only [go_sem, vc_block_seq, vc_block_region, vc_block_cond, vc_block_block, Nat.reduceBEq, Nat.reduceAdd, Nat.reduceLeDiff, Nat.reduceEqDiff, Int.reduceAdd, Int.reduceBEq, Int.reduceBNe, reduceCtorEq, beq_self_eq_true, Bool.true_beq, Bool.false_beq]))
      refine ⟨⟨hy1.sl.some_ hi, by omega, by omega⟩, ?_⟩
      refine wr_store (r := ⟨kD 32 F, pe, ne, ce⟩) Ty.lay5 hA2 hC rde hi rfl (Nat.le_of_ble_eq_true rfl) rfl ?_ hS0 hs2 ?_
      · rintro z ⟨a, b, g, p, n, c, rfl, h⟩
        exact ⟨a, b, _, p, n, c, splice_D, h⟩
      intro u3 hA3 hs3 _
      obtain ⟨zs, z, hz1, hz2, za, zb, zg, zp, zn, zc, rfl, hFz⟩ := (hA3 _ rde).at_ (i := i) hi
      (simp only [go_sem, vc_block_seq, vc_block_region, vc_block_cond, vc_block_block, Nat.reduceBEq, Nat.reduceAdd, Nat.reduceLeDiff, Nat.reduceEqDiff, Int.reduceAdd, Int.reduceBEq, Int.reduceBNe, reduceCtorEq, beq_self_eq_true, Bool.true_beq, Bool.false_beq]; repeat ((with_reducible refine leK_refl ?_); simp only [go_sem, vc_block_seq, vc_block_region, vc_block_cond, vc_block_block, Nat.reduceBEq, Nat.reduceAdd, Nat.reduceLeDiff, Nat.reduceEqDiff, Int.reduceAdd, Int.reduceBEq, Int.reduceBNe, reduceCtorEq, beq_self_eq_true, Bool.true_beq, Bool.false_beq]))
      refine ⟨⟨hz1.sl.some_ hi, by omega, by omega⟩, ?_⟩
      refine hz1.sl.load hz2 (.inl rfl) (Nat.le_of_ble_eq_true rfl) ?_
      (simp only [go_sem, vc_block_seq, vc_block_region, vc_block_cond, vc_block_block, Nat.reduceBEq, Nat.reduceAdd, Nat.reduceLeDiff, Nat.reduceEqDiff, Int.reduceAdd, Int.reduceBEq, Int.reduceBNe, reduceCtorEq, beq_self_eq_true, Bool.true_beq, Bool.false_beq]; repeat ((with_reducible refine leK_refl ?_); simp only [go_sem, vc_block_seq, vc_block_region, vc_block_cond, vc_block_block, Nat.reduceBEq, Nat.reduceAdd, Nat.reduceLeDiff, Nat.reduceEqDiff, Int.reduceAdd, Int.reduceBEq, Int.reduceBNe, reduceCtorEq, beq_self_eq_true, Bool.true_beq, Bool.false_beq]))
      have rse := rS _ _ _ hFz
      have hcz := (hA3 _ rse).cap
      simp only [maxLen] at hcz
      refine vc_range zn (fun (_ : Unit) => []) (fun _ => []) (fun k _ u' => AllW W11 u' R ∧ Sub W11 u' ∧ ∃ ws a b g, Own W11 u' 32 4 pe ne ce ws ∧ ws[i]? = some [.int .u8 a, .int .u16 b, .int .u8 g, .slice zp zn zc]) () (le_chk (by simp only [go_sem, vc_block_seq, vc_block_region, vc_block_cond, vc_block_block, Nat.reduceBEq, Nat.reduceAdd, Nat.reduceLeDiff, Nat.reduceEqDiff, Int.reduceAdd, Int.reduceBEq, Int.reduceBNe, reduceCtorEq, beq_self_eq_true, Bool.true_beq, Bool.false_beq])) ⟨hA3, hs3, zs, za, zb, zg, hz1, hz2⟩ (fun _ _ => rfl) (by omega) (fun _ => rfl) ?_ ?_
      · rintro k _ u4 hk ⟨hA4, hs4, ws, wa, wb, wg, hw1, hw2⟩
        obtain ⟨vs, v, hv1, hv2, va, vb, rfl⟩ := (hA4 _ rse).at_ (i := k) hk
        (simp only [go_sem, vc_block_seq, vc_block_region, vc_block_cond, vc_block_block, Nat.reduceBEq, Nat.reduceAdd, Nat.reduceLeDiff, Nat.reduceEqDiff, Int.reduceAdd, Int.reduceBEq, Int.reduceBNe, reduceCtorEq, beq_self_eq_true, Bool.true_beq, Bool.false_beq]; repeat ((with_reducible refine leK_refl ?_); simp only [go_sem, vc_block_seq, vc_block_region, vc_block_cond, vc_block_block, Nat.reduceBEq, Nat.reduceAdd, Nat.reduceLeDiff, Nat.reduceEqDiff, Int.reduceAdd, Int.reduceBEq, Int.reduceBNe, reduceCtorEq, beq_self_eq_true, Bool.true_beq, Bool.false_beq]))
        refine ⟨⟨hw1.sl.some_ hi, by omega, by omega⟩, ?_⟩
        refine hw1.sl.load hw2 (.inl rfl) (Nat.le_of_ble_eq_true rfl) ?_
        (simp only [go_sem, vc_block_seq, vc_block_region, vc_block_cond, vc_block_block, Nat.reduceBEq, Nat.reduceAdd, Nat.reduceLeDiff, Nat.reduceEqDiff, Int.reduceAdd, Int.reduceBEq, Int.reduceBNe, reduceCtorEq, beq_self_eq_true, Bool.true_beq, Bool.false_beq]; repeat ((with_reducible refine leK_refl ?_); simp only [go_sem, vc_block_seq, vc_block_region, vc_block_cond, vc_block_block, Nat.reduceBEq, Nat.reduceAdd, Nat.reduceLeDiff, Nat.reduceEqDiff, Int.reduceAdd, Int.reduceBEq, Int.reduceBNe, reduceCtorEq, beq_self_eq_true, Bool.true_beq, Bool.false_beq]))
        refine ⟨⟨hv1.sl.some_ hk, by omega, by omega⟩, ?_⟩
        refine hv1.sl.load hv2 (.inl rfl) (Nat.le_of_ble_eq_true rfl) ?_
        (simp only [go_sem, vc_block_seq, vc_block_region, vc_block_cond, vc_block_block, Nat.reduceBEq, Nat.reduceAdd, Nat.reduceLeDiff, Nat.reduceEqDiff, Int.reduceAdd, Int.reduceBEq, Int.reduceBNe, reduceCtorEq, beq_self_eq_true, Bool.true_beq, Bool.false_beq]; repeat ((with_reducible refine leK_refl ?_); simp only [go_sem, vc_block_seq, vc_block_region, vc_block_cond, vc_block_block, Nat.reduceBEq, Nat.reduceAdd, Nat.reduceLeDiff, Nat.reduceEqDiff, Int.reduceAdd, Int.reduceBEq, Int.reduceBNe, reduceCtorEq, beq_self_eq_true, Bool.true_beq, Bool.false_beq]))
        rw [arith_any]
        (simp only [go_sem, vc_block_seq, vc_block_region, vc_block_cond, vc_block_block, Nat.reduceBEq, Nat.reduceAdd, Nat.reduceLeDiff, Nat.reduceEqDiff, Int.reduceAdd, Int.reduceBEq, Int.reduceBNe, reduceCtorEq, beq_self_eq_true, Bool.true_beq, Bool.false_beq]; repeat ((with_reducible refine leK_refl ?_); simp only [go_sem, vc_block_seq, vc_block_region, vc_block_cond, vc_block_block, Nat.reduceBEq, Nat.reduceAdd, Nat.reduceLeDiff, Nat.reduceEqDiff, Int.reduceAdd, Int.reduceBEq, Int.reduceBNe, reduceCtorEq, beq_self_eq_true, Bool.true_beq, Bool.false_beq]))
        refine ⟨⟨hv1.sl.some_ hk, by omega, by omega⟩, ?_⟩
        refine wr_store (r := ⟨kS 39, zp, zn, zc⟩) Ty.lay21 hA4 hC rse hk rfl (Nat.le_of_ble_eq_true rfl) rfl ?_ hS0 hs4 ?_
        · rintro z ⟨a, b, rfl⟩
          exact ⟨a, _, splice_S1⟩
        intro u5 hA5 hs5 hkeep
        (simp only [go_sem, vc_block_seq, vc_block_region, vc_block_cond, vc_block_block, Nat.reduceBEq, Nat.reduceAdd, Nat.reduceLeDiff, Nat.reduceEqDiff, Int.reduceAdd, Int.reduceBEq, Int.reduceBNe, reduceCtorEq, beq_self_eq_true, Bool.true_beq, Bool.false_beq]; repeat ((with_reducible refine leK_refl ?_); simp only [go_sem, vc_block_seq, vc_block_region, vc_block_cond, vc_block_block, Nat.reduceBEq, Nat.reduceAdd, Nat.reduceLeDiff, Nat.reduceEqDiff, Int.reduceAdd, Int.reduceBEq, Int.reduceBNe, reduceCtorEq, beq_self_eq_true, Bool.true_beq, Bool.false_beq]))
        exact ⟨(), le_chk (by simp only [go_sem, vc_block_seq, vc_block_region, vc_block_cond, vc_block_block, Nat.reduceBEq, Nat.reduceAdd, Nat.reduceLeDiff, Nat.reduceEqDiff, Int.reduceAdd, Int.reduceBEq, Int.reduceBNe, reduceCtorEq, beq_self_eq_true, Bool.true_beq, Bool.false_beq]), hA5, hs5, ws, wa, wb, wg, hkeep ⟨kD 32 F, pe, ne, ce⟩ (show (32 : Nat) ≠ 39 from by decide) ws hw1, hw2⟩
      · rintro _ u4 ⟨hA4, hs4, _⟩
        (simp only [go_sem, vc_block_seq, vc_block_region, vc_block_cond, vc_block_block, Nat.reduceBEq, Nat.reduceAdd, Nat.reduceLeDiff, Nat.reduceEqDiff, Int.reduceAdd, Int.reduceBEq, Int.reduceBNe, reduceCtorEq, beq_self_eq_true, Bool.true_beq, Bool.false_beq]; repeat ((with_reducible refine leK_refl ?_); simp only [go_sem, vc_block_seq, vc_block_region, vc_block_cond, vc_block_block, Nat.reduceBEq, Nat.reduceAdd, Nat.reduceLeDiff, Nat.reduceEqDiff, Int.reduceAdd, Int.reduceBEq, Int.reduceBNe, reduceCtorEq, beq_self_eq_true, Bool.true_beq, Bool.false_beq]))
        exact ⟨(), le_chk (by simp only [go_sem, vc_block_seq, vc_block_region, vc_block_cond, vc_block_block, Nat.reduceBEq, Nat.reduceAdd, Nat.reduceLeDiff, Nat.reduceEqDiff, Int.reduceAdd, Int.reduceBEq, Int.reduceBNe, reduceCtorEq, beq_self_eq_true, Bool.true_beq, Bool.false_beq]), hA4, hs4⟩
    · rintro _ u2 ⟨hA2, hs2⟩
      (simp only [go_sem, vc_block_seq, vc_block_region, vc_block_cond, vc_block_block, Nat.reduceBEq, Nat.reduceAdd, Nat.reduceLeDiff, Nat.reduceEqDiff, Int.reduceAdd, Int.reduceBEq, Int.reduceBNe, reduceCtorEq, beq_self_eq_true, Bool.true_beq, Bool.false_beq]; repeat ((with_reducible refine leK_refl ?_); simp only [go_sem, vc_block_seq, vc_block_region, vc_block_cond, vc_block_block, Nat.reduceBEq, Nat.reduceAdd, Nat.reduceLeDiff, Nat.reduceEqDiff, Int.reduceAdd, Int.reduceBEq, Int.reduceBNe, reduceCtorEq, beq_self_eq_true, Bool.true_beq, Bool.false_beq]))
      exact ⟨(), le_chk (by simp only [go_sem, vc_block_seq, vc_block_region, vc_block_cond, vc_block_block, Nat.reduceBEq, Nat.reduceAdd, Nat.reduceLeDiff, Nat.reduceEqDiff, Int.reduceAdd, Int.reduceBEq, Int.reduceBNe, reduceCtorEq, beq_self_eq_true, Bool.true_beq, Bool.false_beq]), hA2, hs2⟩
  · rintro _ u1 ⟨hA1, hs1⟩
    (simp only [go_sem, vc_block_seq, vc_block_region, vc_block_cond, vc_block_block, Nat.reduceBEq, Nat.reduceAdd, Nat.reduceLeDiff, Nat.reduceEqDiff, Int.reduceAdd, Int.reduceBEq, Int.reduceBNe, reduceCtorEq, beq_self_eq_true, Bool.true_beq, Bool.false_beq]; repeat ((with_reducible refine leK_refl ?_); simp only [go_sem, vc_block_seq, vc_block_region, vc_block_cond, vc_block_block, Nat.reduceBEq, Nat.reduceAdd, Nat.reduceLeDiff, Nat.reduceEqDiff, Int.reduceAdd, Int.reduceBEq, Int.reduceBNe, reduceCtorEq, beq_self_eq_true, Bool.true_beq, Bool.false_beq]))
    have eqs : ∀ (L M : List GDesc), L = M → decide (L = M) = true := fun L M h => decide_eq_true h
    have hx7 : x7 = [] := by simpa using ex
    have hWs : ∀ v w : GW, v = w → decide (v = w) = true := fun v w h => decide_eq_true h
    have WLz : ∀ w, WL w ⟨false, 0, 0, none, 0, 0, []⟩ := fun w => ⟨DL.nil_ _, by show 0 ≤ 100; omega, by simp⟩
    have WLx : ∀ w, WL w ⟨false, 0, 0, x4, x5, x6, x7⟩ := fun w => ⟨DL.empty ox.dl hx7, by have := ox.len; show x5 ≤ 100; rw [hx7] at this; simp at this; omega, by rw [hx7]; simp⟩
    have hS : Sub u1 u1 := Sub.refl _
    refine AtCall.of_spec (wsame_con ⟨false, 0, 0, x4, x5, x6, x7⟩ ⟨false, 0, 0, none, 0, 0, []⟩ _ (WLx _) (WLz _)) ?_
    rintro r W17 H17 rfl
    replace hS := hS.trans H17
    rw [hWs _ _ (by simp [PW.g, hx7])]
    (simp only [go_sem, vc_block_seq, vc_block_region, vc_block_cond, vc_block_block, Nat.reduceBEq, Nat.reduceAdd, Nat.reduceLeDiff, Nat.reduceEqDiff, Int.reduceAdd, Int.reduceBEq, Int.reduceBNe, reduceCtorEq, beq_self_eq_true, Bool.true_beq, Bool.false_beq]; repeat ((with_reducible refine leK_refl ?_); simp only [go_sem, vc_block_seq, vc_block_region, vc_block_cond, vc_block_block, Nat.reduceBEq, Nat.reduceAdd, Nat.reduceLeDiff, Nat.reduceEqDiff, Int.reduceAdd, Int.reduceBEq, Int.reduceBNe, reduceCtorEq, beq_self_eq_true, Bool.true_beq, Bool.false_beq]))
    refine AtCall.of_spec (descs_con lv lk pv pk nv cv nk ck _ (ov9.dl.mono (hs1.trans hS)) (ok9.mono (hs1.trans hS)) (by omega) (fun x hx => by have := hlv8 x hx; omega)) ?_
    rintro r W18 H18 rfl
    replace hS := hS.trans H18
    rw [eqs _ _ ek.symm]
    (simp only [go_sem, vc_block_seq, vc_block_region, vc_block_cond, vc_block_block, Nat.reduceBEq, Nat.reduceAdd, Nat.reduceLeDiff, Nat.reduceEqDiff, Int.reduceAdd, Int.reduceBEq, Int.reduceBNe, reduceCtorEq, beq_self_eq_true, Bool.true_beq, Bool.false_beq]; repeat ((with_reducible refine leK_refl ?_); simp only [go_sem, vc_block_seq, vc_block_region, vc_block_cond, vc_block_block, Nat.reduceBEq, Nat.reduceAdd, Nat.reduceLeDiff, Nat.reduceEqDiff, Int.reduceAdd, Int.reduceBEq, Int.reduceBNe, reduceCtorEq, beq_self_eq_true, Bool.true_beq, Bool.false_beq]))
    refine AtCall.of_spec (descs_con ls lg ps pg ns cs ng cg _ (os9.dl.mono (hs1.trans hS)) (og9.mono (hs1.trans hS)) (by omega) (fun x hx => by have := hls8 x hx; omega)) ?_
    rintro r W19 H19 rfl
    replace hS := hS.trans H19
    rw [eqs _ _ eg.symm]
    (simp only [go_sem, vc_block_seq, vc_block_region, vc_block_cond, vc_block_block, Nat.reduceBEq, Nat.reduceAdd, Nat.reduceLeDiff, Nat.reduceEqDiff, Int.reduceAdd, Int.reduceBEq, Int.reduceBNe, reduceCtorEq, beq_self_eq_true, Bool.true_beq, Bool.false_beq]; repeat ((with_reducible refine leK_refl ?_); simp only [go_sem, vc_block_seq, vc_block_region, vc_block_cond, vc_block_block, Nat.reduceBEq, Nat.reduceAdd, Nat.reduceLeDiff, Nat.reduceEqDiff, Int.reduceAdd, Int.reduceBEq, Int.reduceBNe, reduceCtorEq, beq_self_eq_true, Bool.true_beq, Bool.false_beq]))
    refine AtCall.of_spec (descs_con w7 lg w4 pg w5 w6 ng cg _ (ow9.mono (hs1.trans hS)) (og9.mono (hs1.trans hS)) (by omega) (fun x hx => by have := hlw8 x hx; omega)) ?_
    rintro r W20 H20 rfl
    replace hS := hS.trans H20
    rw [eqs _ _ (ew.trans eg.symm)]
    (simp only [go_sem, vc_block_seq, vc_block_region, vc_block_cond, vc_block_block, Nat.reduceBEq, Nat.reduceAdd, Nat.reduceLeDiff, Nat.reduceEqDiff, Int.reduceAdd, Int.reduceBEq, Int.reduceBNe, reduceCtorEq, beq_self_eq_true, Bool.true_beq, Bool.false_beq]; repeat ((with_reducible refine leK_refl ?_); simp only [go_sem, vc_block_seq, vc_block_region, vc_block_cond, vc_block_block, Nat.reduceBEq, Nat.reduceAdd, Nat.reduceLeDiff, Nat.reduceEqDiff, Int.reduceAdd, Int.reduceBEq, Int.reduceBNe, reduceCtorEq, beq_self_eq_true, Bool.true_beq, Bool.false_beq]))
    refine AtCall.of_spec (sawake_con _) ?_
    rintro r W21 H21 rfl
    replace hS := hS.trans H21
    (simp only [go_sem, vc_block_seq, vc_block_region, vc_block_cond, vc_block_block, Nat.reduceBEq, Nat.reduceAdd, Nat.reduceLeDiff, Nat.reduceEqDiff, Int.reduceAdd, Int.reduceBEq, Int.reduceBNe, reduceCtorEq, beq_self_eq_true, Bool.true_beq, Bool.false_beq]; repeat ((with_reducible refine leK_refl ?_); simp only [go_sem, vc_block_seq, vc_block_region, vc_block_cond, vc_block_block, Nat.reduceBEq, Nat.reduceAdd, Nat.reduceLeDiff, Nat.reduceEqDiff, Int.reduceAdd, Int.reduceBEq, Int.reduceBNe, reduceCtorEq, beq_self_eq_true, Bool.true_beq, Bool.false_beq]))
    exact ⟨hS0.trans (hs1.trans hS), rfl⟩
end Go.Proofs.Ytcfkcmalkbdphaa
