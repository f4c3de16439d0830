/-
  The walk of BufferTells.
-/
import Derived.Test.YtcaobkpfafcnjaaBl
import Derived.Test.YtcaobkpfafcnjaaBf
set_option linter.unusedSimpArgs false
set_option linter.unusedVariables false
namespace Go.Proofs.Ytcaobkpfafcnjaa
open Go.Eng
attribute [local go_sem] GID.val GID.enc PE.val PE.enc PB.val PB.enc encI encB

theorem bput_small {L : List GEv} {room : Int} {e : GEv} (hL : ∀ x ∈ L, x.vals.length ≤ 1000 ∧ x.data.length ≤ 1000) (he : e.vals.length ≤ 1000 ∧ e.data.length ≤ 1000) : ∀ x ∈ bPut L room e, x.vals.length ≤ 1000 ∧ x.data.length ≤ 1000 := fun x hx => by
  rcases bPut_mem hx with h | h
  · rw [h]; exact he
  · exact hL x h
theorem bput_le (L : List GEv) (room : Int) (e : GEv) : (bPut L room e).length ≤ L.length + 1 := by
  by_cases h : bErr L room e.id = 0
  · rw [bPut_ok h, kIns_len']; omega
  · rw [bPut_err h]; omega

set_option maxRecDepth 4000 in
set_option maxHeartbeats 8000000 in
theorem btells_con (a b : PB) (e : PE) (node : UInt8) (inc : UInt16) (u : World) (ha : EL EvK u a.p a.n a.c a.l) (hb : EL EvK u b.p b.n b.c b.l) (he : There u (EvK.parts e)) (han : a.n ≤ 9223372036854775807) (hbn : b.n ≤ 9223372036854775807) :
    Con Try.prog 6 [a.val, b.val, e.val, .int .u8 node.toNat, .int .u16 inc.toNat] u (fun r _ => r = .bool true) := by
  have la := ha.len
  refine spec_of_vc Ty.mixed Try.func6 rfl (by kernel_rfl) (by kernel_rfl) rfl [.tmp 10] rfl ?_
  (simp only [go_sem, vc_block_seq, vc_block_region, vc_block_cond, vc_block_block, Nat.reduceBEq, Nat.reduceAdd, Nat.reduceLeDiff, Nat.reduceEqDiff, Int.reduceAdd, Int.reduceBEq, Int.reduceBNe, reduceCtorEq, beq_self_eq_true, Bool.true_beq, Bool.false_beq]; repeat ((with_reducible refine leK_refl ?_); simp only [go_sem, vc_block_seq, vc_block_region, vc_block_cond, vc_block_block, Nat.reduceBEq, Nat.reduceAdd, Nat.reduceLeDiff, Nat.reduceEqDiff, Int.reduceAdd, Int.reduceBEq, Int.reduceBNe, reduceCtorEq, beq_self_eq_true, Bool.true_beq, Bool.false_beq]))
  intro b5 b6 b7
  have hS : Sub u u := Sub.refl _
  refine AtCall.of_spec (few_con a.l 60 a.p a.n a.c _ ha.sl han) ?_
  rintro r W1 H1 ⟨B, rfl, hB⟩
  replace hS := hS.trans H1
  replace ha := ha.mono H1
  replace hb := hb.mono H1
  replace he := he.mono H1
  cases B with
  | false =>
    (simp only [go_sem, vc_block_seq, vc_block_region, vc_block_cond, vc_block_block, Nat.reduceBEq, Nat.reduceAdd, Nat.reduceLeDiff, Nat.reduceEqDiff, Int.reduceAdd, Int.reduceBEq, Int.reduceBNe, reduceCtorEq, beq_self_eq_true, Bool.true_beq, Bool.false_beq]; repeat ((with_reducible refine leK_refl ?_); simp only [go_sem, vc_block_seq, vc_block_region, vc_block_cond, vc_block_block, Nat.reduceBEq, Nat.reduceAdd, Nat.reduceLeDiff, Nat.reduceEqDiff, Int.reduceAdd, Int.reduceBEq, Int.reduceBNe, reduceCtorEq, beq_self_eq_true, Bool.true_beq, Bool.false_beq]))
    refine AtCall.of_spec (bawake_con _) ?_
    rintro r W2 H2 rfl
    replace hS := hS.trans H2
    replace ha := ha.mono H2
    replace hb := hb.mono H2
    replace he := he.mono H2
    (simp only [go_sem, vc_block_seq, vc_block_region, vc_block_cond, vc_block_block, Nat.reduceBEq, Nat.reduceAdd, Nat.reduceLeDiff, Nat.reduceEqDiff, Int.reduceAdd, Int.reduceBEq, Int.reduceBNe, reduceCtorEq, beq_self_eq_true, Bool.true_beq, Bool.false_beq]; repeat ((with_reducible refine leK_refl ?_); simp only [go_sem, vc_block_seq, vc_block_region, vc_block_cond, vc_block_block, Nat.reduceBEq, Nat.reduceAdd, Nat.reduceLeDiff, Nat.reduceEqDiff, Int.reduceAdd, Int.reduceBEq, Int.reduceBNe, reduceCtorEq, beq_self_eq_true, Bool.true_beq, Bool.false_beq]))
    exact ⟨hS, rfl⟩
  | true =>
  have hfa := hB rfl
  (simp only [go_sem, vc_block_seq, vc_block_region, vc_block_cond, vc_block_block, Nat.reduceBEq, Nat.reduceAdd, Nat.reduceLeDiff, Nat.reduceEqDiff, Int.reduceAdd, Int.reduceBEq, Int.reduceBNe, reduceCtorEq, beq_self_eq_true, Bool.true_beq, Bool.false_beq]; repeat ((with_reducible refine leK_refl ?_); simp only [go_sem, vc_block_seq, vc_block_region, vc_block_cond, vc_block_block, Nat.reduceBEq, Nat.reduceAdd, Nat.reduceLeDiff, Nat.reduceEqDiff, Int.reduceAdd, Int.reduceBEq, Int.reduceBNe, reduceCtorEq, beq_self_eq_true, Bool.true_beq, Bool.false_beq]))
  refine AtCall.of_spec (few_con b.l 60 b.p b.n b.c _ hb.sl hbn) ?_
  rintro r W3 H3 ⟨B, rfl, hB2⟩
  replace hS := hS.trans H3
  replace ha := ha.mono H3
  replace hb := hb.mono H3
  replace he := he.mono H3
  cases B with
  | false =>
    (simp only [go_sem, vc_block_seq, vc_block_region, vc_block_cond, vc_block_block, Nat.reduceBEq, Nat.reduceAdd, Nat.reduceLeDiff, Nat.reduceEqDiff, Int.reduceAdd, Int.reduceBEq, Int.reduceBNe, reduceCtorEq, beq_self_eq_true, Bool.true_beq, Bool.false_beq]; repeat ((with_reducible refine leK_refl ?_); simp only [go_sem, vc_block_seq, vc_block_region, vc_block_cond, vc_block_block, Nat.reduceBEq, Nat.reduceAdd, Nat.reduceLeDiff, Nat.reduceEqDiff, Int.reduceAdd, Int.reduceBEq, Int.reduceBNe, reduceCtorEq, beq_self_eq_true, Bool.true_beq, Bool.false_beq]))
    refine AtCall.of_spec (bawake_con _) ?_
    rintro r W4 H4 rfl
    replace hS := hS.trans H4
    replace ha := ha.mono H4
    replace hb := hb.mono H4
    replace he := he.mono H4
    (simp only [go_sem, vc_block_seq, vc_block_region, vc_block_cond, vc_block_block, Nat.reduceBEq, Nat.reduceAdd, Nat.reduceLeDiff, Nat.reduceEqDiff, Int.reduceAdd, Int.reduceBEq, Int.reduceBNe, reduceCtorEq, beq_self_eq_true, Bool.true_beq, Bool.false_beq]; repeat ((with_reducible refine leK_refl ?_); simp only [go_sem, vc_block_seq, vc_block_region, vc_block_cond, vc_block_block, Nat.reduceBEq, Nat.reduceAdd, Nat.reduceLeDiff, Nat.reduceEqDiff, Int.reduceAdd, Int.reduceBEq, Int.reduceBNe, reduceCtorEq, beq_self_eq_true, Bool.true_beq, Bool.false_beq]))
    exact ⟨hS, rfl⟩
  | true =>
  (simp only [go_sem, vc_block_seq, vc_block_region, vc_block_cond, vc_block_block, Nat.reduceBEq, Nat.reduceAdd, Nat.reduceLeDiff, Nat.reduceEqDiff, Int.reduceAdd, Int.reduceBEq, Int.reduceBNe, reduceCtorEq, beq_self_eq_true, Bool.true_beq, Bool.false_beq]; repeat ((with_reducible refine leK_refl ?_); simp only [go_sem, vc_block_seq, vc_block_region, vc_block_cond, vc_block_block, Nat.reduceBEq, Nat.reduceAdd, Nat.reduceLeDiff, Nat.reduceEqDiff, Int.reduceAdd, Int.reduceBEq, Int.reduceBNe, reduceCtorEq, beq_self_eq_true, Bool.true_beq, Bool.false_beq]))
  refine eff_lit (n := 1) (vs := [e.val]) Ty.el22 rfl rfl (by intro v hv; simp at hv; subst hv; rfl) (by omega) ?_
  intro pe u2 oe se fe
  have oe' : Sl u2 5 pe 1 1 ([e].map PE.enc) := oe.sl
  replace hS := hS.trans se
  replace ha := ha.mono se
  replace hb := hb.mono se
  replace he := he.mono se
  (simp only [go_sem, vc_block_seq, vc_block_region, vc_block_cond, vc_block_block, Nat.reduceBEq, Nat.reduceAdd, Nat.reduceLeDiff, Nat.reduceEqDiff, Int.reduceAdd, Int.reduceBEq, Int.reduceBNe, reduceCtorEq, beq_self_eq_true, Bool.true_beq, Bool.false_beq]; repeat ((with_reducible refine leK_refl ?_); simp only [go_sem, vc_block_seq, vc_block_region, vc_block_cond, vc_block_block, Nat.reduceBEq, Nat.reduceAdd, Nat.reduceLeDiff, Nat.reduceEqDiff, Int.reduceAdd, Int.reduceBEq, Int.reduceBNe, reduceCtorEq, beq_self_eq_true, Bool.true_beq, Bool.false_beq]))
  refine AtCall.of_spec (few_con [e] 1 pe 1 1 _ oe' (by omega)) ?_
  rintro r W5 H5 ⟨B, rfl, hB3⟩
  replace hS := hS.trans H5
  replace ha := ha.mono H5
  replace hb := hb.mono H5
  replace he := he.mono H5
  cases B with
  | false =>
    (simp only [go_sem, vc_block_seq, vc_block_region, vc_block_cond, vc_block_block, Nat.reduceBEq, Nat.reduceAdd, Nat.reduceLeDiff, Nat.reduceEqDiff, Int.reduceAdd, Int.reduceBEq, Int.reduceBNe, reduceCtorEq, beq_self_eq_true, Bool.true_beq, Bool.false_beq]; repeat ((with_reducible refine leK_refl ?_); simp only [go_sem, vc_block_seq, vc_block_region, vc_block_cond, vc_block_block, Nat.reduceBEq, Nat.reduceAdd, Nat.reduceLeDiff, Nat.reduceEqDiff, Int.reduceAdd, Int.reduceBEq, Int.reduceBNe, reduceCtorEq, beq_self_eq_true, Bool.true_beq, Bool.false_beq]))
    refine AtCall.of_spec (bawake_con _) ?_
    rintro r W6 H6 rfl
    replace hS := hS.trans H6
    replace ha := ha.mono H6
    replace hb := hb.mono H6
    replace he := he.mono H6
    (simp only [go_sem, vc_block_seq, vc_block_region, vc_block_cond, vc_block_block, Nat.reduceBEq, Nat.reduceAdd, Nat.reduceLeDiff, Nat.reduceEqDiff, Int.reduceAdd, Int.reduceBEq, Int.reduceBNe, reduceCtorEq, beq_self_eq_true, Bool.true_beq, Bool.false_beq]; repeat ((with_reducible refine leK_refl ?_); simp only [go_sem, vc_block_seq, vc_block_region, vc_block_cond, vc_block_block, Nat.reduceBEq, Nat.reduceAdd, Nat.reduceLeDiff, Nat.reduceEqDiff, Int.reduceAdd, Int.reduceBEq, Int.reduceBNe, reduceCtorEq, beq_self_eq_true, Bool.true_beq, Bool.false_beq]))
    exact ⟨hS, rfl⟩
  | true =>
  have he8 := (hB3 rfl).2 e (by simp)
  have ha60 := hfa.1
  have A : BL W5 60 a := ⟨ha, by omega, fun x hx => by have := hfa.2 x hx; omega⟩
  have hsm : ∀ x ∈ es a.l, x.vals.length ≤ 1000 ∧ x.data.length ≤ 1000 := fun x hx => by
    obtain ⟨y, hy, rfl⟩ := List.mem_map.1 hx
    have := hfa.2 y hy
    rw [ev_nlen (ha.fl y hy), ev_mlen (ha.fl y hy)]
    omega
  have hem : e.g.vals.length ≤ 1000 ∧ e.g.data.length ≤ 1000 := by rw [ev_nlen he, ev_mlen he]; omega
  (simp only [go_sem, vc_block_seq, vc_block_region, vc_block_cond, vc_block_block, Nat.reduceBEq, Nat.reduceAdd, Nat.reduceLeDiff, Nat.reduceEqDiff, Int.reduceAdd, Int.reduceBEq, Int.reduceBNe, reduceCtorEq, beq_self_eq_true, Bool.true_beq, Bool.false_beq]; repeat ((with_reducible refine leK_refl ?_); simp only [go_sem, vc_block_seq, vc_block_region, vc_block_cond, vc_block_block, Nat.reduceBEq, Nat.reduceAdd, Nat.reduceLeDiff, Nat.reduceEqDiff, Int.reduceAdd, Int.reduceBEq, Int.reduceBNe, reduceCtorEq, beq_self_eq_true, Bool.true_beq, Bool.false_beq]))
  refine AtCall.of_spec (get_con a e.g.id _ (A.wide (by omega))) ?_
  rintro r W7 H7 ⟨x, rfl, hx, ox⟩
  replace hS := hS.trans H7
  replace ha := ha.mono H7
  replace hb := hb.mono H7
  replace he := he.mono H7
  replace A := A.mono H7
  generalize hF : (if bHas (es a.l) e.g.id = true then (0 : Int) else 151) = F
  replace ox := ox.there
  have hxb : x.g.vals.length ≤ 1000 ∧ x.g.data.length ≤ 1000 := by
    rw [hx]
    unfold bGet
    split
    · rename_i i hi
      cases hxi : (es a.l)[i]? with
      | none => simp [gev0]
      | some z => exact hsm z (List.mem_of_getElem? hxi)
    · simp [gev0]
  have hxn : x.n ≤ 1000 := by rw [← ev_nlen ox]; exact hxb.1
  (simp -implicitDefEqProofs only [go_sem, vc_block_seq, vc_block_region, vc_block_cond, vc_block_block, Nat.reduceBEq, Nat.reduceAdd, Nat.reduceLeDiff, Nat.reduceEqDiff, Int.reduceAdd, Int.reduceBEq, Int.reduceBNe, reduceCtorEq, beq_self_eq_true, Bool.true_beq, Bool.false_beq]; repeat ((with_reducible refine leK_refl ?_); simp -implicitDefEqProofs only [go_sem, vc_block_seq, vc_block_region, vc_block_cond, vc_block_block, Nat.reduceBEq, Nat.reduceAdd, Nat.reduceLeDiff, Nat.reduceEqDiff, Int.reduceAdd, Int.reduceBEq, Int.reduceBNe, reduceCtorEq, beq_self_eq_true, Bool.true_beq, Bool.false_beq]))
  intro b11
  refine AtCall.of_spec (rget_con a e.g.id _ (A.wide (by omega))) ?_
  rintro r W8 H8 ⟨y, rfl, hy, oy⟩
  replace hS := hS.trans H8
  replace ha := ha.mono H8
  replace hb := hb.mono H8
  replace he := he.mono H8
  replace A := A.mono H8
  replace ox := ox.mono H8
  rw [hF]
  replace oy := oy.there
  (simp -implicitDefEqProofs only [go_sem, vc_block_seq, vc_block_region, vc_block_cond, vc_block_block, Nat.reduceBEq, Nat.reduceAdd, Nat.reduceLeDiff, Nat.reduceEqDiff, Int.reduceAdd, Int.reduceBEq, Int.reduceBNe, reduceCtorEq, beq_self_eq_true, Bool.true_beq, Bool.false_beq]; repeat ((with_reducible refine leK_refl ?_); simp -implicitDefEqProofs only [go_sem, vc_block_seq, vc_block_region, vc_block_cond, vc_block_block, Nat.reduceBEq, Nat.reduceAdd, Nat.reduceLeDiff, Nat.reduceEqDiff, Int.reduceAdd, Int.reduceBEq, Int.reduceBNe, reduceCtorEq, beq_self_eq_true, Bool.true_beq, Bool.false_beq]))
  intro b13
  refine .inl ⟨[(0, false), (2, false), (1, true), (3, false), (4, false), (5, false), (6, false), (7, false), (9, false), (10, false), (8, true), (11, false), (12, false), (13, false), (14, false), (15, false), (16, false), (19, false), (20, false), (17, false), (21, false), (18, true), (22, false), (23, false), (24, false), (25, false), (26, false), (27, false), (28, false), (29, false), (30, false), (31, false), (32, false), (33, false), (34, false), (35, false), (36, false), (37, false), (39, false), (38, true), (40, false), (41, false), (42, false), (43, false)], by kernel_rfl, ?_⟩
  (simp -implicitDefEqProofs only [go_sem, vc_block_seq, vc_block_region, vc_block_cond, vc_block_block, Nat.reduceBEq, Nat.reduceAdd, Nat.reduceLeDiff, Nat.reduceEqDiff, Int.reduceAdd, Int.reduceBEq, Int.reduceBNe, reduceCtorEq, beq_self_eq_true, Bool.true_beq, Bool.false_beq]; repeat ((with_reducible refine leK_refl ?_); simp -implicitDefEqProofs only [go_sem, vc_block_seq, vc_block_region, vc_block_cond, vc_block_block, Nat.reduceBEq, Nat.reduceAdd, Nat.reduceLeDiff, Nat.reduceEqDiff, Int.reduceAdd, Int.reduceBEq, Int.reduceBNe, reduceCtorEq, beq_self_eq_true, Bool.true_beq, Bool.false_beq]))
  refine AtCall.of_spec (right_con a _ A.el (by omega)) ?_
  rintro r W9 H9 rfl
  replace hS := hS.trans H9
  replace ha := ha.mono H9
  replace hb := hb.mono H9
  replace he := he.mono H9
  replace A := A.mono H9
  replace ox := ox.mono H9
  replace oy := oy.mono H9
  generalize hR : bRight (es a.l) a.room = R
  (simp -implicitDefEqProofs only [go_sem, vc_block_seq, vc_block_region, vc_block_cond, vc_block_block, Nat.reduceBEq, Nat.reduceAdd, Nat.reduceLeDiff, Nat.reduceEqDiff, Int.reduceAdd, Int.reduceBEq, Int.reduceBNe, reduceCtorEq, beq_self_eq_true, Bool.true_beq, Bool.false_beq]; repeat ((with_reducible refine leK_refl ?_); simp -implicitDefEqProofs only [go_sem, vc_block_seq, vc_block_region, vc_block_cond, vc_block_block, Nat.reduceBEq, Nat.reduceAdd, Nat.reduceLeDiff, Nat.reduceEqDiff, Int.reduceAdd, Int.reduceBEq, Int.reduceBNe, reduceCtorEq, beq_self_eq_true, Bool.true_beq, Bool.false_beq]))
  refine AtCall.of_spec (rright_con a _ A.el (by omega)) ?_
  rintro r W10 H10 rfl
  replace hS := hS.trans H10
  replace ha := ha.mono H10
  replace hb := hb.mono H10
  replace he := he.mono H10
  replace A := A.mono H10
  replace ox := ox.mono H10
  replace oy := oy.mono H10
  rw [hR]
  (simp -implicitDefEqProofs only [go_sem, vc_block_seq, vc_block_region, vc_block_cond, vc_block_block, Nat.reduceBEq, Nat.reduceAdd, Nat.reduceLeDiff, Nat.reduceEqDiff, Int.reduceAdd, Int.reduceBEq, Int.reduceBNe, reduceCtorEq, beq_self_eq_true, Bool.true_beq, Bool.false_beq]; repeat ((with_reducible refine leK_refl ?_); simp -implicitDefEqProofs only [go_sem, vc_block_seq, vc_block_region, vc_block_cond, vc_block_block, Nat.reduceBEq, Nat.reduceAdd, Nat.reduceLeDiff, Nat.reduceEqDiff, Int.reduceAdd, Int.reduceBEq, Int.reduceBNe, reduceCtorEq, beq_self_eq_true, Bool.true_beq, Bool.false_beq]))
  refine AtCall.of_spec (bufsame_con a b _ (A.wide (by omega)) hb) ?_
  rintro r W11 H11 rfl
  replace hS := hS.trans H11
  replace ha := ha.mono H11
  replace hb := hb.mono H11
  replace he := he.mono H11
  replace A := A.mono H11
  replace ox := ox.mono H11
  replace oy := oy.mono H11
  generalize hQ : (decide (a.room = b.room) && decide (es a.l = es b.l)) = Q
  (simp -implicitDefEqProofs only [go_sem, vc_block_seq, vc_block_region, vc_block_cond, vc_block_block, Nat.reduceBEq, Nat.reduceAdd, Nat.reduceLeDiff, Nat.reduceEqDiff, Int.reduceAdd, Int.reduceBEq, Int.reduceBNe, reduceCtorEq, beq_self_eq_true, Bool.true_beq, Bool.false_beq]; repeat ((with_reducible refine leK_refl ?_); simp -implicitDefEqProofs only [go_sem, vc_block_seq, vc_block_region, vc_block_cond, vc_block_block, Nat.reduceBEq, Nat.reduceAdd, Nat.reduceLeDiff, Nat.reduceEqDiff, Int.reduceAdd, Int.reduceBEq, Int.reduceBNe, reduceCtorEq, beq_self_eq_true, Bool.true_beq, Bool.false_beq]))
  refine AtCall.of_spec (rsame_con a b _ (A.wide (by omega)) hb) ?_
  rintro r W12 H12 rfl
  replace hS := hS.trans H12
  replace ha := ha.mono H12
  replace hb := hb.mono H12
  replace he := he.mono H12
  replace A := A.mono H12
  replace ox := ox.mono H12
  replace oy := oy.mono H12
  rw [hQ]
  (simp -implicitDefEqProofs only [go_sem, vc_block_seq, vc_block_region, vc_block_cond, vc_block_block, Nat.reduceBEq, Nat.reduceAdd, Nat.reduceLeDiff, Nat.reduceEqDiff, Int.reduceAdd, Int.reduceBEq, Int.reduceBNe, reduceCtorEq, beq_self_eq_true, Bool.true_beq, Bool.false_beq]; repeat ((with_reducible refine leK_refl ?_); simp -implicitDefEqProofs only [go_sem, vc_block_seq, vc_block_region, vc_block_cond, vc_block_block, Nat.reduceBEq, Nat.reduceAdd, Nat.reduceLeDiff, Nat.reduceEqDiff, Int.reduceAdd, Int.reduceBEq, Int.reduceBNe, reduceCtorEq, beq_self_eq_true, Bool.true_beq, Bool.false_beq]))
  refine AtCall.of_spec (has_con a e.g.id _ A.el (by omega)) ?_
  rintro r W13 H13 rfl
  replace hS := hS.trans H13
  replace ha := ha.mono H13
  replace hb := hb.mono H13
  replace he := he.mono H13
  replace A := A.mono H13
  replace ox := ox.mono H13
  replace oy := oy.mono H13
  generalize hH : bHas (es a.l) e.g.id = H at hF
  (simp -implicitDefEqProofs only [go_sem, vc_block_seq, vc_block_region, vc_block_cond, vc_block_block, Nat.reduceBEq, Nat.reduceAdd, Nat.reduceLeDiff, Nat.reduceEqDiff, Int.reduceAdd, Int.reduceBEq, Int.reduceBNe, reduceCtorEq, beq_self_eq_true, Bool.true_beq, Bool.false_beq]; repeat ((with_reducible refine leK_refl ?_); simp -implicitDefEqProofs only [go_sem, vc_block_seq, vc_block_region, vc_block_cond, vc_block_block, Nat.reduceBEq, Nat.reduceAdd, Nat.reduceLeDiff, Nat.reduceEqDiff, Int.reduceAdd, Int.reduceBEq, Int.reduceBNe, reduceCtorEq, beq_self_eq_true, Bool.true_beq, Bool.false_beq]))
  refine AtCall.of_spec (rhas_con a e.g.id _ A.el (by omega)) ?_
  rintro r W14 H14 rfl
  replace hS := hS.trans H14
  replace ha := ha.mono H14
  replace hb := hb.mono H14
  replace he := he.mono H14
  replace A := A.mono H14
  replace ox := ox.mono H14
  replace oy := oy.mono H14
  rw [hH]
  (simp -implicitDefEqProofs only [go_sem, vc_block_seq, vc_block_region, vc_block_cond, vc_block_block, Nat.reduceBEq, Nat.reduceAdd, Nat.reduceLeDiff, Nat.reduceEqDiff, Int.reduceAdd, Int.reduceBEq, Int.reduceBNe, reduceCtorEq, beq_self_eq_true, Bool.true_beq, Bool.false_beq]; repeat ((with_reducible refine leK_refl ?_); simp -implicitDefEqProofs only [go_sem, vc_block_seq, vc_block_region, vc_block_cond, vc_block_block, Nat.reduceBEq, Nat.reduceAdd, Nat.reduceLeDiff, Nat.reduceEqDiff, Int.reduceAdd, Int.reduceBEq, Int.reduceBNe, reduceCtorEq, beq_self_eq_true, Bool.true_beq, Bool.false_beq]))
  rw [show (F != F) = false by simp]
  (simp -implicitDefEqProofs only [go_sem, vc_block_seq, vc_block_region, vc_block_cond, vc_block_block, Nat.reduceBEq, Nat.reduceAdd, Nat.reduceLeDiff, Nat.reduceEqDiff, Int.reduceAdd, Int.reduceBEq, Int.reduceBNe, reduceCtorEq, beq_self_eq_true, Bool.true_beq, Bool.false_beq]; repeat ((with_reducible refine leK_refl ?_); simp -implicitDefEqProofs only [go_sem, vc_block_seq, vc_block_region, vc_block_cond, vc_block_block, Nat.reduceBEq, Nat.reduceAdd, Nat.reduceLeDiff, Nat.reduceEqDiff, Int.reduceAdd, Int.reduceBEq, Int.reduceBNe, reduceCtorEq, beq_self_eq_true, Bool.true_beq, Bool.false_beq]))
  refine AtCall.of_spec (revent_con x y _ ox oy (by omega)) ?_
  rintro r W15 H15 rfl
  replace hS := hS.trans H15
  replace ha := ha.mono H15
  replace hb := hb.mono H15
  replace he := he.mono H15
  replace A := A.mono H15
  replace ox := ox.mono H15
  replace oy := oy.mono H15
  rw [decide_eq_true (hx.trans hy.symm)]
  (simp -implicitDefEqProofs only [go_sem, vc_block_seq, vc_block_region, vc_block_cond, vc_block_block, Nat.reduceBEq, Nat.reduceAdd, Nat.reduceLeDiff, Nat.reduceEqDiff, Int.reduceAdd, Int.reduceBEq, Int.reduceBNe, reduceCtorEq, beq_self_eq_true, Bool.true_beq, Bool.false_beq]; repeat ((with_reducible refine leK_refl ?_); simp -implicitDefEqProofs only [go_sem, vc_block_seq, vc_block_region, vc_block_cond, vc_block_block, Nat.reduceBEq, Nat.reduceAdd, Nat.reduceLeDiff, Nat.reduceEqDiff, Int.reduceAdd, Int.reduceBEq, Int.reduceBNe, reduceCtorEq, beq_self_eq_true, Bool.true_beq, Bool.false_beq]))
  refine AtCall.of_spec (ids_con a _ A.el (by omega)) ?_
  rintro r W16 H16 ⟨pi, ci, rfl, oi⟩
  replace hS := hS.trans H16
  replace ha := ha.mono H16
  replace hb := hb.mono H16
  replace he := he.mono H16
  replace A := A.mono H16
  replace ox := ox.mono H16
  replace oy := oy.mono H16
  replace oi := oi.sl
  (simp -implicitDefEqProofs only [go_sem, vc_block_seq, vc_block_region, vc_block_cond, vc_block_block, Nat.reduceBEq, Nat.reduceAdd, Nat.reduceLeDiff, Nat.reduceEqDiff, Int.reduceAdd, Int.reduceBEq, Int.reduceBNe, reduceCtorEq, beq_self_eq_true, Bool.true_beq, Bool.false_beq]; repeat ((with_reducible refine leK_refl ?_); simp -implicitDefEqProofs only [go_sem, vc_block_seq, vc_block_region, vc_block_cond, vc_block_block, Nat.reduceBEq, Nat.reduceAdd, Nat.reduceLeDiff, Nat.reduceEqDiff, Int.reduceAdd, Int.reduceBEq, Int.reduceBNe, reduceCtorEq, beq_self_eq_true, Bool.true_beq, Bool.false_beq]))
  refine AtCall.of_spec (rids_con a _ A.el (by omega)) ?_
  rintro r W17 H17 ⟨pj, cj, rfl, oj⟩
  replace hS := hS.trans H17
  replace ha := ha.mono H17
  replace hb := hb.mono H17
  replace he := he.mono H17
  replace A := A.mono H17
  replace ox := ox.mono H17
  replace oy := oy.mono H17
  replace oi := oi.mono H17
  (simp -implicitDefEqProofs only [go_sem, vc_block_seq, vc_block_region, vc_block_cond, vc_block_block, Nat.reduceBEq, Nat.reduceAdd, Nat.reduceLeDiff, Nat.reduceEqDiff, Int.reduceAdd, Int.reduceBEq, Int.reduceBNe, reduceCtorEq, beq_self_eq_true, Bool.true_beq, Bool.false_beq]; repeat ((with_reducible refine leK_refl ?_); simp -implicitDefEqProofs only [go_sem, vc_block_seq, vc_block_region, vc_block_cond, vc_block_block, Nat.reduceBEq, Nat.reduceAdd, Nat.reduceLeDiff, Nat.reduceEqDiff, Int.reduceAdd, Int.reduceBEq, Int.reduceBNe, reduceCtorEq, beq_self_eq_true, Bool.true_beq, Bool.false_beq]))
  refine AtCall.of_spec (sameID_con (bIds (es a.l)) (bIds (es a.l)) pi pj a.n ci a.n cj _ oi oj.sl (by omega)) ?_
  rintro r W18 H18 rfl
  replace hS := hS.trans H18
  replace ha := ha.mono H18
  replace hb := hb.mono H18
  replace he := he.mono H18
  replace A := A.mono H18
  replace ox := ox.mono H18
  replace oy := oy.mono H18
  replace oi := oi.mono H18
  rw [decide_eq_true rfl]
  (simp -implicitDefEqProofs only [go_sem, vc_block_seq, vc_block_region, vc_block_cond, vc_block_block, Nat.reduceBEq, Nat.reduceAdd, Nat.reduceLeDiff, Nat.reduceEqDiff, Int.reduceAdd, Int.reduceBEq, Int.reduceBNe, reduceCtorEq, beq_self_eq_true, Bool.true_beq, Bool.false_beq]; repeat ((with_reducible refine leK_refl ?_); simp -implicitDefEqProofs only [go_sem, vc_block_seq, vc_block_region, vc_block_cond, vc_block_block, Nat.reduceBEq, Nat.reduceAdd, Nat.reduceLeDiff, Nat.reduceEqDiff, Int.reduceAdd, Int.reduceBEq, Int.reduceBNe, reduceCtorEq, beq_self_eq_true, Bool.true_beq, Bool.false_beq]))
  refine AtCall.of_spec (rright_con a _ A.el (by omega)) ?_
  rintro r W19 H19 rfl
  replace hS := hS.trans H19
  replace ha := ha.mono H19
  replace hb := hb.mono H19
  replace he := he.mono H19
  replace A := A.mono H19
  replace ox := ox.mono H19
  replace oy := oy.mono H19
  replace oi := oi.mono H19
  rw [hR]
  cases R with
  | false =>
    (simp only [go_sem, vc_block_seq, vc_block_region, vc_block_cond, vc_block_block, Nat.reduceBEq, Nat.reduceAdd, Nat.reduceLeDiff, Nat.reduceEqDiff, Int.reduceAdd, Int.reduceBEq, Int.reduceBNe, reduceCtorEq, beq_self_eq_true, Bool.true_beq, Bool.false_beq]; repeat ((with_reducible refine leK_refl ?_); simp only [go_sem, vc_block_seq, vc_block_region, vc_block_cond, vc_block_block, Nat.reduceBEq, Nat.reduceAdd, Nat.reduceLeDiff, Nat.reduceEqDiff, Int.reduceAdd, Int.reduceBEq, Int.reduceBNe, reduceCtorEq, beq_self_eq_true, Bool.true_beq, Bool.false_beq]))
    refine AtCall.of_spec (bawake_con _) ?_
    rintro r W20 H20 rfl
    replace hS := hS.trans H20
    replace ha := ha.mono H20
    replace hb := hb.mono H20
    replace he := he.mono H20
    replace A := A.mono H20
    replace ox := ox.mono H20
    replace oy := oy.mono H20
    replace oi := oi.mono H20
    (simp only [go_sem, vc_block_seq, vc_block_region, vc_block_cond, vc_block_block, Nat.reduceBEq, Nat.reduceAdd, Nat.reduceLeDiff, Nat.reduceEqDiff, Int.reduceAdd, Int.reduceBEq, Int.reduceBNe, reduceCtorEq, beq_self_eq_true, Bool.true_beq, Bool.false_beq]; repeat ((with_reducible refine leK_refl ?_); simp only [go_sem, vc_block_seq, vc_block_region, vc_block_cond, vc_block_block, Nat.reduceBEq, Nat.reduceAdd, Nat.reduceLeDiff, Nat.reduceEqDiff, Int.reduceAdd, Int.reduceBEq, Int.reduceBNe, reduceCtorEq, beq_self_eq_true, Bool.true_beq, Bool.false_beq]))
    exact ⟨hS, rfl⟩
  | true =>
  (simp only [go_sem, vc_block_seq, vc_block_region, vc_block_cond, vc_block_block, Nat.reduceBEq, Nat.reduceAdd, Nat.reduceLeDiff, Nat.reduceEqDiff, Int.reduceAdd, Int.reduceBEq, Int.reduceBNe, reduceCtorEq, beq_self_eq_true, Bool.true_beq, Bool.false_beq]; repeat ((with_reducible refine leK_refl ?_); simp only [go_sem, vc_block_seq, vc_block_region, vc_block_cond, vc_block_block, Nat.reduceBEq, Nat.reduceAdd, Nat.reduceLeDiff, Nat.reduceEqDiff, Int.reduceAdd, Int.reduceBEq, Int.reduceBNe, reduceCtorEq, beq_self_eq_true, Bool.true_beq, Bool.false_beq]))
  refine AtCall.of_spec (put_con a e _ (A.wide (by omega)) he (by omega) (by omega)) ?_
  rintro r W21 H21 ⟨v1, rfl, B1⟩
  replace hS := hS.trans H21
  replace ha := ha.mono H21
  replace hb := hb.mono H21
  replace he := he.mono H21
  replace A := A.mono H21
  replace ox := ox.mono H21
  replace oy := oy.mono H21
  replace oi := oi.mono H21
  generalize hE : bErr (es a.l) a.room e.g.id = E
  obtain ⟨c1, rfl, r1, e1, h1⟩ := bl_of (N := 100) B1 (by have := bput_le (es a.l) a.room e.g; simp at this; omega) (bput_small hsm hem)
  clear B1
  (simp -implicitDefEqProofs only [go_sem, vc_block_seq, vc_block_region, vc_block_cond, vc_block_block, Nat.reduceBEq, Nat.reduceAdd, Nat.reduceLeDiff, Nat.reduceEqDiff, Int.reduceAdd, Int.reduceBEq, Int.reduceBNe, reduceCtorEq, beq_self_eq_true, Bool.true_beq, Bool.false_beq]; repeat ((with_reducible refine leK_refl ?_); simp -implicitDefEqProofs only [go_sem, vc_block_seq, vc_block_region, vc_block_cond, vc_block_block, Nat.reduceBEq, Nat.reduceAdd, Nat.reduceLeDiff, Nat.reduceEqDiff, Int.reduceAdd, Int.reduceBEq, Int.reduceBNe, reduceCtorEq, beq_self_eq_true, Bool.true_beq, Bool.false_beq]))
  intro b15
  refine AtCall.of_spec (rput_con a e _ (A.wide (by omega)) he (by omega) (by omega)) ?_
  rintro r W22 H22 ⟨v2, rfl, B2⟩
  replace hS := hS.trans H22
  replace ha := ha.mono H22
  replace hb := hb.mono H22
  replace he := he.mono H22
  replace A := A.mono H22
  replace ox := ox.mono H22
  replace oy := oy.mono H22
  replace oi := oi.mono H22
  replace h1 := h1.mono H22
  rw [hE]
  obtain ⟨c2, rfl, r2, e2, h2⟩ := bl_of (N := 100) B2 (by have := bput_le (es a.l) a.room e.g; simp at this; omega) (bput_small hsm hem)
  clear B2
  (simp -implicitDefEqProofs only [go_sem, vc_block_seq, vc_block_region, vc_block_cond, vc_block_block, Nat.reduceBEq, Nat.reduceAdd, Nat.reduceLeDiff, Nat.reduceEqDiff, Int.reduceAdd, Int.reduceBEq, Int.reduceBNe, reduceCtorEq, beq_self_eq_true, Bool.true_beq, Bool.false_beq]; repeat ((with_reducible refine leK_refl ?_); simp -implicitDefEqProofs only [go_sem, vc_block_seq, vc_block_region, vc_block_cond, vc_block_block, Nat.reduceBEq, Nat.reduceAdd, Nat.reduceLeDiff, Nat.reduceEqDiff, Int.reduceAdd, Int.reduceBEq, Int.reduceBNe, reduceCtorEq, beq_self_eq_true, Bool.true_beq, Bool.false_beq]))
  intro b17
  have hwo : ∀ o : Option Nat, (bWo (es a.l) o).length ≤ 100 ∧ ∀ x ∈ bWo (es a.l) o, x.vals.length ≤ 1000 ∧ x.data.length ≤ 1000 := fun o => ⟨by have := wo_len (es a.l) o; simp at this; omega, fun x hx => hsm x (wo_mem hx)⟩
  refine AtCall.of_spec (evict_con a node inc _ (A.wide (by omega))) ?_
  rintro r W23 H23 ⟨v3, rfl, B3⟩
  replace hS := hS.trans H23
  replace ha := ha.mono H23
  replace hb := hb.mono H23
  replace he := he.mono H23
  replace A := A.mono H23
  replace ox := ox.mono H23
  replace oy := oy.mono H23
  replace oi := oi.mono H23
  replace h1 := h1.mono H23
  replace h2 := h2.mono H23
  generalize hG : (if (bOld (es a.l) node inc).isSome = true then (0 : Int) else 52) = G
  generalize hg : bGone (es a.l) node inc = g
  obtain ⟨c3, rfl, r3, e3, h3⟩ := bl_of (N := 100) B3 (hwo _).1 (hwo _).2
  clear B3
  (simp -implicitDefEqProofs only [go_sem, vc_block_seq, vc_block_region, vc_block_cond, vc_block_block, Nat.reduceBEq, Nat.reduceAdd, Nat.reduceLeDiff, Nat.reduceEqDiff, Int.reduceAdd, Int.reduceBEq, Int.reduceBNe, reduceCtorEq, beq_self_eq_true, Bool.true_beq, Bool.false_beq]; repeat ((with_reducible refine leK_refl ?_); simp -implicitDefEqProofs only [go_sem, vc_block_seq, vc_block_region, vc_block_cond, vc_block_block, Nat.reduceBEq, Nat.reduceAdd, Nat.reduceLeDiff, Nat.reduceEqDiff, Int.reduceAdd, Int.reduceBEq, Int.reduceBNe, reduceCtorEq, beq_self_eq_true, Bool.true_beq, Bool.false_beq]))
  intro b19 b20
  refine AtCall.of_spec (revict_con a node inc _ (A.wide (by omega))) ?_
  rintro r W24 H24 ⟨v4, rfl, B4⟩
  replace hS := hS.trans H24
  replace ha := ha.mono H24
  replace hb := hb.mono H24
  replace he := he.mono H24
  replace A := A.mono H24
  replace ox := ox.mono H24
  replace oy := oy.mono H24
  replace oi := oi.mono H24
  replace h1 := h1.mono H24
  replace h2 := h2.mono H24
  replace h3 := h3.mono H24
  rw [hG, hg]
  obtain ⟨c4, rfl, r4, e4, h4⟩ := bl_of (N := 100) B4 (hwo _).1 (hwo _).2
  clear B4
  (simp -implicitDefEqProofs only [go_sem, vc_block_seq, vc_block_region, vc_block_cond, vc_block_block, Nat.reduceBEq, Nat.reduceAdd, Nat.reduceLeDiff, Nat.reduceEqDiff, Int.reduceAdd, Int.reduceBEq, Int.reduceBNe, reduceCtorEq, beq_self_eq_true, Bool.true_beq, Bool.false_beq]; repeat ((with_reducible refine leK_refl ?_); simp -implicitDefEqProofs only [go_sem, vc_block_seq, vc_block_region, vc_block_cond, vc_block_block, Nat.reduceBEq, Nat.reduceAdd, Nat.reduceLeDiff, Nat.reduceEqDiff, Int.reduceAdd, Int.reduceBEq, Int.reduceBNe, reduceCtorEq, beq_self_eq_true, Bool.true_beq, Bool.false_beq]))
  intro b22 b23
  refine AtCall.of_spec (remove_con a e.g.id _ (A.wide (by omega))) ?_
  rintro r W25 H25 ⟨v5, rfl, B5⟩
  replace hS := hS.trans H25
  replace ha := ha.mono H25
  replace hb := hb.mono H25
  replace he := he.mono H25
  replace A := A.mono H25
  replace ox := ox.mono H25
  replace oy := oy.mono H25
  replace oi := oi.mono H25
  replace h1 := h1.mono H25
  replace h2 := h2.mono H25
  replace h3 := h3.mono H25
  replace h4 := h4.mono H25
  rw [hH, hF]
  obtain ⟨c5, rfl, r5, e5, h5⟩ := bl_of (N := 100) B5 (hwo _).1 (hwo _).2
  clear B5
  (simp -implicitDefEqProofs only [go_sem, vc_block_seq, vc_block_region, vc_block_cond, vc_block_block, Nat.reduceBEq, Nat.reduceAdd, Nat.reduceLeDiff, Nat.reduceEqDiff, Int.reduceAdd, Int.reduceBEq, Int.reduceBNe, reduceCtorEq, beq_self_eq_true, Bool.true_beq, Bool.false_beq]; repeat ((with_reducible refine leK_refl ?_); simp -implicitDefEqProofs only [go_sem, vc_block_seq, vc_block_region, vc_block_cond, vc_block_block, Nat.reduceBEq, Nat.reduceAdd, Nat.reduceLeDiff, Nat.reduceEqDiff, Int.reduceAdd, Int.reduceBEq, Int.reduceBNe, reduceCtorEq, beq_self_eq_true, Bool.true_beq, Bool.false_beq]))
  intro b25
  refine AtCall.of_spec (rremove_con a e.g.id _ (A.wide (by omega))) ?_
  rintro r W26 H26 ⟨v6, rfl, B6⟩
  replace hS := hS.trans H26
  replace ha := ha.mono H26
  replace hb := hb.mono H26
  replace he := he.mono H26
  replace A := A.mono H26
  replace ox := ox.mono H26
  replace oy := oy.mono H26
  replace oi := oi.mono H26
  replace h1 := h1.mono H26
  replace h2 := h2.mono H26
  replace h3 := h3.mono H26
  replace h4 := h4.mono H26
  replace h5 := h5.mono H26
  rw [hH, hF]
  obtain ⟨c6, rfl, r6, e6, h6⟩ := bl_of (N := 100) B6 (hwo _).1 (hwo _).2
  clear B6
  (simp -implicitDefEqProofs only [go_sem, vc_block_seq, vc_block_region, vc_block_cond, vc_block_block, Nat.reduceBEq, Nat.reduceAdd, Nat.reduceLeDiff, Nat.reduceEqDiff, Int.reduceAdd, Int.reduceBEq, Int.reduceBNe, reduceCtorEq, beq_self_eq_true, Bool.true_beq, Bool.false_beq]; repeat ((with_reducible refine leK_refl ?_); simp -implicitDefEqProofs only [go_sem, vc_block_seq, vc_block_region, vc_block_cond, vc_block_block, Nat.reduceBEq, Nat.reduceAdd, Nat.reduceLeDiff, Nat.reduceEqDiff, Int.reduceAdd, Int.reduceBEq, Int.reduceBNe, reduceCtorEq, beq_self_eq_true, Bool.true_beq, Bool.false_beq]))
  intro b27
  refine AtCall.of_spec (rsame_con c1 c2 _ (h1.wide (by omega)) h2.el) ?_
  rintro r W27 H27 rfl
  replace hS := hS.trans H27
  replace ha := ha.mono H27
  replace hb := hb.mono H27
  replace he := he.mono H27
  replace A := A.mono H27
  replace ox := ox.mono H27
  replace oy := oy.mono H27
  replace oi := oi.mono H27
  replace h1 := h1.mono H27
  replace h2 := h2.mono H27
  replace h3 := h3.mono H27
  replace h4 := h4.mono H27
  replace h5 := h5.mono H27
  replace h6 := h6.mono H27
  rw [decide_eq_true (r1.trans r2.symm), decide_eq_true (e1.trans e2.symm)]
  (simp -implicitDefEqProofs only [go_sem, vc_block_seq, vc_block_region, vc_block_cond, vc_block_block, Nat.reduceBEq, Nat.reduceAdd, Nat.reduceLeDiff, Nat.reduceEqDiff, Int.reduceAdd, Int.reduceBEq, Int.reduceBNe, reduceCtorEq, beq_self_eq_true, Bool.true_beq, Bool.false_beq]; repeat ((with_reducible refine leK_refl ?_); simp -implicitDefEqProofs only [go_sem, vc_block_seq, vc_block_region, vc_block_cond, vc_block_block, Nat.reduceBEq, Nat.reduceAdd, Nat.reduceLeDiff, Nat.reduceEqDiff, Int.reduceAdd, Int.reduceBEq, Int.reduceBNe, reduceCtorEq, beq_self_eq_true, Bool.true_beq, Bool.false_beq]))
  refine AtCall.of_spec (rsame_con c3 c4 _ (h3.wide (by omega)) h4.el) ?_
  rintro r W28 H28 rfl
  replace hS := hS.trans H28
  replace ha := ha.mono H28
  replace hb := hb.mono H28
  replace he := he.mono H28
  replace A := A.mono H28
  replace ox := ox.mono H28
  replace oy := oy.mono H28
  replace oi := oi.mono H28
  replace h1 := h1.mono H28
  replace h2 := h2.mono H28
  replace h3 := h3.mono H28
  replace h4 := h4.mono H28
  replace h5 := h5.mono H28
  replace h6 := h6.mono H28
  rw [decide_eq_true (r3.trans r4.symm), decide_eq_true (e3.trans e4.symm)]
  (simp -implicitDefEqProofs only [go_sem, vc_block_seq, vc_block_region, vc_block_cond, vc_block_block, Nat.reduceBEq, Nat.reduceAdd, Nat.reduceLeDiff, Nat.reduceEqDiff, Int.reduceAdd, Int.reduceBEq, Int.reduceBNe, reduceCtorEq, beq_self_eq_true, Bool.true_beq, Bool.false_beq]; repeat ((with_reducible refine leK_refl ?_); simp -implicitDefEqProofs only [go_sem, vc_block_seq, vc_block_region, vc_block_cond, vc_block_block, Nat.reduceBEq, Nat.reduceAdd, Nat.reduceLeDiff, Nat.reduceEqDiff, Int.reduceAdd, Int.reduceBEq, Int.reduceBNe, reduceCtorEq, beq_self_eq_true, Bool.true_beq, Bool.false_beq]))
  refine AtCall.of_spec (rsame_con c5 c6 _ (h5.wide (by omega)) h6.el) ?_
  rintro r W29 H29 rfl
  replace hS := hS.trans H29
  replace ha := ha.mono H29
  replace hb := hb.mono H29
  replace he := he.mono H29
  replace A := A.mono H29
  replace ox := ox.mono H29
  replace oy := oy.mono H29
  replace oi := oi.mono H29
  replace h1 := h1.mono H29
  replace h2 := h2.mono H29
  replace h3 := h3.mono H29
  replace h4 := h4.mono H29
  replace h5 := h5.mono H29
  replace h6 := h6.mono H29
  rw [decide_eq_true (r5.trans r6.symm), decide_eq_true (e5.trans e6.symm)]
  (simp -implicitDefEqProofs only [go_sem, vc_block_seq, vc_block_region, vc_block_cond, vc_block_block, Nat.reduceBEq, Nat.reduceAdd, Nat.reduceLeDiff, Nat.reduceEqDiff, Int.reduceAdd, Int.reduceBEq, Int.reduceBNe, reduceCtorEq, beq_self_eq_true, Bool.true_beq, Bool.false_beq]; repeat ((with_reducible refine leK_refl ?_); simp -implicitDefEqProofs only [go_sem, vc_block_seq, vc_block_region, vc_block_cond, vc_block_block, Nat.reduceBEq, Nat.reduceAdd, Nat.reduceLeDiff, Nat.reduceEqDiff, Int.reduceAdd, Int.reduceBEq, Int.reduceBNe, reduceCtorEq, beq_self_eq_true, Bool.true_beq, Bool.false_beq]))
  refine AtCall.of_spec (bawake_con _) ?_
  rintro r W30 H30 rfl
  replace hS := hS.trans H30
  replace ha := ha.mono H30
  replace hb := hb.mono H30
  replace he := he.mono H30
  replace A := A.mono H30
  replace ox := ox.mono H30
  replace oy := oy.mono H30
  replace oi := oi.mono H30
  replace h1 := h1.mono H30
  replace h2 := h2.mono H30
  replace h3 := h3.mono H30
  replace h4 := h4.mono H30
  replace h5 := h5.mono H30
  replace h6 := h6.mono H30
  (simp only [go_sem, vc_block_seq, vc_block_region, vc_block_cond, vc_block_block, Nat.reduceBEq, Nat.reduceAdd, Nat.reduceLeDiff, Nat.reduceEqDiff, Int.reduceAdd, Int.reduceBEq, Int.reduceBNe, reduceCtorEq, beq_self_eq_true, Bool.true_beq, Bool.false_beq]; repeat ((with_reducible refine leK_refl ?_); simp only [go_sem, vc_block_seq, vc_block_region, vc_block_cond, vc_block_block, Nat.reduceBEq, Nat.reduceAdd, Nat.reduceLeDiff, Nat.reduceEqDiff, Int.reduceAdd, Int.reduceBEq, Int.reduceBNe, reduceCtorEq, beq_self_eq_true, Bool.true_beq, Bool.false_beq]))
  exact ⟨hS, rfl⟩
end Go.Proofs.Ytcaobkpfafcnjaa
