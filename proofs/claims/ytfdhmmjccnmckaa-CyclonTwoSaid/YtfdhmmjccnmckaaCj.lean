/-
  The walk of CyclonTells.
-/
import Derived.Test.YtfdhmmjccnmckaaCi
import Derived.Test.YtfdhmmjccnmckaaDc
set_option linter.unusedSimpArgs false
set_option linter.unusedVariables false
namespace Go.Proofs.Ytfdhmmjccnmckaa
open Go.Eng
attribute [local go_sem] GSpan.val GSpan.enc PD.val PD.enc enc32

theorem f8_of {u : World} {p : Option Addr} {n c : Nat} {l : List PD} (h : DL u p n c l) (h8 : ∀ x ∈ l, x.n ≤ 8) : ∀ d ∈ ds l, d.filter.length ≤ 8 := fun d hd => by
  obtain ⟨y, hy, rfl⟩ := List.mem_map.1 hd
  rw [(h.fl y hy).len]
  exact h8 y hy

set_option maxRecDepth 4000 in
set_option maxHeartbeats 4000000 in
theorem ctells_con (l got sent : List PD) (self not room : UInt8) (many : Int) (dr : List UInt32) (p pg ps pd : Option Addr) (n c ng cg ns cs nd cd : Nat) (u : World) (hl : DL u p n c l) (hg : DL u pg ng cg got) (hs : DL u ps ns cs sent) (hd : Sl u 1 pd nd cd (dr.map enc32))
    (hn : n ≤ 9223372036854775807) (hng : ng ≤ 9223372036854775807) (hns : ns ≤ 9223372036854775807) (hnd : nd ≤ 9223372036854775807) (hm : -9223372036854775808 ≤ many ∧ many ≤ 9223372036854775807) :
    Con Try.prog 3 [.slice p n c, .slice pg ng cg, .slice ps ns cs, .int .u8 self.toNat, .int .u8 not.toNat, .int .u8 room.toNat, .int .i64 many, .slice pd nd cd] u (fun r _ => r = .bool true) := by
  have ldr : dr.length = nd := by simpa using hd.len
  refine spec_of_vc Ty.mixed Try.func3 rfl (by kernel_rfl) (by kernel_rfl) rfl [.tmp 16] rfl ?_
  (simp only [go_sem, vc_block_seq, vc_block_region, vc_block_cond, vc_block_block, Nat.reduceBEq, Nat.reduceAdd, Nat.reduceLeDiff, Nat.reduceEqDiff, Int.reduceAdd, Int.reduceBEq, Int.reduceBNe, reduceCtorEq, beq_self_eq_true, Bool.true_beq, Bool.false_beq]; repeat ((with_reducible refine leK_refl ?_); simp only [go_sem, vc_block_seq, vc_block_region, vc_block_cond, vc_block_block, Nat.reduceBEq, Nat.reduceAdd, Nat.reduceLeDiff, Nat.reduceEqDiff, Int.reduceAdd, Int.reduceBEq, Int.reduceBNe, reduceCtorEq, beq_self_eq_true, Bool.true_beq, Bool.false_beq]))
  have hS : Sub u u := Sub.refl _
  refine AtCall.of_spec (few_con l p n c _ hl hn) ?_
  rintro r W1 H1 ⟨B, rfl, hB⟩
  replace hS := hS.trans H1
  replace hl := hl.mono H1
  replace hg := hg.mono H1
  replace hs := hs.mono H1
  replace hd := hd.mono H1
  cases B with
  | false =>
    (simp only [go_sem, vc_block_seq, vc_block_region, vc_block_cond, vc_block_block, Nat.reduceBEq, Nat.reduceAdd, Nat.reduceLeDiff, Nat.reduceEqDiff, Int.reduceAdd, Int.reduceBEq, Int.reduceBNe, reduceCtorEq, beq_self_eq_true, Bool.true_beq, Bool.false_beq]; repeat ((with_reducible refine leK_refl ?_); simp only [go_sem, vc_block_seq, vc_block_region, vc_block_cond, vc_block_block, Nat.reduceBEq, Nat.reduceAdd, Nat.reduceLeDiff, Nat.reduceEqDiff, Int.reduceAdd, Int.reduceBEq, Int.reduceBNe, reduceCtorEq, beq_self_eq_true, Bool.true_beq, Bool.false_beq]))
    refine AtCall.of_spec (cawake_con _) ?_
    rintro r W2 H2 rfl
    replace hS := hS.trans H2
    replace hl := hl.mono H2
    replace hg := hg.mono H2
    replace hs := hs.mono H2
    replace hd := hd.mono H2
    (simp only [go_sem, vc_block_seq, vc_block_region, vc_block_cond, vc_block_block, Nat.reduceBEq, Nat.reduceAdd, Nat.reduceLeDiff, Nat.reduceEqDiff, Int.reduceAdd, Int.reduceBEq, Int.reduceBNe, reduceCtorEq, beq_self_eq_true, Bool.true_beq, Bool.false_beq]; repeat ((with_reducible refine leK_refl ?_); simp only [go_sem, vc_block_seq, vc_block_region, vc_block_cond, vc_block_block, Nat.reduceBEq, Nat.reduceAdd, Nat.reduceLeDiff, Nat.reduceEqDiff, Int.reduceAdd, Int.reduceBEq, Int.reduceBNe, reduceCtorEq, beq_self_eq_true, Bool.true_beq, Bool.false_beq]))
    exact ⟨hS, rfl⟩
  | true =>
  have hf := hB rfl
  (simp only [go_sem, vc_block_seq, vc_block_region, vc_block_cond, vc_block_block, Nat.reduceBEq, Nat.reduceAdd, Nat.reduceLeDiff, Nat.reduceEqDiff, Int.reduceAdd, Int.reduceBEq, Int.reduceBNe, reduceCtorEq, beq_self_eq_true, Bool.true_beq, Bool.false_beq]; repeat ((with_reducible refine leK_refl ?_); simp only [go_sem, vc_block_seq, vc_block_region, vc_block_cond, vc_block_block, Nat.reduceBEq, Nat.reduceAdd, Nat.reduceLeDiff, Nat.reduceEqDiff, Int.reduceAdd, Int.reduceBEq, Int.reduceBNe, reduceCtorEq, beq_self_eq_true, Bool.true_beq, Bool.false_beq]))
  refine AtCall.of_spec (few_con got pg ng cg _ hg hng) ?_
  rintro r W3 H3 ⟨B, rfl, hB2⟩
  replace hS := hS.trans H3
  replace hl := hl.mono H3
  replace hg := hg.mono H3
  replace hs := hs.mono H3
  replace hd := hd.mono H3
  cases B with
  | false =>
    (simp only [go_sem, vc_block_seq, vc_block_region, vc_block_cond, vc_block_block, Nat.reduceBEq, Nat.reduceAdd, Nat.reduceLeDiff, Nat.reduceEqDiff, Int.reduceAdd, Int.reduceBEq, Int.reduceBNe, reduceCtorEq, beq_self_eq_true, Bool.true_beq, Bool.false_beq]; repeat ((with_reducible refine leK_refl ?_); simp only [go_sem, vc_block_seq, vc_block_region, vc_block_cond, vc_block_block, Nat.reduceBEq, Nat.reduceAdd, Nat.reduceLeDiff, Nat.reduceEqDiff, Int.reduceAdd, Int.reduceBEq, Int.reduceBNe, reduceCtorEq, beq_self_eq_true, Bool.true_beq, Bool.false_beq]))
    refine AtCall.of_spec (cawake_con _) ?_
    rintro r W4 H4 rfl
    replace hS := hS.trans H4
    replace hl := hl.mono H4
    replace hg := hg.mono H4
    replace hs := hs.mono H4
    replace hd := hd.mono H4
    (simp only [go_sem, vc_block_seq, vc_block_region, vc_block_cond, vc_block_block, Nat.reduceBEq, Nat.reduceAdd, Nat.reduceLeDiff, Nat.reduceEqDiff, Int.reduceAdd, Int.reduceBEq, Int.reduceBNe, reduceCtorEq, beq_self_eq_true, Bool.true_beq, Bool.false_beq]; repeat ((with_reducible refine leK_refl ?_); simp only [go_sem, vc_block_seq, vc_block_region, vc_block_cond, vc_block_block, Nat.reduceBEq, Nat.reduceAdd, Nat.reduceLeDiff, Nat.reduceEqDiff, Int.reduceAdd, Int.reduceBEq, Int.reduceBNe, reduceCtorEq, beq_self_eq_true, Bool.true_beq, Bool.false_beq]))
    exact ⟨hS, rfl⟩
  | true =>
  have hgf := hB2 rfl
  (simp only [go_sem, vc_block_seq, vc_block_region, vc_block_cond, vc_block_block, Nat.reduceBEq, Nat.reduceAdd, Nat.reduceLeDiff, Nat.reduceEqDiff, Int.reduceAdd, Int.reduceBEq, Int.reduceBNe, reduceCtorEq, beq_self_eq_true, Bool.true_beq, Bool.false_beq]; repeat ((with_reducible refine leK_refl ?_); simp only [go_sem, vc_block_seq, vc_block_region, vc_block_cond, vc_block_block, Nat.reduceBEq, Nat.reduceAdd, Nat.reduceLeDiff, Nat.reduceEqDiff, Int.reduceAdd, Int.reduceBEq, Int.reduceBNe, reduceCtorEq, beq_self_eq_true, Bool.true_beq, Bool.false_beq]))
  refine AtCall.of_spec (few_con sent ps ns cs _ hs hns) ?_
  rintro r W5 H5 ⟨B, rfl, hB3⟩
  replace hS := hS.trans H5
  replace hl := hl.mono H5
  replace hg := hg.mono H5
  replace hs := hs.mono H5
  replace hd := hd.mono H5
  cases B with
  | false =>
    (simp only [go_sem, vc_block_seq, vc_block_region, vc_block_cond, vc_block_block, Nat.reduceBEq, Nat.reduceAdd, Nat.reduceLeDiff, Nat.reduceEqDiff, Int.reduceAdd, Int.reduceBEq, Int.reduceBNe, reduceCtorEq, beq_self_eq_true, Bool.true_beq, Bool.false_beq]; repeat ((with_reducible refine leK_refl ?_); simp only [go_sem, vc_block_seq, vc_block_region, vc_block_cond, vc_block_block, Nat.reduceBEq, Nat.reduceAdd, Nat.reduceLeDiff, Nat.reduceEqDiff, Int.reduceAdd, Int.reduceBEq, Int.reduceBNe, reduceCtorEq, beq_self_eq_true, Bool.true_beq, Bool.false_beq]))
    refine AtCall.of_spec (cawake_con _) ?_
    rintro r W6 H6 rfl
    replace hS := hS.trans H6
    replace hl := hl.mono H6
    replace hg := hg.mono H6
    replace hs := hs.mono H6
    replace hd := hd.mono H6
    (simp only [go_sem, vc_block_seq, vc_block_region, vc_block_cond, vc_block_block, Nat.reduceBEq, Nat.reduceAdd, Nat.reduceLeDiff, Nat.reduceEqDiff, Int.reduceAdd, Int.reduceBEq, Int.reduceBNe, reduceCtorEq, beq_self_eq_true, Bool.true_beq, Bool.false_beq]; repeat ((with_reducible refine leK_refl ?_); simp only [go_sem, vc_block_seq, vc_block_region, vc_block_cond, vc_block_block, Nat.reduceBEq, Nat.reduceAdd, Nat.reduceLeDiff, Nat.reduceEqDiff, Int.reduceAdd, Int.reduceBEq, Int.reduceBNe, reduceCtorEq, beq_self_eq_true, Bool.true_beq, Bool.false_beq]))
    exact ⟨hS, rfl⟩
  | true =>
  have hsf := hB3 rfl
  (simp only [go_sem, vc_block_seq, vc_block_region, vc_block_cond, vc_block_block, Nat.reduceBEq, Nat.reduceAdd, Nat.reduceLeDiff, Nat.reduceEqDiff, Int.reduceAdd, Int.reduceBEq, Int.reduceBNe, reduceCtorEq, beq_self_eq_true, Bool.true_beq, Bool.false_beq]; repeat ((with_reducible refine leK_refl ?_); simp only [go_sem, vc_block_seq, vc_block_region, vc_block_cond, vc_block_block, Nat.reduceBEq, Nat.reduceAdd, Nat.reduceLeDiff, Nat.reduceEqDiff, Int.reduceAdd, Int.reduceBEq, Int.reduceBNe, reduceCtorEq, beq_self_eq_true, Bool.true_beq, Bool.false_beq]))
  refine cond_dec (fun h30 => ?_) (fun h30 => ?_)
  · (simp only [go_sem, vc_block_seq, vc_block_region, vc_block_cond, vc_block_block, Nat.reduceBEq, Nat.reduceAdd, Nat.reduceLeDiff, Nat.reduceEqDiff, Int.reduceAdd, Int.reduceBEq, Int.reduceBNe, reduceCtorEq, beq_self_eq_true, Bool.true_beq, Bool.false_beq]; repeat ((with_reducible refine leK_refl ?_); simp only [go_sem, vc_block_seq, vc_block_region, vc_block_cond, vc_block_block, Nat.reduceBEq, Nat.reduceAdd, Nat.reduceLeDiff, Nat.reduceEqDiff, Int.reduceAdd, Int.reduceBEq, Int.reduceBNe, reduceCtorEq, beq_self_eq_true, Bool.true_beq, Bool.false_beq]))
    refine AtCall.of_spec (cawake_con _) ?_
    rintro r W7 H7 rfl
    replace hS := hS.trans H7
    replace hl := hl.mono H7
    replace hg := hg.mono H7
    replace hs := hs.mono H7
    replace hd := hd.mono H7
    (simp only [go_sem, vc_block_seq, vc_block_region, vc_block_cond, vc_block_block, Nat.reduceBEq, Nat.reduceAdd, Nat.reduceLeDiff, Nat.reduceEqDiff, Int.reduceAdd, Int.reduceBEq, Int.reduceBNe, reduceCtorEq, beq_self_eq_true, Bool.true_beq, Bool.false_beq]; repeat ((with_reducible refine leK_refl ?_); simp only [go_sem, vc_block_seq, vc_block_region, vc_block_cond, vc_block_block, Nat.reduceBEq, Nat.reduceAdd, Nat.reduceLeDiff, Nat.reduceEqDiff, Int.reduceAdd, Int.reduceBEq, Int.reduceBNe, reduceCtorEq, beq_self_eq_true, Bool.true_beq, Bool.false_beq]))
    exact ⟨hS, rfl⟩
  have hgl := hg.len
  have hsl := hs.len
  have hg20 := hgf.1
  have hs20 := hsf.1
  (simp only [go_sem, vc_block_seq, vc_block_region, vc_block_cond, vc_block_block, Nat.reduceBEq, Nat.reduceAdd, Nat.reduceLeDiff, Nat.reduceEqDiff, Int.reduceAdd, Int.reduceBEq, Int.reduceBNe, reduceCtorEq, beq_self_eq_true, Bool.true_beq, Bool.false_beq]; repeat ((with_reducible refine leK_refl ?_); simp only [go_sem, vc_block_seq, vc_block_region, vc_block_cond, vc_block_block, Nat.reduceBEq, Nat.reduceAdd, Nat.reduceLeDiff, Nat.reduceEqDiff, Int.reduceAdd, Int.reduceBEq, Int.reduceBNe, reduceCtorEq, beq_self_eq_true, Bool.true_beq, Bool.false_beq]))
  rw [bin_remN (a := room.toNat) (b := 21) (bi := 21) rfl rfl (by omega)]
  have hN : room.toNat % 21 ≤ 20 := by omega
  generalize room.toNat % 21 = N at hN
  (simp only [go_sem, vc_block_seq, vc_block_region, vc_block_cond, vc_block_block, Nat.reduceBEq, Nat.reduceAdd, Nat.reduceLeDiff, Nat.reduceEqDiff, Int.reduceAdd, Int.reduceBEq, Int.reduceBNe, reduceCtorEq, beq_self_eq_true, Bool.true_beq, Bool.false_beq]; repeat ((with_reducible refine leK_refl ?_); simp only [go_sem, vc_block_seq, vc_block_region, vc_block_cond, vc_block_block, Nat.reduceBEq, Nat.reduceAdd, Nat.reduceLeDiff, Nat.reduceEqDiff, Int.reduceAdd, Int.reduceBEq, Int.reduceBNe, reduceCtorEq, beq_self_eq_true, Bool.true_beq, Bool.false_beq]))
  rw [arith_i64 (by omega)]
  (simp only [go_sem, vc_block_seq, vc_block_region, vc_block_cond, vc_block_block, Nat.reduceBEq, Nat.reduceAdd, Nat.reduceLeDiff, Nat.reduceEqDiff, Int.reduceAdd, Int.reduceBEq, Int.reduceBNe, reduceCtorEq, beq_self_eq_true, Bool.true_beq, Bool.false_beq]; repeat ((with_reducible refine leK_refl ?_); simp only [go_sem, vc_block_seq, vc_block_region, vc_block_cond, vc_block_block, Nat.reduceBEq, Nat.reduceAdd, Nat.reduceLeDiff, Nat.reduceEqDiff, Int.reduceAdd, Int.reduceBEq, Int.reduceBNe, reduceCtorEq, beq_self_eq_true, Bool.true_beq, Bool.false_beq]))
  refine AtCall.of_spec (view_con l self N p n c _ hl hf) ?_
  rintro r W8 H8 ⟨pv, nv, cv, lv, rfl, ov, hv, hvm, hv256, hv8⟩
  replace hS := hS.trans H8
  replace hl := hl.mono H8
  replace hg := hg.mono H8
  replace hs := hs.mono H8
  replace hd := hd.mono H8
  (simp only [go_sem, vc_block_seq, vc_block_region, vc_block_cond, vc_block_block, Nat.reduceBEq, Nat.reduceAdd, Nat.reduceLeDiff, Nat.reduceEqDiff, Int.reduceAdd, Int.reduceBEq, Int.reduceBNe, reduceCtorEq, beq_self_eq_true, Bool.true_beq, Bool.false_beq]; repeat ((with_reducible refine leK_refl ?_); simp only [go_sem, vc_block_seq, vc_block_region, vc_block_cond, vc_block_block, Nat.reduceBEq, Nat.reduceAdd, Nat.reduceLeDiff, Nat.reduceEqDiff, Int.reduceAdd, Int.reduceBEq, Int.reduceBNe, reduceCtorEq, beq_self_eq_true, Bool.true_beq, Bool.false_beq]))
  have V : VL W8 self N (pv, nv, cv) lv := vl_mk ov hv (by omega) hv8
  have hVn : nv ≤ N := V.len
  have hVl : lv.length = nv := V.dl.len
  have hro : ((ds lv).length : Int) ≤ N := by simp; omega
  refine AtCall.of_spec (anew_con lv pv nv cv _ V.dl (by omega) (fun x hx => by have := hv8 x hx; omega)) ?_
  rintro r W9 H9 ⟨pz, nz, cz, lz, rfl, oz, ez⟩
  replace hS := hS.trans H9
  replace hl := hl.mono H9
  replace hg := hg.mono H9
  replace hs := hs.mono H9
  replace hd := hd.mono H9
  replace V := V.mono H9
  (simp only [go_sem, vc_block_seq, vc_block_region, vc_block_cond, vc_block_block, Nat.reduceBEq, Nat.reduceAdd, Nat.reduceLeDiff, Nat.reduceEqDiff, Int.reduceAdd, Int.reduceBEq, Int.reduceBNe, reduceCtorEq, beq_self_eq_true, Bool.true_beq, Bool.false_beq]; repeat ((with_reducible refine leK_refl ?_); simp only [go_sem, vc_block_seq, vc_block_region, vc_block_cond, vc_block_block, Nat.reduceBEq, Nat.reduceAdd, Nat.reduceLeDiff, Nat.reduceEqDiff, Int.reduceAdd, Int.reduceBEq, Int.reduceBNe, reduceCtorEq, beq_self_eq_true, Bool.true_beq, Bool.false_beq]))
  replace oz := oz.dl
  refine AtCall.of_spec (anew_con got pg ng cg _ hg (by omega) (fun x hx => by have := hgf.2 x hx; omega)) ?_
  rintro r W10 H10 ⟨py, ny, cy, ly, rfl, oy, ey⟩
  replace hS := hS.trans H10
  replace hl := hl.mono H10
  replace hg := hg.mono H10
  replace hs := hs.mono H10
  replace hd := hd.mono H10
  replace V := V.mono H10
  replace oz := oz.mono H10
  (simp only [go_sem, vc_block_seq, vc_block_region, vc_block_cond, vc_block_block, Nat.reduceBEq, Nat.reduceAdd, Nat.reduceLeDiff, Nat.reduceEqDiff, Int.reduceAdd, Int.reduceBEq, Int.reduceBNe, reduceCtorEq, beq_self_eq_true, Bool.true_beq, Bool.false_beq]; repeat ((with_reducible refine leK_refl ?_); simp only [go_sem, vc_block_seq, vc_block_region, vc_block_cond, vc_block_block, Nat.reduceBEq, Nat.reduceAdd, Nat.reduceLeDiff, Nat.reduceEqDiff, Int.reduceAdd, Int.reduceBEq, Int.reduceBNe, reduceCtorEq, beq_self_eq_true, Bool.true_beq, Bool.false_beq]))
  replace oy := oy.dl
  refine AtCall.of_spec (anew_con sent ps ns cs _ hs (by omega) (fun x hx => by have := hsf.2 x hx; omega)) ?_
  rintro r W11 H11 ⟨px, nx, cx, lx, rfl, ox, ex⟩
  replace hS := hS.trans H11
  replace hl := hl.mono H11
  replace hg := hg.mono H11
  replace hs := hs.mono H11
  replace hd := hd.mono H11
  replace V := V.mono H11
  replace oz := oz.mono H11
  replace oy := oy.mono H11
  (simp only [go_sem, vc_block_seq, vc_block_region, vc_block_cond, vc_block_block, Nat.reduceBEq, Nat.reduceAdd, Nat.reduceLeDiff, Nat.reduceEqDiff, Int.reduceAdd, Int.reduceBEq, Int.reduceBNe, reduceCtorEq, beq_self_eq_true, Bool.true_beq, Bool.false_beq]; repeat ((with_reducible refine leK_refl ?_); simp only [go_sem, vc_block_seq, vc_block_region, vc_block_cond, vc_block_block, Nat.reduceBEq, Nat.reduceAdd, Nat.reduceLeDiff, Nat.reduceEqDiff, Int.reduceAdd, Int.reduceBEq, Int.reduceBNe, reduceCtorEq, beq_self_eq_true, Bool.true_beq, Bool.false_beq]))
  replace ox := ox.dl
  refine eff_lit (n := 1) (vs := [GSpan.val ⟨1, 2⟩]) Ty.el32 rfl rfl (by intro v hv; simp at hv; subst hv; rfl) (by omega) ?_
  intro pf uf hf1 sf ff
  replace hS := hS.trans sf
  replace hl := hl.mono sf
  replace hg := hg.mono sf
  replace hs := hs.mono sf
  replace hd := hd.mono sf
  replace V := V.mono sf
  replace oz := oz.mono sf
  replace oy := oy.mono sf
  replace ox := ox.mono sf
  have F : Fl uf ⟨⟨self, 1, not, [⟨1, 2⟩]⟩, pf, 1, 1⟩ := hf1.sl
  (simp only [go_sem, vc_block_seq, vc_block_region, vc_block_cond, vc_block_block, Nat.reduceBEq, Nat.reduceAdd, Nat.reduceLeDiff, Nat.reduceEqDiff, Int.reduceAdd, Int.reduceBEq, Int.reduceBNe, reduceCtorEq, beq_self_eq_true, Bool.true_beq, Bool.false_beq]; repeat ((with_reducible refine leK_refl ?_); simp only [go_sem, vc_block_seq, vc_block_region, vc_block_cond, vc_block_block, Nat.reduceBEq, Nat.reduceAdd, Nat.reduceLeDiff, Nat.reduceEqDiff, Int.reduceAdd, Int.reduceBEq, Int.reduceBNe, reduceCtorEq, beq_self_eq_true, Bool.true_beq, Bool.false_beq]))
  intro b22
  refine AtCall.of_spec (ask_con lv ⟨⟨self, 1, not, [⟨1, 2⟩]⟩, pf, 1, 1⟩ many dr pv pd nv cv nd cd _ V.dl F (by simp) hd (by omega) hv8 (by omega) hm.2) ?_
  rintro r W12 H12 A
  replace hS := hS.trans H12
  replace hl := hl.mono H12
  replace hg := hg.mono H12
  replace hs := hs.mono H12
  replace hd := hd.mono H12
  replace V := V.mono H12
  replace oz := oz.mono H12
  replace oy := oy.mono H12
  replace ox := ox.mono H12
  replace F := F.mono H12
  rcases A with ⟨i, o, v1, hi, ho, hm1, rfl, p1, n1, c1, l1, rfl, o1, e1⟩ | ⟨h, rfl⟩
  · have h8a : ∀ d ∈ cAsk (ds lv) ⟨self, 1, not, [⟨1, 2⟩]⟩ many dr o.node, d.filter.length ≤ 8 := fun d hd => by
      rcases List.mem_cons.1 hd with rfl | hd
      · simp
      · rcases pick_mem _ _ _ _ d hd with h | h
        · exact V.small d (List.mem_filter.1 h).1
        · simp at h
    have hla := pick_len (many - 1) dr (dDrop (ds lv) o.node) []
    have s1 := small_of_eq o1 e1 (by simp [cAsk] at hla ⊢; omega) h8a
    (simp only [go_sem, vc_block_seq, vc_block_region, vc_block_cond, vc_block_block, Nat.reduceBEq, Nat.reduceAdd, Nat.reduceLeDiff, Nat.reduceEqDiff, Int.reduceAdd, Int.reduceBEq, Int.reduceBNe, reduceCtorEq, beq_self_eq_true, Bool.true_beq, Bool.false_beq]; repeat ((with_reducible refine leK_refl ?_); simp only [go_sem, vc_block_seq, vc_block_region, vc_block_cond, vc_block_block, Nat.reduceBEq, Nat.reduceAdd, Nat.reduceLeDiff, Nat.reduceEqDiff, Int.reduceAdd, Int.reduceBEq, Int.reduceBNe, reduceCtorEq, beq_self_eq_true, Bool.true_beq, Bool.false_beq]))
    refine AtCall.of_spec (rask_con lv hv.2 ⟨⟨self, 1, not, [⟨1, 2⟩]⟩, pf, 1, 1⟩ many dr pv pd nv cv nd cd _ V.dl F hd (by omega) (by omega) hm.2) ?_
    rintro r W13 H13 A2
    replace hS := hS.trans H13
    replace hl := hl.mono H13
    replace hg := hg.mono H13
    replace hs := hs.mono H13
    replace hd := hd.mono H13
    replace V := V.mono H13
    replace oz := oz.mono H13
    replace oy := oy.mono H13
    replace ox := ox.mono H13
    replace F := F.mono H13
    replace o1 := o1.mono H13
    rcases A2 with ⟨i2, o2, v2, hi2, ho2, _, rfl, p2, n2, c2, l2, rfl, L2, e2⟩ | ⟨h, rfl⟩
    rotate_left
    · exfalso
      rcases h with h | h
      · subst h; rw [show dOld (ds []) = none from rfl] at hi; cases hi
      · omega
    obtain rfl : i = i2 := by rw [hi] at hi2; exact Option.some.inj hi2
    obtain rfl : o = o2 := by rw [ho] at ho2; exact Option.some.inj ho2
    (simp only [go_sem, vc_block_seq, vc_block_region, vc_block_cond, vc_block_block, Nat.reduceBEq, Nat.reduceAdd, Nat.reduceLeDiff, Nat.reduceEqDiff, Int.reduceAdd, Int.reduceBEq, Int.reduceBNe, reduceCtorEq, beq_self_eq_true, Bool.true_beq, Bool.false_beq]; repeat ((with_reducible refine leK_refl ?_); simp only [go_sem, vc_block_seq, vc_block_region, vc_block_cond, vc_block_block, Nat.reduceBEq, Nat.reduceAdd, Nat.reduceLeDiff, Nat.reduceEqDiff, Int.reduceAdd, Int.reduceBEq, Int.reduceBNe, reduceCtorEq, beq_self_eq_true, Bool.true_beq, Bool.false_beq]))
    refine AtCall.of_spec (descs_con l1 l2 p1 p2 n1 c1 n2 c2 _ o1 L2 (by omega) (fun z hz => by have := s1.2 z hz; omega)) ?_
    rintro r W14 H14 rfl
    replace hS := hS.trans H14
    replace hl := hl.mono H14
    replace hg := hg.mono H14
    replace hs := hs.mono H14
    replace hd := hd.mono H14
    replace V := V.mono H14
    replace oz := oz.mono H14
    replace oy := oy.mono H14
    replace ox := ox.mono H14
    replace F := F.mono H14
    replace o1 := o1.mono H14
    replace L2 := L2.mono H14
    rw [decide_eq_true (e1.trans e2.symm)]
    (simp only [go_sem, vc_block_seq, vc_block_region, vc_block_cond, vc_block_block, Nat.reduceBEq, Nat.reduceAdd, Nat.reduceLeDiff, Nat.reduceEqDiff, Int.reduceAdd, Int.reduceBEq, Int.reduceBNe, reduceCtorEq, beq_self_eq_true, Bool.true_beq, Bool.false_beq]; repeat ((with_reducible refine leK_refl ?_); simp only [go_sem, vc_block_seq, vc_block_region, vc_block_cond, vc_block_block, Nat.reduceBEq, Nat.reduceAdd, Nat.reduceLeDiff, Nat.reduceEqDiff, Int.reduceAdd, Int.reduceBEq, Int.reduceBNe, reduceCtorEq, beq_self_eq_true, Bool.true_beq, Bool.false_beq]))
    refine AtCall.of_spec (pick_con lv many not dr pv pd nv cv nd cd _ V.dl hd (by omega) hv8 (by omega)) ?_
    rintro r W15 H15 ⟨p3, n3, c3, l3, rfl, o3, e3⟩
    replace hS := hS.trans H15
    replace hl := hl.mono H15
    replace hg := hg.mono H15
    replace hs := hs.mono H15
    replace hd := hd.mono H15
    replace V := V.mono H15
    replace oz := oz.mono H15
    replace oy := oy.mono H15
    replace ox := ox.mono H15
    replace F := F.mono H15
    replace o1 := o1.mono H15
    replace L2 := L2.mono H15
    (simp only [go_sem, vc_block_seq, vc_block_region, vc_block_cond, vc_block_block, Nat.reduceBEq, Nat.reduceAdd, Nat.reduceLeDiff, Nat.reduceEqDiff, Int.reduceAdd, Int.reduceBEq, Int.reduceBNe, reduceCtorEq, beq_self_eq_true, Bool.true_beq, Bool.false_beq]; repeat ((with_reducible refine leK_refl ?_); simp only [go_sem, vc_block_seq, vc_block_region, vc_block_cond, vc_block_block, Nat.reduceBEq, Nat.reduceAdd, Nat.reduceLeDiff, Nat.reduceEqDiff, Int.reduceAdd, Int.reduceBEq, Int.reduceBNe, reduceCtorEq, beq_self_eq_true, Bool.true_beq, Bool.false_beq]))
    replace o3 := o3.dl
    have h8p : ∀ d ∈ cPick many (dDrop (ds lv) not) [] dr, d.filter.length ≤ 8 := fun d hd => by
      rcases pick_mem _ _ _ _ d hd with h | h
      · exact V.small d (List.mem_filter.1 h).1
      · simp at h
    have hlp := pick_len many dr (dDrop (ds lv) not) []
    have s3 := small_of_eq o3 e3 (by simp at hlp; omega) h8p
    refine AtCall.of_spec (rpick_con lv hv.2 many not dr pv pd nv cv nd cd _ V.dl.sl hd (by omega) (by omega)) ?_
    rintro r W16 H16 ⟨p4, n4, c4, l4, rfl, o4, m4, e4⟩
    replace hS := hS.trans H16
    replace hl := hl.mono H16
    replace hg := hg.mono H16
    replace hs := hs.mono H16
    replace hd := hd.mono H16
    replace V := V.mono H16
    replace oz := oz.mono H16
    replace oy := oy.mono H16
    replace ox := ox.mono H16
    replace F := F.mono H16
    replace o1 := o1.mono H16
    replace L2 := L2.mono H16
    replace o3 := o3.mono H16
    (simp only [go_sem, vc_block_seq, vc_block_region, vc_block_cond, vc_block_block, Nat.reduceBEq, Nat.reduceAdd, Nat.reduceLeDiff, Nat.reduceEqDiff, Int.reduceAdd, Int.reduceBEq, Int.reduceBNe, reduceCtorEq, beq_self_eq_true, Bool.true_beq, Bool.false_beq]; repeat ((with_reducible refine leK_refl ?_); simp only [go_sem, vc_block_seq, vc_block_region, vc_block_cond, vc_block_block, Nat.reduceBEq, Nat.reduceAdd, Nat.reduceLeDiff, Nat.reduceEqDiff, Int.reduceAdd, Int.reduceBEq, Int.reduceBNe, reduceCtorEq, beq_self_eq_true, Bool.true_beq, Bool.false_beq]))
    have L4 : DL W16 p4 n4 c4 l4 := ⟨o4.sl, fun x hx => V.dl.fl x (m4 x hx)⟩
    refine AtCall.of_spec (descs_con l3 l4 p3 p4 n3 c3 n4 c4 _ o3 L4 (by omega) (fun z hz => by have := s3.2 z hz; omega)) ?_
    rintro r W17 H17 rfl
    replace hS := hS.trans H17
    replace hl := hl.mono H17
    replace hg := hg.mono H17
    replace hs := hs.mono H17
    replace hd := hd.mono H17
    replace V := V.mono H17
    replace oz := oz.mono H17
    replace oy := oy.mono H17
    replace ox := ox.mono H17
    replace F := F.mono H17
    replace o1 := o1.mono H17
    replace L2 := L2.mono H17
    replace o3 := o3.mono H17
    rw [decide_eq_true (e3.trans e4.symm)]
    (simp only [go_sem, vc_block_seq, vc_block_region, vc_block_cond, vc_block_block, Nat.reduceBEq, Nat.reduceAdd, Nat.reduceLeDiff, Nat.reduceEqDiff, Int.reduceAdd, Int.reduceBEq, Int.reduceBNe, reduceCtorEq, beq_self_eq_true, Bool.true_beq, Bool.false_beq]; repeat ((with_reducible refine leK_refl ?_); simp only [go_sem, vc_block_seq, vc_block_region, vc_block_cond, vc_block_block, Nat.reduceBEq, Nat.reduceAdd, Nat.reduceLeDiff, Nat.reduceEqDiff, Int.reduceAdd, Int.reduceBEq, Int.reduceBNe, reduceCtorEq, beq_self_eq_true, Bool.true_beq, Bool.false_beq]))
    refine AtCall.of_spec (merge_con lv got sent self N pv pg ps nv cv ng cg ns cs _ V.dl hv hg hs (by omega) (by omega) (by omega) hv8 hgf.2) ?_
    rintro r W18 H18 ⟨p5, n5, c5, l5, rfl, o5, e5⟩
    replace hS := hS.trans H18
    replace hl := hl.mono H18
    replace hg := hg.mono H18
    replace hs := hs.mono H18
    replace hd := hd.mono H18
    replace V := V.mono H18
    replace oz := oz.mono H18
    replace oy := oy.mono H18
    replace ox := ox.mono H18
    replace F := F.mono H18
    replace o1 := o1.mono H18
    replace L2 := L2.mono H18
    replace o3 := o3.mono H18
    (simp only [go_sem, vc_block_seq, vc_block_region, vc_block_cond, vc_block_block, Nat.reduceBEq, Nat.reduceAdd, Nat.reduceLeDiff, Nat.reduceEqDiff, Int.reduceAdd, Int.reduceBEq, Int.reduceBNe, reduceCtorEq, beq_self_eq_true, Bool.true_beq, Bool.false_beq]; repeat ((with_reducible refine leK_refl ?_); simp only [go_sem, vc_block_seq, vc_block_region, vc_block_cond, vc_block_block, Nat.reduceBEq, Nat.reduceAdd, Nat.reduceLeDiff, Nat.reduceEqDiff, Int.reduceAdd, Int.reduceBEq, Int.reduceBNe, reduceCtorEq, beq_self_eq_true, Bool.true_beq, Bool.false_beq]))
    replace o5 := o5.dl
    have h8m : ∀ d ∈ cMerge (ds got) self N (ds lv) (ds sent) (ds got), d.filter.length ≤ 8 := fun d hd => by
      rcases merge_mem hv hro d hd with h | h
      · exact V.small d h
      · exact f8_of hg hgf.2 d h
    have hlm := (merge_vw (got := ds got) (r := ds got) (S := ds sent) hv hro).2
    have s5 := small_of_eq o5 e5 (by omega) h8m
    refine AtCall.of_spec (rmerge_con lv got sent self N pv pg ps nv cv ng cg ns cs _ V.dl hv (by omega) hg hs (by omega) (by omega) (by omega)) ?_
    rintro r W19 H19 ⟨p6, n6, c6, l6, rfl, o6, e6⟩
    replace hS := hS.trans H19
    replace hl := hl.mono H19
    replace hg := hg.mono H19
    replace hs := hs.mono H19
    replace hd := hd.mono H19
    replace V := V.mono H19
    replace oz := oz.mono H19
    replace oy := oy.mono H19
    replace ox := ox.mono H19
    replace F := F.mono H19
    replace o1 := o1.mono H19
    replace L2 := L2.mono H19
    replace o3 := o3.mono H19
    replace o5 := o5.mono H19
    (simp only [go_sem, vc_block_seq, vc_block_region, vc_block_cond, vc_block_block, Nat.reduceBEq, Nat.reduceAdd, Nat.reduceLeDiff, Nat.reduceEqDiff, Int.reduceAdd, Int.reduceBEq, Int.reduceBNe, reduceCtorEq, beq_self_eq_true, Bool.true_beq, Bool.false_beq]; repeat ((with_reducible refine leK_refl ?_); simp only [go_sem, vc_block_seq, vc_block_region, vc_block_cond, vc_block_block, Nat.reduceBEq, Nat.reduceAdd, Nat.reduceLeDiff, Nat.reduceEqDiff, Int.reduceAdd, Int.reduceBEq, Int.reduceBNe, reduceCtorEq, beq_self_eq_true, Bool.true_beq, Bool.false_beq]))
    refine AtCall.of_spec (descs_con l5 l6 p5 p6 n5 c5 n6 c6 _ o5 o6 (by omega) (fun z hz => by have := s5.2 z hz; omega)) ?_
    rintro r W20 H20 rfl
    replace hS := hS.trans H20
    replace hl := hl.mono H20
    replace hg := hg.mono H20
    replace hs := hs.mono H20
    replace hd := hd.mono H20
    replace V := V.mono H20
    replace oz := oz.mono H20
    replace oy := oy.mono H20
    replace ox := ox.mono H20
    replace F := F.mono H20
    replace o1 := o1.mono H20
    replace L2 := L2.mono H20
    replace o3 := o3.mono H20
    replace o5 := o5.mono H20
    rw [decide_eq_true (e5.trans e6.symm)]
    (simp only [go_sem, vc_block_seq, vc_block_region, vc_block_cond, vc_block_block, Nat.reduceBEq, Nat.reduceAdd, Nat.reduceLeDiff, Nat.reduceEqDiff, Int.reduceAdd, Int.reduceBEq, Int.reduceBNe, reduceCtorEq, beq_self_eq_true, Bool.true_beq, Bool.false_beq]; repeat ((with_reducible refine leK_refl ?_); simp only [go_sem, vc_block_seq, vc_block_region, vc_block_cond, vc_block_block, Nat.reduceBEq, Nat.reduceAdd, Nat.reduceLeDiff, Nat.reduceEqDiff, Int.reduceAdd, Int.reduceBEq, Int.reduceBNe, reduceCtorEq, beq_self_eq_true, Bool.true_beq, Bool.false_beq]))
    refine AtCall.of_spec (descs_con lv lz pv pz nv cv nz cz _ V.dl oz (by omega) (fun z hz => by have := hv8 z hz; omega)) ?_
    rintro r W21 H21 rfl
    replace hS := hS.trans H21
    replace hl := hl.mono H21
    replace hg := hg.mono H21
    replace hs := hs.mono H21
    replace hd := hd.mono H21
    replace V := V.mono H21
    replace oz := oz.mono H21
    replace oy := oy.mono H21
    replace ox := ox.mono H21
    replace F := F.mono H21
    replace o1 := o1.mono H21
    replace L2 := L2.mono H21
    replace o3 := o3.mono H21
    replace o5 := o5.mono H21
    rw [decide_eq_true ez.symm]
    (simp only [go_sem, vc_block_seq, vc_block_region, vc_block_cond, vc_block_block, Nat.reduceBEq, Nat.reduceAdd, Nat.reduceLeDiff, Nat.reduceEqDiff, Int.reduceAdd, Int.reduceBEq, Int.reduceBNe, reduceCtorEq, beq_self_eq_true, Bool.true_beq, Bool.false_beq]; repeat ((with_reducible refine leK_refl ?_); simp only [go_sem, vc_block_seq, vc_block_region, vc_block_cond, vc_block_block, Nat.reduceBEq, Nat.reduceAdd, Nat.reduceLeDiff, Nat.reduceEqDiff, Int.reduceAdd, Int.reduceBEq, Int.reduceBNe, reduceCtorEq, beq_self_eq_true, Bool.true_beq, Bool.false_beq]))
    refine AtCall.of_spec (descs_con got ly pg py ng cg ny cy _ hg oy (by omega) (fun z hz => by have := hgf.2 z hz; omega)) ?_
    rintro r W22 H22 rfl
    replace hS := hS.trans H22
    replace hl := hl.mono H22
    replace hg := hg.mono H22
    replace hs := hs.mono H22
    replace hd := hd.mono H22
    replace V := V.mono H22
    replace oz := oz.mono H22
    replace oy := oy.mono H22
    replace ox := ox.mono H22
    replace F := F.mono H22
    replace o1 := o1.mono H22
    replace L2 := L2.mono H22
    replace o3 := o3.mono H22
    replace o5 := o5.mono H22
    rw [decide_eq_true ey.symm]
    (simp only [go_sem, vc_block_seq, vc_block_region, vc_block_cond, vc_block_block, Nat.reduceBEq, Nat.reduceAdd, Nat.reduceLeDiff, Nat.reduceEqDiff, Int.reduceAdd, Int.reduceBEq, Int.reduceBNe, reduceCtorEq, beq_self_eq_true, Bool.true_beq, Bool.false_beq]; repeat ((with_reducible refine leK_refl ?_); simp only [go_sem, vc_block_seq, vc_block_region, vc_block_cond, vc_block_block, Nat.reduceBEq, Nat.reduceAdd, Nat.reduceLeDiff, Nat.reduceEqDiff, Int.reduceAdd, Int.reduceBEq, Int.reduceBNe, reduceCtorEq, beq_self_eq_true, Bool.true_beq, Bool.false_beq]))
    refine AtCall.of_spec (descs_con sent lx ps px ns cs nx cx _ hs ox (by omega) (fun z hz => by have := hsf.2 z hz; omega)) ?_
    rintro r W23 H23 rfl
    replace hS := hS.trans H23
    replace hl := hl.mono H23
    replace hg := hg.mono H23
    replace hs := hs.mono H23
    replace hd := hd.mono H23
    replace V := V.mono H23
    replace oz := oz.mono H23
    replace oy := oy.mono H23
    replace ox := ox.mono H23
    replace F := F.mono H23
    replace o1 := o1.mono H23
    replace L2 := L2.mono H23
    replace o3 := o3.mono H23
    replace o5 := o5.mono H23
    rw [decide_eq_true ex.symm]
    (simp only [go_sem, vc_block_seq, vc_block_region, vc_block_cond, vc_block_block, Nat.reduceBEq, Nat.reduceAdd, Nat.reduceLeDiff, Nat.reduceEqDiff, Int.reduceAdd, Int.reduceBEq, Int.reduceBNe, reduceCtorEq, beq_self_eq_true, Bool.true_beq, Bool.false_beq]; repeat ((with_reducible refine leK_refl ?_); simp only [go_sem, vc_block_seq, vc_block_region, vc_block_cond, vc_block_block, Nat.reduceBEq, Nat.reduceAdd, Nat.reduceLeDiff, Nat.reduceEqDiff, Int.reduceAdd, Int.reduceBEq, Int.reduceBNe, reduceCtorEq, beq_self_eq_true, Bool.true_beq, Bool.false_beq]))
    refine AtCall.of_spec (cawake_con _) ?_
    rintro r W24 H24 rfl
    replace hS := hS.trans H24
    replace hl := hl.mono H24
    replace hg := hg.mono H24
    replace hs := hs.mono H24
    replace hd := hd.mono H24
    replace V := V.mono H24
    replace oz := oz.mono H24
    replace oy := oy.mono H24
    replace ox := ox.mono H24
    replace F := F.mono H24
    replace o1 := o1.mono H24
    replace L2 := L2.mono H24
    replace o3 := o3.mono H24
    replace o5 := o5.mono H24
    (simp only [go_sem, vc_block_seq, vc_block_region, vc_block_cond, vc_block_block, Nat.reduceBEq, Nat.reduceAdd, Nat.reduceLeDiff, Nat.reduceEqDiff, Int.reduceAdd, Int.reduceBEq, Int.reduceBNe, reduceCtorEq, beq_self_eq_true, Bool.true_beq, Bool.false_beq]; repeat ((with_reducible refine leK_refl ?_); simp only [go_sem, vc_block_seq, vc_block_region, vc_block_cond, vc_block_block, Nat.reduceBEq, Nat.reduceAdd, Nat.reduceLeDiff, Nat.reduceEqDiff, Int.reduceAdd, Int.reduceBEq, Int.reduceBNe, reduceCtorEq, beq_self_eq_true, Bool.true_beq, Bool.false_beq]))
    exact ⟨hS, rfl⟩
  · (simp only [go_sem, vc_block_seq, vc_block_region, vc_block_cond, vc_block_block, Nat.reduceBEq, Nat.reduceAdd, Nat.reduceLeDiff, Nat.reduceEqDiff, Int.reduceAdd, Int.reduceBEq, Int.reduceBNe, reduceCtorEq, beq_self_eq_true, Bool.true_beq, Bool.false_beq]; repeat ((with_reducible refine leK_refl ?_); simp only [go_sem, vc_block_seq, vc_block_region, vc_block_cond, vc_block_block, Nat.reduceBEq, Nat.reduceAdd, Nat.reduceLeDiff, Nat.reduceEqDiff, Int.reduceAdd, Int.reduceBEq, Int.reduceBNe, reduceCtorEq, beq_self_eq_true, Bool.true_beq, Bool.false_beq]))
    refine AtCall.of_spec (rask_con lv hv.2 ⟨⟨self, 1, not, [⟨1, 2⟩]⟩, pf, 1, 1⟩ many dr pv pd nv cv nd cd _ V.dl F hd (by omega) (by omega) hm.2) ?_
    rintro r W25 H25 A2
    replace hS := hS.trans H25
    replace hl := hl.mono H25
    replace hg := hg.mono H25
    replace hs := hs.mono H25
    replace hd := hd.mono H25
    replace V := V.mono H25
    replace oz := oz.mono H25
    replace oy := oy.mono H25
    replace ox := ox.mono H25
    replace F := F.mono H25
    rcases A2 with ⟨i2, o2, v2, hi2, ho2, _, rfl, p2, n2, c2, l2, rfl, L2, e2⟩ | ⟨_, rfl⟩
    · exfalso
      rcases h with h | h
      · subst h; rw [show dOld (ds []) = none from rfl] at hi2; cases hi2
      · omega
    (simp only [go_sem, vc_block_seq, vc_block_region, vc_block_cond, vc_block_block, Nat.reduceBEq, Nat.reduceAdd, Nat.reduceLeDiff, Nat.reduceEqDiff, Int.reduceAdd, Int.reduceBEq, Int.reduceBNe, reduceCtorEq, beq_self_eq_true, Bool.true_beq, Bool.false_beq]; repeat ((with_reducible refine leK_refl ?_); simp only [go_sem, vc_block_seq, vc_block_region, vc_block_cond, vc_block_block, Nat.reduceBEq, Nat.reduceAdd, Nat.reduceLeDiff, Nat.reduceEqDiff, Int.reduceAdd, Int.reduceBEq, Int.reduceBNe, reduceCtorEq, beq_self_eq_true, Bool.true_beq, Bool.false_beq]))
    refine AtCall.of_spec (descs_con [] [] none none 0 0 0 0 _ (DL.nil_ _) (DL.nil_ _) (by omega) (by simp)) ?_
    rintro r W26 H26 rfl
    replace hS := hS.trans H26
    replace hl := hl.mono H26
    replace hg := hg.mono H26
    replace hs := hs.mono H26
    replace hd := hd.mono H26
    replace V := V.mono H26
    replace oz := oz.mono H26
    replace oy := oy.mono H26
    replace ox := ox.mono H26
    replace F := F.mono H26
    rw [show decide (ds [] = ds []) = true from rfl]
    (simp only [go_sem, vc_block_seq, vc_block_region, vc_block_cond, vc_block_block, Nat.reduceBEq, Nat.reduceAdd, Nat.reduceLeDiff, Nat.reduceEqDiff, Int.reduceAdd, Int.reduceBEq, Int.reduceBNe, reduceCtorEq, beq_self_eq_true, Bool.true_beq, Bool.false_beq]; repeat ((with_reducible refine leK_refl ?_); simp only [go_sem, vc_block_seq, vc_block_region, vc_block_cond, vc_block_block, Nat.reduceBEq, Nat.reduceAdd, Nat.reduceLeDiff, Nat.reduceEqDiff, Int.reduceAdd, Int.reduceBEq, Int.reduceBNe, reduceCtorEq, beq_self_eq_true, Bool.true_beq, Bool.false_beq]))
    refine AtCall.of_spec (pick_con lv many not dr pv pd nv cv nd cd _ V.dl hd (by omega) hv8 (by omega)) ?_
    rintro r W27 H27 ⟨p3, n3, c3, l3, rfl, o3, e3⟩
    replace hS := hS.trans H27
    replace hl := hl.mono H27
    replace hg := hg.mono H27
    replace hs := hs.mono H27
    replace hd := hd.mono H27
    replace V := V.mono H27
    replace oz := oz.mono H27
    replace oy := oy.mono H27
    replace ox := ox.mono H27
    replace F := F.mono H27
    (simp only [go_sem, vc_block_seq, vc_block_region, vc_block_cond, vc_block_block, Nat.reduceBEq, Nat.reduceAdd, Nat.reduceLeDiff, Nat.reduceEqDiff, Int.reduceAdd, Int.reduceBEq, Int.reduceBNe, reduceCtorEq, beq_self_eq_true, Bool.true_beq, Bool.false_beq]; repeat ((with_reducible refine leK_refl ?_); simp only [go_sem, vc_block_seq, vc_block_region, vc_block_cond, vc_block_block, Nat.reduceBEq, Nat.reduceAdd, Nat.reduceLeDiff, Nat.reduceEqDiff, Int.reduceAdd, Int.reduceBEq, Int.reduceBNe, reduceCtorEq, beq_self_eq_true, Bool.true_beq, Bool.false_beq]))
    replace o3 := o3.dl
    have h8p : ∀ d ∈ cPick many (dDrop (ds lv) not) [] dr, d.filter.length ≤ 8 := fun d hd => by
      rcases pick_mem _ _ _ _ d hd with h | h
      · exact V.small d (List.mem_filter.1 h).1
      · simp at h
    have hlp := pick_len many dr (dDrop (ds lv) not) []
    have s3 := small_of_eq o3 e3 (by simp at hlp; omega) h8p
    refine AtCall.of_spec (rpick_con lv hv.2 many not dr pv pd nv cv nd cd _ V.dl.sl hd (by omega) (by omega)) ?_
    rintro r W28 H28 ⟨p4, n4, c4, l4, rfl, o4, m4, e4⟩
    replace hS := hS.trans H28
    replace hl := hl.mono H28
    replace hg := hg.mono H28
    replace hs := hs.mono H28
    replace hd := hd.mono H28
    replace V := V.mono H28
    replace oz := oz.mono H28
    replace oy := oy.mono H28
    replace ox := ox.mono H28
    replace F := F.mono H28
    replace o3 := o3.mono H28
    (simp only [go_sem, vc_block_seq, vc_block_region, vc_block_cond, vc_block_block, Nat.reduceBEq, Nat.reduceAdd, Nat.reduceLeDiff, Nat.reduceEqDiff, Int.reduceAdd, Int.reduceBEq, Int.reduceBNe, reduceCtorEq, beq_self_eq_true, Bool.true_beq, Bool.false_beq]; repeat ((with_reducible refine leK_refl ?_); simp only [go_sem, vc_block_seq, vc_block_region, vc_block_cond, vc_block_block, Nat.reduceBEq, Nat.reduceAdd, Nat.reduceLeDiff, Nat.reduceEqDiff, Int.reduceAdd, Int.reduceBEq, Int.reduceBNe, reduceCtorEq, beq_self_eq_true, Bool.true_beq, Bool.false_beq]))
    have L4 : DL W28 p4 n4 c4 l4 := ⟨o4.sl, fun x hx => V.dl.fl x (m4 x hx)⟩
    refine AtCall.of_spec (descs_con l3 l4 p3 p4 n3 c3 n4 c4 _ o3 L4 (by omega) (fun z hz => by have := s3.2 z hz; omega)) ?_
    rintro r W29 H29 rfl
    replace hS := hS.trans H29
    replace hl := hl.mono H29
    replace hg := hg.mono H29
    replace hs := hs.mono H29
    replace hd := hd.mono H29
    replace V := V.mono H29
    replace oz := oz.mono H29
    replace oy := oy.mono H29
    replace ox := ox.mono H29
    replace F := F.mono H29
    replace o3 := o3.mono H29
    rw [decide_eq_true (e3.trans e4.symm)]
    (simp only [go_sem, vc_block_seq, vc_block_region, vc_block_cond, vc_block_block, Nat.reduceBEq, Nat.reduceAdd, Nat.reduceLeDiff, Nat.reduceEqDiff, Int.reduceAdd, Int.reduceBEq, Int.reduceBNe, reduceCtorEq, beq_self_eq_true, Bool.true_beq, Bool.false_beq]; repeat ((with_reducible refine leK_refl ?_); simp only [go_sem, vc_block_seq, vc_block_region, vc_block_cond, vc_block_block, Nat.reduceBEq, Nat.reduceAdd, Nat.reduceLeDiff, Nat.reduceEqDiff, Int.reduceAdd, Int.reduceBEq, Int.reduceBNe, reduceCtorEq, beq_self_eq_true, Bool.true_beq, Bool.false_beq]))
    refine AtCall.of_spec (merge_con lv got sent self N pv pg ps nv cv ng cg ns cs _ V.dl hv hg hs (by omega) (by omega) (by omega) hv8 hgf.2) ?_
    rintro r W30 H30 ⟨p5, n5, c5, l5, rfl, o5, e5⟩
    replace hS := hS.trans H30
    replace hl := hl.mono H30
    replace hg := hg.mono H30
    replace hs := hs.mono H30
    replace hd := hd.mono H30
    replace V := V.mono H30
    replace oz := oz.mono H30
    replace oy := oy.mono H30
    replace ox := ox.mono H30
    replace F := F.mono H30
    replace o3 := o3.mono H30
    (simp only [go_sem, vc_block_seq, vc_block_region, vc_block_cond, vc_block_block, Nat.reduceBEq, Nat.reduceAdd, Nat.reduceLeDiff, Nat.reduceEqDiff, Int.reduceAdd, Int.reduceBEq, Int.reduceBNe, reduceCtorEq, beq_self_eq_true, Bool.true_beq, Bool.false_beq]; repeat ((with_reducible refine leK_refl ?_); simp only [go_sem, vc_block_seq, vc_block_region, vc_block_cond, vc_block_block, Nat.reduceBEq, Nat.reduceAdd, Nat.reduceLeDiff, Nat.reduceEqDiff, Int.reduceAdd, Int.reduceBEq, Int.reduceBNe, reduceCtorEq, beq_self_eq_true, Bool.true_beq, Bool.false_beq]))
    replace o5 := o5.dl
    have h8m : ∀ d ∈ cMerge (ds got) self N (ds lv) (ds sent) (ds got), d.filter.length ≤ 8 := fun d hd => by
      rcases merge_mem hv hro d hd with h | h
      · exact V.small d h
      · exact f8_of hg hgf.2 d h
    have hlm := (merge_vw (got := ds got) (r := ds got) (S := ds sent) hv hro).2
    have s5 := small_of_eq o5 e5 (by omega) h8m
    refine AtCall.of_spec (rmerge_con lv got sent self N pv pg ps nv cv ng cg ns cs _ V.dl hv (by omega) hg hs (by omega) (by omega) (by omega)) ?_
    rintro r W31 H31 ⟨p6, n6, c6, l6, rfl, o6, e6⟩
    replace hS := hS.trans H31
    replace hl := hl.mono H31
    replace hg := hg.mono H31
    replace hs := hs.mono H31
    replace hd := hd.mono H31
    replace V := V.mono H31
    replace oz := oz.mono H31
    replace oy := oy.mono H31
    replace ox := ox.mono H31
    replace F := F.mono H31
    replace o3 := o3.mono H31
    replace o5 := o5.mono H31
    (simp only [go_sem, vc_block_seq, vc_block_region, vc_block_cond, vc_block_block, Nat.reduceBEq, Nat.reduceAdd, Nat.reduceLeDiff, Nat.reduceEqDiff, Int.reduceAdd, Int.reduceBEq, Int.reduceBNe, reduceCtorEq, beq_self_eq_true, Bool.true_beq, Bool.false_beq]; repeat ((with_reducible refine leK_refl ?_); simp only [go_sem, vc_block_seq, vc_block_region, vc_block_cond, vc_block_block, Nat.reduceBEq, Nat.reduceAdd, Nat.reduceLeDiff, Nat.reduceEqDiff, Int.reduceAdd, Int.reduceBEq, Int.reduceBNe, reduceCtorEq, beq_self_eq_true, Bool.true_beq, Bool.false_beq]))
    refine AtCall.of_spec (descs_con l5 l6 p5 p6 n5 c5 n6 c6 _ o5 o6 (by omega) (fun z hz => by have := s5.2 z hz; omega)) ?_
    rintro r W32 H32 rfl
    replace hS := hS.trans H32
    replace hl := hl.mono H32
    replace hg := hg.mono H32
    replace hs := hs.mono H32
    replace hd := hd.mono H32
    replace V := V.mono H32
    replace oz := oz.mono H32
    replace oy := oy.mono H32
    replace ox := ox.mono H32
    replace F := F.mono H32
    replace o3 := o3.mono H32
    replace o5 := o5.mono H32
    rw [decide_eq_true (e5.trans e6.symm)]
    (simp only [go_sem, vc_block_seq, vc_block_region, vc_block_cond, vc_block_block, Nat.reduceBEq, Nat.reduceAdd, Nat.reduceLeDiff, Nat.reduceEqDiff, Int.reduceAdd, Int.reduceBEq, Int.reduceBNe, reduceCtorEq, beq_self_eq_true, Bool.true_beq, Bool.false_beq]; repeat ((with_reducible refine leK_refl ?_); simp only [go_sem, vc_block_seq, vc_block_region, vc_block_cond, vc_block_block, Nat.reduceBEq, Nat.reduceAdd, Nat.reduceLeDiff, Nat.reduceEqDiff, Int.reduceAdd, Int.reduceBEq, Int.reduceBNe, reduceCtorEq, beq_self_eq_true, Bool.true_beq, Bool.false_beq]))
    refine AtCall.of_spec (descs_con lv lz pv pz nv cv nz cz _ V.dl oz (by omega) (fun z hz => by have := hv8 z hz; omega)) ?_
    rintro r W33 H33 rfl
    replace hS := hS.trans H33
    replace hl := hl.mono H33
    replace hg := hg.mono H33
    replace hs := hs.mono H33
    replace hd := hd.mono H33
    replace V := V.mono H33
    replace oz := oz.mono H33
    replace oy := oy.mono H33
    replace ox := ox.mono H33
    replace F := F.mono H33
    replace o3 := o3.mono H33
    replace o5 := o5.mono H33
    rw [decide_eq_true ez.symm]
    (simp only [go_sem, vc_block_seq, vc_block_region, vc_block_cond, vc_block_block, Nat.reduceBEq, Nat.reduceAdd, Nat.reduceLeDiff, Nat.reduceEqDiff, Int.reduceAdd, Int.reduceBEq, Int.reduceBNe, reduceCtorEq, beq_self_eq_true, Bool.true_beq, Bool.false_beq]; repeat ((with_reducible refine leK_refl ?_); simp only [go_sem, vc_block_seq, vc_block_region, vc_block_cond, vc_block_block, Nat.reduceBEq, Nat.reduceAdd, Nat.reduceLeDiff, Nat.reduceEqDiff, Int.reduceAdd, Int.reduceBEq, Int.reduceBNe, reduceCtorEq, beq_self_eq_true, Bool.true_beq, Bool.false_beq]))
    refine AtCall.of_spec (descs_con got ly pg py ng cg ny cy _ hg oy (by omega) (fun z hz => by have := hgf.2 z hz; omega)) ?_
    rintro r W34 H34 rfl
    replace hS := hS.trans H34
    replace hl := hl.mono H34
    replace hg := hg.mono H34
    replace hs := hs.mono H34
    replace hd := hd.mono H34
    replace V := V.mono H34
    replace oz := oz.mono H34
    replace oy := oy.mono H34
    replace ox := ox.mono H34
    replace F := F.mono H34
    replace o3 := o3.mono H34
    replace o5 := o5.mono H34
    rw [decide_eq_true ey.symm]
    (simp only [go_sem, vc_block_seq, vc_block_region, vc_block_cond, vc_block_block, Nat.reduceBEq, Nat.reduceAdd, Nat.reduceLeDiff, Nat.reduceEqDiff, Int.reduceAdd, Int.reduceBEq, Int.reduceBNe, reduceCtorEq, beq_self_eq_true, Bool.true_beq, Bool.false_beq]; repeat ((with_reducible refine leK_refl ?_); simp only [go_sem, vc_block_seq, vc_block_region, vc_block_cond, vc_block_block, Nat.reduceBEq, Nat.reduceAdd, Nat.reduceLeDiff, Nat.reduceEqDiff, Int.reduceAdd, Int.reduceBEq, Int.reduceBNe, reduceCtorEq, beq_self_eq_true, Bool.true_beq, Bool.false_beq]))
    refine AtCall.of_spec (descs_con sent lx ps px ns cs nx cx _ hs ox (by omega) (fun z hz => by have := hsf.2 z hz; omega)) ?_
    rintro r W35 H35 rfl
    replace hS := hS.trans H35
    replace hl := hl.mono H35
    replace hg := hg.mono H35
    replace hs := hs.mono H35
    replace hd := hd.mono H35
    replace V := V.mono H35
    replace oz := oz.mono H35
    replace oy := oy.mono H35
    replace ox := ox.mono H35
    replace F := F.mono H35
    replace o3 := o3.mono H35
    replace o5 := o5.mono H35
    rw [decide_eq_true ex.symm]
    (simp only [go_sem, vc_block_seq, vc_block_region, vc_block_cond, vc_block_block, Nat.reduceBEq, Nat.reduceAdd, Nat.reduceLeDiff, Nat.reduceEqDiff, Int.reduceAdd, Int.reduceBEq, Int.reduceBNe, reduceCtorEq, beq_self_eq_true, Bool.true_beq, Bool.false_beq]; repeat ((with_reducible refine leK_refl ?_); simp only [go_sem, vc_block_seq, vc_block_region, vc_block_cond, vc_block_block, Nat.reduceBEq, Nat.reduceAdd, Nat.reduceLeDiff, Nat.reduceEqDiff, Int.reduceAdd, Int.reduceBEq, Int.reduceBNe, reduceCtorEq, beq_self_eq_true, Bool.true_beq, Bool.false_beq]))
    refine AtCall.of_spec (cawake_con _) ?_
    rintro r W36 H36 rfl
    replace hS := hS.trans H36
    replace hl := hl.mono H36
    replace hg := hg.mono H36
    replace hs := hs.mono H36
    replace hd := hd.mono H36
    replace V := V.mono H36
    replace oz := oz.mono H36
    replace oy := oy.mono H36
    replace ox := ox.mono H36
    replace F := F.mono H36
    replace o3 := o3.mono H36
    replace o5 := o5.mono H36
    (simp only [go_sem, vc_block_seq, vc_block_region, vc_block_cond, vc_block_block, Nat.reduceBEq, Nat.reduceAdd, Nat.reduceLeDiff, Nat.reduceEqDiff, Int.reduceAdd, Int.reduceBEq, Int.reduceBNe, reduceCtorEq, beq_self_eq_true, Bool.true_beq, Bool.false_beq]; repeat ((with_reducible refine leK_refl ?_); simp only [go_sem, vc_block_seq, vc_block_region, vc_block_cond, vc_block_block, Nat.reduceBEq, Nat.reduceAdd, Nat.reduceLeDiff, Nat.reduceEqDiff, Int.reduceAdd, Int.reduceBEq, Int.reduceBNe, reduceCtorEq, beq_self_eq_true, Bool.true_beq, Bool.false_beq]))
    exact ⟨hS, rfl⟩
end Go.Proofs.Ytfdhmmjccnmckaa
