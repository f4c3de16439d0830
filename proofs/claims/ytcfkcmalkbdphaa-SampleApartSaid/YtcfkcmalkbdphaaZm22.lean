/-
  Part 22 of the proof of Zm: the engine and the walks, in their order.
-/
import Derived.Test.YtcfkcmalkbdphaaZm19
import Derived.Test.YtcfkcmalkbdphaaZm20
import Derived.Test.YtcfkcmalkbdphaaZm21
set_option linter.unusedSimpArgs false
set_option linter.unusedVariables false
/-
  The law of descriptors: what is told is nobody else's.
-/
set_option linter.unusedSimpArgs false
set_option linter.unusedVariables false
namespace Go.Eng
/-- Spans; descriptors, whose filters are of these; rows of lists. -/
def kS (T : TypeId) : WK := ⟨T, 2, fun cs => ∃ a b : Int, cs = [.int .i32 a, .int .i32 b]⟩
def kD (T : TypeId) (F : Option Addr → Nat → Nat → Prop) : WK := ⟨T, 4, fun cs => ∃ (a b g : Int) (p : Option Addr) (n c : Nat), cs = [.int .u8 a, .int .u16 b, .int .u8 g, .slice p n c] ∧ F p n c⟩
def kO (T : TypeId) (G : Option Addr → Nat → Nat → Prop) : WK := ⟨T, 1, fun cs => ∃ (p : Option Addr) (n c : Nat), cs = [.slice p n c] ∧ G p n c⟩
structure Tri where
  p : Option Addr
  n : Nat
  c : Nat
  l : List PD
def Fof (L : List Tri) (p : Option Addr) (n c : Nat) : Prop := ∃ t ∈ L, ∃ x ∈ t.l, x.p = p ∧ x.n = n ∧ x.c = c
def Gof (L : List Tri) (p : Option Addr) (n c : Nat) : Prop := ∃ t ∈ L, t.p = p ∧ t.n = n ∧ t.c = c
def Rof (TS TD TO : TypeId) (L : List Tri) (q : Option Addr) (r : WR) : Prop :=
  (r.k = kS TS ∧ Fof L r.p r.n r.c) ∨ (r.k = kD TD (Fof L) ∧ Gof L r.p r.n r.c) ∨ r = ⟨kO TO (Gof L), q, L.length, L.length⟩
theorem Rof.coh {TS TD TO : TypeId} {L : List Tri} {q : Option Addr} (h1 : TS ≠ TD) (h2 : TS ≠ TO) (h3 : TD ≠ TO) : Coh (Rof TS TD TO L q) := by
  rintro ⟨k, p, n, c⟩ ⟨k', p', n', c'⟩ h h' hT
  rcases h with ⟨rfl, _⟩ | ⟨rfl, _⟩ | h <;> rcases h' with ⟨rfl, _⟩ | ⟨rfl, _⟩ | h' <;> (try cases h) <;> (try cases h') <;> first | rfl | exact absurd hT h1 | exact absurd hT h2 | exact absurd hT h3 | exact absurd hT.symm h1 | exact absurd hT.symm h2 | exact absurd hT.symm h3
theorem Rof.all {TS TD TO : TypeId} {L : List Tri} {q : Option Addr} {uk u : World} (hL : ∀ t ∈ L, DO uk u TD TS t.p t.n t.c t.l) (hq : Own uk u TO 1 q L.length L.length (L.map fun t => [.slice t.p t.n t.c])) : AllW uk u (Rof TS TD TO L q) := by
  rintro ⟨k, p, n, c⟩ h
  rcases h with ⟨e, t, ht, x, hx, h1, h2, h3⟩ | ⟨e, t, ht, h1, h2, h3⟩ | h
  · simp only at e h1 h2 h3
    subst e h1 h2 h3
    exact ⟨_, (hL t ht).fl x hx, fun y hy => by obtain ⟨s, _, rfl⟩ := List.mem_map.1 hy; exact ⟨s.a, s.b, rfl⟩⟩
  · simp only at e h1 h2 h3
    subst e h1 h2 h3
    exact ⟨_, (hL t ht).own, fun y hy => by obtain ⟨s, hs, rfl⟩ := List.mem_map.1 hy; exact ⟨_, _, _, s.p, s.n, s.c, rfl, t, ht, s, hs, rfl, rfl, rfl⟩⟩
  · cases h
    exact ⟨_, hq, fun y hy => by obtain ⟨t, ht, rfl⟩ := List.mem_map.1 hy; exact ⟨t.p, t.n, t.c, rfl, t, ht, rfl, rfl, rfl⟩⟩
theorem arith_any {k : IntKind} {n : Int} {K : Value → Prop} : AtArith k n K = K (.int k (k.wrap n)) := rfl
theorem splice_S {a b x : Int} : splice [.int .i32 a, .int .i32 b] 0 [.int .i32 x] = [.int .i32 x, .int .i32 b] := rfl
theorem splice_S1 {a b x : Int} : splice [.int .i32 a, .int .i32 b] 1 [.int .i32 x] = [.int .i32 a, .int .i32 x] := rfl
theorem splice_D {a b g x : Int} {v : Value} : splice [.int .u8 a, .int .u16 b, .int .u8 g, v] 2 [.int .u8 x] = [.int .u8 a, .int .u16 b, .int .u8 x, v] := rfl
end Go.Eng
namespace Go.Proofs.Ytcfkcmalkbdphaa
open Go.Eng

attribute [local go_sem] PD.val PD.enc
set_option maxRecDepth 4000 in
set_option maxHeartbeats 2000000 in
theorem apart_con (l : List PD) (d : PD) (self : UInt8) (p : Option Addr) (n c : Nat) (u : World) (hl : DL u p n c l) (hd : Fl u d) (hc : n ≤ 9223372036854775807) (hdn : d.n ≤ 9223372036854775807) :
    Con Try.prog 4 [.slice p n c, d.val, .int .u8 self.toNat] u (fun r _ => r = .bool true) := by
  refine spec_of_vc Ty.mixed Try.func4 rfl (by kernel_rfl) (by kernel_rfl) rfl [.tmp 6] rfl ?_
  (simp only [go_sem, vc_block_seq, vc_block_region, vc_block_cond, vc_block_block, Nat.reduceBEq, Nat.reduceAdd, Nat.reduceLeDiff, Nat.reduceEqDiff, Int.reduceAdd, Int.reduceBEq, Int.reduceBNe, reduceCtorEq, beq_self_eq_true, Bool.true_beq, Bool.false_beq]; repeat ((with_reducible refine leK_refl ?_); simp only [go_sem, vc_block_seq, vc_block_region, vc_block_cond, vc_block_block, Nat.reduceBEq, Nat.reduceAdd, Nat.reduceLeDiff, Nat.reduceEqDiff, Int.reduceAdd, Int.reduceBEq, Int.reduceBNe, reduceCtorEq, beq_self_eq_true, Bool.true_beq, Bool.false_beq]))
  have hS : Sub u u := Sub.refl _
  intro b4
  refine AtCall.of_spec (few_con l p n c _ hl hc) ?_
  rintro r W1 H1 ⟨B, rfl, hB⟩
  replace hS := hS.trans H1
  replace hl := hl.mono H1
  replace hd := hd.mono H1
  cases B with
  | false =>
    (simp only [go_sem, vc_block_seq, vc_block_region, vc_block_cond, vc_block_block, Nat.reduceBEq, Nat.reduceAdd, Nat.reduceLeDiff, Nat.reduceEqDiff, Int.reduceAdd, Int.reduceBEq, Int.reduceBNe, reduceCtorEq, beq_self_eq_true, Bool.true_beq, Bool.false_beq]; repeat ((with_reducible refine leK_refl ?_); simp only [go_sem, vc_block_seq, vc_block_region, vc_block_cond, vc_block_block, Nat.reduceBEq, Nat.reduceAdd, Nat.reduceLeDiff, Nat.reduceEqDiff, Int.reduceAdd, Int.reduceBEq, Int.reduceBNe, reduceCtorEq, beq_self_eq_true, Bool.true_beq, Bool.false_beq]))
    refine AtCall.of_spec (awake_con _) ?_
    rintro r W2 H2 rfl
    replace hS := hS.trans H2
    replace hl := hl.mono H2
    replace hd := hd.mono H2
    (simp only [go_sem, vc_block_seq, vc_block_region, vc_block_cond, vc_block_block, Nat.reduceBEq, Nat.reduceAdd, Nat.reduceLeDiff, Nat.reduceEqDiff, Int.reduceAdd, Int.reduceBEq, Int.reduceBNe, reduceCtorEq, beq_self_eq_true, Bool.true_beq, Bool.false_beq]; repeat ((with_reducible refine leK_refl ?_); simp only [go_sem, vc_block_seq, vc_block_region, vc_block_cond, vc_block_block, Nat.reduceBEq, Nat.reduceAdd, Nat.reduceLeDiff, Nat.reduceEqDiff, Int.reduceAdd, Int.reduceBEq, Int.reduceBNe, reduceCtorEq, beq_self_eq_true, Bool.true_beq, Bool.false_beq]))
    exact ⟨hS, rfl⟩
  | true =>
  have hf := hB rfl
  (simp only [go_sem, vc_block_seq, vc_block_region, vc_block_cond, vc_block_block, Nat.reduceBEq, Nat.reduceAdd, Nat.reduceLeDiff, Nat.reduceEqDiff, Int.reduceAdd, Int.reduceBEq, Int.reduceBNe, reduceCtorEq, beq_self_eq_true, Bool.true_beq, Bool.false_beq]; repeat ((with_reducible refine leK_refl ?_); simp only [go_sem, vc_block_seq, vc_block_region, vc_block_cond, vc_block_block, Nat.reduceBEq, Nat.reduceAdd, Nat.reduceLeDiff, Nat.reduceEqDiff, Int.reduceAdd, Int.reduceBEq, Int.reduceBNe, reduceCtorEq, beq_self_eq_true, Bool.true_beq, Bool.false_beq]))
  refine cond_dec (fun h => ?_) (fun h => ?_)
  · (simp only [go_sem, vc_block_seq, vc_block_region, vc_block_cond, vc_block_block, Nat.reduceBEq, Nat.reduceAdd, Nat.reduceLeDiff, Nat.reduceEqDiff, Int.reduceAdd, Int.reduceBEq, Int.reduceBNe, reduceCtorEq, beq_self_eq_true, Bool.true_beq, Bool.false_beq]; repeat ((with_reducible refine leK_refl ?_); simp only [go_sem, vc_block_seq, vc_block_region, vc_block_cond, vc_block_block, Nat.reduceBEq, Nat.reduceAdd, Nat.reduceLeDiff, Nat.reduceEqDiff, Int.reduceAdd, Int.reduceBEq, Int.reduceBNe, reduceCtorEq, beq_self_eq_true, Bool.true_beq, Bool.false_beq]))
    refine AtCall.of_spec (awake_con _) ?_
    rintro r W3 H3 rfl
    replace hS := hS.trans H3
    replace hl := hl.mono H3
    replace hd := hd.mono H3
    (simp only [go_sem, vc_block_seq, vc_block_region, vc_block_cond, vc_block_block, Nat.reduceBEq, Nat.reduceAdd, Nat.reduceLeDiff, Nat.reduceEqDiff, Int.reduceAdd, Int.reduceBEq, Int.reduceBNe, reduceCtorEq, beq_self_eq_true, Bool.true_beq, Bool.false_beq]; repeat ((with_reducible refine leK_refl ?_); simp only [go_sem, vc_block_seq, vc_block_region, vc_block_cond, vc_block_block, Nat.reduceBEq, Nat.reduceAdd, Nat.reduceLeDiff, Nat.reduceEqDiff, Int.reduceAdd, Int.reduceBEq, Int.reduceBNe, reduceCtorEq, beq_self_eq_true, Bool.true_beq, Bool.false_beq]))
    exact ⟨hS, rfl⟩
  have hd8 : d.n ≤ 8 := by omega
  (simp only [go_sem, vc_block_seq, vc_block_region, vc_block_cond, vc_block_block, Nat.reduceBEq, Nat.reduceAdd, Nat.reduceLeDiff, Nat.reduceEqDiff, Int.reduceAdd, Int.reduceBEq, Int.reduceBNe, reduceCtorEq, beq_self_eq_true, Bool.true_beq, Bool.false_beq]; repeat ((with_reducible refine leK_refl ?_); simp only [go_sem, vc_block_seq, vc_block_region, vc_block_cond, vc_block_block, Nat.reduceBEq, Nat.reduceAdd, Nat.reduceLeDiff, Nat.reduceEqDiff, Int.reduceAdd, Int.reduceBEq, Int.reduceBNe, reduceCtorEq, beq_self_eq_true, Bool.true_beq, Bool.false_beq]))
  refine AtCall.of_spec (view_con l self 20 p n c _ hl hf) ?_
  rintro r W4 H4 ⟨p0, n0, c0, l0, rfl, o0, hv0, hvm0, hv256, hv8⟩
  replace hS := hS.trans H4
  replace hl := hl.mono H4
  replace hd := hd.mono H4
  (simp only [go_sem, vc_block_seq, vc_block_region, vc_block_cond, vc_block_block, Nat.reduceBEq, Nat.reduceAdd, Nat.reduceLeDiff, Nat.reduceEqDiff, Int.reduceAdd, Int.reduceBEq, Int.reduceBNe, reduceCtorEq, beq_self_eq_true, Bool.true_beq, Bool.false_beq]; repeat ((with_reducible refine leK_refl ?_); simp only [go_sem, vc_block_seq, vc_block_region, vc_block_cond, vc_block_block, Nat.reduceBEq, Nat.reduceAdd, Nat.reduceLeDiff, Nat.reduceEqDiff, Int.reduceAdd, Int.reduceBEq, Int.reduceBNe, reduceCtorEq, beq_self_eq_true, Bool.true_beq, Bool.false_beq]))
  refine AtCall.of_spec (anew_con l0 p0 n0 c0 _ o0.dl (by omega) (fun x hx => by have := hv8 x hx; omega)) ?_
  rintro r W5 H5 ⟨pv, nv, cv, lv, rfl, ov, ev⟩
  replace hS := hS.trans H5
  replace hl := hl.mono H5
  replace hd := hd.mono H5
  replace o0 := o0.mono H5
  (simp only [go_sem, vc_block_seq, vc_block_region, vc_block_cond, vc_block_block, Nat.reduceBEq, Nat.reduceAdd, Nat.reduceLeDiff, Nat.reduceEqDiff, Int.reduceAdd, Int.reduceBEq, Int.reduceBNe, reduceCtorEq, beq_self_eq_true, Bool.true_beq, Bool.false_beq]; repeat ((with_reducible refine leK_refl ?_); simp only [go_sem, vc_block_seq, vc_block_region, vc_block_cond, vc_block_block, Nat.reduceBEq, Nat.reduceAdd, Nat.reduceLeDiff, Nat.reduceEqDiff, Int.reduceAdd, Int.reduceBEq, Int.reduceBNe, reduceCtorEq, beq_self_eq_true, Bool.true_beq, Bool.false_beq]))
  refine eff_lit (n := 1) (vs := [d.val]) Ty.el22 rfl rfl (by intro v hv; simp at hv; subst hv; rfl) (by omega) ?_
  intro pa1 ua1 oa1 hsa1 fa1
  replace hS := hS.trans hsa1
  replace hl := hl.mono hsa1
  replace hd := hd.mono hsa1
  replace o0 := o0.mono hsa1
  replace ov := ov.mono hsa1
  have la1 : DL ua1 pa1 1 1 [d] := ⟨oa1.sl, fun x hx => by simp at hx; subst hx; exact hd⟩
  (simp only [go_sem, vc_block_seq, vc_block_region, vc_block_cond, vc_block_block, Nat.reduceBEq, Nat.reduceAdd, Nat.reduceLeDiff, Nat.reduceEqDiff, Int.reduceAdd, Int.reduceBEq, Int.reduceBNe, reduceCtorEq, beq_self_eq_true, Bool.true_beq, Bool.false_beq]; repeat ((with_reducible refine leK_refl ?_); simp only [go_sem, vc_block_seq, vc_block_region, vc_block_cond, vc_block_block, Nat.reduceBEq, Nat.reduceAdd, Nat.reduceLeDiff, Nat.reduceEqDiff, Int.reduceAdd, Int.reduceBEq, Int.reduceBNe, reduceCtorEq, beq_self_eq_true, Bool.true_beq, Bool.false_beq]))
  refine AtCall.of_spec (anew_con [d] pa1 1 1 _ la1 (by omega) (fun x hx => by simp at hx; subst hx; omega)) ?_
  rintro r W6 H6 ⟨p1, n1, c1, l1, rfl, o1, e1⟩
  replace hS := hS.trans H6
  replace hl := hl.mono H6
  replace hd := hd.mono H6
  replace o0 := o0.mono H6
  replace ov := ov.mono H6
  (simp only [go_sem, vc_block_seq, vc_block_region, vc_block_cond, vc_block_block, Nat.reduceBEq, Nat.reduceAdd, Nat.reduceLeDiff, Nat.reduceEqDiff, Int.reduceAdd, Int.reduceBEq, Int.reduceBNe, reduceCtorEq, beq_self_eq_true, Bool.true_beq, Bool.false_beq]; repeat ((with_reducible refine leK_refl ?_); simp only [go_sem, vc_block_seq, vc_block_region, vc_block_cond, vc_block_block, Nat.reduceBEq, Nat.reduceAdd, Nat.reduceLeDiff, Nat.reduceEqDiff, Int.reduceAdd, Int.reduceBEq, Int.reduceBNe, reduceCtorEq, beq_self_eq_true, Bool.true_beq, Bool.false_beq]))
  obtain ⟨d1, rfl⟩ : ∃ d1, l1 = [d1] := by
    have := congrArg List.length e1
    simp at this
    exact List.length_eq_one_iff.1 this
  have hn1 : n1 = 1 := by have := o1.len; simpa using this.symm
  subst hn1
  have hd1 : d1.d = d.d := by simpa using e1
  have hd1n : d1.n ≤ 8 := by have h1 := (o1.dl.fl d1 (by simp)).len; have h2 := hd.len; rw [hd1] at h1; omega
  refine ⟨⟨o1.own.sl.some_ Nat.zero_lt_one, by omega, by omega⟩, ?_⟩
  refine o1.own.sl.load rfl (.inr rfl) (Nat.le_of_ble_eq_true rfl) ?_
  (simp only [go_sem, vc_block_seq, vc_block_region, vc_block_cond, vc_block_block, Nat.reduceBEq, Nat.reduceAdd, Nat.reduceLeDiff, Nat.reduceEqDiff, Int.reduceAdd, Int.reduceBEq, Int.reduceBNe, reduceCtorEq, beq_self_eq_true, Bool.true_beq, Bool.false_beq]; repeat ((with_reducible refine leK_refl ?_); simp only [go_sem, vc_block_seq, vc_block_region, vc_block_cond, vc_block_block, Nat.reduceBEq, Nat.reduceAdd, Nat.reduceLeDiff, Nat.reduceEqDiff, Int.reduceAdd, Int.reduceBEq, Int.reduceBNe, reduceCtorEq, beq_self_eq_true, Bool.true_beq, Bool.false_beq]))
  have hfd1 : Fl W6 d1 := o1.dl.fl d1 (by simp)
  have hnv : nv = n0 := by have h1 := ov.len; have h2 := congrArg List.length ev; have h3 := o0.len; simp at h2; omega
  have hlv8 : ∀ x ∈ lv, x.n ≤ 8 := fun x hx => by
    have h1 : x.d ∈ ds l0 := by rw [← ev]; exact List.mem_map_of_mem hx
    obtain ⟨y, hy, e⟩ := List.mem_map.1 h1
    have h2 := hv8 y hy
    have h3 := (o0.dl.fl y hy).len
    have h4 := (ov.dl.fl x hx).len
    rw [e] at h3; omega
  refine draw_tree (.fl 0 (.fl 2 (.eff 1 true (.eff 3 false (.eff 4 false (.fl 5 (.fl 6 .done)) .no) .no) (.eff 3 false (.eff 1 true (.eff 4 false (.fl 5 (.fl 6 .done)) .no) .no) .no)))) (by kernel_rfl) (fun (g : (Option Addr × Nat × Nat) × (Option Addr × Nat × Nat)) => [(9, .v (.slice g.2.1 g.2.2.1 g.2.2.2)), (8, .v (.slice g.1.1 g.1.2.1 g.1.2.2))])
    (fun g u' => Sub W6 u' ∧ ∃ lk lo, DL u' g.1.1 g.1.2.1 g.1.2.2 lk ∧ ds lk = ds lv ∧ DL u' g.2.1 g.2.2.1 g.2.2.2 lo ∧ ds lo = [d1.d]) ?_ ?_
  · (simp only [go_sem, vc_block_seq, vc_block_region, vc_block_cond, vc_block_block, Nat.reduceBEq, Nat.reduceAdd, Nat.reduceLeDiff, Nat.reduceEqDiff, Int.reduceAdd, Int.reduceBEq, Int.reduceBNe, reduceCtorEq, beq_self_eq_true, Bool.true_beq, Bool.false_beq]; repeat ((with_reducible refine leK_refl ?_); simp only [go_sem, vc_block_seq, vc_block_region, vc_block_cond, vc_block_block, Nat.reduceBEq, Nat.reduceAdd, Nat.reduceLeDiff, Nat.reduceEqDiff, Int.reduceAdd, Int.reduceBEq, Int.reduceBNe, reduceCtorEq, beq_self_eq_true, Bool.true_beq, Bool.false_beq]))
    refine ⟨?_, ?_⟩
    · refine AtCall.of_spec (anew_con lv pv nv cv _ ov.dl (by omega) (fun x hx => by have := hlv8 x hx; omega)) ?_
      rintro r ub hsb ⟨pk, nk, ck, lk, rfl, ok, ek⟩
      (simp only [go_sem, vc_block_seq, vc_block_region, vc_block_cond, vc_block_block, Nat.reduceBEq, Nat.reduceAdd, Nat.reduceLeDiff, Nat.reduceEqDiff, Int.reduceAdd, Int.reduceBEq, Int.reduceBNe, reduceCtorEq, beq_self_eq_true, Bool.true_beq, Bool.false_beq]; repeat ((with_reducible refine leK_refl ?_); simp only [go_sem, vc_block_seq, vc_block_region, vc_block_cond, vc_block_block, Nat.reduceBEq, Nat.reduceAdd, Nat.reduceLeDiff, Nat.reduceEqDiff, Int.reduceAdd, Int.reduceBEq, Int.reduceBNe, reduceCtorEq, beq_self_eq_true, Bool.true_beq, Bool.false_beq]))
      refine eff_lit (n := 1) (vs := [d1.val]) Ty.el22 rfl rfl (by intro v hv; simp at hv; subst hv; rfl) (by omega) ?_
      intro pa ua oa hsa fa
      (simp only [go_sem, vc_block_seq, vc_block_region, vc_block_cond, vc_block_block, Nat.reduceBEq, Nat.reduceAdd, Nat.reduceLeDiff, Nat.reduceEqDiff, Int.reduceAdd, Int.reduceBEq, Int.reduceBNe, reduceCtorEq, beq_self_eq_true, Bool.true_beq, Bool.false_beq]; repeat ((with_reducible refine leK_refl ?_); simp only [go_sem, vc_block_seq, vc_block_region, vc_block_cond, vc_block_block, Nat.reduceBEq, Nat.reduceAdd, Nat.reduceLeDiff, Nat.reduceEqDiff, Int.reduceAdd, Int.reduceBEq, Int.reduceBNe, reduceCtorEq, beq_self_eq_true, Bool.true_beq, Bool.false_beq]))
      refine AtCall.of_spec (anew_con [d1] pa 1 1 _ ⟨oa.sl, fun x hx => by simp at hx; subst hx; exact (hfd1.mono hsb).mono hsa⟩ (by omega) (fun x hx => by simp at hx; subst hx; omega)) ?_
      rintro r uc hsc ⟨po, no, co, lo, rfl, oo, eo⟩
      (simp only [go_sem, vc_block_seq, vc_block_region, vc_block_cond, vc_block_block, Nat.reduceBEq, Nat.reduceAdd, Nat.reduceLeDiff, Nat.reduceEqDiff, Int.reduceAdd, Int.reduceBEq, Int.reduceBNe, reduceCtorEq, beq_self_eq_true, Bool.true_beq, Bool.false_beq]; repeat ((with_reducible refine leK_refl ?_); simp only [go_sem, vc_block_seq, vc_block_region, vc_block_cond, vc_block_block, Nat.reduceBEq, Nat.reduceAdd, Nat.reduceLeDiff, Nat.reduceEqDiff, Int.reduceAdd, Int.reduceBEq, Int.reduceBNe, reduceCtorEq, beq_self_eq_true, Bool.true_beq, Bool.false_beq]))
      exact ⟨((pk, nk, ck), (po, no, co)), le_chk (by simp only [go_sem, vc_block_seq, vc_block_region, vc_block_cond, vc_block_block, Nat.reduceBEq, Nat.reduceAdd, Nat.reduceLeDiff, Nat.reduceEqDiff, Int.reduceAdd, Int.reduceBEq, Int.reduceBNe, reduceCtorEq, beq_self_eq_true, Bool.true_beq, Bool.false_beq]), (hsb.trans hsa).trans hsc, lk, lo, (ok.dl.mono hsa).mono hsc, ek, oo.dl, eo⟩
    · refine eff_lit (n := 1) (vs := [d1.val]) Ty.el22 rfl rfl (by intro v hv; simp at hv; subst hv; rfl) (by omega) ?_
      intro pa ua oa hsa fa
      (simp only [go_sem, vc_block_seq, vc_block_region, vc_block_cond, vc_block_block, Nat.reduceBEq, Nat.reduceAdd, Nat.reduceLeDiff, Nat.reduceEqDiff, Int.reduceAdd, Int.reduceBEq, Int.reduceBNe, reduceCtorEq, beq_self_eq_true, Bool.true_beq, Bool.false_beq]; repeat ((with_reducible refine leK_refl ?_); simp only [go_sem, vc_block_seq, vc_block_region, vc_block_cond, vc_block_block, Nat.reduceBEq, Nat.reduceAdd, Nat.reduceLeDiff, Nat.reduceEqDiff, Int.reduceAdd, Int.reduceBEq, Int.reduceBNe, reduceCtorEq, beq_self_eq_true, Bool.true_beq, Bool.false_beq]))
      refine AtCall.of_spec (anew_con lv pv nv cv _ (ov.dl.mono hsa) (by omega) (fun x hx => by have := hlv8 x hx; omega)) ?_
      rintro r ub hsb ⟨pk, nk, ck, lk, rfl, ok, ek⟩
      (simp only [go_sem, vc_block_seq, vc_block_region, vc_block_cond, vc_block_block, Nat.reduceBEq, Nat.reduceAdd, Nat.reduceLeDiff, Nat.reduceEqDiff, Int.reduceAdd, Int.reduceBEq, Int.reduceBNe, reduceCtorEq, beq_self_eq_true, Bool.true_beq, Bool.false_beq]; repeat ((with_reducible refine leK_refl ?_); simp only [go_sem, vc_block_seq, vc_block_region, vc_block_cond, vc_block_block, Nat.reduceBEq, Nat.reduceAdd, Nat.reduceLeDiff, Nat.reduceEqDiff, Int.reduceAdd, Int.reduceBEq, Int.reduceBNe, reduceCtorEq, beq_self_eq_true, Bool.true_beq, Bool.false_beq]))
      refine AtCall.of_spec (anew_con [d1] pa 1 1 _ ⟨oa.sl.mono hsb, fun x hx => by simp at hx; subst hx; exact (hfd1.mono hsa).mono hsb⟩ (by omega) (fun x hx => by simp at hx; subst hx; omega)) ?_
      rintro r uc hsc ⟨po, no, co, lo, rfl, oo, eo⟩
      (simp only [go_sem, vc_block_seq, vc_block_region, vc_block_cond, vc_block_block, Nat.reduceBEq, Nat.reduceAdd, Nat.reduceLeDiff, Nat.reduceEqDiff, Int.reduceAdd, Int.reduceBEq, Int.reduceBNe, reduceCtorEq, beq_self_eq_true, Bool.true_beq, Bool.false_beq]; repeat ((with_reducible refine leK_refl ?_); simp only [go_sem, vc_block_seq, vc_block_region, vc_block_cond, vc_block_block, Nat.reduceBEq, Nat.reduceAdd, Nat.reduceLeDiff, Nat.reduceEqDiff, Int.reduceAdd, Int.reduceBEq, Int.reduceBNe, reduceCtorEq, beq_self_eq_true, Bool.true_beq, Bool.false_beq]))
      exact ⟨((pk, nk, ck), (po, no, co)), le_chk (by simp only [go_sem, vc_block_seq, vc_block_region, vc_block_cond, vc_block_block, Nat.reduceBEq, Nat.reduceAdd, Nat.reduceLeDiff, Nat.reduceEqDiff, Int.reduceAdd, Int.reduceBEq, Int.reduceBNe, reduceCtorEq, beq_self_eq_true, Bool.true_beq, Bool.false_beq]), (hsa.trans hsb).trans hsc, lk, lo, ok.dl.mono hsc, ek, oo.dl, eo⟩
  rintro ⟨⟨pk, nk, ck⟩, ⟨po, no, co⟩⟩ u9 ⟨hs9, lk, lo, Dk, ek, Do, eo⟩
  simp only at Dk Do ⊢
  have ov := ov.mono hs9
  have hfd1 := hfd1.mono hs9
  have hS := hS.trans hs9
  have hup : Up dKey (ds lv) := by rw [ev]; exact hv0.2
  have hlv8' : ∀ x ∈ lv, x.n ≤ 100000 := fun x hx => by have := hlv8 x hx; omega
  have hS0 := hS
  have ov9 := ov
  have hS : Sub u9 u9 := Sub.refl _
  (simp only [go_sem, vc_block_seq, vc_block_region, vc_block_cond, vc_block_block, Nat.reduceBEq, Nat.reduceAdd, Nat.reduceLeDiff, Nat.reduceEqDiff, Int.reduceAdd, Int.reduceBEq, Int.reduceBNe, reduceCtorEq, beq_self_eq_true, Bool.true_beq, Bool.false_beq]; repeat ((with_reducible refine leK_refl ?_); simp only [go_sem, vc_block_seq, vc_block_region, vc_block_cond, vc_block_block, Nat.reduceBEq, Nat.reduceAdd, Nat.reduceLeDiff, Nat.reduceEqDiff, Int.reduceAdd, Int.reduceBEq, Int.reduceBNe, reduceCtorEq, beq_self_eq_true, Bool.true_beq, Bool.false_beq]))
  refine AtCall.of_spec (put_con lv hup d1 self 30 pv nv cv _ ov.dl hfd1 (by omega) hlv8' (by omega)) ?_
  rintro r W7 H7 ⟨v2, rfl, p2, n2, c2, l2, rfl, o2, e2⟩
  replace hS := hS.trans H7
  replace ov := ov.mono H7
  (simp only [go_sem, vc_block_seq, vc_block_region, vc_block_cond, vc_block_block, Nat.reduceBEq, Nat.reduceAdd, Nat.reduceLeDiff, Nat.reduceEqDiff, Int.reduceAdd, Int.reduceBEq, Int.reduceBNe, reduceCtorEq, beq_self_eq_true, Bool.true_beq, Bool.false_beq]; repeat ((with_reducible refine leK_refl ?_); simp only [go_sem, vc_block_seq, vc_block_region, vc_block_cond, vc_block_block, Nat.reduceBEq, Nat.reduceAdd, Nat.reduceLeDiff, Nat.reduceEqDiff, Int.reduceAdd, Int.reduceBEq, Int.reduceBNe, reduceCtorEq, beq_self_eq_true, Bool.true_beq, Bool.false_beq]))
  have hSa := hS
  refine AtCall.of_spec (copy_con lv pv nv cv _ ov.dl (by omega) (fun x hx => by have := hlv8 x hx; omega)) ?_
  rintro r W8 H8 ⟨p3, c3, l3, rfl, o3, e3, _⟩
  replace hS := hS.trans H8
  replace ov := ov.mono H8
  replace o2 := o2.mono H8
  (simp only [go_sem, vc_block_seq, vc_block_region, vc_block_cond, vc_block_block, Nat.reduceBEq, Nat.reduceAdd, Nat.reduceLeDiff, Nat.reduceEqDiff, Int.reduceAdd, Int.reduceBEq, Int.reduceBNe, reduceCtorEq, beq_self_eq_true, Bool.true_beq, Bool.false_beq]; repeat ((with_reducible refine leK_refl ?_); simp only [go_sem, vc_block_seq, vc_block_region, vc_block_cond, vc_block_block, Nat.reduceBEq, Nat.reduceAdd, Nat.reduceLeDiff, Nat.reduceEqDiff, Int.reduceAdd, Int.reduceBEq, Int.reduceBNe, reduceCtorEq, beq_self_eq_true, Bool.true_beq, Bool.false_beq]))
  replace o3 := o3.anti hSa
  have hSb := hS
  refine AtCall.of_spec (drop_con lv hup 0 pv nv cv _ ov.dl (by omega) hlv8') ?_
  rintro r W9 H9 ⟨p4, n4, c4, l4, rfl, o4, e4⟩
  replace hS := hS.trans H9
  replace ov := ov.mono H9
  replace o2 := o2.mono H9
  replace o3 := o3.mono H9
  (simp only [go_sem, vc_block_seq, vc_block_region, vc_block_cond, vc_block_block, Nat.reduceBEq, Nat.reduceAdd, Nat.reduceLeDiff, Nat.reduceEqDiff, Int.reduceAdd, Int.reduceBEq, Int.reduceBNe, reduceCtorEq, beq_self_eq_true, Bool.true_beq, Bool.false_beq]; repeat ((with_reducible refine leK_refl ?_); simp only [go_sem, vc_block_seq, vc_block_region, vc_block_cond, vc_block_block, Nat.reduceBEq, Nat.reduceAdd, Nat.reduceLeDiff, Nat.reduceEqDiff, Int.reduceAdd, Int.reduceBEq, Int.reduceBNe, reduceCtorEq, beq_self_eq_true, Bool.true_beq, Bool.false_beq]))
  replace o4 := o4.anti hSb
  have hSc := hS
  refine AtCall.of_spec (older_con lv pv nv cv _ ov.dl (by omega) hlv8') ?_
  rintro r W10 H10 ⟨p5, n5, c5, l5, rfl, o5, e5⟩
  replace hS := hS.trans H10
  replace ov := ov.mono H10
  replace o2 := o2.mono H10
  replace o3 := o3.mono H10
  replace o4 := o4.mono H10
  (simp only [go_sem, vc_block_seq, vc_block_region, vc_block_cond, vc_block_block, Nat.reduceBEq, Nat.reduceAdd, Nat.reduceLeDiff, Nat.reduceEqDiff, Int.reduceAdd, Int.reduceBEq, Int.reduceBNe, reduceCtorEq, beq_self_eq_true, Bool.true_beq, Bool.false_beq]; repeat ((with_reducible refine leK_refl ?_); simp only [go_sem, vc_block_seq, vc_block_region, vc_block_cond, vc_block_block, Nat.reduceBEq, Nat.reduceAdd, Nat.reduceLeDiff, Nat.reduceEqDiff, Int.reduceAdd, Int.reduceBEq, Int.reduceBNe, reduceCtorEq, beq_self_eq_true, Bool.true_beq, Bool.false_beq]))
  replace o5 := o5.anti hSc
  have hSd := hS
  refine eff_lit (n := 4) (vs := [.slice p2 n2 c2, .slice p3 nv c3, .slice p4 n4 c4, .slice p5 n5 c5]) Ty.el37 rfl rfl (by intro v hv; simp at hv; rcases hv with rfl | rfl | rfl | rfl <;> rfl) (by omega) ?_
  intro pq uq oq hsq fq
  replace hS := hS.trans hsq
  replace ov := ov.mono hsq
  replace o2 := o2.mono hsq
  replace o3 := o3.mono hsq
  replace o4 := o4.mono hsq
  replace o5 := o5.mono hsq
  replace oq := (oq.base fq).anti hSd
  generalize hR : Rof 39 32 22 [⟨p2, n2, c2, l2⟩, ⟨p3, nv, c3, l3⟩, ⟨p4, n4, c4, l4⟩, ⟨p5, n5, c5, l5⟩] pq = R
  have hA : AllW u9 uq R := by
    rw [← hR]
    refine Rof.all (fun t ht => ?_) oq
    simp only [List.mem_cons, List.not_mem_nil, or_false] at ht
    rcases ht with rfl | rfl | rfl | rfl
    · exact o2
    · exact o3
    · exact o4
    · exact o5
  have hC : Coh R := by rw [← hR]; exact Rof.coh (by decide) (by decide) (by decide)
  generalize hF : Fof [⟨p2, n2, c2, l2⟩, ⟨p3, nv, c3, l3⟩, ⟨p4, n4, c4, l4⟩, ⟨p5, n5, c5, l5⟩] = F at hR
  generalize hG : Gof [⟨p2, n2, c2, l2⟩, ⟨p3, nv, c3, l3⟩, ⟨p4, n4, c4, l4⟩, ⟨p5, n5, c5, l5⟩] = G at hR
  have r0 : R ⟨kO 22 G, pq, 4, 4⟩ := by rw [← hR, ← hG]; exact .inr (.inr rfl)
  have rD : ∀ p n c, G p n c → R ⟨kD 32 F, p, n, c⟩ := fun p n c h => by rw [← hR, ← hF]; rw [← hG] at h; exact .inr (.inl ⟨rfl, h⟩)
  have rS : ∀ p n c, F p n c → R ⟨kS 39, p, n, c⟩ := fun p n c h => by rw [← hR]; rw [← hF] at h; exact .inl ⟨rfl, h⟩
  clear hR hF hG oq
  (simp only [go_sem, vc_block_seq, vc_block_region, vc_block_cond, vc_block_block, Nat.reduceBEq, Nat.reduceAdd, Nat.reduceLeDiff, Nat.reduceEqDiff, Int.reduceAdd, Int.reduceBEq, Int.reduceBNe, reduceCtorEq, beq_self_eq_true, Bool.true_beq, Bool.false_beq]; repeat ((with_reducible refine leK_refl ?_); simp only [go_sem, vc_block_seq, vc_block_region, vc_block_cond, vc_block_block, Nat.reduceBEq, Nat.reduceAdd, Nat.reduceLeDiff, Nat.reduceEqDiff, Int.reduceAdd, Int.reduceBEq, Int.reduceBNe, reduceCtorEq, beq_self_eq_true, Bool.true_beq, Bool.false_beq]))
  refine vc_range 4 (fun (_ : Unit) => []) (fun _ => []) (fun j _ u' => AllW u9 u' R ∧ Sub u9 u') () (le_chk (by simp only [go_sem, vc_block_seq, vc_block_region, vc_block_cond, vc_block_block, Nat.reduceBEq, Nat.reduceAdd, Nat.reduceLeDiff, Nat.reduceEqDiff, Int.reduceAdd, Int.reduceBEq, Int.reduceBNe, reduceCtorEq, beq_self_eq_true, Bool.true_beq, Bool.false_beq])) ⟨hA, hS⟩ (fun _ _ => rfl) (by omega) (fun _ => rfl) ?_ ?_
  · rintro j _ u1 hj ⟨hA1, hs1⟩
    obtain ⟨xs, x, hx1, hx2, pe, ne, ce, rfl, hGe⟩ := (hA1 _ r0).at_ (i := j) hj
    have rde := rD _ _ _ hGe
    have hce := (hA1 _ rde).cap
    simp only [maxLen] at hce
    (simp only [go_sem, vc_block_seq, vc_block_region, vc_block_cond, vc_block_block, Nat.reduceBEq, Nat.reduceAdd, Nat.reduceLeDiff, Nat.reduceEqDiff, Int.reduceAdd, Int.reduceBEq, Int.reduceBNe, reduceCtorEq, beq_self_eq_true, Bool.true_beq, Bool.false_beq]; repeat ((with_reducible refine leK_refl ?_); simp only [go_sem, vc_block_seq, vc_block_region, vc_block_cond, vc_block_block, Nat.reduceBEq, Nat.reduceAdd, Nat.reduceLeDiff, Nat.reduceEqDiff, Int.reduceAdd, Int.reduceBEq, Int.reduceBNe, reduceCtorEq, beq_self_eq_true, Bool.true_beq, Bool.false_beq]))
    refine ⟨⟨hx1.sl.some_ hj, by omega, by omega⟩, ?_⟩
    refine hx1.sl.load hx2 (.inl rfl) (Nat.le_of_ble_eq_true rfl) ?_
    (simp only [go_sem, vc_block_seq, vc_block_region, vc_block_cond, vc_block_block, Nat.reduceBEq, Nat.reduceAdd, Nat.reduceLeDiff, Nat.reduceEqDiff, Int.reduceAdd, Int.reduceBEq, Int.reduceBNe, reduceCtorEq, beq_self_eq_true, Bool.true_beq, Bool.false_beq]; repeat ((with_reducible refine leK_refl ?_); simp only [go_sem, vc_block_seq, vc_block_region, vc_block_cond, vc_block_block, Nat.reduceBEq, Nat.reduceAdd, Nat.reduceLeDiff, Nat.reduceEqDiff, Int.reduceAdd, Int.reduceBEq, Int.reduceBNe, reduceCtorEq, beq_self_eq_true, Bool.true_beq, Bool.false_beq]))
    refine vc_range ne (fun (_ : Unit) => []) (fun _ => []) (fun i _ u' => AllW u9 u' R ∧ Sub u9 u') () (le_chk (by simp only [go_sem, vc_block_seq, vc_block_region, vc_block_cond, vc_block_block, Nat.reduceBEq, Nat.reduceAdd, Nat.reduceLeDiff, Nat.reduceEqDiff, Int.reduceAdd, Int.reduceBEq, Int.reduceBNe, reduceCtorEq, beq_self_eq_true, Bool.true_beq, Bool.false_beq])) ⟨hA1, hs1⟩ (fun _ _ => rfl) (by omega) (fun _ => rfl) ?_ ?_
    · rintro i _ u2 hi ⟨hA2, hs2⟩
      obtain ⟨ys, y, hy1, hy2, ya, yb, yg, yp, yn, yc, rfl, hFy⟩ := (hA2 _ rde).at_ (i := i) hi
      (simp only [go_sem, vc_block_seq, vc_block_region, vc_block_cond, vc_block_block, Nat.reduceBEq, Nat.reduceAdd, Nat.reduceLeDiff, Nat.reduceEqDiff, Int.reduceAdd, Int.reduceBEq, Int.reduceBNe, reduceCtorEq, beq_self_eq_true, Bool.true_beq, Bool.false_beq]; repeat ((with_reducible refine leK_refl ?_); simp only [go_sem, vc_block_seq, vc_block_region, vc_block_cond, vc_block_block, Nat.reduceBEq, Nat.reduceAdd, Nat.reduceLeDiff, Nat.reduceEqDiff, Int.reduceAdd, Int.reduceBEq, Int.reduceBNe, reduceCtorEq, beq_self_eq_true, Bool.true_beq, Bool.false_beq]))
      refine ⟨⟨hy1.sl.some_ hi, by omega, by omega⟩, ?_⟩
      refine hy1.sl.load hy2 (.inl rfl) (Nat.le_of_ble_eq_true rfl) ?_
      (simp only [go_sem, vc_block_seq, vc_block_region, vc_block_cond, vc_block_block, Nat.reduceBEq, Nat.reduceAdd, Nat.reduceLeDiff, Nat.reduceEqDiff, Int.reduceAdd, Int.reduceBEq, Int.reduceBNe, reduceCtorEq, beq_self_eq_true, Bool.true_beq, Bool.false_beq]; repeat ((with_reducible refine leK_refl ?_); simp only [go_sem, vc_block_seq, vc_block_region, vc_block_cond, vc_block_block, Nat.reduceBEq, Nat.reduceAdd, Nat.reduceLeDiff, Nat.reduceEqDiff, Int.reduceAdd, Int.reduceBEq, Int.reduceBNe, reduceCtorEq, beq_self_eq_true, Bool.true_beq, Bool.false_beq]))
      rw [arith_any]
      (simp only [go_sem, vc_block_seq, vc_block_region, vc_block_cond, vc_block_block, Nat.reduceBEq, Nat.reduceAdd, Nat.reduceLeDiff, Nat.reduceEqDiff, Int.reduceAdd, Int.reduceBEq, Int.reduceBNe, reduceCtorEq, beq_self_eq_true, Bool.true_beq, Bool.false_beq]; repeat ((with_reducible refine leK_refl ?_); simp only [go_sem, vc_block_seq, vc_block_region, vc_block_cond, vc_block_block, Nat.reduceBEq, Nat.reduceAdd, Nat.reduceLeDiff, Nat.reduceEqDiff, Int.reduceAdd, Int.reduceBEq, Int.reduceBNe, reduceCtorEq, beq_self_eq_true, Bool.true_beq, Bool.false_beq]))
      refine ⟨⟨hy1.sl.some_ hi, by omega, by omega⟩, ?_⟩
      refine wr_store (r := ⟨kD 32 F, pe, ne, ce⟩) Ty.lay5 hA2 hC rde hi rfl (Nat.le_of_ble_eq_true rfl) rfl ?_ hS0 hs2 ?_
      · rintro z ⟨a, b, g, p, n, c, rfl, h⟩
        exact ⟨a, b, _, p, n, c, splice_D, h⟩
      intro u3 hA3 hs3 _
      obtain ⟨zs, z, hz1, hz2, za, zb, zg, zp, zn, zc, rfl, hFz⟩ := (hA3 _ rde).at_ (i := i) hi
      (simp only [go_sem, vc_block_seq, vc_block_region, vc_block_cond, vc_block_block, Nat.reduceBEq, Nat.reduceAdd, Nat.reduceLeDiff, Nat.reduceEqDiff, Int.reduceAdd, Int.reduceBEq, Int.reduceBNe, reduceCtorEq, beq_self_eq_true, Bool.true_beq, Bool.false_beq]; repeat ((with_reducible refine leK_refl ?_); simp only [go_sem, vc_block_seq, vc_block_region, vc_block_cond, vc_block_block, Nat.reduceBEq, Nat.reduceAdd, Nat.reduceLeDiff, Nat.reduceEqDiff, Int.reduceAdd, Int.reduceBEq, Int.reduceBNe, reduceCtorEq, beq_self_eq_true, Bool.true_beq, Bool.false_beq]))
      refine ⟨⟨hz1.sl.some_ hi, by omega, by omega⟩, ?_⟩
      refine hz1.sl.load hz2 (.inl rfl) (Nat.le_of_ble_eq_true rfl) ?_
      (simp only [go_sem, vc_block_seq, vc_block_region, vc_block_cond, vc_block_block, Nat.reduceBEq, Nat.reduceAdd, Nat.reduceLeDiff, Nat.reduceEqDiff, Int.reduceAdd, Int.reduceBEq, Int.reduceBNe, reduceCtorEq, beq_self_eq_true, Bool.true_beq, Bool.false_beq]; repeat ((with_reducible refine leK_refl ?_); simp only [go_sem, vc_block_seq, vc_block_region, vc_block_cond, vc_block_block, Nat.reduceBEq, Nat.reduceAdd, Nat.reduceLeDiff, Nat.reduceEqDiff, Int.reduceAdd, Int.reduceBEq, Int.reduceBNe, reduceCtorEq, beq_self_eq_true, Bool.true_beq, Bool.false_beq]))
      have rse := rS _ _ _ hFz
      have hcz := (hA3 _ rse).cap
      simp only [maxLen] at hcz
      refine vc_range zn (fun (_ : Unit) => []) (fun _ => []) (fun k _ u' => AllW u9 u' R ∧ Sub u9 u' ∧ ∃ ws a b g, Own u9 u' 32 4 pe ne ce ws ∧ ws[i]? = some [.int .u8 a, .int .u16 b, .int .u8 g, .slice zp zn zc]) () (le_chk (by simp only [go_sem, vc_block_seq, vc_block_region, vc_block_cond, vc_block_block, Nat.reduceBEq, Nat.reduceAdd, Nat.reduceLeDiff, Nat.reduceEqDiff, Int.reduceAdd, Int.reduceBEq, Int.reduceBNe, reduceCtorEq, beq_self_eq_true, Bool.true_beq, Bool.false_beq])) ⟨hA3, hs3, zs, za, zb, zg, hz1, hz2⟩ (fun _ _ => rfl) (by omega) (fun _ => rfl) ?_ ?_
      · rintro k _ u4 hk ⟨hA4, hs4, ws, wa, wb, wg, hw1, hw2⟩
        obtain ⟨vs, v, hv1, hv2, va, vb, rfl⟩ := (hA4 _ rse).at_ (i := k) hk
        (simp only [go_sem, vc_block_seq, vc_block_region, vc_block_cond, vc_block_block, Nat.reduceBEq, Nat.reduceAdd, Nat.reduceLeDiff, Nat.reduceEqDiff, Int.reduceAdd, Int.reduceBEq, Int.reduceBNe, reduceCtorEq, beq_self_eq_true, Bool.true_beq, Bool.false_beq]; repeat ((with_reducible refine leK_refl ?_); simp only [go_sem, vc_block_seq, vc_block_region, vc_block_cond, vc_block_block, Nat.reduceBEq, Nat.reduceAdd, Nat.reduceLeDiff, Nat.reduceEqDiff, Int.reduceAdd, Int.reduceBEq, Int.reduceBNe, reduceCtorEq, beq_self_eq_true, Bool.true_beq, Bool.false_beq]))
        refine ⟨⟨hw1.sl.some_ hi, by omega, by omega⟩, ?_⟩
        refine hw1.sl.load hw2 (.inl rfl) (Nat.le_of_ble_eq_true rfl) ?_
        (simp only [go_sem, vc_block_seq, vc_block_region, vc_block_cond, vc_block_block, Nat.reduceBEq, Nat.reduceAdd, Nat.reduceLeDiff, Nat.reduceEqDiff, Int.reduceAdd, Int.reduceBEq, Int.reduceBNe, reduceCtorEq, beq_self_eq_true, Bool.true_beq, Bool.false_beq]; repeat ((with_reducible refine leK_refl ?_); simp only [go_sem, vc_block_seq, vc_block_region, vc_block_cond, vc_block_block, Nat.reduceBEq, Nat.reduceAdd, Nat.reduceLeDiff, Nat.reduceEqDiff, Int.reduceAdd, Int.reduceBEq, Int.reduceBNe, reduceCtorEq, beq_self_eq_true, Bool.true_beq, Bool.false_beq]))
        refine ⟨⟨hv1.sl.some_ hk, by omega, by omega⟩, ?_⟩
        refine hv1.sl.load hv2 (.inl rfl) (Nat.le_of_ble_eq_true rfl) ?_
        (simp only [go_sem, vc_block_seq, vc_block_region, vc_block_cond, vc_block_block, Nat.reduceBEq, Nat.reduceAdd, Nat.reduceLeDiff, Nat.reduceEqDiff, Int.reduceAdd, Int.reduceBEq, Int.reduceBNe, reduceCtorEq, beq_self_eq_true, Bool.true_beq, Bool.false_beq]; repeat ((with_reducible refine leK_refl ?_); simp only [go_sem, vc_block_seq, vc_block_region, vc_block_cond, vc_block_block, Nat.reduceBEq, Nat.reduceAdd, Nat.reduceLeDiff, Nat.reduceEqDiff, Int.reduceAdd, Int.reduceBEq, Int.reduceBNe, reduceCtorEq, beq_self_eq_true, Bool.true_beq, Bool.false_beq]))
        rw [arith_any]
        (simp only [go_sem, vc_block_seq, vc_block_region, vc_block_cond, vc_block_block, Nat.reduceBEq, Nat.reduceAdd, Nat.reduceLeDiff, Nat.reduceEqDiff, Int.reduceAdd, Int.reduceBEq, Int.reduceBNe, reduceCtorEq, beq_self_eq_true, Bool.true_beq, Bool.false_beq]; repeat ((with_reducible refine leK_refl ?_); simp only [go_sem, vc_block_seq, vc_block_region, vc_block_cond, vc_block_block, Nat.reduceBEq, Nat.reduceAdd, Nat.reduceLeDiff, Nat.reduceEqDiff, Int.reduceAdd, Int.reduceBEq, Int.reduceBNe, reduceCtorEq, beq_self_eq_true, Bool.true_beq, Bool.false_beq]))
        refine ⟨⟨hv1.sl.some_ hk, by omega, by omega⟩, ?_⟩
        refine wr_store (r := ⟨kS 39, zp, zn, zc⟩) Ty.lay21 hA4 hC rse hk rfl (Nat.le_of_ble_eq_true rfl) rfl ?_ hS0 hs4 ?_
        · rintro z ⟨a, b, rfl⟩
          exact ⟨_, b, splice_S⟩
        intro u5 hA5 hs5 hkeep
        (simp only [go_sem, vc_block_seq, vc_block_region, vc_block_cond, vc_block_block, Nat.reduceBEq, Nat.reduceAdd, Nat.reduceLeDiff, Nat.reduceEqDiff, Int.reduceAdd, Int.reduceBEq, Int.reduceBNe, reduceCtorEq, beq_self_eq_true, Bool.true_beq, Bool.false_beq]; repeat ((with_reducible refine leK_refl ?_); simp only [go_sem, vc_block_seq, vc_block_region, vc_block_cond, vc_block_block, Nat.reduceBEq, Nat.reduceAdd, Nat.reduceLeDiff, Nat.reduceEqDiff, Int.reduceAdd, Int.reduceBEq, Int.reduceBNe, reduceCtorEq, beq_self_eq_true, Bool.true_beq, Bool.false_beq]))
        exact ⟨(), le_chk (by simp only [go_sem, vc_block_seq, vc_block_region, vc_block_cond, vc_block_block, Nat.reduceBEq, Nat.reduceAdd, Nat.reduceLeDiff, Nat.reduceEqDiff, Int.reduceAdd, Int.reduceBEq, Int.reduceBNe, reduceCtorEq, beq_self_eq_true, Bool.true_beq, Bool.false_beq]), hA5, hs5, ws, wa, wb, wg, hkeep ⟨kD 32 F, pe, ne, ce⟩ (show (32 : Nat) ≠ 39 from by decide) ws hw1, hw2⟩
      · rintro _ u4 ⟨hA4, hs4, _⟩
        (simp only [go_sem, vc_block_seq, vc_block_region, vc_block_cond, vc_block_block, Nat.reduceBEq, Nat.reduceAdd, Nat.reduceLeDiff, Nat.reduceEqDiff, Int.reduceAdd, Int.reduceBEq, Int.reduceBNe, reduceCtorEq, beq_self_eq_true, Bool.true_beq, Bool.false_beq]; repeat ((with_reducible refine leK_refl ?_); simp only [go_sem, vc_block_seq, vc_block_region, vc_block_cond, vc_block_block, Nat.reduceBEq, Nat.reduceAdd, Nat.reduceLeDiff, Nat.reduceEqDiff, Int.reduceAdd, Int.reduceBEq, Int.reduceBNe, reduceCtorEq, beq_self_eq_true, Bool.true_beq, Bool.false_beq]))
        exact ⟨(), le_chk (by simp only [go_sem, vc_block_seq, vc_block_region, vc_block_cond, vc_block_block, Nat.reduceBEq, Nat.reduceAdd, Nat.reduceLeDiff, Nat.reduceEqDiff, Int.reduceAdd, Int.reduceBEq, Int.reduceBNe, reduceCtorEq, beq_self_eq_true, Bool.true_beq, Bool.false_beq]), hA4, hs4⟩
    · rintro _ u2 ⟨hA2, hs2⟩
      (simp only [go_sem, vc_block_seq, vc_block_region, vc_block_cond, vc_block_block, Nat.reduceBEq, Nat.reduceAdd, Nat.reduceLeDiff, Nat.reduceEqDiff, Int.reduceAdd, Int.reduceBEq, Int.reduceBNe, reduceCtorEq, beq_self_eq_true, Bool.true_beq, Bool.false_beq]; repeat ((with_reducible refine leK_refl ?_); simp only [go_sem, vc_block_seq, vc_block_region, vc_block_cond, vc_block_block, Nat.reduceBEq, Nat.reduceAdd, Nat.reduceLeDiff, Nat.reduceEqDiff, Int.reduceAdd, Int.reduceBEq, Int.reduceBNe, reduceCtorEq, beq_self_eq_true, Bool.true_beq, Bool.false_beq]))
      exact ⟨(), le_chk (by simp only [go_sem, vc_block_seq, vc_block_region, vc_block_cond, vc_block_block, Nat.reduceBEq, Nat.reduceAdd, Nat.reduceLeDiff, Nat.reduceEqDiff, Int.reduceAdd, Int.reduceBEq, Int.reduceBNe, reduceCtorEq, beq_self_eq_true, Bool.true_beq, Bool.false_beq]), hA2, hs2⟩
  · rintro _ u1 ⟨hA1, hs1⟩
    (simp only [go_sem, vc_block_seq, vc_block_region, vc_block_cond, vc_block_block, Nat.reduceBEq, Nat.reduceAdd, Nat.reduceLeDiff, Nat.reduceEqDiff, Int.reduceAdd, Int.reduceBEq, Int.reduceBNe, reduceCtorEq, beq_self_eq_true, Bool.true_beq, Bool.false_beq]; repeat ((with_reducible refine leK_refl ?_); simp only [go_sem, vc_block_seq, vc_block_region, vc_block_cond, vc_block_block, Nat.reduceBEq, Nat.reduceAdd, Nat.reduceLeDiff, Nat.reduceEqDiff, Int.reduceAdd, Int.reduceBEq, Int.reduceBNe, reduceCtorEq, beq_self_eq_true, Bool.true_beq, Bool.false_beq]))
    have eqs : ∀ (L M : List GDesc), L = M → decide (L = M) = true := fun L M h => decide_eq_true h
    have hS : Sub u1 u1 := Sub.refl _
    refine AtCall.of_spec (descs_con lv lk pv pk nv cv nk ck _ (ov9.dl.mono hs1) (Dk.mono hs1) (by omega) (fun x hx => by have := hlv8 x hx; omega)) ?_
    rintro r W11 H11 rfl
    replace hS := hS.trans H11
    (simp only [go_sem, vc_block_seq, vc_block_region, vc_block_cond, vc_block_block, Nat.reduceBEq, Nat.reduceAdd, Nat.reduceLeDiff, Nat.reduceEqDiff, Int.reduceAdd, Int.reduceBEq, Int.reduceBNe, reduceCtorEq, beq_self_eq_true, Bool.true_beq, Bool.false_beq]; repeat ((with_reducible refine leK_refl ?_); simp only [go_sem, vc_block_seq, vc_block_region, vc_block_cond, vc_block_block, Nat.reduceBEq, Nat.reduceAdd, Nat.reduceLeDiff, Nat.reduceEqDiff, Int.reduceAdd, Int.reduceBEq, Int.reduceBNe, reduceCtorEq, beq_self_eq_true, Bool.true_beq, Bool.false_beq]))
    rw [eqs _ _ ek.symm]
    (simp only [go_sem, vc_block_seq, vc_block_region, vc_block_cond, vc_block_block, Nat.reduceBEq, Nat.reduceAdd, Nat.reduceLeDiff, Nat.reduceEqDiff, Int.reduceAdd, Int.reduceBEq, Int.reduceBNe, reduceCtorEq, beq_self_eq_true, Bool.true_beq, Bool.false_beq]; repeat ((with_reducible refine leK_refl ?_); simp only [go_sem, vc_block_seq, vc_block_region, vc_block_cond, vc_block_block, Nat.reduceBEq, Nat.reduceAdd, Nat.reduceLeDiff, Nat.reduceEqDiff, Int.reduceAdd, Int.reduceBEq, Int.reduceBNe, reduceCtorEq, beq_self_eq_true, Bool.true_beq, Bool.false_beq]))
    refine eff_lit (n := 1) (vs := [d1.val]) Ty.el22 rfl rfl (by intro v hv; simp at hv; subst hv; rfl) (by omega) ?_
    intro pz uz oz hsz fz
    replace hS := hS.trans hsz
    have lz : DL uz pz 1 1 [d1] := ⟨oz.sl, fun x hx => by simp at hx; subst hx; exact hfd1.mono (hs1.trans hS)⟩
    (simp only [go_sem, vc_block_seq, vc_block_region, vc_block_cond, vc_block_block, Nat.reduceBEq, Nat.reduceAdd, Nat.reduceLeDiff, Nat.reduceEqDiff, Int.reduceAdd, Int.reduceBEq, Int.reduceBNe, reduceCtorEq, beq_self_eq_true, Bool.true_beq, Bool.false_beq]; repeat ((with_reducible refine leK_refl ?_); simp only [go_sem, vc_block_seq, vc_block_region, vc_block_cond, vc_block_block, Nat.reduceBEq, Nat.reduceAdd, Nat.reduceLeDiff, Nat.reduceEqDiff, Int.reduceAdd, Int.reduceBEq, Int.reduceBNe, reduceCtorEq, beq_self_eq_true, Bool.true_beq, Bool.false_beq]))
    refine AtCall.of_spec (descs_con [d1] lo pz po 1 1 no co _ lz (Do.mono (hs1.trans hS)) (by omega) (fun x hx => by simp at hx; subst hx; omega)) ?_
    rintro r W12 H12 rfl
    replace hS := hS.trans H12
    (simp only [go_sem, vc_block_seq, vc_block_region, vc_block_cond, vc_block_block, Nat.reduceBEq, Nat.reduceAdd, Nat.reduceLeDiff, Nat.reduceEqDiff, Int.reduceAdd, Int.reduceBEq, Int.reduceBNe, reduceCtorEq, beq_self_eq_true, Bool.true_beq, Bool.false_beq]; repeat ((with_reducible refine leK_refl ?_); simp only [go_sem, vc_block_seq, vc_block_region, vc_block_cond, vc_block_block, Nat.reduceBEq, Nat.reduceAdd, Nat.reduceLeDiff, Nat.reduceEqDiff, Int.reduceAdd, Int.reduceBEq, Int.reduceBNe, reduceCtorEq, beq_self_eq_true, Bool.true_beq, Bool.false_beq]))
    rw [eqs _ _ (by simpa using eo.symm)]
    (simp only [go_sem, vc_block_seq, vc_block_region, vc_block_cond, vc_block_block, Nat.reduceBEq, Nat.reduceAdd, Nat.reduceLeDiff, Nat.reduceEqDiff, Int.reduceAdd, Int.reduceBEq, Int.reduceBNe, reduceCtorEq, beq_self_eq_true, Bool.true_beq, Bool.false_beq]; repeat ((with_reducible refine leK_refl ?_); simp only [go_sem, vc_block_seq, vc_block_region, vc_block_cond, vc_block_block, Nat.reduceBEq, Nat.reduceAdd, Nat.reduceLeDiff, Nat.reduceEqDiff, Int.reduceAdd, Int.reduceBEq, Int.reduceBNe, reduceCtorEq, beq_self_eq_true, Bool.true_beq, Bool.false_beq]))
    refine AtCall.of_spec (dsame_con d1 d1 _ (hfd1.mono (hs1.trans hS)) (hfd1.mono (hs1.trans hS)) (by omega)) ?_
    rintro r W13 H13 rfl
    replace hS := hS.trans H13
    (simp only [go_sem, vc_block_seq, vc_block_region, vc_block_cond, vc_block_block, Nat.reduceBEq, Nat.reduceAdd, Nat.reduceLeDiff, Nat.reduceEqDiff, Int.reduceAdd, Int.reduceBEq, Int.reduceBNe, reduceCtorEq, beq_self_eq_true, Bool.true_beq, Bool.false_beq]; repeat ((with_reducible refine leK_refl ?_); simp only [go_sem, vc_block_seq, vc_block_region, vc_block_cond, vc_block_block, Nat.reduceBEq, Nat.reduceAdd, Nat.reduceLeDiff, Nat.reduceEqDiff, Int.reduceAdd, Int.reduceBEq, Int.reduceBNe, reduceCtorEq, beq_self_eq_true, Bool.true_beq, Bool.false_beq]))
    rw [show decide True = true from rfl]
    (simp only [go_sem, vc_block_seq, vc_block_region, vc_block_cond, vc_block_block, Nat.reduceBEq, Nat.reduceAdd, Nat.reduceLeDiff, Nat.reduceEqDiff, Int.reduceAdd, Int.reduceBEq, Int.reduceBNe, reduceCtorEq, beq_self_eq_true, Bool.true_beq, Bool.false_beq]; repeat ((with_reducible refine leK_refl ?_); simp only [go_sem, vc_block_seq, vc_block_region, vc_block_cond, vc_block_block, Nat.reduceBEq, Nat.reduceAdd, Nat.reduceLeDiff, Nat.reduceEqDiff, Int.reduceAdd, Int.reduceBEq, Int.reduceBNe, reduceCtorEq, beq_self_eq_true, Bool.true_beq, Bool.false_beq]))
    refine AtCall.of_spec (awake_con _) ?_
    rintro r W14 H14 rfl
    replace hS := hS.trans H14
    (simp only [go_sem, vc_block_seq, vc_block_region, vc_block_cond, vc_block_block, Nat.reduceBEq, Nat.reduceAdd, Nat.reduceLeDiff, Nat.reduceEqDiff, Int.reduceAdd, Int.reduceBEq, Int.reduceBNe, reduceCtorEq, beq_self_eq_true, Bool.true_beq, Bool.false_beq]; repeat ((with_reducible refine leK_refl ?_); simp only [go_sem, vc_block_seq, vc_block_region, vc_block_cond, vc_block_block, Nat.reduceBEq, Nat.reduceAdd, Nat.reduceLeDiff, Nat.reduceEqDiff, Int.reduceAdd, Int.reduceBEq, Int.reduceBNe, reduceCtorEq, beq_self_eq_true, Bool.true_beq, Bool.false_beq]))
    exact ⟨hS0.trans (hs1.trans hS), rfl⟩
end Go.Proofs.Ytcfkcmalkbdphaa
