/-
  Part 32 of the proof of M7: the engine and the walks, in their order.
-/
import Derived.Test.YtgpmgnbjpfggmaaM727
import Derived.Test.YtgpmgnbjpfggmaaM729
import Derived.Test.YtgpmgnbjpfggmaaM731
set_option linter.unusedSimpArgs false
set_option linter.unusedVariables false
/-
  Net at the engine's level: data and memory; the walk of NetApart.
-/
set_option linter.unusedSimpArgs false
set_option linter.unusedVariables false
namespace Go.Eng
/-- A contract on data, at the engine's level. -/
theorem con_of2n {P : Program} {f : FuncId} {args : List DV} {d : DV} {vs : List Value} {u : World} {v : Value} (h : Con2 P f args (· = plR d)) (ha : HVs u args noB vs) (hv : ∀ us β w, HV us d β w → w = v) : Con P f vs u (fun r _ => r = v) := by
  obtain ⟨h1, h2⟩ := h u vs ha
  refine ⟨h1, fun w hw => (h2 w hw).mono ?_⟩
  rintro e w' ⟨r, u', rfl, h3, h4, x, rfl, β, us, s, hr, hs⟩
  refine ⟨r, u', rfl, h3, h4, ?_⟩
  obtain ⟨w, e, hw⟩ := hr.slot 0
  rw [hs] at e
  cases e
  exact hv _ _ _ hw
theorem hvss_by {us : World} : ∀ (l : List UInt8) (V : List (List Value)), HVss us (l.map encBD) V ↔ V = l.map encB
  | [], V => Iff.rfl
  | x :: l, V => by
    constructor
    · rintro ⟨v, V', rfl, ⟨a, _, rfl, ⟨rfl, _⟩, rfl⟩, h⟩
      rw [(hvss_by l V').1 h]; rfl
    · rintro rfl
      exact ⟨_, _, rfl, ⟨_, _, rfl, ⟨rfl, rfl⟩, rfl⟩, (hvss_by l _).2 rfl⟩
theorem hv_bytes {us : World} {l : List UInt8} {β : Nat → PB} {w : Value} (h : HV us (bytesD l) β w) : ∃ p n c, w = .slice p n c ∧ Sl us 1 p n c (l.map encB) := by
  obtain ⟨p, n, c, V, rfl, h1, _, h2⟩ := h
  obtain rfl := (hvss_by l V).1 h2
  exact ⟨p, n, c, rfl, h1⟩
theorem bytes_hv {us : World} {l : List UInt8} {β : Nat → PB} {p : Option Addr} {n c : Nat} (h : Sl us 1 p n c (l.map encB)) : HV us (bytesD l) β (.slice p n c) := ⟨p, n, c, _, rfl, h, ones8 l, (hvss_by l _).2 rfl⟩
theorem hv_par {us : World} {g : GPar} {cs : List Value} (TB : TypeId) (h : HVs us g.enc noB cs) : ∃ x : PP, cs = x.enc ∧ x.g = g ∧ There us (parP TB x) := by
  obtain ⟨a, _, rfl, ⟨rfl, _⟩, b, _, rfl, ⟨rfl, _⟩, c, _, rfl, hc, rfl⟩ := h
  obtain ⟨p, n, d, rfl, h1⟩ := hv_bytes hc
  exact ⟨⟨g, p, n, d⟩, rfl, rfl, par_there h1⟩
theorem par_hv {us : World} {TB : TypeId} {x : PP} (h : There us (parP TB x)) : HVs us x.g.enc noB x.enc := ⟨_, _, rfl, ⟨rfl, rfl⟩, _, _, rfl, ⟨rfl, rfl⟩, _, _, rfl, bytes_hv (par_sl h), rfl⟩
theorem hvss_par {us : World} (TB : TypeId) : ∀ (l : List GPar) (V : List (List Value)), HVss us (l.map GPar.enc) V → ∃ xs : List PP, V = xs.map PP.enc ∧ pps xs = l ∧ ∀ x ∈ xs, There us (parP TB x)
  | [], V, h => ⟨[], h, rfl, by simp⟩
  | g :: l, V, ⟨cs, V', e, h1, h2⟩ => by
    subst e
    obtain ⟨x, rfl, rfl, h3⟩ := hv_par TB h1
    obtain ⟨xs, rfl, rfl, h4⟩ := hvss_par TB l V' h2
    refine ⟨x :: xs, rfl, rfl, fun y hy => ?_⟩
    rcases List.mem_cons.1 hy with rfl | hy
    · exact h3
    · exact h4 y hy
theorem par_hvss {us : World} {TB : TypeId} : ∀ (xs : List PP), (∀ x ∈ xs, There us (parP TB x)) → HVss us ((pps xs).map GPar.enc) (xs.map PP.enc)
  | [], h => rfl
  | x :: xs, h => ⟨_, _, rfl, par_hv (h x List.mem_cons_self), par_hvss xs (fun y hy => h y (List.mem_cons_of_mem _ hy))⟩
def PN.net (b : PN) : GNet := ⟨b.room, pps b.l, b.lost⟩
theorem hv_net {us : World} {n : GNet} {v : Value} (TE TB : TypeId) (h : HV us n.dv noB v) : ∃ b : PN, v = b.val ∧ b.net = n ∧ EL (parK TE TB) us b.p b.n b.c b.l := by
  obtain ⟨V, rfl, a, _, rfl, ⟨rfl, _⟩, w, _, rfl, ⟨p, m, c, V2, rfl, h1, _, h2⟩, d, _, rfl, ⟨rfl, _⟩, rfl⟩ := h
  obtain ⟨xs, rfl, e, h4⟩ := hvss_par TB _ _ h2
  exact ⟨⟨n.room, p, m, c, xs, n.lost⟩, rfl, by simp [PN.net, e], ⟨h1, h4⟩⟩
theorem net_hv {us : World} {b : PN} {TE TB : TypeId} (h : EL (parK TE TB) us b.p b.n b.c b.l) : HV us b.net.dv noB b.val :=
  ⟨_, rfl, _, _, rfl, ⟨rfl, rfl⟩, _, _, rfl, ⟨_, _, _, _, rfl, h.sl, PP.ones _, par_hvss _ h.fl⟩, _, _, rfl, ⟨rfl, rfl⟩, rfl⟩
end Go.Eng
namespace Go.Proofs.Ytgpmgnbjpfggmaa
open Go.Eng
theorem arith_any {k : IntKind} {n : Int} {K : Value → Prop} : AtArith k n K = K (.int k (k.wrap n)) := rfl
attribute [local go_sem] PP.val PP.enc PN.val PN.enc encB

theorem few1_con (b : PN) (most : Int) (u : World) (hb : EL ParK u b.p b.n b.c b.l) (hn : b.n ≤ 9223372036854775807) : Con Try.prog 11 [b.val, .int .i64 most] u (fun r _ => r = .bool (fewB b.net most)) :=
  con_of2n (few_con b.net most (by have := hb.len; simp [PN.net]; omega)) ⟨_, _, rfl, net_hv hb, _, _, rfl, ⟨rfl, rfl⟩, rfl⟩ (fun _ _ _ h => h.1)
theorem nsame1_con (a b : PN) (u : World) (ha : EL ParK u a.p a.n a.c a.l) (hb : EL ParK u b.p b.n b.c b.l) (hok : a.net.ok) : Con Try.prog 21 [a.val, b.val] u (fun r _ => r = .bool (decide (a.net = b.net))) :=
  con_of2n (Same_con a.net b.net hok) ⟨_, _, rfl, net_hv ha, _, _, rfl, net_hv hb, rfl⟩ (fun _ _ _ h => h.1)
theorem awake1_con (u : World) : Con Try.prog 7 [] u (fun r _ => r = .bool true) := con_of2n nawake_con rfl (fun _ _ _ h => h.1)

def kBy (T : TypeId) : WK := ⟨T, 1, fun cs => ∃ a : Int, cs = [.int .u8 a]⟩
def RWy (T : TypeId) (L : List PP) (r : WR) : Prop := r.k = kBy T ∧ ∃ z ∈ L, r.p = z.p ∧ r.n = z.n ∧ r.c = z.c
theorem RWy.coh {T : TypeId} {L : List PP} : Coh (RWy T L) := fun r r' h1 h2 _ => h1.1.trans h2.1.symm
theorem RWy.all {L : List PP} {U w : World} (h : ∀ z ∈ L, Owned U w (ParK.parts z)) : AllW U w (RWy 5 L) := by
  rintro ⟨k, p, n, c⟩ ⟨h1, z, hz, h2, h3, h4⟩
  simp only at h1 h2 h3 h4
  subst h1 h2 h3 h4
  refine ⟨_, par_own (h z hz), fun x hx => ?_⟩
  obtain ⟨a, _, rfl⟩ := List.mem_map.1 hx
  exact ⟨_, rfl⟩
theorem wrap_back {x : Nat} (h : x < 256) : IntKind.u8.wrap (IntKind.u8.wrap ((x : Int) + 1) - 1) = (x : Int) := by
  simp only [IntKind.wrap, IntKind.bits, IntKind.signed]
  simp
  omega
theorem splice_1y {v w : Value} : splice [v] 0 [w] = [w] := rfl

set_option maxRecDepth 4000 in
set_option maxHeartbeats 4000000 in
theorem napart_con (b : PN) (k : UInt8) (f : List UInt8) (p : Option Addr) (m c : Nat) (u : World) (hb : EL ParK u b.p b.n b.c b.l) (hbn : b.n ≤ 9223372036854775807) (hf : Sl u 1 p m c (f.map encB))
    (hz : ∀ a, p = some a → 0 < m → u.frozen? a = false) : Con Try.prog 6 [b.val, .int .u8 k.toNat, .slice p m c] u (fun r _ => r = .bool true) := by
  have hfl : f.length = m := by simpa using hf.len
  refine spec_of_back Ty.mixed Try.func6 rfl (by kernel_rfl) (by kernel_rfl) rfl [.tmp 6] rfl (forget_sub u p) ?_
  (simp only [go_sem, vc_block_seq, vc_block_region, vc_block_cond, vc_block_block, Nat.reduceBEq, Nat.reduceAdd, Nat.reduceLeDiff, Nat.reduceEqDiff, Int.reduceAdd, Int.reduceBEq, Int.reduceBNe, reduceCtorEq, beq_self_eq_true, Bool.true_beq, Bool.false_beq]; repeat ((with_reducible refine leK_refl ?_); simp only [go_sem, vc_block_seq, vc_block_region, vc_block_cond, vc_block_block, Nat.reduceBEq, Nat.reduceAdd, Nat.reduceLeDiff, Nat.reduceEqDiff, Int.reduceAdd, Int.reduceBEq, Int.reduceBNe, reduceCtorEq, beq_self_eq_true, Bool.true_beq, Bool.false_beq]))
  intro b3
  refine AtCall.of_spec (few1_con b 30 u hb hbn) ?_
  rintro r u1 hs1 rfl
  cases hF : fewB b.net 30 with
  | false =>
    (simp only [go_sem, vc_block_seq, vc_block_region, vc_block_cond, vc_block_block, Nat.reduceBEq, Nat.reduceAdd, Nat.reduceLeDiff, Nat.reduceEqDiff, Int.reduceAdd, Int.reduceBEq, Int.reduceBNe, reduceCtorEq, beq_self_eq_true, Bool.true_beq, Bool.false_beq]; repeat ((with_reducible refine leK_refl ?_); simp only [go_sem, vc_block_seq, vc_block_region, vc_block_cond, vc_block_block, Nat.reduceBEq, Nat.reduceAdd, Nat.reduceLeDiff, Nat.reduceEqDiff, Int.reduceAdd, Int.reduceBEq, Int.reduceBNe, reduceCtorEq, beq_self_eq_true, Bool.true_beq, Bool.false_beq]))
    refine AtCall.of_spec (awake1_con u1) ?_
    rintro r u2 hs2 rfl
    (simp only [go_sem, vc_block_seq, vc_block_region, vc_block_cond, vc_block_block, Nat.reduceBEq, Nat.reduceAdd, Nat.reduceLeDiff, Nat.reduceEqDiff, Int.reduceAdd, Int.reduceBEq, Int.reduceBNe, reduceCtorEq, beq_self_eq_true, Bool.true_beq, Bool.false_beq]; repeat ((with_reducible refine leK_refl ?_); simp only [go_sem, vc_block_seq, vc_block_region, vc_block_cond, vc_block_block, Nat.reduceBEq, Nat.reduceAdd, Nat.reduceLeDiff, Nat.reduceEqDiff, Int.reduceAdd, Int.reduceBEq, Int.reduceBNe, reduceCtorEq, beq_self_eq_true, Bool.true_beq, Bool.false_beq]))
    exact ⟨hs1.trans hs2, rfl⟩
  | true =>
  (simp only [go_sem, vc_block_seq, vc_block_region, vc_block_cond, vc_block_block, Nat.reduceBEq, Nat.reduceAdd, Nat.reduceLeDiff, Nat.reduceEqDiff, Int.reduceAdd, Int.reduceBEq, Int.reduceBNe, reduceCtorEq, beq_self_eq_true, Bool.true_beq, Bool.false_beq]; repeat ((with_reducible refine leK_refl ?_); simp only [go_sem, vc_block_seq, vc_block_region, vc_block_cond, vc_block_block, Nat.reduceBEq, Nat.reduceAdd, Nat.reduceLeDiff, Nat.reduceEqDiff, Int.reduceAdd, Int.reduceBEq, Int.reduceBNe, reduceCtorEq, beq_self_eq_true, Bool.true_beq, Bool.false_beq]))
  by_cases h0 : m = 0
  · rw [show ((m : Int) == 0) = true by simp [h0]]
    (simp only [go_sem, vc_block_seq, vc_block_region, vc_block_cond, vc_block_block, Nat.reduceBEq, Nat.reduceAdd, Nat.reduceLeDiff, Nat.reduceEqDiff, Int.reduceAdd, Int.reduceBEq, Int.reduceBNe, reduceCtorEq, beq_self_eq_true, Bool.true_beq, Bool.false_beq]; repeat ((with_reducible refine leK_refl ?_); simp only [go_sem, vc_block_seq, vc_block_region, vc_block_cond, vc_block_block, Nat.reduceBEq, Nat.reduceAdd, Nat.reduceLeDiff, Nat.reduceEqDiff, Int.reduceAdd, Int.reduceBEq, Int.reduceBNe, reduceCtorEq, beq_self_eq_true, Bool.true_beq, Bool.false_beq]))
    refine AtCall.of_spec (awake1_con u1) ?_
    rintro r u2 hs2 rfl
    (simp only [go_sem, vc_block_seq, vc_block_region, vc_block_cond, vc_block_block, Nat.reduceBEq, Nat.reduceAdd, Nat.reduceLeDiff, Nat.reduceEqDiff, Int.reduceAdd, Int.reduceBEq, Int.reduceBNe, reduceCtorEq, beq_self_eq_true, Bool.true_beq, Bool.false_beq]; repeat ((with_reducible refine leK_refl ?_); simp only [go_sem, vc_block_seq, vc_block_region, vc_block_cond, vc_block_block, Nat.reduceBEq, Nat.reduceAdd, Nat.reduceLeDiff, Nat.reduceEqDiff, Int.reduceAdd, Int.reduceBEq, Int.reduceBNe, reduceCtorEq, beq_self_eq_true, Bool.true_beq, Bool.false_beq]))
    exact ⟨hs1.trans hs2, rfl⟩
  rw [show ((m : Int) == 0) = false by simp [h0]]
  (simp only [go_sem, vc_block_seq, vc_block_region, vc_block_cond, vc_block_block, Nat.reduceBEq, Nat.reduceAdd, Nat.reduceLeDiff, Nat.reduceEqDiff, Int.reduceAdd, Int.reduceBEq, Int.reduceBNe, reduceCtorEq, beq_self_eq_true, Bool.true_beq, Bool.false_beq]; repeat ((with_reducible refine leK_refl ?_); simp only [go_sem, vc_block_seq, vc_block_region, vc_block_cond, vc_block_block, Nat.reduceBEq, Nat.reduceAdd, Nat.reduceLeDiff, Nat.reduceEqDiff, Int.reduceAdd, Int.reduceBEq, Int.reduceBNe, reduceCtorEq, beq_self_eq_true, Bool.true_beq, Bool.false_beq]))
  by_cases h6 : 60 < (m : Int)
  · rw [decide_eq_true h6]
    (simp only [go_sem, vc_block_seq, vc_block_region, vc_block_cond, vc_block_block, Nat.reduceBEq, Nat.reduceAdd, Nat.reduceLeDiff, Nat.reduceEqDiff, Int.reduceAdd, Int.reduceBEq, Int.reduceBNe, reduceCtorEq, beq_self_eq_true, Bool.true_beq, Bool.false_beq]; repeat ((with_reducible refine leK_refl ?_); simp only [go_sem, vc_block_seq, vc_block_region, vc_block_cond, vc_block_block, Nat.reduceBEq, Nat.reduceAdd, Nat.reduceLeDiff, Nat.reduceEqDiff, Int.reduceAdd, Int.reduceBEq, Int.reduceBNe, reduceCtorEq, beq_self_eq_true, Bool.true_beq, Bool.false_beq]))
    refine AtCall.of_spec (awake1_con u1) ?_
    rintro r u2 hs2 rfl
    (simp only [go_sem, vc_block_seq, vc_block_region, vc_block_cond, vc_block_block, Nat.reduceBEq, Nat.reduceAdd, Nat.reduceLeDiff, Nat.reduceEqDiff, Int.reduceAdd, Int.reduceBEq, Int.reduceBNe, reduceCtorEq, beq_self_eq_true, Bool.true_beq, Bool.false_beq]; repeat ((with_reducible refine leK_refl ?_); simp only [go_sem, vc_block_seq, vc_block_region, vc_block_cond, vc_block_block, Nat.reduceBEq, Nat.reduceAdd, Nat.reduceLeDiff, Nat.reduceEqDiff, Int.reduceAdd, Int.reduceBEq, Int.reduceBNe, reduceCtorEq, beq_self_eq_true, Bool.true_beq, Bool.false_beq]))
    exact ⟨hs1.trans hs2, rfl⟩
  rw [decide_eq_false h6]
  have hm0 : 0 < m := by omega
  have hok := fewB_ok hF (by decide)
  have hll := hb.len
  have hb30 : b.n ≤ 30 := by
    simp only [fewB, Bool.and_eq_true, decide_eq_true_eq, PN.net, pps, List.length_map] at hF
    omega
  have hb8 : ∀ x ∈ b.l, x.n ≤ 1000 := fun x hx => by
    have h1 := hok.2 x.g (List.mem_map_of_mem hx)
    have h2 := par_len (hb.fl x hx)
    omega
  obtain ⟨a, rfl⟩ : ∃ a, p = some a := by
    cases p with
    | none => have := (hf.nil rfl).1; omega
    | some a => exact ⟨a, rfl⟩
  have hsp := (hf.at_ a rfl).1 hm0
  obtain ⟨blk, off, sp⟩ := a
  cases hsp
  obtain ⟨f0, hf0⟩ : ∃ x, f[0]? = some x := exAt hm0 hfl
  have hcell := (hf.at_ _ rfl).2 0 (encB f0) (by rw [List.getElem?_map, hf0]; rfl) 0 _ rfl
  simp only [Nat.zero_mul, Nat.add_zero] at hcell
  obtain ⟨cur, TF, fz, hblk, hcur⟩ := cell_block hcell
  have hzz := hz _ rfl hm0
  have hkn : ¬ Fresh u blk := fun h => cells_ne_junk (h _ hblk)
  (simp only [go_sem, vc_block_seq, vc_block_region, vc_block_cond, vc_block_block, Nat.reduceBEq, Nat.reduceAdd, Nat.reduceLeDiff, Nat.reduceEqDiff, Int.reduceAdd, Int.reduceBEq, Int.reduceBNe, reduceCtorEq, beq_self_eq_true, Bool.true_beq, Bool.false_beq]; repeat ((with_reducible refine leK_refl ?_); simp only [go_sem, vc_block_seq, vc_block_region, vc_block_cond, vc_block_block, Nat.reduceBEq, Nat.reduceAdd, Nat.reduceLeDiff, Nat.reduceEqDiff, Int.reduceAdd, Int.reduceBEq, Int.reduceBNe, reduceCtorEq, beq_self_eq_true, Bool.true_beq, Bool.false_beq]))
  rw [arith_i64 (by omega)]
  (simp only [go_sem, vc_block_seq, vc_block_region, vc_block_cond, vc_block_block, Nat.reduceBEq, Nat.reduceAdd, Nat.reduceLeDiff, Nat.reduceEqDiff, Int.reduceAdd, Int.reduceBEq, Int.reduceBNe, reduceCtorEq, beq_self_eq_true, Bool.true_beq, Bool.false_beq]; repeat ((with_reducible refine leK_refl ?_); simp only [go_sem, vc_block_seq, vc_block_region, vc_block_cond, vc_block_block, Nat.reduceBEq, Nat.reduceAdd, Nat.reduceLeDiff, Nat.reduceEqDiff, Int.reduceAdd, Int.reduceBEq, Int.reduceBNe, reduceCtorEq, beq_self_eq_true, Bool.true_beq, Bool.false_beq]))
  refine AtCall.of_spec (send1_con ⟨(b.n : Int) + 1, b.p, b.n, b.c, b.l, b.lost⟩ 3 f _ m c u1 ⟨hb.mono hs1, by simp only []; omega, hb8⟩ (by simp only []; omega) (hf.mono hs1) (by omega)) ?_
  rintro r u2 hs2 ⟨p2, c2, l2, rfl, o2, e2, h28⟩
  simp only at o2 e2
  (simp only [go_sem, vc_block_seq, vc_block_region, vc_block_cond, vc_block_block, Nat.reduceBEq, Nat.reduceAdd, Nat.reduceLeDiff, Nat.reduceEqDiff, Int.reduceAdd, Int.reduceBEq, Int.reduceBNe, reduceCtorEq, beq_self_eq_true, Bool.true_beq, Bool.false_beq]; repeat ((with_reducible refine leK_refl ?_); simp only [go_sem, vc_block_seq, vc_block_region, vc_block_cond, vc_block_block, Nat.reduceBEq, Nat.reduceAdd, Nat.reduceLeDiff, Nat.reduceEqDiff, Int.reduceAdd, Int.reduceBEq, Int.reduceBNe, reduceCtorEq, beq_self_eq_true, Bool.true_beq, Bool.false_beq]))
  intro b7
  rw [arith_i64 (by omega)]
  (simp only [go_sem, vc_block_seq, vc_block_region, vc_block_cond, vc_block_block, Nat.reduceBEq, Nat.reduceAdd, Nat.reduceLeDiff, Nat.reduceEqDiff, Int.reduceAdd, Int.reduceBEq, Int.reduceBNe, reduceCtorEq, beq_self_eq_true, Bool.true_beq, Bool.false_beq]; repeat ((with_reducible refine leK_refl ?_); simp only [go_sem, vc_block_seq, vc_block_region, vc_block_cond, vc_block_block, Nat.reduceBEq, Nat.reduceAdd, Nat.reduceLeDiff, Nat.reduceEqDiff, Int.reduceAdd, Int.reduceBEq, Int.reduceBNe, reduceCtorEq, beq_self_eq_true, Bool.true_beq, Bool.false_beq]))
  rw [show ((((b.n + 1 : Nat) : Int)) != (b.n : Int) + 1) = false by simp]
  (simp only [go_sem, vc_block_seq, vc_block_region, vc_block_cond, vc_block_block, Nat.reduceBEq, Nat.reduceAdd, Nat.reduceLeDiff, Nat.reduceEqDiff, Int.reduceAdd, Int.reduceBEq, Int.reduceBNe, reduceCtorEq, beq_self_eq_true, Bool.true_beq, Bool.false_beq]; repeat ((with_reducible refine leK_refl ?_); simp only [go_sem, vc_block_seq, vc_block_region, vc_block_cond, vc_block_block, Nat.reduceBEq, Nat.reduceAdd, Nat.reduceLeDiff, Nat.reduceEqDiff, Int.reduceAdd, Int.reduceBEq, Int.reduceBNe, reduceCtorEq, beq_self_eq_true, Bool.true_beq, Bool.false_beq]))
  have s2 := hs1.trans hs2
  refine conv_str Try.underlying26 Try.underlying5 Try.underlying9 (hf.mono s2) ?_
  (simp only [go_sem, vc_block_seq, vc_block_region, vc_block_cond, vc_block_block, Nat.reduceBEq, Nat.reduceAdd, Nat.reduceLeDiff, Nat.reduceEqDiff, Int.reduceAdd, Int.reduceBEq, Int.reduceBNe, reduceCtorEq, beq_self_eq_true, Bool.true_beq, Bool.false_beq]; repeat ((with_reducible refine leK_refl ?_); simp only [go_sem, vc_block_seq, vc_block_region, vc_block_cond, vc_block_block, Nat.reduceBEq, Nat.reduceAdd, Nat.reduceLeDiff, Nat.reduceEqDiff, Int.reduceAdd, Int.reduceBEq, Int.reduceBNe, reduceCtorEq, beq_self_eq_true, Bool.true_beq, Bool.false_beq]))
  have hgF : (f.map encB)[0]? = some [.int .u8 f0.toNat] := by rw [List.getElem?_map, hf0]; rfl
  refine ⟨⟨hf.some_ hm0, by omega, by omega⟩, ?_⟩
  refine (hf.mono s2).load hgF (.inl rfl) (Nat.le_of_ble_eq_true rfl) ?_
  (simp only [go_sem, vc_block_seq, vc_block_region, vc_block_cond, vc_block_block, Nat.reduceBEq, Nat.reduceAdd, Nat.reduceLeDiff, Nat.reduceEqDiff, Int.reduceAdd, Int.reduceBEq, Int.reduceBNe, reduceCtorEq, beq_self_eq_true, Bool.true_beq, Bool.false_beq]; repeat ((with_reducible refine leK_refl ?_); simp only [go_sem, vc_block_seq, vc_block_region, vc_block_cond, vc_block_block, Nat.reduceBEq, Nat.reduceAdd, Nat.reduceLeDiff, Nat.reduceEqDiff, Int.reduceAdd, Int.reduceBEq, Int.reduceBNe, reduceCtorEq, beq_self_eq_true, Bool.true_beq, Bool.false_beq]))
  rw [arith_any]
  (simp only [go_sem, vc_block_seq, vc_block_region, vc_block_cond, vc_block_block, Nat.reduceBEq, Nat.reduceAdd, Nat.reduceLeDiff, Nat.reduceEqDiff, Int.reduceAdd, Int.reduceBEq, Int.reduceBNe, reduceCtorEq, beq_self_eq_true, Bool.true_beq, Bool.false_beq]; repeat ((with_reducible refine leK_refl ?_); simp only [go_sem, vc_block_seq, vc_block_region, vc_block_cond, vc_block_block, Nat.reduceBEq, Nat.reduceAdd, Nat.reduceLeDiff, Nat.reduceEqDiff, Int.reduceAdd, Int.reduceBEq, Int.reduceBNe, reduceCtorEq, beq_self_eq_true, Bool.true_beq, Bool.false_beq]))
  refine ⟨⟨hf.some_ hm0, by omega, by omega⟩, ?_⟩
  have hb2 : u2.heap[blk]? = some (.cells cur TF fz) := s2 _ _ hblk cells_ne_junk
  have hof : off < cur.size := (Array.getElem?_eq_some_iff.1 hcur).1
  have hfz2 : u2.frozen? ⟨blk, off, none⟩ = false := by
    rw [← hzz]; simp [World.frozen?, hb2, hblk]
  refine sto_back Ty.lay5 hb2 (forget_fresh u (some ⟨blk, off, none⟩) _ rfl) hof hfz2 rfl rfl ?_
  intro u3 hb3 hx3
  have o3 : EO ParK u1 u3 p2 (b.n + 1) c2 l2 := o2.subX hx3 (nep_known o2.own (fun h => hkn (h.anti hs1))) (fun y hy => away_known (o2.fl y hy) (fun h => hkn (h.anti hs1)))
  (simp only [go_sem, vc_block_seq, vc_block_region, vc_block_cond, vc_block_block, Nat.reduceBEq, Nat.reduceAdd, Nat.reduceLeDiff, Nat.reduceEqDiff, Int.reduceAdd, Int.reduceBEq, Int.reduceBNe, reduceCtorEq, beq_self_eq_true, Bool.true_beq, Bool.false_beq]; repeat ((with_reducible refine leK_refl ?_); simp only [go_sem, vc_block_seq, vc_block_region, vc_block_cond, vc_block_block, Nat.reduceBEq, Nat.reduceAdd, Nat.reduceLeDiff, Nat.reduceEqDiff, Int.reduceAdd, Int.reduceBEq, Int.reduceBNe, reduceCtorEq, beq_self_eq_true, Bool.true_beq, Bool.false_beq]))
  rw [arith_i64 (by have := k.toNat_lt; omega)]
  (simp only [go_sem, vc_block_seq, vc_block_region, vc_block_cond, vc_block_block, Nat.reduceBEq, Nat.reduceAdd, Nat.reduceLeDiff, Nat.reduceEqDiff, Int.reduceAdd, Int.reduceBEq, Int.reduceBNe, reduceCtorEq, beq_self_eq_true, Bool.true_beq, Bool.false_beq]; repeat ((with_reducible refine leK_refl ?_); simp only [go_sem, vc_block_seq, vc_block_region, vc_block_cond, vc_block_block, Nat.reduceBEq, Nat.reduceAdd, Nat.reduceLeDiff, Nat.reduceEqDiff, Int.reduceAdd, Int.reduceBEq, Int.reduceBNe, reduceCtorEq, beq_self_eq_true, Bool.true_beq, Bool.false_beq]))
  refine Eq.mpr (rem_nn (by omega) (by omega)) ?_
  rw [show (k.toNat : Int) % ((b.n + 1 : Nat) : Int) = ((k.toNat % (b.n + 1) : Nat) : Int) by simp]
  have hkk : k.toNat % (b.n + 1) < b.n + 1 := Nat.mod_lt _ (by omega)
  generalize k.toNat % (b.n + 1) = kk at hkk
  (simp only [go_sem, vc_block_seq, vc_block_region, vc_block_cond, vc_block_block, Nat.reduceBEq, Nat.reduceAdd, Nat.reduceLeDiff, Nat.reduceEqDiff, Int.reduceAdd, Int.reduceBEq, Int.reduceBNe, reduceCtorEq, beq_self_eq_true, Bool.true_beq, Bool.false_beq]; repeat ((with_reducible refine leK_refl ?_); simp only [go_sem, vc_block_seq, vc_block_region, vc_block_cond, vc_block_block, Nat.reduceBEq, Nat.reduceAdd, Nat.reduceLeDiff, Nat.reduceEqDiff, Int.reduceAdd, Int.reduceBEq, Int.reduceBNe, reduceCtorEq, beq_self_eq_true, Bool.true_beq, Bool.false_beq]))
  have hm3 : NL u3 ⟨(b.n : Int) + 1, p2, b.n + 1, c2, l2, b.lost⟩ := ⟨o3.el, by simp only []; omega, h28⟩
  refine AtCall.of_spec (take1_con ⟨(b.n : Int) + 1, p2, b.n + 1, c2, l2, b.lost⟩ kk u3 hm3 hkk) ?_
  rintro r u4 hs4 ⟨x, px, cx, lx, rfl, ox, oxx, ex, xn, ex2, hx8⟩
  simp only [Nat.add_sub_cancel] at ox ex ex2
  (simp only [go_sem, vc_block_seq, vc_block_region, vc_block_cond, vc_block_block, Nat.reduceBEq, Nat.reduceAdd, Nat.reduceLeDiff, Nat.reduceEqDiff, Int.reduceAdd, Int.reduceBEq, Int.reduceBNe, reduceCtorEq, beq_self_eq_true, Bool.true_beq, Bool.false_beq]; repeat ((with_reducible refine leK_refl ?_); simp only [go_sem, vc_block_seq, vc_block_region, vc_block_cond, vc_block_block, Nat.reduceBEq, Nat.reduceAdd, Nat.reduceLeDiff, Nat.reduceEqDiff, Int.reduceAdd, Int.reduceBEq, Int.reduceBNe, reduceCtorEq, beq_self_eq_true, Bool.true_beq, Bool.false_beq]))
  intro b10 b11
  rw [arith_i64 (by omega)]
  rw [show ((b.n + 1 : Nat) : Int) - 1 = (b.n : Int) by omega]
  (simp only [go_sem, vc_block_seq, vc_block_region, vc_block_cond, vc_block_block, Nat.reduceBEq, Nat.reduceAdd, Nat.reduceLeDiff, Nat.reduceEqDiff, Int.reduceAdd, Int.reduceBEq, Int.reduceBNe, reduceCtorEq, beq_self_eq_true, Bool.true_beq, Bool.false_beq]; repeat ((with_reducible refine leK_refl ?_); simp only [go_sem, vc_block_seq, vc_block_region, vc_block_cond, vc_block_block, Nat.reduceBEq, Nat.reduceAdd, Nat.reduceLeDiff, Nat.reduceEqDiff, Int.reduceAdd, Int.reduceBEq, Int.reduceBNe, reduceCtorEq, beq_self_eq_true, Bool.true_beq, Bool.false_beq]))
  refine AtCall.of_spec (take1_con ⟨(b.n : Int) + 1, p2, b.n + 1, c2, l2, b.lost⟩ b.n u4 (hm3.mono hs4) (by simp only []; omega)) ?_
  rintro r u5 hs5 ⟨y, py, cy, ly, rfl, oy, oyy, ey, yn, ey2, hy8⟩
  simp only [Nat.add_sub_cancel] at oy ey ey2
  (simp only [go_sem, vc_block_seq, vc_block_region, vc_block_cond, vc_block_block, Nat.reduceBEq, Nat.reduceAdd, Nat.reduceLeDiff, Nat.reduceEqDiff, Int.reduceAdd, Int.reduceBEq, Int.reduceBNe, reduceCtorEq, beq_self_eq_true, Bool.true_beq, Bool.false_beq]; repeat ((with_reducible refine leK_refl ?_); simp only [go_sem, vc_block_seq, vc_block_region, vc_block_cond, vc_block_block, Nat.reduceBEq, Nat.reduceAdd, Nat.reduceLeDiff, Nat.reduceEqDiff, Int.reduceAdd, Int.reduceBEq, Int.reduceBNe, reduceCtorEq, beq_self_eq_true, Bool.true_beq, Bool.false_beq]))
  intro b13 b14
  have hyg : y.g = ⟨3, false, f⟩ := by
    have h1 : (pps l2)[b.n]? = some ⟨3, false, f⟩ := by
      rw [e2, List.getElem?_append_right (by simp; omega)]
      simp [hll]
    rw [h1] at ey
    exact (Option.some.inj ey).symm
  have hys := par_sl oyy.there
  rw [hyg] at hys
  refine conv_str Try.underlying26 Try.underlying5 Try.underlying9 hys ?_
  (simp only [go_sem, vc_block_seq, vc_block_region, vc_block_cond, vc_block_block, Nat.reduceBEq, Nat.reduceAdd, Nat.reduceLeDiff, Nat.reduceEqDiff, Int.reduceAdd, Int.reduceBEq, Int.reduceBNe, reduceCtorEq, beq_self_eq_true, Bool.true_beq, Bool.false_beq]; repeat ((with_reducible refine leK_refl ?_); simp only [go_sem, vc_block_seq, vc_block_region, vc_block_cond, vc_block_block, Nat.reduceBEq, Nat.reduceAdd, Nat.reduceLeDiff, Nat.reduceEqDiff, Int.reduceAdd, Int.reduceBEq, Int.reduceBNe, reduceCtorEq, beq_self_eq_true, Bool.true_beq, Bool.false_beq]))
  simp only [Nat.add_sub_cancel]
  have hxv : Eng.Own u3 u5 33 3 px b.n cx (lx.map PP.enc) := ox.own.mono hs5
  have hlx := ox.len
  clear hb2 hfz2 hgF
  refine draw_treeL (.fl 1 (.fl 4 (.fl 5 (.fl 9 (.fl 2 (.eff 0 true (.eff 3 true (.eff 6 true (.eff 7 false (.fl 8 .done) .no) .no) (.eff 6 true (.eff 3 true (.eff 7 false (.fl 8 .done) .no) .no) .no)) (.eff 6 true (.eff 0 true (.eff 3 true (.eff 7 false (.fl 8 .done) .no) .no) .no) .no))))))) (by kernel_rfl) (fun (g : Option Addr × Nat) => [(109, .v (.int .i64 0)), (108, .v (.int .i64 ((b.n + 2 : Nat) : Int))), (107, .v (.slice g.1 (b.n + 2) g.2))]) (fun _ => []) (fun g u' => Sub u5 u' ∧ Eng.Own u5 u' 33 3 g.1 (b.n + 2) g.2 ((lx ++ [x, y]).map PP.enc)) ?_ ?_
  · have hT := Sub.refl u5
    have z0 : True := trivial
    have z3 : True := trivial
    have z6 : True := trivial
    (simp only [go_sem, vc_block_seq, vc_block_region, vc_block_cond, vc_block_block, Nat.reduceBEq, Nat.reduceAdd, Nat.reduceLeDiff, Nat.reduceEqDiff, Int.reduceAdd, Int.reduceBEq, Int.reduceBNe, reduceCtorEq, beq_self_eq_true, Bool.true_beq, Bool.false_beq]; repeat ((with_reducible refine leK_refl ?_); simp only [go_sem, vc_block_seq, vc_block_region, vc_block_cond, vc_block_block, Nat.reduceBEq, Nat.reduceAdd, Nat.reduceLeDiff, Nat.reduceEqDiff, Int.reduceAdd, Int.reduceBEq, Int.reduceBNe, reduceCtorEq, beq_self_eq_true, Bool.true_beq, Bool.false_beq]))
    refine ⟨?_, ?_⟩
    · refine eff_lit (n := 0) (vs := []) Ty.el23 rfl rfl (by simp) (by omega) ?_
      intro q0 w0 z0 t0 y0
      have g0 := y0.anti hT
      replace hT := hT.trans t0
      try replace z6 := z6.mono t0
      (simp only [go_sem, vc_block_seq, vc_block_region, vc_block_cond, vc_block_block, Nat.reduceBEq, Nat.reduceAdd, Nat.reduceLeDiff, Nat.reduceEqDiff, Int.reduceAdd, Int.reduceBEq, Int.reduceBNe, reduceCtorEq, beq_self_eq_true, Bool.true_beq, Bool.false_beq]; repeat ((with_reducible refine leK_refl ?_); simp only [go_sem, vc_block_seq, vc_block_region, vc_block_cond, vc_block_block, Nat.reduceBEq, Nat.reduceAdd, Nat.reduceLeDiff, Nat.reduceEqDiff, Int.reduceAdd, Int.reduceBEq, Int.reduceBNe, reduceCtorEq, beq_self_eq_true, Bool.true_beq, Bool.false_beq]))
      refine ⟨?_, ?_⟩
      · refine eff_append0f hT g0 Ty.el23 z0 (hxv.sl.mono hT) (PP.ones _) (by omega) (by omega) ?_
        intro q3 d3 w3 z3 g3 t3
        replace hT := hT.trans t3
        try replace z6 := z6.mono t3
        (simp only [go_sem, vc_block_seq, vc_block_region, vc_block_cond, vc_block_block, Nat.reduceBEq, Nat.reduceAdd, Nat.reduceLeDiff, Nat.reduceEqDiff, Int.reduceAdd, Int.reduceBEq, Int.reduceBNe, reduceCtorEq, beq_self_eq_true, Bool.true_beq, Bool.false_beq]; repeat ((with_reducible refine leK_refl ?_); simp only [go_sem, vc_block_seq, vc_block_region, vc_block_cond, vc_block_block, Nat.reduceBEq, Nat.reduceAdd, Nat.reduceLeDiff, Nat.reduceEqDiff, Int.reduceAdd, Int.reduceBEq, Int.reduceBNe, reduceCtorEq, beq_self_eq_true, Bool.true_beq, Bool.false_beq]))
        refine eff_lit (n := 2) (vs := [x.val, y.val]) Ty.el23 rfl rfl (by intro v hv; simp at hv; rcases hv with rfl | rfl <;> rfl) (by omega) ?_
        intro q6 w6 z6 t6 y6
        replace hT := hT.trans t6
        try replace z0 := z0.mono t6
        try replace z3 := z3.mono t6
        (simp only [go_sem, vc_block_seq, vc_block_region, vc_block_cond, vc_block_block, Nat.reduceBEq, Nat.reduceAdd, Nat.reduceLeDiff, Nat.reduceEqDiff, Int.reduceAdd, Int.reduceBEq, Int.reduceBNe, reduceCtorEq, beq_self_eq_true, Bool.true_beq, Bool.false_beq]; repeat ((with_reducible refine leK_refl ?_); simp only [go_sem, vc_block_seq, vc_block_region, vc_block_cond, vc_block_block, Nat.reduceBEq, Nat.reduceAdd, Nat.reduceLeDiff, Nat.reduceEqDiff, Int.reduceAdd, Int.reduceBEq, Int.reduceBNe, reduceCtorEq, beq_self_eq_true, Bool.true_beq, Bool.false_beq]))
        refine eff_append Ty.el23 z3 z6.sl (by intro y hy; simp at hy; rcases hy with rfl | rfl <;> rfl) (by omega) (by omega) ?_
        intro q7 d7 w7 z7 t7 y7
        have g7 : FreshP u5 q7 := y7.elim (fun e => e ▸ g3) (fun h => h.anti hT)
        replace hT := t7.sub hT g3
        (simp only [go_sem, vc_block_seq, vc_block_region, vc_block_cond, vc_block_block, Nat.reduceBEq, Nat.reduceAdd, Nat.reduceLeDiff, Nat.reduceEqDiff, Int.reduceAdd, Int.reduceBEq, Int.reduceBNe, reduceCtorEq, beq_self_eq_true, Bool.true_beq, Bool.false_beq]; repeat ((with_reducible refine leK_refl ?_); simp only [go_sem, vc_block_seq, vc_block_region, vc_block_cond, vc_block_block, Nat.reduceBEq, Nat.reduceAdd, Nat.reduceLeDiff, Nat.reduceEqDiff, Int.reduceAdd, Int.reduceBEq, Int.reduceBNe, reduceCtorEq, beq_self_eq_true, Bool.true_beq, Bool.false_beq]))
        exact ⟨(q7, d7), le_chk (by simp only [go_sem, vc_block_seq, vc_block_region, vc_block_cond, vc_block_block, Nat.reduceBEq, Nat.reduceAdd, Nat.reduceLeDiff, Nat.reduceEqDiff, Int.reduceAdd, Int.reduceBEq, Int.reduceBNe, reduceCtorEq, beq_self_eq_true, Bool.true_beq, Bool.false_beq]), hT, by rw [List.map_append]; exact z7.base g7⟩
      · refine eff_lit (n := 2) (vs := [x.val, y.val]) Ty.el23 rfl rfl (by intro v hv; simp at hv; rcases hv with rfl | rfl <;> rfl) (by omega) ?_
        intro q6 w6 z6 t6 y6
        replace hT := hT.trans t6
        try replace z0 := z0.mono t6
        try replace z3 := z3.mono t6
        (simp only [go_sem, vc_block_seq, vc_block_region, vc_block_cond, vc_block_block, Nat.reduceBEq, Nat.reduceAdd, Nat.reduceLeDiff, Nat.reduceEqDiff, Int.reduceAdd, Int.reduceBEq, Int.reduceBNe, reduceCtorEq, beq_self_eq_true, Bool.true_beq, Bool.false_beq]; repeat ((with_reducible refine leK_refl ?_); simp only [go_sem, vc_block_seq, vc_block_region, vc_block_cond, vc_block_block, Nat.reduceBEq, Nat.reduceAdd, Nat.reduceLeDiff, Nat.reduceEqDiff, Int.reduceAdd, Int.reduceBEq, Int.reduceBNe, reduceCtorEq, beq_self_eq_true, Bool.true_beq, Bool.false_beq]))
        refine eff_append0f hT g0 Ty.el23 z0 (hxv.sl.mono hT) (PP.ones _) (by omega) (by omega) ?_
        intro q3 d3 w3 z3 g3 t3
        replace hT := hT.trans t3
        try replace z6 := z6.mono t3
        (simp only [go_sem, vc_block_seq, vc_block_region, vc_block_cond, vc_block_block, Nat.reduceBEq, Nat.reduceAdd, Nat.reduceLeDiff, Nat.reduceEqDiff, Int.reduceAdd, Int.reduceBEq, Int.reduceBNe, reduceCtorEq, beq_self_eq_true, Bool.true_beq, Bool.false_beq]; repeat ((with_reducible refine leK_refl ?_); simp only [go_sem, vc_block_seq, vc_block_region, vc_block_cond, vc_block_block, Nat.reduceBEq, Nat.reduceAdd, Nat.reduceLeDiff, Nat.reduceEqDiff, Int.reduceAdd, Int.reduceBEq, Int.reduceBNe, reduceCtorEq, beq_self_eq_true, Bool.true_beq, Bool.false_beq]))
        refine eff_append Ty.el23 z3 z6.sl (by intro y hy; simp at hy; rcases hy with rfl | rfl <;> rfl) (by omega) (by omega) ?_
        intro q7 d7 w7 z7 t7 y7
        have g7 : FreshP u5 q7 := y7.elim (fun e => e ▸ g3) (fun h => h.anti hT)
        replace hT := t7.sub hT g3
        (simp only [go_sem, vc_block_seq, vc_block_region, vc_block_cond, vc_block_block, Nat.reduceBEq, Nat.reduceAdd, Nat.reduceLeDiff, Nat.reduceEqDiff, Int.reduceAdd, Int.reduceBEq, Int.reduceBNe, reduceCtorEq, beq_self_eq_true, Bool.true_beq, Bool.false_beq]; repeat ((with_reducible refine leK_refl ?_); simp only [go_sem, vc_block_seq, vc_block_region, vc_block_cond, vc_block_block, Nat.reduceBEq, Nat.reduceAdd, Nat.reduceLeDiff, Nat.reduceEqDiff, Int.reduceAdd, Int.reduceBEq, Int.reduceBNe, reduceCtorEq, beq_self_eq_true, Bool.true_beq, Bool.false_beq]))
        exact ⟨(q7, d7), le_chk (by simp only [go_sem, vc_block_seq, vc_block_region, vc_block_cond, vc_block_block, Nat.reduceBEq, Nat.reduceAdd, Nat.reduceLeDiff, Nat.reduceEqDiff, Int.reduceAdd, Int.reduceBEq, Int.reduceBNe, reduceCtorEq, beq_self_eq_true, Bool.true_beq, Bool.false_beq]), hT, by rw [List.map_append]; exact z7.base g7⟩
    · refine eff_lit (n := 2) (vs := [x.val, y.val]) Ty.el23 rfl rfl (by intro v hv; simp at hv; rcases hv with rfl | rfl <;> rfl) (by omega) ?_
      intro q6 w6 z6 t6 y6
      replace hT := hT.trans t6
      try replace z0 := z0.mono t6
      try replace z3 := z3.mono t6
      (simp only [go_sem, vc_block_seq, vc_block_region, vc_block_cond, vc_block_block, Nat.reduceBEq, Nat.reduceAdd, Nat.reduceLeDiff, Nat.reduceEqDiff, Int.reduceAdd, Int.reduceBEq, Int.reduceBNe, reduceCtorEq, beq_self_eq_true, Bool.true_beq, Bool.false_beq]; repeat ((with_reducible refine leK_refl ?_); simp only [go_sem, vc_block_seq, vc_block_region, vc_block_cond, vc_block_block, Nat.reduceBEq, Nat.reduceAdd, Nat.reduceLeDiff, Nat.reduceEqDiff, Int.reduceAdd, Int.reduceBEq, Int.reduceBNe, reduceCtorEq, beq_self_eq_true, Bool.true_beq, Bool.false_beq]))
      refine eff_lit (n := 0) (vs := []) Ty.el23 rfl rfl (by simp) (by omega) ?_
      intro q0 w0 z0 t0 y0
      have g0 := y0.anti hT
      replace hT := hT.trans t0
      try replace z6 := z6.mono t0
      (simp only [go_sem, vc_block_seq, vc_block_region, vc_block_cond, vc_block_block, Nat.reduceBEq, Nat.reduceAdd, Nat.reduceLeDiff, Nat.reduceEqDiff, Int.reduceAdd, Int.reduceBEq, Int.reduceBNe, reduceCtorEq, beq_self_eq_true, Bool.true_beq, Bool.false_beq]; repeat ((with_reducible refine leK_refl ?_); simp only [go_sem, vc_block_seq, vc_block_region, vc_block_cond, vc_block_block, Nat.reduceBEq, Nat.reduceAdd, Nat.reduceLeDiff, Nat.reduceEqDiff, Int.reduceAdd, Int.reduceBEq, Int.reduceBNe, reduceCtorEq, beq_self_eq_true, Bool.true_beq, Bool.false_beq]))
      refine eff_append0f hT g0 Ty.el23 z0 (hxv.sl.mono hT) (PP.ones _) (by omega) (by omega) ?_
      intro q3 d3 w3 z3 g3 t3
      replace hT := hT.trans t3
      try replace z6 := z6.mono t3
      (simp only [go_sem, vc_block_seq, vc_block_region, vc_block_cond, vc_block_block, Nat.reduceBEq, Nat.reduceAdd, Nat.reduceLeDiff, Nat.reduceEqDiff, Int.reduceAdd, Int.reduceBEq, Int.reduceBNe, reduceCtorEq, beq_self_eq_true, Bool.true_beq, Bool.false_beq]; repeat ((with_reducible refine leK_refl ?_); simp only [go_sem, vc_block_seq, vc_block_region, vc_block_cond, vc_block_block, Nat.reduceBEq, Nat.reduceAdd, Nat.reduceLeDiff, Nat.reduceEqDiff, Int.reduceAdd, Int.reduceBEq, Int.reduceBNe, reduceCtorEq, beq_self_eq_true, Bool.true_beq, Bool.false_beq]))
      refine eff_append Ty.el23 z3 z6.sl (by intro y hy; simp at hy; rcases hy with rfl | rfl <;> rfl) (by omega) (by omega) ?_
      intro q7 d7 w7 z7 t7 y7
      have g7 : FreshP u5 q7 := y7.elim (fun e => e ▸ g3) (fun h => h.anti hT)
      replace hT := t7.sub hT g3
      (simp only [go_sem, vc_block_seq, vc_block_region, vc_block_cond, vc_block_block, Nat.reduceBEq, Nat.reduceAdd, Nat.reduceLeDiff, Nat.reduceEqDiff, Int.reduceAdd, Int.reduceBEq, Int.reduceBNe, reduceCtorEq, beq_self_eq_true, Bool.true_beq, Bool.false_beq]; repeat ((with_reducible refine leK_refl ?_); simp only [go_sem, vc_block_seq, vc_block_region, vc_block_cond, vc_block_block, Nat.reduceBEq, Nat.reduceAdd, Nat.reduceLeDiff, Nat.reduceEqDiff, Int.reduceAdd, Int.reduceBEq, Int.reduceBNe, reduceCtorEq, beq_self_eq_true, Bool.true_beq, Bool.false_beq]))
      exact ⟨(q7, d7), le_chk (by simp only [go_sem, vc_block_seq, vc_block_region, vc_block_cond, vc_block_block, Nat.reduceBEq, Nat.reduceAdd, Nat.reduceLeDiff, Nat.reduceEqDiff, Int.reduceAdd, Int.reduceBEq, Int.reduceBNe, reduceCtorEq, beq_self_eq_true, Bool.true_beq, Bool.false_beq]), hT, by rw [List.map_append]; exact z7.base g7⟩
  rintro ⟨pj, cj⟩ u6 ⟨hs6, oj⟩
  simp only at oj
  (simp only [go_sem, vc_block_seq, vc_block_region, vc_block_cond, vc_block_block, Nat.reduceBEq, Nat.reduceAdd, Nat.reduceLeDiff, Nat.reduceEqDiff, Int.reduceAdd, Int.reduceBEq, Int.reduceBNe, reduceCtorEq, beq_self_eq_true, Bool.true_beq, Bool.false_beq]; repeat ((with_reducible refine leK_refl ?_); simp only [go_sem, vc_block_seq, vc_block_region, vc_block_cond, vc_block_block, Nat.reduceBEq, Nat.reduceAdd, Nat.reduceLeDiff, Nat.reduceEqDiff, Int.reduceAdd, Int.reduceBEq, Int.reduceBNe, reduceCtorEq, beq_self_eq_true, Bool.true_beq, Bool.false_beq]))
  have s35 : Sub u3 u5 := hs4.trans hs5
  generalize hL : lx ++ [x, y] = L at oj
  have hLl : L.length = b.n + 2 := by rw [← hL]; simp [hlx]
  have hL8 : ∀ z ∈ L, z.n ≤ 1000 := by
    intro z hz
    rw [← hL] at hz
    rcases List.mem_append.1 hz with h | h
    · exact hx8 z h
    · simp only [List.mem_cons, List.not_mem_nil, or_false] at h
      rcases h with rfl | rfl
      · exact xn
      · exact yn
  have AA : AllW u3 u6 (RWy 5 L) := RWy.all (fun z hz => by
    rw [← hL] at hz
    rcases List.mem_append.1 hz with h | h
    · exact (ox.fl z h).mono (hs5.trans hs6)
    · simp only [List.mem_cons, List.not_mem_nil, or_false] at h
      rcases h with rfl | rfl
      · exact oxx.mono (hs5.trans hs6)
      · exact (oyy.anti hs4).mono hs6)
  have rL : ∀ z ∈ L, RWy 5 L ⟨kBy 5, z.p, z.n, z.c⟩ := fun z hz => ⟨rfl, z, hz, rfl, rfl, rfl⟩
  have CC : Coh (RWy 5 L) := RWy.coh
  have ff : Fresh (forget u (some ⟨blk, off, none⟩)) blk := forget_fresh u (some ⟨blk, off, none⟩) _ rfl
  have h03 : Sub (forget u (some ⟨blk, off, none⟩)) u3 := hx3.sub ((forget_sub u _).trans s2) (fun a ha => by cases ha; exact ff)
  generalize RWy 5 L = R at AA rL CC
  have oj3 := oj.anti s35
  have s36 := s35.trans hs6
  refine vc_range (b.n + 2) (fun (_ : Unit) => []) (fun _ => []) (fun j _ u' => AllW u3 u' R ∧ Sub u3 u' ∧ Eng.Own u3 u' 33 3 pj (b.n + 2) cj (L.map PP.enc)) () (le_chk (by simp only [go_sem, vc_block_seq, vc_block_region, vc_block_cond, vc_block_block, Nat.reduceBEq, Nat.reduceAdd, Nat.reduceLeDiff, Nat.reduceEqDiff, Int.reduceAdd, Int.reduceBEq, Int.reduceBNe, reduceCtorEq, beq_self_eq_true, Bool.true_beq, Bool.false_beq])) ⟨AA, s36, oj3⟩ (fun _ _ => rfl) (by omega) (fun _ => rfl) ?_ ?_
  · rintro j _ v3 hj ⟨hA, hs, ho3⟩
    obtain ⟨z, hz⟩ := exAt hj hLl
    have rz := rL z (List.mem_of_getElem? hz)
    have hz8 := hL8 z (List.mem_of_getElem? hz)
    (simp only [go_sem, vc_block_seq, vc_block_region, vc_block_cond, vc_block_block, Nat.reduceBEq, Nat.reduceAdd, Nat.reduceLeDiff, Nat.reduceEqDiff, Int.reduceAdd, Int.reduceBEq, Int.reduceBNe, reduceCtorEq, beq_self_eq_true, Bool.true_beq, Bool.false_beq]; repeat ((with_reducible refine leK_refl ?_); simp only [go_sem, vc_block_seq, vc_block_region, vc_block_cond, vc_block_block, Nat.reduceBEq, Nat.reduceAdd, Nat.reduceLeDiff, Nat.reduceEqDiff, Int.reduceAdd, Int.reduceBEq, Int.reduceBNe, reduceCtorEq, beq_self_eq_true, Bool.true_beq, Bool.false_beq]))
    refine ⟨⟨ho3.sl.some_ hj, by omega, by omega⟩, ?_⟩
    refine ho3.sl.load (getMap hz) (.inr rfl) (Nat.le_of_ble_eq_true rfl) ?_
    (simp only [go_sem, vc_block_seq, vc_block_region, vc_block_cond, vc_block_block, Nat.reduceBEq, Nat.reduceAdd, Nat.reduceLeDiff, Nat.reduceEqDiff, Int.reduceAdd, Int.reduceBEq, Int.reduceBNe, reduceCtorEq, beq_self_eq_true, Bool.true_beq, Bool.false_beq]; repeat ((with_reducible refine leK_refl ?_); simp only [go_sem, vc_block_seq, vc_block_region, vc_block_cond, vc_block_block, Nat.reduceBEq, Nat.reduceAdd, Nat.reduceLeDiff, Nat.reduceEqDiff, Int.reduceAdd, Int.reduceBEq, Int.reduceBNe, reduceCtorEq, beq_self_eq_true, Bool.true_beq, Bool.false_beq]))
    intro b17
    refine vc_range z.n (fun (_ : Unit) => []) (fun _ => []) (fun k _ u' => AllW u3 u' R ∧ Sub u3 u' ∧ Eng.Own u3 u' 33 3 pj (b.n + 2) cj (L.map PP.enc)) () (le_chk (by simp only [go_sem, vc_block_seq, vc_block_region, vc_block_cond, vc_block_block, Nat.reduceBEq, Nat.reduceAdd, Nat.reduceLeDiff, Nat.reduceEqDiff, Int.reduceAdd, Int.reduceBEq, Int.reduceBNe, reduceCtorEq, beq_self_eq_true, Bool.true_beq, Bool.false_beq])) ⟨hA, hs, ho3⟩ (fun _ _ => rfl) (by omega) (fun _ => rfl) ?_ ?_
    · rintro k _ v4 hk ⟨hA4, hs4, ho4⟩
      obtain ⟨xs, x, hx1, hx2, a, rfl⟩ := (hA4 _ rz).at_ (i := k) hk
      (simp only [go_sem, vc_block_seq, vc_block_region, vc_block_cond, vc_block_block, Nat.reduceBEq, Nat.reduceAdd, Nat.reduceLeDiff, Nat.reduceEqDiff, Int.reduceAdd, Int.reduceBEq, Int.reduceBNe, reduceCtorEq, beq_self_eq_true, Bool.true_beq, Bool.false_beq]; repeat ((with_reducible refine leK_refl ?_); simp only [go_sem, vc_block_seq, vc_block_region, vc_block_cond, vc_block_block, Nat.reduceBEq, Nat.reduceAdd, Nat.reduceLeDiff, Nat.reduceEqDiff, Int.reduceAdd, Int.reduceBEq, Int.reduceBNe, reduceCtorEq, beq_self_eq_true, Bool.true_beq, Bool.false_beq]))
      refine ⟨⟨hx1.sl.some_ hk, by omega, by omega⟩, ?_⟩
      refine hx1.sl.load hx2 (.inl rfl) (Nat.le_of_ble_eq_true rfl) ?_
      (simp only [go_sem, vc_block_seq, vc_block_region, vc_block_cond, vc_block_block, Nat.reduceBEq, Nat.reduceAdd, Nat.reduceLeDiff, Nat.reduceEqDiff, Int.reduceAdd, Int.reduceBEq, Int.reduceBNe, reduceCtorEq, beq_self_eq_true, Bool.true_beq, Bool.false_beq]; repeat ((with_reducible refine leK_refl ?_); simp only [go_sem, vc_block_seq, vc_block_region, vc_block_cond, vc_block_block, Nat.reduceBEq, Nat.reduceAdd, Nat.reduceLeDiff, Nat.reduceEqDiff, Int.reduceAdd, Int.reduceBEq, Int.reduceBNe, reduceCtorEq, beq_self_eq_true, Bool.true_beq, Bool.false_beq]))
      rw [arith_any]
      (simp only [go_sem, vc_block_seq, vc_block_region, vc_block_cond, vc_block_block, Nat.reduceBEq, Nat.reduceAdd, Nat.reduceLeDiff, Nat.reduceEqDiff, Int.reduceAdd, Int.reduceBEq, Int.reduceBNe, reduceCtorEq, beq_self_eq_true, Bool.true_beq, Bool.false_beq]; repeat ((with_reducible refine leK_refl ?_); simp only [go_sem, vc_block_seq, vc_block_region, vc_block_cond, vc_block_block, Nat.reduceBEq, Nat.reduceAdd, Nat.reduceLeDiff, Nat.reduceEqDiff, Int.reduceAdd, Int.reduceBEq, Int.reduceBNe, reduceCtorEq, beq_self_eq_true, Bool.true_beq, Bool.false_beq]))
      refine ⟨⟨hx1.sl.some_ hk, by omega, by omega⟩, ?_⟩
      refine wr_store (r := ⟨kBy 5, z.p, z.n, z.c⟩) Ty.lay5 hA4 CC rz hk rfl (Nat.le_of_ble_eq_true rfl) rfl ?_ h03 hs4 ?_
      · rintro z ⟨a, rfl⟩
        exact ⟨_, splice_1y⟩
      intro v5 hA5 hs5 keep
      have ho5 := keep ⟨⟨33, 3, fun _ => True⟩, pj, b.n + 2, cj⟩ (show (33 : Nat) ≠ 5 from by decide) _ ho4
      (simp only [go_sem, vc_block_seq, vc_block_region, vc_block_cond, vc_block_block, Nat.reduceBEq, Nat.reduceAdd, Nat.reduceLeDiff, Nat.reduceEqDiff, Int.reduceAdd, Int.reduceBEq, Int.reduceBNe, reduceCtorEq, beq_self_eq_true, Bool.true_beq, Bool.false_beq]; repeat ((with_reducible refine leK_refl ?_); simp only [go_sem, vc_block_seq, vc_block_region, vc_block_cond, vc_block_block, Nat.reduceBEq, Nat.reduceAdd, Nat.reduceLeDiff, Nat.reduceEqDiff, Int.reduceAdd, Int.reduceBEq, Int.reduceBNe, reduceCtorEq, beq_self_eq_true, Bool.true_beq, Bool.false_beq]))
      exact ⟨(), le_chk (by simp only [go_sem, vc_block_seq, vc_block_region, vc_block_cond, vc_block_block, Nat.reduceBEq, Nat.reduceAdd, Nat.reduceLeDiff, Nat.reduceEqDiff, Int.reduceAdd, Int.reduceBEq, Int.reduceBNe, reduceCtorEq, beq_self_eq_true, Bool.true_beq, Bool.false_beq]), hA5, hs5, ho5⟩
    · rintro _ v4 ⟨hA4, hs4, ho4⟩
      (simp only [go_sem, vc_block_seq, vc_block_region, vc_block_cond, vc_block_block, Nat.reduceBEq, Nat.reduceAdd, Nat.reduceLeDiff, Nat.reduceEqDiff, Int.reduceAdd, Int.reduceBEq, Int.reduceBNe, reduceCtorEq, beq_self_eq_true, Bool.true_beq, Bool.false_beq]; repeat ((with_reducible refine leK_refl ?_); simp only [go_sem, vc_block_seq, vc_block_region, vc_block_cond, vc_block_block, Nat.reduceBEq, Nat.reduceAdd, Nat.reduceLeDiff, Nat.reduceEqDiff, Int.reduceAdd, Int.reduceBEq, Int.reduceBNe, reduceCtorEq, beq_self_eq_true, Bool.true_beq, Bool.false_beq]))
      exact ⟨(), le_chk (by simp only [go_sem, vc_block_seq, vc_block_region, vc_block_cond, vc_block_block, Nat.reduceBEq, Nat.reduceAdd, Nat.reduceLeDiff, Nat.reduceEqDiff, Int.reduceAdd, Int.reduceBEq, Int.reduceBNe, reduceCtorEq, beq_self_eq_true, Bool.true_beq, Bool.false_beq]), hA4, hs4, ho4⟩
  rintro _ u7 ⟨hA3, s37, ho3⟩
  clear hA3 ho3 AA rL CC
  clear R
  (simp only [go_sem, vc_block_seq, vc_block_region, vc_block_cond, vc_block_block, Nat.reduceBEq, Nat.reduceAdd, Nat.reduceLeDiff, Nat.reduceEqDiff, Int.reduceAdd, Int.reduceBEq, Int.reduceBNe, reduceCtorEq, beq_self_eq_true, Bool.true_beq, Bool.false_beq]; repeat ((with_reducible refine leK_refl ?_); simp only [go_sem, vc_block_seq, vc_block_region, vc_block_cond, vc_block_block, Nat.reduceBEq, Nat.reduceAdd, Nat.reduceLeDiff, Nat.reduceEqDiff, Int.reduceAdd, Int.reduceBEq, Int.reduceBNe, reduceCtorEq, beq_self_eq_true, Bool.true_beq, Bool.false_beq]))
  rw [arith_i64 (by omega)]
  rw [show ((b.n + 1 : Nat) : Int) - 1 = (b.n : Int) by omega]
  (simp only [go_sem, vc_block_seq, vc_block_region, vc_block_cond, vc_block_block, Nat.reduceBEq, Nat.reduceAdd, Nat.reduceLeDiff, Nat.reduceEqDiff, Int.reduceAdd, Int.reduceBEq, Int.reduceBNe, reduceCtorEq, beq_self_eq_true, Bool.true_beq, Bool.false_beq]; repeat ((with_reducible refine leK_refl ?_); simp only [go_sem, vc_block_seq, vc_block_region, vc_block_cond, vc_block_block, Nat.reduceBEq, Nat.reduceAdd, Nat.reduceLeDiff, Nat.reduceEqDiff, Int.reduceAdd, Int.reduceBEq, Int.reduceBNe, reduceCtorEq, beq_self_eq_true, Bool.true_beq, Bool.false_beq]))
  refine AtCall.of_spec (take1_con ⟨(b.n : Int) + 1, p2, b.n + 1, c2, l2, b.lost⟩ b.n u7 (hm3.mono s37) (by simp only []; omega)) ?_
  rintro r u8 hs8 ⟨z, pz, cz, lz, rfl, oz, ozz, ez, zn, ez2, hz8⟩
  simp only [Nat.add_sub_cancel] at oz ez ez2
  have hzg : z.g = ⟨3, false, f⟩ := by rw [← hyg]; rw [ey] at ez; exact (Option.some.inj ez).symm
  (simp only [go_sem, vc_block_seq, vc_block_region, vc_block_cond, vc_block_block, Nat.reduceBEq, Nat.reduceAdd, Nat.reduceLeDiff, Nat.reduceEqDiff, Int.reduceAdd, Int.reduceBEq, Int.reduceBNe, reduceCtorEq, beq_self_eq_true, Bool.true_beq, Bool.false_beq]; repeat ((with_reducible refine leK_refl ?_); simp only [go_sem, vc_block_seq, vc_block_region, vc_block_cond, vc_block_block, Nat.reduceBEq, Nat.reduceAdd, Nat.reduceLeDiff, Nat.reduceEqDiff, Int.reduceAdd, Int.reduceBEq, Int.reduceBNe, reduceCtorEq, beq_self_eq_true, Bool.true_beq, Bool.false_beq]))
  intro b19 b20
  have s38 : Sub u3 u8 := s37.trans hs8
  have hb8' : u8.heap[blk]? = some (.cells (cur.setIfInBounds off (.int .u8 (IntKind.u8.wrap ((f0.toNat : Int) + 1)))) TF fz) := s38 _ _ hb3 cells_ne_junk
  refine ⟨⟨hf.some_ hm0, by omega, by omega⟩, ?_⟩
  refine elt_back hb8' (v := .int .u8 (IntKind.u8.wrap ((f0.toNat : Int) + 1))) (by simp [hof]) ?_
  (simp only [go_sem, vc_block_seq, vc_block_region, vc_block_cond, vc_block_block, Nat.reduceBEq, Nat.reduceAdd, Nat.reduceLeDiff, Nat.reduceEqDiff, Int.reduceAdd, Int.reduceBEq, Int.reduceBNe, reduceCtorEq, beq_self_eq_true, Bool.true_beq, Bool.false_beq]; repeat ((with_reducible refine leK_refl ?_); simp only [go_sem, vc_block_seq, vc_block_region, vc_block_cond, vc_block_block, Nat.reduceBEq, Nat.reduceAdd, Nat.reduceLeDiff, Nat.reduceEqDiff, Int.reduceAdd, Int.reduceBEq, Int.reduceBNe, reduceCtorEq, beq_self_eq_true, Bool.true_beq, Bool.false_beq]))
  rw [arith_any]
  (simp only [go_sem, vc_block_seq, vc_block_region, vc_block_cond, vc_block_block, Nat.reduceBEq, Nat.reduceAdd, Nat.reduceLeDiff, Nat.reduceEqDiff, Int.reduceAdd, Int.reduceBEq, Int.reduceBNe, reduceCtorEq, beq_self_eq_true, Bool.true_beq, Bool.false_beq]; repeat ((with_reducible refine leK_refl ?_); simp only [go_sem, vc_block_seq, vc_block_region, vc_block_cond, vc_block_block, Nat.reduceBEq, Nat.reduceAdd, Nat.reduceLeDiff, Nat.reduceEqDiff, Int.reduceAdd, Int.reduceBEq, Int.reduceBNe, reduceCtorEq, beq_self_eq_true, Bool.true_beq, Bool.false_beq]))
  rw [show IntKind.u8.wrap (IntKind.u8.wrap ((f0.toNat : Int) + 1) - 1) = (f0.toNat : Int) from wrap_back f0.toNat_lt]
  refine ⟨⟨hf.some_ hm0, by omega, by omega⟩, ?_⟩
  have hfz8 : u8.frozen? ⟨blk, off, none⟩ = false := by
    rw [← hzz]; simp [World.frozen?, hb8', hblk]
  refine sto_back Ty.lay5 hb8' ff (by simpa using hof) hfz8 rfl rfl ?_
  intro u9 hb9 hx9
  rw [set_back hcur] at hb9
  have s09 : Sub u u9 := sub_back ((SubX.of_sub s2).tr hx3) s38 hx9 hblk hb9
  have kn1 : ¬ Fresh u1 blk := fun h => hkn (h.anti hs1)
  have kn7 : ¬ Fresh u7 blk := fun h => cells_ne_junk (h _ (s37 _ _ hb3 cells_ne_junk))
  have ozz9 : Owned u7 u9 (ParK.parts z) := ozz.subX hx9 (away_known ozz kn7)
  have om9 : EO ParK u1 u9 p2 (b.n + 1) c2 l2 := (o3.mono s38).subX hx9 (nep_known (o3.mono s38).own kn1) (fun y hy => away_known ((o3.mono s38).fl y hy) kn1)
  have hb9' := hb.mono s09
  (simp only [go_sem, vc_block_seq, vc_block_region, vc_block_cond, vc_block_block, Nat.reduceBEq, Nat.reduceAdd, Nat.reduceLeDiff, Nat.reduceEqDiff, Int.reduceAdd, Int.reduceBEq, Int.reduceBNe, reduceCtorEq, beq_self_eq_true, Bool.true_beq, Bool.false_beq]; repeat ((with_reducible refine leK_refl ?_); simp only [go_sem, vc_block_seq, vc_block_region, vc_block_cond, vc_block_block, Nat.reduceBEq, Nat.reduceAdd, Nat.reduceLeDiff, Nat.reduceEqDiff, Int.reduceAdd, Int.reduceBEq, Int.reduceBNe, reduceCtorEq, beq_self_eq_true, Bool.true_beq, Bool.false_beq]))
  simp only [Nat.add_sub_cancel]
  refine .inl ⟨[(0, false), (1, false), (2, false), (3, false), (6, false), (4, false), (5, false), (7, false), (8, false), (9, false), (10, false), (12, false), (14, false), (16, false), (21, false), (11, false), (13, false), (15, false), (17, false), (18, false), (19, false), (20, false), (22, false), (23, false), (24, false), (25, false), (26, false), (27, false)], by kernel_rfl, ?_⟩
  (simp only [go_sem, vc_block_seq, vc_block_region, vc_block_cond, vc_block_block, Nat.reduceBEq, Nat.reduceAdd, Nat.reduceLeDiff, Nat.reduceEqDiff, Int.reduceAdd, Int.reduceBEq, Int.reduceBNe, reduceCtorEq, beq_self_eq_true, Bool.true_beq, Bool.false_beq]; repeat ((with_reducible refine leK_refl ?_); simp only [go_sem, vc_block_seq, vc_block_region, vc_block_cond, vc_block_block, Nat.reduceBEq, Nat.reduceAdd, Nat.reduceLeDiff, Nat.reduceEqDiff, Int.reduceAdd, Int.reduceBEq, Int.reduceBNe, reduceCtorEq, beq_self_eq_true, Bool.true_beq, Bool.false_beq]))
  have hzs := par_sl ozz9.there
  rw [hzg] at hzs
  refine conv_str Try.underlying26 Try.underlying5 Try.underlying9 hzs ?_
  (simp only [go_sem, vc_block_seq, vc_block_region, vc_block_cond, vc_block_block, Nat.reduceBEq, Nat.reduceAdd, Nat.reduceLeDiff, Nat.reduceEqDiff, Int.reduceAdd, Int.reduceBEq, Int.reduceBNe, reduceCtorEq, beq_self_eq_true, Bool.true_beq, Bool.false_beq]; repeat ((with_reducible refine leK_refl ?_); simp only [go_sem, vc_block_seq, vc_block_region, vc_block_cond, vc_block_block, Nat.reduceBEq, Nat.reduceAdd, Nat.reduceLeDiff, Nat.reduceEqDiff, Int.reduceAdd, Int.reduceBEq, Int.reduceBNe, reduceCtorEq, beq_self_eq_true, Bool.true_beq, Bool.false_beq]))
  have hcap := om9.own.sl.cap
  have etk : pps (l2.take b.n) = pps b.l := by
    have h1 : pps (l2.take b.n) = (pps l2).take b.n := by simp [pps]
    rw [h1, e2, List.take_left' (by simp [hll])]
  have ha9 : EL ParK u9 p2 b.n c2 (l2.take b.n) := ⟨by rw [List.map_take]; exact om9.own.sl.take (by omega), fun y hy => om9.el.fl y (List.mem_of_mem_take hy)⟩
  rw [slice_toN (k0 := b.n) Ty.el23 rfl (by omega)]
  (simp only [go_sem, vc_block_seq, vc_block_region, vc_block_cond, vc_block_block, Nat.reduceBEq, Nat.reduceAdd, Nat.reduceLeDiff, Nat.reduceEqDiff, Int.reduceAdd, Int.reduceBEq, Int.reduceBNe, reduceCtorEq, beq_self_eq_true, Bool.true_beq, Bool.false_beq]; repeat ((with_reducible refine leK_refl ?_); simp only [go_sem, vc_block_seq, vc_block_region, vc_block_cond, vc_block_block, Nat.reduceBEq, Nat.reduceAdd, Nat.reduceLeDiff, Nat.reduceEqDiff, Int.reduceAdd, Int.reduceBEq, Int.reduceBNe, reduceCtorEq, beq_self_eq_true, Bool.true_beq, Bool.false_beq]))
  refine AtCall.of_spec (nsame1_con ⟨(b.n : Int) + 1, p2, b.n, c2, l2.take b.n, b.lost⟩ ⟨(b.n : Int) + 1, b.p, b.n, b.c, b.l, b.lost⟩ u9 ha9 hb9' ?_) ?_
  · simp only [PN.net, etk]
    exact hok
  rintro r u10 hs10 rfl
  simp only [PN.net, etk, decide_true]
  (simp only [go_sem, vc_block_seq, vc_block_region, vc_block_cond, vc_block_block, Nat.reduceBEq, Nat.reduceAdd, Nat.reduceLeDiff, Nat.reduceEqDiff, Int.reduceAdd, Int.reduceBEq, Int.reduceBNe, reduceCtorEq, beq_self_eq_true, Bool.true_beq, Bool.false_beq]; repeat ((with_reducible refine leK_refl ?_); simp only [go_sem, vc_block_seq, vc_block_region, vc_block_cond, vc_block_block, Nat.reduceBEq, Nat.reduceAdd, Nat.reduceLeDiff, Nat.reduceEqDiff, Int.reduceAdd, Int.reduceBEq, Int.reduceBNe, reduceCtorEq, beq_self_eq_true, Bool.true_beq, Bool.false_beq]))
  refine AtCall.of_spec (awake1_con u10) ?_
  rintro r u11 hs11 rfl
  (simp only [go_sem, vc_block_seq, vc_block_region, vc_block_cond, vc_block_block, Nat.reduceBEq, Nat.reduceAdd, Nat.reduceLeDiff, Nat.reduceEqDiff, Int.reduceAdd, Int.reduceBEq, Int.reduceBNe, reduceCtorEq, beq_self_eq_true, Bool.true_beq, Bool.false_beq]; repeat ((with_reducible refine leK_refl ?_); simp only [go_sem, vc_block_seq, vc_block_region, vc_block_cond, vc_block_block, Nat.reduceBEq, Nat.reduceAdd, Nat.reduceLeDiff, Nat.reduceEqDiff, Int.reduceAdd, Int.reduceBEq, Int.reduceBNe, reduceCtorEq, beq_self_eq_true, Bool.true_beq, Bool.false_beq]))
  exact ⟨(s09.trans hs10).trans hs11, rfl⟩
end Go.Proofs.Ytgpmgnbjpfggmaa
