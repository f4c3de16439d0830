/-
  Part 23 of the proof of M7: the engine and the walks, in their order.
-/
import Derived.Test.YtgpmgnbjpfggmaaM713
import Derived.Test.YtgpmgnbjpfggmaaM717
import Derived.Test.YtgpmgnbjpfggmaaM718
import Derived.Test.YtgpmgnbjpfggmaaM721
import Derived.Test.YtgpmgnbjpfggmaaM722
set_option linter.unusedSimpArgs false
set_option linter.unusedVariables false
/-
  Net at the engine's level: parcels and nets in memory; bytes.Clone, parcel, fresh, appended, Send.
-/
set_option linter.unusedSimpArgs false
set_option linter.unusedVariables false
namespace Go.Eng
theorem ones8 (l : List UInt8) : allOnes (l.map encB) := by intro y hy; obtain ⟨x, _, rfl⟩ := List.mem_map.1 hy; rfl
/-- A parcel in memory: where its bytes lie. -/
structure PP where
  g : GPar
  p : Option Addr
  n : Nat
  c : Nat
def PP.enc (x : PP) : List Value := [.int .u8 x.g.to.toNat, .bool x.g.bent, .slice x.p x.n x.c]
def PP.val (x : PP) : Value := .agg #[.int .u8 x.g.to.toNat, .bool x.g.bent, .slice x.p x.n x.c]
theorem PP.cells (x : PP) : x.val.cells.toList = x.enc := rfl
theorem PP.ones (xs : List PP) : allOnes (xs.map PP.enc) := by intro y hy; obtain ⟨x, _, rfl⟩ := List.mem_map.1 hy; rfl
def parP (TB : TypeId) (x : PP) : List Part := [⟨TB, 1, x.p, x.n, x.c, x.g.b.map encB⟩]
@[reducible] def parK (TE TB : TypeId) : Kind PP := ⟨TE, 3, PP.enc, parP TB⟩
@[go_sem] theorem park_enc (TE TB : TypeId) (x : PP) : (parK TE TB).enc x = x.enc := rfl
section
variable {u0 u : World} {x : PP} {TB : TypeId}
theorem par_there (h : Sl u 1 x.p x.n x.c (x.g.b.map encB)) : There u (parP TB x) := fun s hs => by
  simp only [parP, List.mem_cons, List.not_mem_nil, or_false] at hs
  subst hs
  exact h
theorem par_sl (h : There u (parP TB x)) : Sl u 1 x.p x.n x.c (x.g.b.map encB) := h ⟨TB, 1, x.p, x.n, x.c, x.g.b.map encB⟩ (by simp [parP])
theorem par_owned (h : Own u0 u TB 1 x.p x.n x.c (x.g.b.map encB)) : Owned u0 u (parP TB x) := fun s hs => by
  simp only [parP, List.mem_cons, List.not_mem_nil, or_false] at hs
  subst hs
  exact h
theorem par_own (h : Owned u0 u (parP TB x)) : Own u0 u TB 1 x.p x.n x.c (x.g.b.map encB) := h ⟨TB, 1, x.p, x.n, x.c, x.g.b.map encB⟩ (by simp [parP])
theorem par_len (h : There u (parP TB x)) : x.g.b.length = x.n := by simpa using (par_sl h).len
end
abbrev pps (l : List PP) : List GPar := l.map PP.g
theorem getPs {l : List PP} {k : Nat} {x : PP} (h : l[k]? = some x) : (pps l)[k]? = some x.g := by simp [h]
/-- A net in memory. -/
structure PN where
  room : Int
  p : Option Addr
  n : Nat
  c : Nat
  l : List PP
  lost : Int
def PN.val (b : PN) : Value := .agg #[.int .i64 b.room, .slice b.p b.n b.c, .int .i64 b.lost]
def PN.enc (b : PN) : List Value := [.int .i64 b.room, .slice b.p b.n b.c, .int .i64 b.lost]
end Go.Eng
namespace Go.Proofs.Ytgpmgnbjpfggmaa
open Go.Eng
abbrev ParK : Kind PP := parK 33 5
attribute [local go_sem] PP.val PP.enc PN.val PN.enc encB
/-- A net, small. -/
structure NL (u : World) (b : PN) : Prop where
  el : EL ParK u b.p b.n b.c b.l
  len : b.n ≤ 1000
  small : ∀ x ∈ b.l, x.n ≤ 1000
theorem NL.mono {u u' : World} {b : PN} (hs : Sub u u') (h : NL u b) : NL u' b := ⟨h.el.mono hs, h.len, h.small⟩

theorem cloneBy_con (xs : List (List Value)) (p : Option Addr) (n c : Nat) (u : World) (hl : Sl u 1 p n c xs) (h1 : allOnes xs) (hb : n * 1 ≤ 140737488355328) :
    Con Try.prog 45 [.slice p n c] u (fun r u' => ∃ p' c', r = .slice p' n c' ∧ Eng.Own u u' 5 1 p' n c' xs) := by
  refine spec_of_vc Ty.mixed Try.func45 rfl (by kernel_rfl) (by kernel_rfl) rfl [.tmp 2] rfl ?_
  (simp only [go_sem, vc_block_seq, vc_block_region, vc_block_cond, vc_block_block, Nat.reduceBEq, Nat.reduceAdd, Nat.reduceLeDiff, Nat.reduceEqDiff, Int.reduceAdd, Int.reduceBEq, Int.reduceBNe, reduceCtorEq, beq_self_eq_true, Bool.true_beq, Bool.false_beq]; repeat ((with_reducible refine leK_refl ?_); simp only [go_sem, vc_block_seq, vc_block_region, vc_block_cond, vc_block_block, Nat.reduceBEq, Nat.reduceAdd, Nat.reduceLeDiff, Nat.reduceEqDiff, Int.reduceAdd, Int.reduceBEq, Int.reduceBNe, reduceCtorEq, beq_self_eq_true, Bool.true_beq, Bool.false_beq]))
  refine cond_split (fun h => ?_) (fun h => ?_)
  · have hp : p = none := by simpa using h
    subst hp
    obtain ⟨rfl, rfl⟩ := hl.nil rfl
    have hx : xs = [] := List.eq_nil_of_length_eq_zero hl.len
    subst hx
    (simp only [go_sem, vc_block_seq, vc_block_region, vc_block_cond, vc_block_block, Nat.reduceBEq, Nat.reduceAdd, Nat.reduceLeDiff, Nat.reduceEqDiff, Int.reduceAdd, Int.reduceBEq, Int.reduceBNe, reduceCtorEq, beq_self_eq_true, Bool.true_beq, Bool.false_beq]; repeat ((with_reducible refine leK_refl ?_); simp only [go_sem, vc_block_seq, vc_block_region, vc_block_cond, vc_block_block, Nat.reduceBEq, Nat.reduceAdd, Nat.reduceLeDiff, Nat.reduceEqDiff, Int.reduceAdd, Int.reduceBEq, Int.reduceBNe, reduceCtorEq, beq_self_eq_true, Bool.true_beq, Bool.false_beq]))
    exact ⟨Sub.refl _, none, 0, rfl, Eng.Own.nil_ _ _ _ _⟩
  · (simp only [go_sem, vc_block_seq, vc_block_region, vc_block_cond, vc_block_block, Nat.reduceBEq, Nat.reduceAdd, Nat.reduceLeDiff, Nat.reduceEqDiff, Int.reduceAdd, Int.reduceBEq, Int.reduceBNe, reduceCtorEq, beq_self_eq_true, Bool.true_beq, Bool.false_beq]; repeat ((with_reducible refine leK_refl ?_); simp only [go_sem, vc_block_seq, vc_block_region, vc_block_cond, vc_block_block, Nat.reduceBEq, Nat.reduceAdd, Nat.reduceLeDiff, Nat.reduceEqDiff, Int.reduceAdd, Int.reduceBEq, Int.reduceBNe, reduceCtorEq, beq_self_eq_true, Bool.true_beq, Bool.false_beq]))
    refine eff_lit (n := 0) (vs := []) Ty.el26 rfl rfl (by simp) (by omega) ?_
    intro p1 u1 ho1 hs1 _
    (simp only [go_sem, vc_block_seq, vc_block_region, vc_block_cond, vc_block_block, Nat.reduceBEq, Nat.reduceAdd, Nat.reduceLeDiff, Nat.reduceEqDiff, Int.reduceAdd, Int.reduceBEq, Int.reduceBNe, reduceCtorEq, beq_self_eq_true, Bool.true_beq, Bool.false_beq]; repeat ((with_reducible refine leK_refl ?_); simp only [go_sem, vc_block_seq, vc_block_region, vc_block_cond, vc_block_block, Nat.reduceBEq, Nat.reduceAdd, Nat.reduceLeDiff, Nat.reduceEqDiff, Int.reduceAdd, Int.reduceBEq, Int.reduceBNe, reduceCtorEq, beq_self_eq_true, Bool.true_beq, Bool.false_beq]))
    refine eff_append Ty.el26 ho1 (hl.mono hs1) h1 (by simpa using hb) (by omega) ?_
    intro p2 c2 u2 ho2 hs2 _
    (simp only [go_sem, vc_block_seq, vc_block_region, vc_block_cond, vc_block_block, Nat.reduceBEq, Nat.reduceAdd, Nat.reduceLeDiff, Nat.reduceEqDiff, Int.reduceAdd, Int.reduceBEq, Int.reduceBNe, reduceCtorEq, beq_self_eq_true, Bool.true_beq, Bool.false_beq]; repeat ((with_reducible refine leK_refl ?_); simp only [go_sem, vc_block_seq, vc_block_region, vc_block_cond, vc_block_block, Nat.reduceBEq, Nat.reduceAdd, Nat.reduceLeDiff, Nat.reduceEqDiff, Int.reduceAdd, Int.reduceBEq, Int.reduceBNe, reduceCtorEq, beq_self_eq_true, Bool.true_beq, Bool.false_beq]))
    simp only [List.map_nil, List.nil_append, Nat.zero_add] at ho2
    exact ⟨hs2.sub hs1 ho1.fresh, p2, c2, rfl, ho2⟩



theorem parcel1_con (x : PP) (u : World) (hx : There u (ParK.parts x)) (hn : x.n ≤ 1000) : Con Try.prog 42 [x.val] u (fun r u' => ∃ y : PP, r = y.val ∧ y.g = x.g ∧ y.n = x.n ∧ Owned u u' (ParK.parts y)) := by
  have h1 := par_sl hx
  refine spec_of_vc Ty.mixed Try.func42 rfl (by kernel_rfl) (by kernel_rfl) rfl [.cell 2 33] rfl ?_
  (simp only [go_sem, vc_block_seq, vc_block_region, vc_block_cond, vc_block_block, Nat.reduceBEq, Nat.reduceAdd, Nat.reduceLeDiff, Nat.reduceEqDiff, Int.reduceAdd, Int.reduceBEq, Int.reduceBNe, reduceCtorEq, beq_self_eq_true, Bool.true_beq, Bool.false_beq]; repeat ((with_reducible refine leK_refl ?_); simp only [go_sem, vc_block_seq, vc_block_region, vc_block_cond, vc_block_block, Nat.reduceBEq, Nat.reduceAdd, Nat.reduceLeDiff, Nat.reduceEqDiff, Int.reduceAdd, Int.reduceBEq, Int.reduceBNe, reduceCtorEq, beq_self_eq_true, Bool.true_beq, Bool.false_beq]))
  intro b1 b2
  refine AtCall.of_spec (cloneBy_con _ x.p x.n x.c u h1 (ones8 _) (by omega)) ?_
  rintro r u1 hs1 ⟨p1, c1, rfl, o1⟩
  (simp only [go_sem, vc_block_seq, vc_block_region, vc_block_cond, vc_block_block, Nat.reduceBEq, Nat.reduceAdd, Nat.reduceLeDiff, Nat.reduceEqDiff, Int.reduceAdd, Int.reduceBEq, Int.reduceBNe, reduceCtorEq, beq_self_eq_true, Bool.true_beq, Bool.false_beq]; repeat ((with_reducible refine leK_refl ?_); simp only [go_sem, vc_block_seq, vc_block_region, vc_block_cond, vc_block_block, Nat.reduceBEq, Nat.reduceAdd, Nat.reduceLeDiff, Nat.reduceEqDiff, Int.reduceAdd, Int.reduceBEq, Int.reduceBNe, reduceCtorEq, beq_self_eq_true, Bool.true_beq, Bool.false_beq]))
  exact ⟨hs1, ⟨x.g, p1, x.n, c1⟩, rfl, rfl, rfl, par_owned o1⟩

set_option maxHeartbeats 1000000 in
theorem fresh1_con (b : PN) (u : World) (hb : NL u b) : Con Try.prog 24 [b.val] u (fun r u' => ∃ p c l, r = (PN.mk b.room p b.n c l b.lost).val ∧ EO ParK u u' p b.n c l ∧ pps l = pps b.l ∧ ∀ x ∈ l, x.n ≤ 1000) := by
  have hn := hb.len
  have ll := hb.el.len
  refine spec_of_vc Ty.mixed Try.func24 rfl (by kernel_rfl) (by kernel_rfl) rfl [.cell 2 25] rfl ?_
  (simp only [go_sem, vc_block_seq, vc_block_region, vc_block_cond, vc_block_block, Nat.reduceBEq, Nat.reduceAdd, Nat.reduceLeDiff, Nat.reduceEqDiff, Int.reduceAdd, Int.reduceBEq, Int.reduceBNe, reduceCtorEq, beq_self_eq_true, Bool.true_beq, Bool.false_beq]; repeat ((with_reducible refine leK_refl ?_); simp only [go_sem, vc_block_seq, vc_block_region, vc_block_cond, vc_block_block, Nat.reduceBEq, Nat.reduceAdd, Nat.reduceLeDiff, Nat.reduceEqDiff, Int.reduceAdd, Int.reduceBEq, Int.reduceBNe, reduceCtorEq, beq_self_eq_true, Bool.true_beq, Bool.false_beq]))
  intro b1 b2
  rw [arith_i64 (by omega)]
  (simp only [go_sem, vc_block_seq, vc_block_region, vc_block_cond, vc_block_block, Nat.reduceBEq, Nat.reduceAdd, Nat.reduceLeDiff, Nat.reduceEqDiff, Int.reduceAdd, Int.reduceBEq, Int.reduceBNe, reduceCtorEq, beq_self_eq_true, Bool.true_beq, Bool.false_beq]; repeat ((with_reducible refine leK_refl ?_); simp only [go_sem, vc_block_seq, vc_block_region, vc_block_cond, vc_block_block, Nat.reduceBEq, Nat.reduceAdd, Nat.reduceLeDiff, Nat.reduceEqDiff, Int.reduceAdd, Int.reduceBEq, Int.reduceBNe, reduceCtorEq, beq_self_eq_true, Bool.true_beq, Bool.false_beq]))
  refine eff_make (ln := 0) (cn := b.n + 1) Ty.el23 Ty.zero33 rfl rfl (by omega) (by omega) (by omega) ?_
  intro p0 u0 ho0 hs0 hf0 hp0
  (simp only [go_sem, vc_block_seq, vc_block_region, vc_block_cond, vc_block_block, Nat.reduceBEq, Nat.reduceAdd, Nat.reduceLeDiff, Nat.reduceEqDiff, Int.reduceAdd, Int.reduceBEq, Int.reduceBNe, reduceCtorEq, beq_self_eq_true, Bool.true_beq, Bool.false_beq]; repeat ((with_reducible refine leK_refl ?_); simp only [go_sem, vc_block_seq, vc_block_region, vc_block_cond, vc_block_block, Nat.reduceBEq, Nat.reduceAdd, Nat.reduceLeDiff, Nat.reduceEqDiff, Int.reduceAdd, Int.reduceBEq, Int.reduceBNe, reduceCtorEq, beq_self_eq_true, Bool.true_beq, Bool.false_beq]))
  refine vc_range b.n (fun (g : Option Addr × Nat × Nat) => [(3, .v (.slice g.1 g.2.1 g.2.2))]) (fun _ => [])
    (fun k g u' => Sub u u' ∧ g.2.1 = k ∧ ∃ l, EO ParK u u' g.1 g.2.1 g.2.2 l ∧ pps l = (pps b.l).take k ∧ ∀ x ∈ l, x.n ≤ 1000) (p0, 0, b.n + 1) (le_chk (by simp only [go_sem, vc_block_seq, vc_block_region, vc_block_cond, vc_block_block, Nat.reduceBEq, Nat.reduceAdd, Nat.reduceLeDiff, Nat.reduceEqDiff, Int.reduceAdd, Int.reduceBEq, Int.reduceBNe, reduceCtorEq, beq_self_eq_true, Bool.true_beq, Bool.false_beq])) ⟨hs0, rfl, [], ⟨by simpa using ho0, by simp, by simp⟩, by simp, by simp⟩ (fun _ _ => rfl) (by omega) (fun _ => rfl) ?_ ?_
  · rintro k ⟨q, m, d⟩ u1 hk ⟨hs, hmk, l, o1, e1, hl8⟩
    simp only at hmk o1
    subst hmk
    obtain ⟨x, hx⟩ := exAt hk ll
    have hx8 := hb.small x (List.mem_of_getElem? hx)
    (simp only [go_sem, vc_block_seq, vc_block_region, vc_block_cond, vc_block_block, Nat.reduceBEq, Nat.reduceAdd, Nat.reduceLeDiff, Nat.reduceEqDiff, Int.reduceAdd, Int.reduceBEq, Int.reduceBNe, reduceCtorEq, beq_self_eq_true, Bool.true_beq, Bool.false_beq]; repeat ((with_reducible refine leK_refl ?_); simp only [go_sem, vc_block_seq, vc_block_region, vc_block_cond, vc_block_block, Nat.reduceBEq, Nat.reduceAdd, Nat.reduceLeDiff, Nat.reduceEqDiff, Int.reduceAdd, Int.reduceBEq, Int.reduceBNe, reduceCtorEq, beq_self_eq_true, Bool.true_beq, Bool.false_beq]))
    refine ⟨⟨hb.el.sl.some_ hk, by omega, by omega⟩, ?_⟩
    refine (hb.el.sl.mono hs).load (getMap hx) (.inr rfl) (Nat.le_of_ble_eq_true rfl) ?_
    (simp only [go_sem, vc_block_seq, vc_block_region, vc_block_cond, vc_block_block, Nat.reduceBEq, Nat.reduceAdd, Nat.reduceLeDiff, Nat.reduceEqDiff, Int.reduceAdd, Int.reduceBEq, Int.reduceBNe, reduceCtorEq, beq_self_eq_true, Bool.true_beq, Bool.false_beq]; repeat ((with_reducible refine leK_refl ?_); simp only [go_sem, vc_block_seq, vc_block_region, vc_block_cond, vc_block_block, Nat.reduceBEq, Nat.reduceAdd, Nat.reduceLeDiff, Nat.reduceEqDiff, Int.reduceAdd, Int.reduceBEq, Int.reduceBNe, reduceCtorEq, beq_self_eq_true, Bool.true_beq, Bool.false_beq]))
    intro b5
    refine AtCall.of_spec (parcel1_con x u1 ((hb.el.at_ hx).mono hs) hx8) ?_
    rintro r u2 hs2 ⟨z, rfl, hz, hzn, oz⟩
    have hza : Away q (ParK.parts z) := Away.of_fresh o1.own oz.fresh
    (simp only [go_sem, vc_block_seq, vc_block_region, vc_block_cond, vc_block_block, Nat.reduceBEq, Nat.reduceAdd, Nat.reduceLeDiff, Nat.reduceEqDiff, Int.reduceAdd, Int.reduceBEq, Int.reduceBNe, reduceCtorEq, beq_self_eq_true, Bool.true_beq, Bool.false_beq]; repeat ((with_reducible refine leK_refl ?_); simp only [go_sem, vc_block_seq, vc_block_region, vc_block_cond, vc_block_block, Nat.reduceBEq, Nat.reduceAdd, Nat.reduceLeDiff, Nat.reduceEqDiff, Int.reduceAdd, Int.reduceBEq, Int.reduceBNe, reduceCtorEq, beq_self_eq_true, Bool.true_beq, Bool.false_beq]))
    refine eff_lit (n := 1) (vs := [z.val]) Ty.el23 rfl rfl (by intro v hv; simp at hv; subst hv; rfl) (by omega) ?_
    intro pv u3 hov hs3 hfv
    have o3 := o1.mono (hs2.trans hs3)
    have oz3 := (oz.anti hs).mono hs3
    (simp only [go_sem, vc_block_seq, vc_block_region, vc_block_cond, vc_block_block, Nat.reduceBEq, Nat.reduceAdd, Nat.reduceLeDiff, Nat.reduceEqDiff, Int.reduceAdd, Int.reduceBEq, Int.reduceBNe, reduceCtorEq, beq_self_eq_true, Bool.true_beq, Bool.false_beq]; repeat ((with_reducible refine leK_refl ?_); simp only [go_sem, vc_block_seq, vc_block_region, vc_block_cond, vc_block_block, Nat.reduceBEq, Nat.reduceAdd, Nat.reduceLeDiff, Nat.reduceEqDiff, Int.reduceAdd, Int.reduceBEq, Int.reduceBNe, reduceCtorEq, beq_self_eq_true, Bool.true_beq, Bool.false_beq]))
    refine eff_append Ty.el23 o3.own hov.sl (by intro y hy; simp at hy; subst hy; rfl) (by omega) (by omega) ?_
    intro p4 c4 u4 o4 x4 y4
    (simp only [go_sem, vc_block_seq, vc_block_region, vc_block_cond, vc_block_block, Nat.reduceBEq, Nat.reduceAdd, Nat.reduceLeDiff, Nat.reduceEqDiff, Int.reduceAdd, Int.reduceBEq, Int.reduceBNe, reduceCtorEq, beq_self_eq_true, Bool.true_beq, Bool.false_beq]; repeat ((with_reducible refine leK_refl ?_); simp only [go_sem, vc_block_seq, vc_block_region, vc_block_cond, vc_block_block, Nat.reduceBEq, Nat.reduceAdd, Nat.reduceLeDiff, Nat.reduceEqDiff, Int.reduceAdd, Int.reduceBEq, Int.reduceBNe, reduceCtorEq, beq_self_eq_true, Bool.true_beq, Bool.false_beq]))
    refine ⟨(p4, m + 1, c4), le_chk (by simp only [go_sem, vc_block_seq, vc_block_region, vc_block_cond, vc_block_block, Nat.reduceBEq, Nat.reduceAdd, Nat.reduceLeDiff, Nat.reduceEqDiff, Int.reduceAdd, Int.reduceBEq, Int.reduceBNe, reduceCtorEq, beq_self_eq_true, Bool.true_beq, Bool.false_beq]), x4.sub (hs.trans (hs2.trans hs3)) o1.own.fresh, rfl, l ++ [z], o3.push oz3 hza o4 x4 y4, ?_, ?_⟩
    · rw [take_succ (getPs hx), ← e1, ← hz]
      simp
    · intro y hy
      rcases List.mem_append.1 hy with hy | hy
      · exact hl8 y hy
      · simp at hy; subst hy; omega
  · rintro ⟨q, m, d⟩ u1 ⟨hs, hmk, l, o1, e1, hl8⟩
    simp only at hmk o1
    subst hmk
    rw [take_all (by simpa using ll)] at e1
    (simp only [go_sem, vc_block_seq, vc_block_region, vc_block_cond, vc_block_block, Nat.reduceBEq, Nat.reduceAdd, Nat.reduceLeDiff, Nat.reduceEqDiff, Int.reduceAdd, Int.reduceBEq, Int.reduceBNe, reduceCtorEq, beq_self_eq_true, Bool.true_beq, Bool.false_beq]; repeat ((with_reducible refine leK_refl ?_); simp only [go_sem, vc_block_seq, vc_block_region, vc_block_cond, vc_block_block, Nat.reduceBEq, Nat.reduceAdd, Nat.reduceLeDiff, Nat.reduceEqDiff, Int.reduceAdd, Int.reduceBEq, Int.reduceBNe, reduceCtorEq, beq_self_eq_true, Bool.true_beq, Bool.false_beq]))
    exact ⟨hs, q, d, l, rfl, o1, e1, hl8⟩

theorem appended1_call (b : PN) (x : PP) (u0 u : World) (hS : Sub u0 u) (hb : EO ParK u0 u b.p b.n b.c b.l) (hn : b.n ≤ 1000) (hr : (b.n : Int) < b.room) (h8 : ∀ x ∈ b.l, x.n ≤ 1000) (hx : There u (ParK.parts x)) (hx8 : x.n ≤ 1000) :
    AtCall false Try.prog 23 [b.val, x.val] u0 u (fun r u' => Sub u0 u' ∧ ∃ p c l, r = (PN.mk b.room p (b.n + 1) c l b.lost).val ∧ EO ParK u0 u' p (b.n + 1) c l ∧ pps l = pps b.l ++ [x.g] ∧ ∀ x ∈ l, x.n ≤ 1000) := by
  have ll := hb.len
  refine .inl (call_of_vc Ty.mixed Try.func23 rfl (by kernel_rfl) (by kernel_rfl) rfl [.cell 4 25] rfl ?_)
  (simp only [go_sem, vc_block_seq, vc_block_region, vc_block_cond, vc_block_block, Nat.reduceBEq, Nat.reduceAdd, Nat.reduceLeDiff, Nat.reduceEqDiff, Int.reduceAdd, Int.reduceBEq, Int.reduceBNe, reduceCtorEq, beq_self_eq_true, Bool.true_beq, Bool.false_beq]; repeat ((with_reducible refine leK_refl ?_); simp only [go_sem, vc_block_seq, vc_block_region, vc_block_cond, vc_block_block, Nat.reduceBEq, Nat.reduceAdd, Nat.reduceLeDiff, Nat.reduceEqDiff, Int.reduceAdd, Int.reduceBEq, Int.reduceBNe, reduceCtorEq, beq_self_eq_true, Bool.true_beq, Bool.false_beq]))
  intro b2 b3 b4
  rw [decide_eq_true hr]
  (simp only [go_sem, vc_block_seq, vc_block_region, vc_block_cond, vc_block_block, Nat.reduceBEq, Nat.reduceAdd, Nat.reduceLeDiff, Nat.reduceEqDiff, Int.reduceAdd, Int.reduceBEq, Int.reduceBNe, reduceCtorEq, beq_self_eq_true, Bool.true_beq, Bool.false_beq]; repeat ((with_reducible refine leK_refl ?_); simp only [go_sem, vc_block_seq, vc_block_region, vc_block_cond, vc_block_block, Nat.reduceBEq, Nat.reduceAdd, Nat.reduceLeDiff, Nat.reduceEqDiff, Int.reduceAdd, Int.reduceBEq, Int.reduceBNe, reduceCtorEq, beq_self_eq_true, Bool.true_beq, Bool.false_beq]))
  refine .inl ⟨[(0, false), (2, false), (1, false), (3, true), (4, true), (5, false), (6, false), (7, false)], by kernel_rfl, ?_⟩
  (simp only [go_sem, vc_block_seq, vc_block_region, vc_block_cond, vc_block_block, Nat.reduceBEq, Nat.reduceAdd, Nat.reduceLeDiff, Nat.reduceEqDiff, Int.reduceAdd, Int.reduceBEq, Int.reduceBNe, reduceCtorEq, beq_self_eq_true, Bool.true_beq, Bool.false_beq]; repeat ((with_reducible refine leK_refl ?_); simp only [go_sem, vc_block_seq, vc_block_region, vc_block_cond, vc_block_block, Nat.reduceBEq, Nat.reduceAdd, Nat.reduceLeDiff, Nat.reduceEqDiff, Int.reduceAdd, Int.reduceBEq, Int.reduceBNe, reduceCtorEq, beq_self_eq_true, Bool.true_beq, Bool.false_beq]))
  refine AtCall.of_spec (parcel1_con x u hx hx8) ?_
  rintro r u2 hs2 ⟨z, rfl, hz, hzn, oz⟩
  have hza : Away b.p (ParK.parts z) := Away.of_fresh hb.own oz.fresh
  (simp only [go_sem, vc_block_seq, vc_block_region, vc_block_cond, vc_block_block, Nat.reduceBEq, Nat.reduceAdd, Nat.reduceLeDiff, Nat.reduceEqDiff, Int.reduceAdd, Int.reduceBEq, Int.reduceBNe, reduceCtorEq, beq_self_eq_true, Bool.true_beq, Bool.false_beq]; repeat ((with_reducible refine leK_refl ?_); simp only [go_sem, vc_block_seq, vc_block_region, vc_block_cond, vc_block_block, Nat.reduceBEq, Nat.reduceAdd, Nat.reduceLeDiff, Nat.reduceEqDiff, Int.reduceAdd, Int.reduceBEq, Int.reduceBNe, reduceCtorEq, beq_self_eq_true, Bool.true_beq, Bool.false_beq]))
  refine eff_lit (n := 1) (vs := [z.val]) Ty.el23 rfl rfl (by intro v hv; simp at hv; subst hv; rfl) (by omega) ?_
  intro pv u3 hov hs3 hfv
  have o3 := hb.mono (hs2.trans hs3)
  have oz3 := (oz.anti hS).mono hs3
  (simp only [go_sem, vc_block_seq, vc_block_region, vc_block_cond, vc_block_block, Nat.reduceBEq, Nat.reduceAdd, Nat.reduceLeDiff, Nat.reduceEqDiff, Int.reduceAdd, Int.reduceBEq, Int.reduceBNe, reduceCtorEq, beq_self_eq_true, Bool.true_beq, Bool.false_beq]; repeat ((with_reducible refine leK_refl ?_); simp only [go_sem, vc_block_seq, vc_block_region, vc_block_cond, vc_block_block, Nat.reduceBEq, Nat.reduceAdd, Nat.reduceLeDiff, Nat.reduceEqDiff, Int.reduceAdd, Int.reduceBEq, Int.reduceBNe, reduceCtorEq, beq_self_eq_true, Bool.true_beq, Bool.false_beq]))
  refine eff_append Ty.el23 o3.own hov.sl (by intro y hy; simp at hy; subst hy; rfl) (by omega) (by omega) ?_
  intro p4 c4 u4 o4 x4 y4
  (simp only [go_sem, vc_block_seq, vc_block_region, vc_block_cond, vc_block_block, Nat.reduceBEq, Nat.reduceAdd, Nat.reduceLeDiff, Nat.reduceEqDiff, Int.reduceAdd, Int.reduceBEq, Int.reduceBNe, reduceCtorEq, beq_self_eq_true, Bool.true_beq, Bool.false_beq]; repeat ((with_reducible refine leK_refl ?_); simp only [go_sem, vc_block_seq, vc_block_region, vc_block_cond, vc_block_block, Nat.reduceBEq, Nat.reduceAdd, Nat.reduceLeDiff, Nat.reduceEqDiff, Int.reduceAdd, Int.reduceBEq, Int.reduceBNe, reduceCtorEq, beq_self_eq_true, Bool.true_beq, Bool.false_beq]))
  refine ⟨x4.sub (hS.trans (hs2.trans hs3)) hb.own.fresh, p4, c4, b.l ++ [z], rfl, o3.push oz3 hza o4 x4 y4, ?_, ?_⟩
  · rw [← hz]; simp
  · intro y hy
    rcases List.mem_append.1 hy with hy | hy
    · exact h8 y hy
    · simp at hy; subst hy; omega

theorem send1_con (b : PN) (to : UInt8) (f : List UInt8) (p : Option Addr) (n c : Nat) (u : World) (hb : NL u b) (hr : (b.n : Int) < b.room) (hf : Sl u 1 p n c (f.map encB)) (hn : n ≤ 1000) :
    Con Try.prog 8 [b.val, .int .u8 to.toNat, .slice p n c] u (fun r u' => ∃ p' c' l, r = (PN.mk b.room p' (b.n + 1) c' l b.lost).val ∧ EO ParK u u' p' (b.n + 1) c' l ∧ pps l = pps b.l ++ [⟨to, false, f⟩] ∧ ∀ x ∈ l, x.n ≤ 1000) := by
  refine spec_of_vc Ty.mixed Try.func8 rfl (by kernel_rfl) (by kernel_rfl) rfl [.cell 6 25] rfl ?_
  (simp only [go_sem, vc_block_seq, vc_block_region, vc_block_cond, vc_block_block, Nat.reduceBEq, Nat.reduceAdd, Nat.reduceLeDiff, Nat.reduceEqDiff, Int.reduceAdd, Int.reduceBEq, Int.reduceBNe, reduceCtorEq, beq_self_eq_true, Bool.true_beq, Bool.false_beq]; repeat ((with_reducible refine leK_refl ?_); simp only [go_sem, vc_block_seq, vc_block_region, vc_block_cond, vc_block_block, Nat.reduceBEq, Nat.reduceAdd, Nat.reduceLeDiff, Nat.reduceEqDiff, Int.reduceAdd, Int.reduceBEq, Int.reduceBNe, reduceCtorEq, beq_self_eq_true, Bool.true_beq, Bool.false_beq]))
  intro b1 b2
  refine AtCall.of_spec (fresh1_con b u hb) ?_
  rintro r u1 hs1 ⟨p1, c1, l1, rfl, o1, e1, h8⟩
  (simp only [go_sem, vc_block_seq, vc_block_region, vc_block_cond, vc_block_block, Nat.reduceBEq, Nat.reduceAdd, Nat.reduceLeDiff, Nat.reduceEqDiff, Int.reduceAdd, Int.reduceBEq, Int.reduceBNe, reduceCtorEq, beq_self_eq_true, Bool.true_beq, Bool.false_beq]; repeat ((with_reducible refine leK_refl ?_); simp only [go_sem, vc_block_seq, vc_block_region, vc_block_cond, vc_block_block, Nat.reduceBEq, Nat.reduceAdd, Nat.reduceLeDiff, Nat.reduceEqDiff, Int.reduceAdd, Int.reduceBEq, Int.reduceBNe, reduceCtorEq, beq_self_eq_true, Bool.true_beq, Bool.false_beq]))
  refine AtCall.mono (fun r u' h => ?_) (appended1_call ⟨b.room, p1, b.n, c1, l1, b.lost⟩ ⟨⟨to, false, f⟩, p, n, c⟩ u u1 hs1 o1 hb.len hr h8 (par_there (hf.mono hs1)) hn)
  obtain ⟨hs2, p2, c2, l2, rfl, o2, e2, h82⟩ := h
  (simp only [go_sem, vc_block_seq, vc_block_region, vc_block_cond, vc_block_block, Nat.reduceBEq, Nat.reduceAdd, Nat.reduceLeDiff, Nat.reduceEqDiff, Int.reduceAdd, Int.reduceBEq, Int.reduceBNe, reduceCtorEq, beq_self_eq_true, Bool.true_beq, Bool.false_beq]; repeat ((with_reducible refine leK_refl ?_); simp only [go_sem, vc_block_seq, vc_block_region, vc_block_cond, vc_block_block, Nat.reduceBEq, Nat.reduceAdd, Nat.reduceLeDiff, Nat.reduceEqDiff, Int.reduceAdd, Int.reduceBEq, Int.reduceBNe, reduceCtorEq, beq_self_eq_true, Bool.true_beq, Bool.false_beq]))
  exact ⟨hs2, p2, c2, l2, rfl, o2, by rw [e2, e1], h82⟩
end Go.Proofs.Ytgpmgnbjpfggmaa
