/-
  Walks: pull.those, Drop, Tick.
-/
import Derived.Test.YthjgnpelmigbeaaPd
set_option linter.unusedSimpArgs false
set_option linter.unusedVariables false
namespace Go.Proofs.Ythjgnpelmigbeaa
open Go.Eng
attribute [local go_sem] GID.val GAsk.val GID.enc GAsk.enc

/-- A closure that tells which asks stay, and may write blocks of its own (the set that it has at the time). -/
structure Clo (f : FuncId) (first captured : List Value) (u0 : World) (l : List GAsk) (q : GAsk → Bool) (Inv : Nat → (Nat → Prop) → World → Prop) : Prop where
  known : ∀ k S u b, Inv k S u → S b → ¬ Fresh u b ∧ Fresh u0 b
  stable : ∀ k S u u', Inv k S u → (∀ (b : Nat) (o : Obj), S b → u.heap[b]? = some o → o ≠ junk → u'.heap[b]? = some o) → Inv k S u'
  step : ∀ k x S u, l[k]? = some x → Sub u0 u → Inv k S u → ∀ K : Value → World → Prop,
    (∀ S' u', Inv (k + 1) S' u' → (∀ (b : Nat) (o : Obj), ¬ S b → u.heap[b]? = some o → o ≠ junk → u'.heap[b]? = some o) → (∀ b, S' b → S b ∨ Fresh u b) → K (.bool (q x)) u') →
    AtCall false Try.prog f (first ++ [x.val] ++ captured) u0 u K

theorem those_call (q : GAsk → Bool) (l : List GAsk) (p : Option Addr) (n c : Nat) (f : FuncId) (first captured : List Value) (u0 u : World) (Inv : Nat → (Nat → Prop) → World → Prop) (S0 : Nat → Prop)
    (hl : Sl u0 5 p n c (l.map GAsk.enc)) (h0 : Sub u0 u) (hb : n * 12 ≤ 140737488355328) (hc : Clo f first captured u0 l q Inv) (hi : Inv 0 S0 u) {K : Value → World → Prop}
    (hK : ∀ p' m c' S' u', Own u0 u' 28 5 p' m c' ((l.filter q).map GAsk.enc) → Sub u0 u' → Inv n S' u' → (∀ a, p' = some a → ¬ S' a.block) →
      (∀ (b : Nat) (o : Obj), ¬ S0 b → u.heap[b]? = some o → o ≠ junk → u'.heap[b]? = some o) → K (.slice p' m c') u') :
    AtCall false Try.prog 30 [.slice p n c, .func (.func f) first.toArray captured.toArray] u0 u K := by
  have hlen : l.length = n := by simpa using hl.len
  refine .inl (call_of_vc Ty.mixed Try.func30 rfl (by kernel_rfl) (by kernel_rfl) rfl [.tmp 4] rfl ?_)
  (simp only [go_sem, vc_block_seq, vc_block_region, vc_block_cond, vc_block_block, Nat.reduceBEq, Nat.reduceAdd, Nat.reduceLeDiff, Nat.reduceEqDiff, Int.reduceAdd, Int.reduceBEq, Int.reduceBNe, reduceCtorEq, beq_self_eq_true, Bool.true_beq, Bool.false_beq]; repeat ((with_reducible refine leK_refl ?_); simp only [go_sem, vc_block_seq, vc_block_region, vc_block_cond, vc_block_block, Nat.reduceBEq, Nat.reduceAdd, Nat.reduceLeDiff, Nat.reduceEqDiff, Int.reduceAdd, Int.reduceBEq, Int.reduceBNe, reduceCtorEq, beq_self_eq_true, Bool.true_beq, Bool.false_beq]))
  refine vc_range n (fun (g : Option Addr × Nat × Nat) => [(5, .v (.slice g.1 g.2.1 g.2.2))]) (fun _ => [])
    (fun k g u' => Sub u0 u' ∧ g.2.1 ≤ k ∧ Own u0 u' 28 5 g.1 g.2.1 g.2.2 (((l.take k).filter q).map GAsk.enc) ∧ ∃ S, Inv k S u' ∧ (∀ a, g.1 = some a → ¬ S a.block) ∧ (∀ b, S b → S0 b ∨ Fresh u b) ∧
      (∀ a, g.1 = some a → S0 a.block ∨ Fresh u a.block) ∧ (∀ (b : Nat) (o : Obj), ¬ S0 b → u.heap[b]? = some o → o ≠ junk → u'.heap[b]? = some o))
    (none, 0, 0) (le_chk (by simp only [go_sem, vc_block_seq, vc_block_region, vc_block_cond, vc_block_block, Nat.reduceBEq, Nat.reduceAdd, Nat.reduceLeDiff, Nat.reduceEqDiff, Int.reduceAdd, Int.reduceBEq, Int.reduceBNe, reduceCtorEq, beq_self_eq_true, Bool.true_beq, Bool.false_beq])) ⟨h0, Nat.le_refl _, by simpa using Own.nil_ _ _ _ _, S0, hi, (fun a ha => by cases ha), (fun b hb => .inl hb), (fun a ha => by cases ha), fun b o _ h _ => h⟩ (fun _ _ => rfl) (by omega) (fun _ => rfl) ?_ ?_
  · rintro k ⟨pl, m, cl⟩ u1 hk ⟨hs1, hm, ho, S, hI, hS, hSu, hpf, hpr⟩
    simp only at hm ho hS hpf
    obtain ⟨x, hx⟩ := exAt hk hlen
    (simp only [go_sem, vc_block_seq, vc_block_region, vc_block_cond, vc_block_block, Nat.reduceBEq, Nat.reduceAdd, Nat.reduceLeDiff, Nat.reduceEqDiff, Int.reduceAdd, Int.reduceBEq, Int.reduceBNe, reduceCtorEq, beq_self_eq_true, Bool.true_beq, Bool.false_beq]; repeat ((with_reducible refine leK_refl ?_); simp only [go_sem, vc_block_seq, vc_block_region, vc_block_cond, vc_block_block, Nat.reduceBEq, Nat.reduceAdd, Nat.reduceLeDiff, Nat.reduceEqDiff, Int.reduceAdd, Int.reduceBEq, Int.reduceBNe, reduceCtorEq, beq_self_eq_true, Bool.true_beq, Bool.false_beq]))
    refine ⟨⟨hl.some_ hk, by omega, by omega⟩, ?_⟩
    refine (hl.mono hs1).load (getMap hx) (.inr rfl) (Nat.le_of_ble_eq_true rfl) ?_
    (simp only [go_sem, vc_block_seq, vc_block_region, vc_block_cond, vc_block_block, Nat.reduceBEq, Nat.reduceAdd, Nat.reduceLeDiff, Nat.reduceEqDiff, Int.reduceAdd, Int.reduceBEq, Int.reduceBNe, reduceCtorEq, beq_self_eq_true, Bool.true_beq, Bool.false_beq]; repeat ((with_reducible refine leK_refl ?_); simp only [go_sem, vc_block_seq, vc_block_region, vc_block_cond, vc_block_block, Nat.reduceBEq, Nat.reduceAdd, Nat.reduceLeDiff, Nat.reduceEqDiff, Int.reduceAdd, Int.reduceBEq, Int.reduceBNe, reduceCtorEq, beq_self_eq_true, Bool.true_beq, Bool.false_beq]))
    intro b1
    refine hc.step k x S u1 hx hs1 hI _ ?_
    intro S2 u2 hI2 hp2 hS2
    have hfr : ∀ b, S b → Fresh u0 b := fun b hb => (hc.known k S u1 b hI hb).2
    have hs2 : Sub u0 u2 := fun b o hb ho => hp2 b o (fun h => ho (hfr b h o hb)) (hs1 b o hb ho) ho
    have ho2 : Own u0 u2 28 5 pl m cl (((l.take k).filter q).map GAsk.enc) := ⟨ho.len, ho.each, ho.at_.imp id fun ⟨g, cur, h1, h2, h3⟩ => ⟨g, cur, h1, hp2 _ _ (hS _ h1) h2 cells_ne_junk, h3⟩⟩
    have hS2' : ∀ a, pl = some a → ¬ S2 a.block := fun a ha h => by
      rcases hS2 _ h with h | h
      · exact hS a ha h
      · exact ho.known ha h
    have hSu2 : ∀ b, S2 b → S0 b ∨ Fresh u b := fun b hb => by
      rcases hS2 b hb with h | h
      · exact hSu b h
      · by_cases hs0 : S0 b
        · exact .inl hs0
        · exact .inr (fun o ho => Classical.byContradiction fun hn => hn (h o (hpr b o hs0 ho hn)))
    have hpr2 : ∀ (b : Nat) (o : Obj), ¬ S0 b → u.heap[b]? = some o → o ≠ junk → u2.heap[b]? = some o := fun b o hb ho hn => by
      refine hp2 b o (fun h => ?_) (hpr b o hb ho hn) hn
      rcases hSu b h with h | h
      · exact hb h
      · exact hn (h o ho)
    (simp only [go_sem, vc_block_seq, vc_block_region, vc_block_cond, vc_block_block, Nat.reduceBEq, Nat.reduceAdd, Nat.reduceLeDiff, Nat.reduceEqDiff, Int.reduceAdd, Int.reduceBEq, Int.reduceBNe, reduceCtorEq, beq_self_eq_true, Bool.true_beq, Bool.false_beq]; repeat ((with_reducible refine leK_refl ?_); simp only [go_sem, vc_block_seq, vc_block_region, vc_block_cond, vc_block_block, Nat.reduceBEq, Nat.reduceAdd, Nat.reduceLeDiff, Nat.reduceEqDiff, Int.reduceAdd, Int.reduceBEq, Int.reduceBNe, reduceCtorEq, beq_self_eq_true, Bool.true_beq, Bool.false_beq]))
    refine cond_split (fun h => ?_) (fun h => ?_)
    · (simp only [go_sem, vc_block_seq, vc_block_region, vc_block_cond, vc_block_block, Nat.reduceBEq, Nat.reduceAdd, Nat.reduceLeDiff, Nat.reduceEqDiff, Int.reduceAdd, Int.reduceBEq, Int.reduceBNe, reduceCtorEq, beq_self_eq_true, Bool.true_beq, Bool.false_beq]; repeat ((with_reducible refine leK_refl ?_); simp only [go_sem, vc_block_seq, vc_block_region, vc_block_cond, vc_block_block, Nat.reduceBEq, Nat.reduceAdd, Nat.reduceLeDiff, Nat.reduceEqDiff, Int.reduceAdd, Int.reduceBEq, Int.reduceBNe, reduceCtorEq, beq_self_eq_true, Bool.true_beq, Bool.false_beq]))
      refine eff_lit (n := 1) (vs := [x.val]) Ty.el22 rfl rfl (by intro v hv; simp at hv; subst hv; rfl) (by omega) ?_
      intro pv u3 hov hs3 hfv
      (simp only [go_sem, vc_block_seq, vc_block_region, vc_block_cond, vc_block_block, Nat.reduceBEq, Nat.reduceAdd, Nat.reduceLeDiff, Nat.reduceEqDiff, Int.reduceAdd, Int.reduceBEq, Int.reduceBNe, reduceCtorEq, beq_self_eq_true, Bool.true_beq, Bool.false_beq]; repeat ((with_reducible refine leK_refl ?_); simp only [go_sem, vc_block_seq, vc_block_region, vc_block_cond, vc_block_block, Nat.reduceBEq, Nat.reduceAdd, Nat.reduceLeDiff, Nat.reduceEqDiff, Int.reduceAdd, Int.reduceBEq, Int.reduceBNe, reduceCtorEq, beq_self_eq_true, Bool.true_beq, Bool.false_beq]))
      refine eff_append Ty.el22 (ho2.mono hs3) hov.sl (by intro y hy; simp at hy; subst hy; rfl) (by omega) (by omega) ?_
      intro p4 c4 u4 ho4 hs4 hp4
      (simp only [go_sem, vc_block_seq, vc_block_region, vc_block_cond, vc_block_block, Nat.reduceBEq, Nat.reduceAdd, Nat.reduceLeDiff, Nat.reduceEqDiff, Int.reduceAdd, Int.reduceBEq, Int.reduceBNe, reduceCtorEq, beq_self_eq_true, Bool.true_beq, Bool.false_beq]; repeat ((with_reducible refine leK_refl ?_); simp only [go_sem, vc_block_seq, vc_block_region, vc_block_cond, vc_block_block, Nat.reduceBEq, Nat.reduceAdd, Nat.reduceLeDiff, Nat.reduceEqDiff, Int.reduceAdd, Int.reduceBEq, Int.reduceBNe, reduceCtorEq, beq_self_eq_true, Bool.true_beq, Bool.false_beq]))
      refine ⟨(p4, m + 1, c4), le_chk (by simp only [go_sem, vc_block_seq, vc_block_region, vc_block_cond, vc_block_block, Nat.reduceBEq, Nat.reduceAdd, Nat.reduceLeDiff, Nat.reduceEqDiff, Int.reduceAdd, Int.reduceBEq, Int.reduceBNe, reduceCtorEq, beq_self_eq_true, Bool.true_beq, Bool.false_beq]), hs4.sub (hs2.trans hs3) ho2.fresh, by simp only; omega, ?_, S2, ?_, ?_, hSu2, ?_, ?_⟩
      · rw [take_succ hx, List.filter_append, List.map_append]
        simpa [h, GAsk.cells] using ho4
      · refine hc.stable _ _ _ _ (hc.stable _ _ _ _ hI2 (fun b o hb ho hn => hs3 b o ho hn)) (fun b o hb ho hn => hs4 b o (fun a ha e => hS2' a ha (e ▸ hb)) ho hn)
      · intro a ha h4
        rcases hp4 with rfl | hp4
        · exact hS2' a ha h4
        · exact (hc.known _ _ _ _ (hc.stable _ _ _ _ hI2 (fun b o hb ho hn => hs3 b o ho hn)) h4).1 (hp4 a ha)
      · intro a ha
        rcases hp4 with rfl | hp4
        · exact hpf a ha
        · by_cases hs0 : S0 a.block
          · exact .inl hs0
          · exact .inr (fun o ho => Classical.byContradiction fun hn => hn (hp4 a ha o (hs3 _ _ (hpr2 _ o hs0 ho hn) hn)))
      · intro b o hb ho hn
        exact hs4 b o (fun a ha e => by rcases hpf a ha with h | h; exact hb (e ▸ h); exact hn (h o (e ▸ ho))) (hs3 b o (hpr2 b o hb ho hn) hn) hn
    · (simp only [go_sem, vc_block_seq, vc_block_region, vc_block_cond, vc_block_block, Nat.reduceBEq, Nat.reduceAdd, Nat.reduceLeDiff, Nat.reduceEqDiff, Int.reduceAdd, Int.reduceBEq, Int.reduceBNe, reduceCtorEq, beq_self_eq_true, Bool.true_beq, Bool.false_beq]; repeat ((with_reducible refine leK_refl ?_); simp only [go_sem, vc_block_seq, vc_block_region, vc_block_cond, vc_block_block, Nat.reduceBEq, Nat.reduceAdd, Nat.reduceLeDiff, Nat.reduceEqDiff, Int.reduceAdd, Int.reduceBEq, Int.reduceBNe, reduceCtorEq, beq_self_eq_true, Bool.true_beq, Bool.false_beq]))
      refine ⟨(pl, m, cl), le_chk (by simp only [go_sem, vc_block_seq, vc_block_region, vc_block_cond, vc_block_block, Nat.reduceBEq, Nat.reduceAdd, Nat.reduceLeDiff, Nat.reduceEqDiff, Int.reduceAdd, Int.reduceBEq, Int.reduceBNe, reduceCtorEq, beq_self_eq_true, Bool.true_beq, Bool.false_beq]), hs2, by simp only; omega, ?_, S2, hI2, hS2', hSu2, hpf, hpr2⟩
      rw [take_succ hx, List.filter_append, List.map_append]
      simpa [h] using ho2
  · rintro ⟨pl, m, cl⟩ u1 ⟨hs1, hm, ho, S, hI, hS, hSu, hpf, hpr⟩
    simp only at hm ho hS hpf
    rw [take_all hlen] at ho
    (simp only [go_sem, vc_block_seq, vc_block_region, vc_block_cond, vc_block_block, Nat.reduceBEq, Nat.reduceAdd, Nat.reduceLeDiff, Nat.reduceEqDiff, Int.reduceAdd, Int.reduceBEq, Int.reduceBNe, reduceCtorEq, beq_self_eq_true, Bool.true_beq, Bool.false_beq]; repeat ((with_reducible refine leK_refl ?_); simp only [go_sem, vc_block_seq, vc_block_region, vc_block_cond, vc_block_block, Nat.reduceBEq, Nat.reduceAdd, Nat.reduceLeDiff, Nat.reduceEqDiff, Int.reduceAdd, Int.reduceBEq, Int.reduceBNe, reduceCtorEq, beq_self_eq_true, Bool.true_beq, Bool.false_beq]))
    exact hK pl m cl S u1 ho hs1 hI hS hpr

end Go.Proofs.Ythjgnpelmigbeaa
