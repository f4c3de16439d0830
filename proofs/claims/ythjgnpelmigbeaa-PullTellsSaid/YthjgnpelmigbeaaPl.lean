/-
  Walks: the document's own Tick.
-/
import Derived.Test.YthjgnpelmigbeaaPk
set_option linter.unusedSimpArgs false
set_option linter.unusedVariables false
namespace Go.Proofs.Ythjgnpelmigbeaa
open Go.Eng
attribute [local go_sem] GID.val GAsk.val GID.enc GAsk.enc

theorem rtick_con (l : List GAsk) (p : Option Addr) (n c : Nat) (u : World) (hl : Sl u 5 p n c (l.map GAsk.enc)) (hb : n * 12 ≤ 140737488355328) :
    Con Try.prog 20 [.slice p n c] u (fun r u' => ∃ p1 m1 c1 p2 m2 c2, r = .tuple #[.slice p1 m1 c1, .slice p2 m2 c2] ∧ Own u u' 28 5 p1 m1 c1 ((pTick l).map GAsk.enc) ∧ Own u u' 26 3 p2 m2 c2 ((pGone l).map GID.enc)) := by
  have hlen : l.length = n := by simpa using hl.len
  refine spec_of_vc Ty.mixed Try.func20 rfl (by kernel_rfl) (by kernel_rfl) rfl [.tmp 2, .tmp 3] rfl ?_
  simp only [go_sem, Nat.reduceBEq, Nat.reduceAdd, Nat.reduceLeDiff, Nat.reduceEqDiff, Int.reduceAdd, Int.reduceBEq, Int.reduceBNe, reduceCtorEq]
  refine vc_for (fun (g : Nat × (Option Addr × Nat × Nat) × Option Addr × Nat × Nat) => [(6, .v (.int .i64 g.1)), (4, .v (.slice g.2.1.1 g.2.1.2.1 g.2.1.2.2)), (5, .v (.slice g.2.2.1 g.2.2.2.1 g.2.2.2.2))]) (fun _ => [])
    (fun g u' => Sub u u' ∧ g.1 ≤ n ∧ g.2.1.2.1 ≤ g.1 ∧ g.2.2.2.1 ≤ g.1 ∧ Own u u' 28 5 g.2.1.1 g.2.1.2.1 g.2.1.2.2 ((pTick (l.take g.1)).map GAsk.enc) ∧ Own u u' 26 3 g.2.2.1 g.2.2.2.1 g.2.2.2.2 ((pGone (l.take g.1)).map GID.enc) ∧
      ∀ a b, g.2.1.1 = some a → g.2.2.1 = some b → a.block ≠ b.block) (fun g => n - g.1) (0, (none, 0, 0), none, 0, 0) (le_chk (by simp only [go_sem, Nat.reduceBEq, Nat.reduceAdd, Nat.reduceLeDiff, Nat.reduceEqDiff, Int.reduceAdd, Int.reduceBEq, Int.reduceBNe, reduceCtorEq]; rfl))
      ⟨Sub.refl _, Nat.zero_le _, Nat.le_refl _, Nat.le_refl _, by simpa [pTick] using Own.nil_ _ _ _ _, by simpa [pGone] using Own.nil_ _ _ _ _, fun a b h => by cases h⟩ ?_
  rintro ⟨k, ⟨q, m, d⟩, q', m', d'⟩ u1 ⟨hs, hkn, hm, hm', ho, ho', hne⟩
  simp only at hkn hm hm' ho ho' hne
  simp only [go_sem, Nat.reduceBEq, Nat.reduceAdd, Nat.reduceLeDiff, Nat.reduceEqDiff, Int.reduceAdd, Int.reduceBEq, Int.reduceBNe, reduceCtorEq]
  refine cond_dec (fun h => ?_) (fun h => ?_)
  · have hk : k < n := by omega
    obtain ⟨y, hy⟩ := exAt hk hlen
    simp only [go_sem, Nat.reduceBEq, Nat.reduceAdd, Nat.reduceLeDiff, Nat.reduceEqDiff, Int.reduceAdd, Int.reduceBEq, Int.reduceBNe, reduceCtorEq]
    refine ⟨⟨hl.some_ hk, by omega, by omega⟩, ?_⟩
    refine (hl.mono hs).load (getMap hy) (.inr rfl) (Nat.le_of_ble_eq_true rfl) ?_
    simp only [go_sem, Nat.reduceBEq, Nat.reduceAdd, Nat.reduceLeDiff, Nat.reduceEqDiff, Int.reduceAdd, Int.reduceBEq, Int.reduceBNe, reduceCtorEq]
    intro b1
    refine cond_dec (fun h => ?_) (fun h => ?_)
    · have h1 : y.left.toNat ≤ 1 := by omega
      simp only [go_sem, Nat.reduceBEq, Nat.reduceAdd, Nat.reduceLeDiff, Nat.reduceEqDiff, Int.reduceAdd, Int.reduceBEq, Int.reduceBNe, reduceCtorEq]
      refine eff_lit (n := 1) (vs := [y.id.val]) Ty.el33 rfl rfl (by intro v hv; simp at hv; subst hv; rfl) (by omega) ?_
      intro pv u3 hov hs3 hfv
      simp only [go_sem, Nat.reduceBEq, Nat.reduceAdd, Nat.reduceLeDiff, Nat.reduceEqDiff, Int.reduceAdd, Int.reduceBEq, Int.reduceBNe, reduceCtorEq]
      refine eff_append Ty.el33 (ho'.mono hs3) hov.sl (by intro y hy; simp at hy; subst hy; rfl) (by omega) (by omega) ?_
      intro p4 c4 u4 ho4 hs4 hp4
      simp only [go_sem, Nat.reduceBEq, Nat.reduceAdd, Nat.reduceLeDiff, Nat.reduceEqDiff, Int.reduceAdd, Int.reduceBEq, Int.reduceBNe, reduceCtorEq]
      rw [arith_i64 (by omega)]
      simp only [go_sem, Nat.reduceBEq, Nat.reduceAdd, Nat.reduceLeDiff, Nat.reduceEqDiff, Int.reduceAdd, Int.reduceBEq, Int.reduceBNe, reduceCtorEq]
      refine ⟨(k + 1, (q, m, d), p4, m' + 1, c4), le_chk (by simp only [go_sem, Nat.reduceBEq, Nat.reduceAdd, Nat.reduceLeDiff, Nat.reduceEqDiff, Int.reduceAdd, Int.reduceBEq, Int.reduceBNe, reduceCtorEq]; rfl), ⟨hs4.sub (hs.trans hs3) ho'.fresh, by simp only; omega, by simp only; omega, by simp only; omega, ?_, ?_, ?_⟩, by simp only; omega⟩
      · simp only
        rw [take_succ hy, pTick, List.filter_append]
        simpa [h1, pTick] using (ho.mono hs3).subX hs4 hne
      · simp only
        rw [take_succ hy, pGone, List.filter_append, List.map_append, List.map_append]
        simpa [h1, pGone, GID.cells] using ho4
      · simp only
        intro a b ha hb
        rcases hp4 with rfl | hp4
        · exact hne a b ha hb
        · intro e
          exact (ho.mono hs3).known ha (e ▸ hp4 b hb)
    · have h1 : ¬ y.left.toNat ≤ 1 := by omega
      have hlt := y.left.toNat_lt
      simp only [go_sem, Nat.reduceBEq, Nat.reduceAdd, Nat.reduceLeDiff, Nat.reduceEqDiff, Int.reduceAdd, Int.reduceBEq, Int.reduceBNe, reduceCtorEq]
      have e1 : (y.left - 1).toNat = y.left.toNat - 1 := by
        rw [UInt8.toNat_sub_of_le _ _ (by rw [UInt8.le_iff_toNat_le]; simp; omega)]; rfl
      rw [arith_u8 (by omega), show ((y.left.toNat : Int) - 1) = ((y.less1.left.toNat : Nat) : Int) from by simp only [GAsk.less1, e1]; omega]
      simp only [go_sem, Nat.reduceBEq, Nat.reduceAdd, Nat.reduceLeDiff, Nat.reduceEqDiff, Int.reduceAdd, Int.reduceBEq, Int.reduceBNe, reduceCtorEq]
      refine eff_lit (n := 1) (vs := [y.less1.val]) Ty.el22 rfl rfl (by intro v hv; simp at hv; subst hv; rfl) (by omega) ?_
      intro pv u3 hov hs3 hfv
      simp only [go_sem, Nat.reduceBEq, Nat.reduceAdd, Nat.reduceLeDiff, Nat.reduceEqDiff, Int.reduceAdd, Int.reduceBEq, Int.reduceBNe, reduceCtorEq]
      refine eff_append Ty.el22 (ho.mono hs3) hov.sl (by intro y hy; simp at hy; subst hy; rfl) (by omega) (by omega) ?_
      intro p4 c4 u4 ho4 hs4 hp4
      simp only [go_sem, Nat.reduceBEq, Nat.reduceAdd, Nat.reduceLeDiff, Nat.reduceEqDiff, Int.reduceAdd, Int.reduceBEq, Int.reduceBNe, reduceCtorEq]
      rw [arith_i64 (by omega)]
      simp only [go_sem, Nat.reduceBEq, Nat.reduceAdd, Nat.reduceLeDiff, Nat.reduceEqDiff, Int.reduceAdd, Int.reduceBEq, Int.reduceBNe, reduceCtorEq]
      refine ⟨(k + 1, (p4, m + 1, c4), q', m', d'), le_chk (by simp only [go_sem, Nat.reduceBEq, Nat.reduceAdd, Nat.reduceLeDiff, Nat.reduceEqDiff, Int.reduceAdd, Int.reduceBEq, Int.reduceBNe, reduceCtorEq]; rfl), ⟨hs4.sub (hs.trans hs3) ho.fresh, by simp only; omega, by simp only; omega, by simp only; omega, ?_, ?_, ?_⟩, by simp only; omega⟩
      · simp only
        rw [take_succ hy, pTick, List.filter_append, List.map_append, List.map_append]
        simpa [h1, pTick, GAsk.cells] using ho4
      · simp only
        rw [take_succ hy, pGone, List.filter_append]
        simpa [h1, pGone] using (ho'.mono hs3).subX hs4 (fun a b ha hb e => hne b a hb ha e.symm)
      · simp only
        intro a b ha hb
        rcases hp4 with rfl | hp4
        · exact hne a b ha hb
        · intro e
          exact (ho'.mono hs3).known hb (e ▸ hp4 a ha)
  · obtain rfl : k = n := by omega
    rw [take_all hlen] at ho ho'
    simp only [go_sem, Nat.reduceBEq, Nat.reduceAdd, Nat.reduceLeDiff, Nat.reduceEqDiff, Int.reduceAdd, Int.reduceBEq, Int.reduceBNe, reduceCtorEq]
    exact ⟨hs, q, m, d, q', m', d', rfl, ho, ho'⟩

end Go.Proofs.Ythjgnpelmigbeaa
