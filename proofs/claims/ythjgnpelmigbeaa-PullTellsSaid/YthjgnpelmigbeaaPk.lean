/-
  Walks: the document's own Drop, Tick.
-/
import Derived.Test.YthjgnpelmigbeaaPj
set_option linter.unusedSimpArgs false
set_option linter.unusedVariables false
namespace Go.Proofs.Ythjgnpelmigbeaa
open Go.Eng
attribute [local go_sem] GID.val GAsk.val GID.enc GAsk.enc

theorem rdrop_con (l : List GAsk) (x : GID) (p : Option Addr) (n c : Nat) (u : World) (hl : Sl u 5 p n c (l.map GAsk.enc)) (hb : n * 12 ≤ 140737488355328) :
    Con Try.prog 21 [.slice p n c, x.val] u (fun r u' => ∃ p' m c', r = .slice p' m c' ∧ Own u u' 28 5 p' m c' ((pDrop l x).map GAsk.enc)) := by
  have hlen : l.length = n := by simpa using hl.len
  refine spec_of_vc Ty.mixed Try.func21 rfl (by kernel_rfl) (by kernel_rfl) rfl [.tmp 4] rfl ?_
  simp only [go_sem, Nat.reduceBEq, Nat.reduceAdd, Nat.reduceLeDiff, Nat.reduceEqDiff, Int.reduceAdd, Int.reduceBEq, Int.reduceBNe, reduceCtorEq]
  intro b1
  refine vc_for (fun (g : Nat × Option Addr × Nat × Nat) => [(6, .v (.int .i64 g.1)), (5, .v (.slice g.2.1 g.2.2.1 g.2.2.2))]) (fun _ => [])
    (fun g u' => Sub u u' ∧ g.1 ≤ n ∧ g.2.2.1 ≤ g.1 ∧ Own u u' 28 5 g.2.1 g.2.2.1 g.2.2.2 ((pDrop (l.take g.1) x).map GAsk.enc)) (fun g => n - g.1) (0, none, 0, 0) (le_chk (by simp only [go_sem, Nat.reduceBEq, Nat.reduceAdd, Nat.reduceLeDiff, Nat.reduceEqDiff, Int.reduceAdd, Int.reduceBEq, Int.reduceBNe, reduceCtorEq]; rfl)) ⟨Sub.refl _, Nat.zero_le _, Nat.le_refl _, by simpa [pDrop] using Own.nil_ _ _ _ _⟩ ?_
  rintro ⟨k, q, m, d⟩ u1 ⟨hs, hkn, hm, ho⟩
  simp only at hkn hm ho
  simp only [go_sem, Nat.reduceBEq, Nat.reduceAdd, Nat.reduceLeDiff, Nat.reduceEqDiff, Int.reduceAdd, Int.reduceBEq, Int.reduceBNe, reduceCtorEq]
  refine cond_dec (fun h => ?_) (fun h => ?_)
  · have hk : k < n := by omega
    obtain ⟨y, hy⟩ := exAt hk hlen
    simp only [go_sem, Nat.reduceBEq, Nat.reduceAdd, Nat.reduceLeDiff, Nat.reduceEqDiff, Int.reduceAdd, Int.reduceBEq, Int.reduceBNe, reduceCtorEq]
    refine ⟨[(0, false), (1, false), (5, false), (2, false), (3, false), (4, false), (6, false)], by kernel_rfl, ?_⟩
    simp only [go_sem, Nat.reduceBEq, Nat.reduceAdd, Nat.reduceLeDiff, Nat.reduceEqDiff, Int.reduceAdd, Int.reduceBEq, Int.reduceBNe, reduceCtorEq]
    refine ⟨⟨hl.some_ hk, by omega, by omega⟩, ?_⟩
    refine (hl.mono hs).load (getMap hy) (.inr rfl) (Nat.le_of_ble_eq_true rfl) ?_
    simp only [go_sem, Nat.reduceBEq, Nat.reduceAdd, Nat.reduceLeDiff, Nat.reduceEqDiff, Int.reduceAdd, Int.reduceBEq, Int.reduceBNe, reduceCtorEq]
    refine cond_dec (fun h => ?_) (fun h => ?_)
    · simp only [go_sem, Nat.reduceBEq, Nat.reduceAdd, Nat.reduceLeDiff, Nat.reduceEqDiff, Int.reduceAdd, Int.reduceBEq, Int.reduceBNe, reduceCtorEq]
      rw [arith_i64 (by omega)]
      simp only [go_sem, Nat.reduceBEq, Nat.reduceAdd, Nat.reduceLeDiff, Nat.reduceEqDiff, Int.reduceAdd, Int.reduceBEq, Int.reduceBNe, reduceCtorEq]
      refine ⟨(k + 1, q, m, d), le_chk (by simp only [go_sem, Nat.reduceBEq, Nat.reduceAdd, Nat.reduceLeDiff, Nat.reduceEqDiff, Int.reduceAdd, Int.reduceBEq, Int.reduceBNe, reduceCtorEq]; rfl), ⟨hs, by simp only; omega, by simp only; omega, ?_⟩, by simp only; omega⟩
      simp only
      rw [take_succ hy, pDrop, List.filter_append]
      simpa [h, pDrop] using ho
    · simp only [go_sem, Nat.reduceBEq, Nat.reduceAdd, Nat.reduceLeDiff, Nat.reduceEqDiff, Int.reduceAdd, Int.reduceBEq, Int.reduceBNe, reduceCtorEq]
      refine ⟨⟨hl.some_ hk, by omega, by omega⟩, ?_⟩
      refine (hl.mono hs).load (getMap hy) (.inr rfl) (Nat.le_of_ble_eq_true rfl) ?_
      simp only [go_sem, Nat.reduceBEq, Nat.reduceAdd, Nat.reduceLeDiff, Nat.reduceEqDiff, Int.reduceAdd, Int.reduceBEq, Int.reduceBNe, reduceCtorEq]
      refine eff_lit (n := 1) (vs := [y.val]) Ty.el22 rfl rfl (by intro v hv; simp at hv; subst hv; rfl) (by omega) ?_
      intro pv u3 hov hs3 hfv
      simp only [go_sem, Nat.reduceBEq, Nat.reduceAdd, Nat.reduceLeDiff, Nat.reduceEqDiff, Int.reduceAdd, Int.reduceBEq, Int.reduceBNe, reduceCtorEq]
      refine eff_append Ty.el22 (ho.mono hs3) hov.sl (by intro y hy; simp at hy; subst hy; rfl) (by omega) (by omega) ?_
      intro p4 c4 u4 ho4 hs4 hp4
      simp only [go_sem, Nat.reduceBEq, Nat.reduceAdd, Nat.reduceLeDiff, Nat.reduceEqDiff, Int.reduceAdd, Int.reduceBEq, Int.reduceBNe, reduceCtorEq]
      rw [arith_i64 (by omega)]
      simp only [go_sem, Nat.reduceBEq, Nat.reduceAdd, Nat.reduceLeDiff, Nat.reduceEqDiff, Int.reduceAdd, Int.reduceBEq, Int.reduceBNe, reduceCtorEq]
      refine ⟨(k + 1, p4, m + 1, c4), le_chk (by simp only [go_sem, Nat.reduceBEq, Nat.reduceAdd, Nat.reduceLeDiff, Nat.reduceEqDiff, Int.reduceAdd, Int.reduceBEq, Int.reduceBNe, reduceCtorEq]; rfl), ⟨hs4.sub (hs.trans hs3) ho.fresh, by simp only; omega, by simp only; omega, ?_⟩, by simp only; omega⟩
      simp only
      rw [take_succ hy, pDrop, List.filter_append, List.map_append]
      simpa [h, pDrop, GAsk.cells] using ho4
  · obtain rfl : k = n := by omega
    rw [take_all hlen] at ho
    simp only [go_sem, Nat.reduceBEq, Nat.reduceAdd, Nat.reduceLeDiff, Nat.reduceEqDiff, Int.reduceAdd, Int.reduceBEq, Int.reduceBNe, reduceCtorEq]
    exact ⟨hs, q, m, d, rfl, ho⟩

end Go.Proofs.Ythjgnpelmigbeaa
