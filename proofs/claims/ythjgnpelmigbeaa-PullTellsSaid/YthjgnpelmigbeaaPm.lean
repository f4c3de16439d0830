/-
  Walks: the document's own Add.
-/
import Derived.Test.YthjgnpelmigbeaaPl
import Derived.Test.YthjgnpelmigbeaaDq
set_option linter.unusedSimpArgs false
set_option linter.unusedVariables false
namespace Go.Proofs.Ythjgnpelmigbeaa
open Go.Eng
attribute [local go_sem] GID.val GAsk.val GID.enc GAsk.enc

theorem radd_con (l : List GAsk) (x : GAsk) (most : Int) (p : Option Addr) (n c : Nat) (u : World) (hl : Sl u 5 p n c (l.map GAsk.enc)) (hb : (n + 1) * 12 ≤ 140737488355328) :
    Con Try.prog 19 [.slice p n c, x.val, .int .i64 most] u (fun r u' => ∃ p' m c', r = .tuple #[.slice p' m c', .int .i64 (pErr l x most)] ∧ Own u u' 28 5 p' m c' ((pAdd l x most).map GAsk.enc)) := by
  have hlen : l.length = n := by simpa using hl.len
  -- a copy
  have copy : ∀ (u1 : World) (K : Value → World → Prop), Sub u u1 → (∀ p' c' u', Own u u' 28 5 p' n c' (l.map GAsk.enc) → Sub u u' → K (.slice p' n c') u') →
      AtEff false Try.prog (bApp #[22, 22] 22 #[.slice none 0 0, .slice p n c]) u u1 K := by
    intro u1 K hs hK
    refine eff_append Ty.el22 (Own.nil_ _ _ _ _) (hl.mono hs) (GAsk.ones l) (by omega) (by omega) ?_
    intro p' c' u' ho hs' hp
    simp only [Nat.zero_add, List.nil_append] at ho ⊢
    exact hK p' c' u' ho (hs'.sub hs (fun a ha => by cases ha))
  refine spec_of_vc Ty.mixed Try.func19 rfl (by kernel_rfl) (by kernel_rfl) rfl [.tmp 6, .tmp 7] rfl ?_
  simp only [go_sem, Nat.reduceBEq, Nat.reduceAdd, Nat.reduceLeDiff, Nat.reduceEqDiff, Int.reduceAdd, Int.reduceBEq, Int.reduceBNe, reduceCtorEq]
  intro b1
  rw [u8_eq0]
  refine cond_dec (fun h => ?_) (fun h => ?_)
  · simp only [go_sem, Nat.reduceBEq, Nat.reduceAdd, Nat.reduceLeDiff, Nat.reduceEqDiff, Int.reduceAdd, Int.reduceBEq, Int.reduceBNe, reduceCtorEq]
    refine copy u _ (Sub.refl u) ?_
    intro p' c' u' ho hs
    simp only [go_sem, Nat.reduceBEq, Nat.reduceAdd, Nat.reduceLeDiff, Nat.reduceEqDiff, Int.reduceAdd, Int.reduceBEq, Int.reduceBNe, reduceCtorEq]
    exact ⟨hs, p', n, c', by simp [pErr, h], by simpa [pAdd, pErr, h] using ho⟩
  have h0 := h
  simp only [go_sem, Nat.reduceBEq, Nat.reduceAdd, Nat.reduceLeDiff, Nat.reduceEqDiff, Int.reduceAdd, Int.reduceBEq, Int.reduceBNe, reduceCtorEq]
  refine AtCall.of_spec (rhas_con l x.id p n c u hl (by omega)) ?_
  rintro r u1 hs1 rfl
  generalize hhas : pHas l x.id = hb1
  simp only [go_sem, Nat.reduceBEq, Nat.reduceAdd, Nat.reduceLeDiff, Nat.reduceEqDiff, Int.reduceAdd, Int.reduceBEq, Int.reduceBNe, reduceCtorEq]
  refine cond_split (fun h1 => ?_) (fun h1 => ?_)
  · subst h1
    simp only [go_sem, Nat.reduceBEq, Nat.reduceAdd, Nat.reduceLeDiff, Nat.reduceEqDiff, Int.reduceAdd, Int.reduceBEq, Int.reduceBNe, reduceCtorEq]
    refine copy u1 _ hs1 ?_
    intro p' c' u' ho hs
    simp only [go_sem, Nat.reduceBEq, Nat.reduceAdd, Nat.reduceLeDiff, Nat.reduceEqDiff, Int.reduceAdd, Int.reduceBEq, Int.reduceBNe, reduceCtorEq]
    exact ⟨hs, p', n, c', by simp [pErr, h0, hhas], by simpa [pAdd, pErr, h0, hhas] using ho⟩
  subst h1
  simp only [go_sem, Nat.reduceBEq, Nat.reduceAdd, Nat.reduceLeDiff, Nat.reduceEqDiff, Int.reduceAdd, Int.reduceBEq, Int.reduceBNe, reduceCtorEq]
  refine cond_dec (fun h2 => ?_) (fun h2 => ?_)
  · have h2' : most ≤ (l.length : Int) := by omega
    simp only [go_sem, Nat.reduceBEq, Nat.reduceAdd, Nat.reduceLeDiff, Nat.reduceEqDiff, Int.reduceAdd, Int.reduceBEq, Int.reduceBNe, reduceCtorEq]
    refine copy u1 _ hs1 ?_
    intro p' c' u' ho hs
    simp only [go_sem, Nat.reduceBEq, Nat.reduceAdd, Nat.reduceLeDiff, Nat.reduceEqDiff, Int.reduceAdd, Int.reduceBEq, Int.reduceBNe, reduceCtorEq]
    exact ⟨hs, p', n, c', by simp [pErr, h0, hhas, h2'], by simpa [pAdd, pErr, h0, hhas, h2'] using ho⟩
  have h2' : ¬ most ≤ (l.length : Int) := by omega
  have hE : pErr l x most = 0 := by simp [pErr, h0, hhas, h2']
  have hA : pAdd l x most = pIns l x := by simp [pAdd, hE]
  rw [hE, hA]
  simp only [go_sem, Nat.reduceBEq, Nat.reduceAdd, Nat.reduceLeDiff, Nat.reduceEqDiff, Int.reduceAdd, Int.reduceBEq, Int.reduceBNe, reduceCtorEq]
  refine vc_for (fun (g : Nat × Option Addr × Nat × Nat) => [(10, .v (.int .i64 g.1)), (8, .v (.slice g.2.1 g.2.2.1 g.2.2.2)), (9, .v (.bool (decide (pAt l x < g.1))))]) (fun _ => [])
    (fun g u' => Sub u u' ∧ g.1 ≤ n ∧ g.2.2.1 ≤ g.1 + 1 ∧ Own u u' 28 5 g.2.1 g.2.2.1 g.2.2.2 ((rIns l x g.1).map GAsk.enc)) (fun g => n - g.1) (0, none, 0, 0) (le_chk (by simp only [go_sem, Nat.reduceBEq, Nat.reduceAdd, Nat.reduceLeDiff, Nat.reduceEqDiff, Int.reduceAdd, Int.reduceBEq, Int.reduceBNe, reduceCtorEq]; simp)) ⟨hs1, Nat.zero_le _, Nat.zero_le _, by simpa [rIns] using Own.nil_ _ _ _ _⟩ ?_
  rintro ⟨k, q, m, d⟩ u2 ⟨hs2, hkn, hm, ho⟩
  simp only at hkn hm ho
  simp only [go_sem, Nat.reduceBEq, Nat.reduceAdd, Nat.reduceLeDiff, Nat.reduceEqDiff, Int.reduceAdd, Int.reduceBEq, Int.reduceBNe, reduceCtorEq]
  refine cond_dec (fun h => ?_) (fun h => ?_)
  · have hk : k < n := by omega
    obtain ⟨y, hy⟩ := exAt hk hlen
    simp only [go_sem, Nat.reduceBEq, Nat.reduceAdd, Nat.reduceLeDiff, Nat.reduceEqDiff, Int.reduceAdd, Int.reduceBEq, Int.reduceBNe, reduceCtorEq]
    refine ⟨[(0, false), (1, false), (2, false), (3, false), (5, false), (6, false), (4, false), (7, false), (8, false), (9, false), (10, false), (11, false)], by kernel_rfl, ?_⟩
    simp only [go_sem, Nat.reduceBEq, Nat.reduceAdd, Nat.reduceLeDiff, Nat.reduceEqDiff, Int.reduceAdd, Int.reduceBEq, Int.reduceBNe, reduceCtorEq]
    by_cases hd : pAt l x < k
    · rw [decide_eq_true hd]
      simp only [go_sem, Nat.reduceBEq, Nat.reduceAdd, Nat.reduceLeDiff, Nat.reduceEqDiff, Int.reduceAdd, Int.reduceBEq, Int.reduceBNe, reduceCtorEq]
      refine ⟨⟨hl.some_ hk, by omega, by omega⟩, ?_⟩
      refine (hl.mono hs2).load (getMap hy) (.inr rfl) (Nat.le_of_ble_eq_true rfl) ?_
      simp only [go_sem, Nat.reduceBEq, Nat.reduceAdd, Nat.reduceLeDiff, Nat.reduceEqDiff, Int.reduceAdd, Int.reduceBEq, Int.reduceBNe, reduceCtorEq]
      refine eff_lit (n := 1) (vs := [y.val]) Ty.el22 rfl rfl (by intro v hv; simp at hv; subst hv; rfl) (by omega) ?_
      intro pv3 v3 hov3 hsv3 hfv3
      simp only [go_sem, Nat.reduceBEq, Nat.reduceAdd, Nat.reduceLeDiff, Nat.reduceEqDiff, Int.reduceAdd, Int.reduceBEq, Int.reduceBNe, reduceCtorEq]
      refine eff_append Ty.el22 (ho.mono hsv3) hov3.sl (by intro y hy; simp at hy; subst hy; rfl) (by omega) (by omega) ?_
      intro q3 d3 w3 ho3 hsw3 hqw3
      simp only [go_sem, Nat.reduceBEq, Nat.reduceAdd, Nat.reduceLeDiff, Nat.reduceEqDiff, Int.reduceAdd, Int.reduceBEq, Int.reduceBNe, reduceCtorEq]
      rw [arith_i64 (by omega)]
      simp only [go_sem, Nat.reduceBEq, Nat.reduceAdd, Nat.reduceLeDiff, Nat.reduceEqDiff, Int.reduceAdd, Int.reduceBEq, Int.reduceBNe, reduceCtorEq]
      refine ⟨(k + 1, q3, m + 1, d3), le_chk (by simp only [go_sem, Nat.reduceBEq, Nat.reduceAdd, Nat.reduceLeDiff, Nat.reduceEqDiff, Int.reduceAdd, Int.reduceBEq, Int.reduceBNe, reduceCtorEq]; simp [show pAt l x < k + 1 by omega]), ⟨hsw3.sub (hs2.trans hsv3) ho.fresh, by simp only; omega, by simp only; omega, ?_⟩, by simp only; omega⟩
      simp only
      rw [rIns_done hy hd]
      simpa [GAsk.cells] using ho3
    have hmk : m = k := by
      have := ho.len
      rw [rIns, if_neg hd] at this
      simp at this
      omega
    rw [decide_eq_false hd]
    simp only [go_sem, Nat.reduceBEq, Nat.reduceAdd, Nat.reduceLeDiff, Nat.reduceEqDiff, Int.reduceAdd, Int.reduceBEq, Int.reduceBNe, reduceCtorEq]
    refine ⟨⟨hl.some_ hk, by omega, by omega⟩, ?_⟩
    refine (hl.mono hs2).load (getMap hy) (.inr rfl) (Nat.le_of_ble_eq_true rfl) ?_
    simp only [go_sem, Nat.reduceBEq, Nat.reduceAdd, Nat.reduceLeDiff, Nat.reduceEqDiff, Int.reduceAdd, Int.reduceBEq, Int.reduceBNe, reduceCtorEq]
    refine AtCall.of_spec (rless_con x.id y.id u2) ?_
    rintro r u3 hs3 rfl
    generalize hlb : x.id.less y.id = lb
    simp -implicitDefEqProofs only [go_sem, Nat.reduceBEq, Nat.reduceAdd, Nat.reduceLeDiff, Nat.reduceEqDiff, Int.reduceAdd, Int.reduceBEq, Int.reduceBNe, reduceCtorEq]
    refine cond_split (fun h3 => ?_) (fun h3 => ?_)
    · subst h3
      have hat : pAt l x = k := by have := pAt_hit hy hlb; omega
      have ho2 := ho.mono hs3
      simp only [go_sem, Nat.reduceBEq, Nat.reduceAdd, Nat.reduceLeDiff, Nat.reduceEqDiff, Int.reduceAdd, Int.reduceBEq, Int.reduceBNe, reduceCtorEq]
      refine eff_lit (n := 1) (vs := [x.val]) Ty.el22 rfl rfl (by intro v hv; simp at hv; subst hv; rfl) (by omega) ?_
      intro pv3 v3 hov3 hsv3 hfv3
      simp only [go_sem, Nat.reduceBEq, Nat.reduceAdd, Nat.reduceLeDiff, Nat.reduceEqDiff, Int.reduceAdd, Int.reduceBEq, Int.reduceBNe, reduceCtorEq]
      refine eff_append Ty.el22 (ho2.mono hsv3) hov3.sl (by intro y hy; simp at hy; subst hy; rfl) (by omega) (by omega) ?_
      intro q3 d3 w3 ho3 hsw3 hqw3
      simp only [go_sem, Nat.reduceBEq, Nat.reduceAdd, Nat.reduceLeDiff, Nat.reduceEqDiff, Int.reduceAdd, Int.reduceBEq, Int.reduceBNe, reduceCtorEq]
      have hs5 := hsw3.sub (hs2.trans (hs3.trans hsv3)) ho.fresh
      refine ⟨⟨hl.some_ hk, by omega, by omega⟩, ?_⟩
      refine (hl.mono hs5).load (getMap hy) (.inr rfl) (Nat.le_of_ble_eq_true rfl) ?_
      simp only [go_sem, Nat.reduceBEq, Nat.reduceAdd, Nat.reduceLeDiff, Nat.reduceEqDiff, Int.reduceAdd, Int.reduceBEq, Int.reduceBNe, reduceCtorEq]
      refine eff_lit (n := 1) (vs := [y.val]) Ty.el22 rfl rfl (by intro v hv; simp at hv; subst hv; rfl) (by omega) ?_
      intro pv4 v4 hov4 hsv4 hfv4
      simp only [go_sem, Nat.reduceBEq, Nat.reduceAdd, Nat.reduceLeDiff, Nat.reduceEqDiff, Int.reduceAdd, Int.reduceBEq, Int.reduceBNe, reduceCtorEq]
      refine eff_append Ty.el22 (ho3.mono hsv4) hov4.sl (by intro y hy; simp at hy; subst hy; rfl) (by omega) (by omega) ?_
      intro q4 d4 w4 ho4 hsw4 hqw4
      simp only [go_sem, Nat.reduceBEq, Nat.reduceAdd, Nat.reduceLeDiff, Nat.reduceEqDiff, Int.reduceAdd, Int.reduceBEq, Int.reduceBNe, reduceCtorEq]
      rw [arith_i64 (by omega)]
      simp only [go_sem, Nat.reduceBEq, Nat.reduceAdd, Nat.reduceLeDiff, Nat.reduceEqDiff, Int.reduceAdd, Int.reduceBEq, Int.reduceBNe, reduceCtorEq]
      refine ⟨(k + 1, q4, m + 1 + 1, d4), le_chk (by simp only [go_sem, Nat.reduceBEq, Nat.reduceAdd, Nat.reduceLeDiff, Nat.reduceEqDiff, Int.reduceAdd, Int.reduceBEq, Int.reduceBNe, reduceCtorEq]; simp [show pAt l x < k + 1 by omega]), ⟨hsw4.sub (hs5.trans hsv4) ho3.fresh, by simp only; omega, by simp only; omega, ?_⟩, by simp only; omega⟩
      simp only
      rw [rIns_here hy hat]
      simpa [GAsk.cells] using ho4
    · subst h3
      have hat : k < pAt l x := by have := pAt_miss hy hlb; omega
      have ho2 := ho.mono hs3
      simp only [go_sem, Nat.reduceBEq, Nat.reduceAdd, Nat.reduceLeDiff, Nat.reduceEqDiff, Int.reduceAdd, Int.reduceBEq, Int.reduceBNe, reduceCtorEq]
      refine ⟨⟨hl.some_ hk, by omega, by omega⟩, ?_⟩
      refine (hl.mono (hs2.trans hs3)).load (getMap hy) (.inr rfl) (Nat.le_of_ble_eq_true rfl) ?_
      simp only [go_sem, Nat.reduceBEq, Nat.reduceAdd, Nat.reduceLeDiff, Nat.reduceEqDiff, Int.reduceAdd, Int.reduceBEq, Int.reduceBNe, reduceCtorEq]
      refine eff_lit (n := 1) (vs := [y.val]) Ty.el22 rfl rfl (by intro v hv; simp at hv; subst hv; rfl) (by omega) ?_
      intro pv3 v3 hov3 hsv3 hfv3
      simp only [go_sem, Nat.reduceBEq, Nat.reduceAdd, Nat.reduceLeDiff, Nat.reduceEqDiff, Int.reduceAdd, Int.reduceBEq, Int.reduceBNe, reduceCtorEq]
      refine eff_append Ty.el22 (ho2.mono hsv3) hov3.sl (by intro y hy; simp at hy; subst hy; rfl) (by omega) (by omega) ?_
      intro q3 d3 w3 ho3 hsw3 hqw3
      simp only [go_sem, Nat.reduceBEq, Nat.reduceAdd, Nat.reduceLeDiff, Nat.reduceEqDiff, Int.reduceAdd, Int.reduceBEq, Int.reduceBNe, reduceCtorEq]
      rw [arith_i64 (by omega)]
      simp only [go_sem, Nat.reduceBEq, Nat.reduceAdd, Nat.reduceLeDiff, Nat.reduceEqDiff, Int.reduceAdd, Int.reduceBEq, Int.reduceBNe, reduceCtorEq]
      refine ⟨(k + 1, q3, m + 1, d3), le_chk (by simp only [go_sem, Nat.reduceBEq, Nat.reduceAdd, Nat.reduceLeDiff, Nat.reduceEqDiff, Int.reduceAdd, Int.reduceBEq, Int.reduceBNe, reduceCtorEq]; simp [show ¬ pAt l x < k + 1 by omega]), ⟨hsw3.sub (hs2.trans (hs3.trans hsv3)) ho.fresh, by simp only; omega, by simp only; omega, ?_⟩, by simp only; omega⟩
      simp only
      rw [rIns_wait hy hat]
      simpa [GAsk.cells] using ho3
  · obtain rfl : k = n := by omega
    simp only [go_sem, Nat.reduceBEq, Nat.reduceAdd, Nat.reduceLeDiff, Nat.reduceEqDiff, Int.reduceAdd, Int.reduceBEq, Int.reduceBNe, reduceCtorEq]
    by_cases hd : pAt l x < k
    · rw [decide_eq_true hd]
      simp only [go_sem, Nat.reduceBEq, Nat.reduceAdd, Nat.reduceLeDiff, Nat.reduceEqDiff, Int.reduceAdd, Int.reduceBEq, Int.reduceBNe, reduceCtorEq]
      refine ⟨hs2, q, m, d, rfl, ?_⟩
      rw [← hlen, rIns_end (by omega)] at ho
      exact ho
    · have hmk : m = k := by
        have := ho.len
        rw [rIns, if_neg hd] at this
        simp at this
        omega
      rw [decide_eq_false hd]
      simp only [go_sem, Nat.reduceBEq, Nat.reduceAdd, Nat.reduceLeDiff, Nat.reduceEqDiff, Int.reduceAdd, Int.reduceBEq, Int.reduceBNe, reduceCtorEq]
      refine eff_lit (n := 1) (vs := [x.val]) Ty.el22 rfl rfl (by intro v hv; simp at hv; subst hv; rfl) (by omega) ?_
      intro pv3 v3 hov3 hsv3 hfv3
      simp only [go_sem, Nat.reduceBEq, Nat.reduceAdd, Nat.reduceLeDiff, Nat.reduceEqDiff, Int.reduceAdd, Int.reduceBEq, Int.reduceBNe, reduceCtorEq]
      refine eff_append Ty.el22 (ho.mono hsv3) hov3.sl (by intro y hy; simp at hy; subst hy; rfl) (by omega) (by omega) ?_
      intro q3 d3 w3 ho3 hsw3 hqw3
      simp only [go_sem, Nat.reduceBEq, Nat.reduceAdd, Nat.reduceLeDiff, Nat.reduceEqDiff, Int.reduceAdd, Int.reduceBEq, Int.reduceBNe, reduceCtorEq]
      refine ⟨hsw3.sub (hs2.trans hsv3) ho.fresh, q3, m + 1, d3, rfl, ?_⟩
      rw [← rIns_last (l := l) (x := x) (by omega)]
      rw [hlen]
      simpa [GAsk.cells] using ho3

end Go.Proofs.Ythjgnpelmigbeaa
