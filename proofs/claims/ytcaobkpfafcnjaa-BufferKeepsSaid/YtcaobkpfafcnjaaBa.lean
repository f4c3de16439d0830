/-
  Walks: events: copied, and are they the same.
-/
import Derived.Test.YtcaobkpfafcnjaaBd
import Derived.Test.YtcaobkpfafcnjaaIb
set_option linter.unusedSimpArgs false
set_option linter.unusedVariables false
namespace Go.Proofs.Ytcaobkpfafcnjaa
open Go.Eng
abbrev EvK : Kind PE := evK 34 21 5
attribute [local go_sem] GID.val GID.enc PE.val PE.enc PB.val PB.enc encI encB

theorem cloneI_con (xs : List (List Value)) (p : Option Addr) (n c : Nat) (u : World) (hl : Sl u 1 p n c xs) (h1 : allOnes xs) (hb : n * 4 ≤ 140737488355328) :
    Con Try.prog 55 [.slice p n c] u (fun r u' => ∃ p' c', r = .slice p' n c' ∧ Own u u' 21 1 p' n c' xs) := by
  refine spec_of_vc Ty.mixed Try.func55 rfl (by kernel_rfl) (by kernel_rfl) rfl [.tmp 2] rfl ?_
  (simp only [go_sem, vc_block_seq, vc_block_region, vc_block_cond, vc_block_block, Nat.reduceBEq, Nat.reduceAdd, Nat.reduceLeDiff, Nat.reduceEqDiff, Int.reduceAdd, Int.reduceBEq, Int.reduceBNe, reduceCtorEq, beq_self_eq_true, Bool.true_beq, Bool.false_beq]; repeat ((with_reducible refine leK_refl ?_); simp only [go_sem, vc_block_seq, vc_block_region, vc_block_cond, vc_block_block, Nat.reduceBEq, Nat.reduceAdd, Nat.reduceLeDiff, Nat.reduceEqDiff, Int.reduceAdd, Int.reduceBEq, Int.reduceBNe, reduceCtorEq, beq_self_eq_true, Bool.true_beq, Bool.false_beq]))
  refine cond_split (fun h => ?_) (fun h => ?_)
  · have hp : p = none := by simpa using h
    subst hp
    obtain ⟨rfl, rfl⟩ := hl.nil rfl
    have hx : xs = [] := List.eq_nil_of_length_eq_zero hl.len
    subst hx
    (simp only [go_sem, vc_block_seq, vc_block_region, vc_block_cond, vc_block_block, Nat.reduceBEq, Nat.reduceAdd, Nat.reduceLeDiff, Nat.reduceEqDiff, Int.reduceAdd, Int.reduceBEq, Int.reduceBNe, reduceCtorEq, beq_self_eq_true, Bool.true_beq, Bool.false_beq]; repeat ((with_reducible refine leK_refl ?_); simp only [go_sem, vc_block_seq, vc_block_region, vc_block_cond, vc_block_block, Nat.reduceBEq, Nat.reduceAdd, Nat.reduceLeDiff, Nat.reduceEqDiff, Int.reduceAdd, Int.reduceBEq, Int.reduceBNe, reduceCtorEq, beq_self_eq_true, Bool.true_beq, Bool.false_beq]))
    exact ⟨Sub.refl _, none, 0, rfl, Own.nil_ _ _ _ _⟩
  · (simp only [go_sem, vc_block_seq, vc_block_region, vc_block_cond, vc_block_block, Nat.reduceBEq, Nat.reduceAdd, Nat.reduceLeDiff, Nat.reduceEqDiff, Int.reduceAdd, Int.reduceBEq, Int.reduceBNe, reduceCtorEq, beq_self_eq_true, Bool.true_beq, Bool.false_beq]; repeat ((with_reducible refine leK_refl ?_); simp only [go_sem, vc_block_seq, vc_block_region, vc_block_cond, vc_block_block, Nat.reduceBEq, Nat.reduceAdd, Nat.reduceLeDiff, Nat.reduceEqDiff, Int.reduceAdd, Int.reduceBEq, Int.reduceBNe, reduceCtorEq, beq_self_eq_true, Bool.true_beq, Bool.false_beq]))
    refine eff_lit (n := 0) (vs := []) Ty.el31 rfl rfl (by simp) (by omega) ?_
    intro p1 u1 ho1 hs1 _
    (simp only [go_sem, vc_block_seq, vc_block_region, vc_block_cond, vc_block_block, Nat.reduceBEq, Nat.reduceAdd, Nat.reduceLeDiff, Nat.reduceEqDiff, Int.reduceAdd, Int.reduceBEq, Int.reduceBNe, reduceCtorEq, beq_self_eq_true, Bool.true_beq, Bool.false_beq]; repeat ((with_reducible refine leK_refl ?_); simp only [go_sem, vc_block_seq, vc_block_region, vc_block_cond, vc_block_block, Nat.reduceBEq, Nat.reduceAdd, Nat.reduceLeDiff, Nat.reduceEqDiff, Int.reduceAdd, Int.reduceBEq, Int.reduceBNe, reduceCtorEq, beq_self_eq_true, Bool.true_beq, Bool.false_beq]))
    refine eff_append Ty.el31 ho1 (hl.mono hs1) h1 (by simpa using hb) (by omega) ?_
    intro p2 c2 u2 ho2 hs2 _
    (simp only [go_sem, vc_block_seq, vc_block_region, vc_block_cond, vc_block_block, Nat.reduceBEq, Nat.reduceAdd, Nat.reduceLeDiff, Nat.reduceEqDiff, Int.reduceAdd, Int.reduceBEq, Int.reduceBNe, reduceCtorEq, beq_self_eq_true, Bool.true_beq, Bool.false_beq]; repeat ((with_reducible refine leK_refl ?_); simp only [go_sem, vc_block_seq, vc_block_region, vc_block_cond, vc_block_block, Nat.reduceBEq, Nat.reduceAdd, Nat.reduceLeDiff, Nat.reduceEqDiff, Int.reduceAdd, Int.reduceBEq, Int.reduceBNe, reduceCtorEq, beq_self_eq_true, Bool.true_beq, Bool.false_beq]))
    simp only [List.map_nil, List.nil_append, Nat.zero_add] at ho2
    exact ⟨hs2.sub hs1 ho1.fresh, p2, c2, rfl, ho2⟩


theorem cloneB_con (xs : List (List Value)) (p : Option Addr) (n c : Nat) (u : World) (hl : Sl u 1 p n c xs) (h1 : allOnes xs) (hb : n * 1 ≤ 140737488355328) :
    Con Try.prog 56 [.slice p n c] u (fun r u' => ∃ p' c', r = .slice p' n c' ∧ Own u u' 5 1 p' n c' xs) := by
  refine spec_of_vc Ty.mixed Try.func56 rfl (by kernel_rfl) (by kernel_rfl) rfl [.tmp 2] rfl ?_
  (simp only [go_sem, vc_block_seq, vc_block_region, vc_block_cond, vc_block_block, Nat.reduceBEq, Nat.reduceAdd, Nat.reduceLeDiff, Nat.reduceEqDiff, Int.reduceAdd, Int.reduceBEq, Int.reduceBNe, reduceCtorEq, beq_self_eq_true, Bool.true_beq, Bool.false_beq]; repeat ((with_reducible refine leK_refl ?_); simp only [go_sem, vc_block_seq, vc_block_region, vc_block_cond, vc_block_block, Nat.reduceBEq, Nat.reduceAdd, Nat.reduceLeDiff, Nat.reduceEqDiff, Int.reduceAdd, Int.reduceBEq, Int.reduceBNe, reduceCtorEq, beq_self_eq_true, Bool.true_beq, Bool.false_beq]))
  refine cond_split (fun h => ?_) (fun h => ?_)
  · have hp : p = none := by simpa using h
    subst hp
    obtain ⟨rfl, rfl⟩ := hl.nil rfl
    have hx : xs = [] := List.eq_nil_of_length_eq_zero hl.len
    subst hx
    (simp only [go_sem, vc_block_seq, vc_block_region, vc_block_cond, vc_block_block, Nat.reduceBEq, Nat.reduceAdd, Nat.reduceLeDiff, Nat.reduceEqDiff, Int.reduceAdd, Int.reduceBEq, Int.reduceBNe, reduceCtorEq, beq_self_eq_true, Bool.true_beq, Bool.false_beq]; repeat ((with_reducible refine leK_refl ?_); simp only [go_sem, vc_block_seq, vc_block_region, vc_block_cond, vc_block_block, Nat.reduceBEq, Nat.reduceAdd, Nat.reduceLeDiff, Nat.reduceEqDiff, Int.reduceAdd, Int.reduceBEq, Int.reduceBNe, reduceCtorEq, beq_self_eq_true, Bool.true_beq, Bool.false_beq]))
    exact ⟨Sub.refl _, none, 0, rfl, Own.nil_ _ _ _ _⟩
  · (simp only [go_sem, vc_block_seq, vc_block_region, vc_block_cond, vc_block_block, Nat.reduceBEq, Nat.reduceAdd, Nat.reduceLeDiff, Nat.reduceEqDiff, Int.reduceAdd, Int.reduceBEq, Int.reduceBNe, reduceCtorEq, beq_self_eq_true, Bool.true_beq, Bool.false_beq]; repeat ((with_reducible refine leK_refl ?_); simp only [go_sem, vc_block_seq, vc_block_region, vc_block_cond, vc_block_block, Nat.reduceBEq, Nat.reduceAdd, Nat.reduceLeDiff, Nat.reduceEqDiff, Int.reduceAdd, Int.reduceBEq, Int.reduceBNe, reduceCtorEq, beq_self_eq_true, Bool.true_beq, Bool.false_beq]))
    refine eff_lit (n := 0) (vs := []) Ty.el32 rfl rfl (by simp) (by omega) ?_
    intro p1 u1 ho1 hs1 _
    (simp only [go_sem, vc_block_seq, vc_block_region, vc_block_cond, vc_block_block, Nat.reduceBEq, Nat.reduceAdd, Nat.reduceLeDiff, Nat.reduceEqDiff, Int.reduceAdd, Int.reduceBEq, Int.reduceBNe, reduceCtorEq, beq_self_eq_true, Bool.true_beq, Bool.false_beq]; repeat ((with_reducible refine leK_refl ?_); simp only [go_sem, vc_block_seq, vc_block_region, vc_block_cond, vc_block_block, Nat.reduceBEq, Nat.reduceAdd, Nat.reduceLeDiff, Nat.reduceEqDiff, Int.reduceAdd, Int.reduceBEq, Int.reduceBNe, reduceCtorEq, beq_self_eq_true, Bool.true_beq, Bool.false_beq]))
    refine eff_append Ty.el32 ho1 (hl.mono hs1) h1 (by simpa using hb) (by omega) ?_
    intro p2 c2 u2 ho2 hs2 _
    (simp only [go_sem, vc_block_seq, vc_block_region, vc_block_cond, vc_block_block, Nat.reduceBEq, Nat.reduceAdd, Nat.reduceLeDiff, Nat.reduceEqDiff, Int.reduceAdd, Int.reduceBEq, Int.reduceBNe, reduceCtorEq, beq_self_eq_true, Bool.true_beq, Bool.false_beq]; repeat ((with_reducible refine leK_refl ?_); simp only [go_sem, vc_block_seq, vc_block_region, vc_block_cond, vc_block_block, Nat.reduceBEq, Nat.reduceAdd, Nat.reduceLeDiff, Nat.reduceEqDiff, Int.reduceAdd, Int.reduceBEq, Int.reduceBNe, reduceCtorEq, beq_self_eq_true, Bool.true_beq, Bool.false_beq]))
    simp only [List.map_nil, List.nil_append, Nat.zero_add] at ho2
    exact ⟨hs2.sub hs1 ho1.fresh, p2, c2, rfl, ho2⟩


theorem sameI_con (xs ys : List Int) (p q : Option Addr) (n c m d : Nat) (u : World) (hx : Sl u 1 p n c (xs.map encI)) (hy : Sl u 1 q m d (ys.map encI)) (hn : n ≤ 9223372036854775807) :
    Con Try.prog 58 [.slice p n c, .slice q m d] u (fun r _ => r = .bool (decide (xs = ys))) := by
  have lx : xs.length = n := by simpa using hx.len
  have ly : ys.length = m := by simpa using hy.len
  refine spec_of_vc Ty.mixed Try.func58 rfl (by kernel_rfl) (by kernel_rfl) rfl [.tmp 4] rfl ?_
  (simp only [go_sem, vc_block_seq, vc_block_region, vc_block_cond, vc_block_block, Nat.reduceBEq, Nat.reduceAdd, Nat.reduceLeDiff, Nat.reduceEqDiff, Int.reduceAdd, Int.reduceBEq, Int.reduceBNe, reduceCtorEq, beq_self_eq_true, Bool.true_beq, Bool.false_beq]; repeat ((with_reducible refine leK_refl ?_); simp only [go_sem, vc_block_seq, vc_block_region, vc_block_cond, vc_block_block, Nat.reduceBEq, Nat.reduceAdd, Nat.reduceLeDiff, Nat.reduceEqDiff, Int.reduceAdd, Int.reduceBEq, Int.reduceBNe, reduceCtorEq, beq_self_eq_true, Bool.true_beq, Bool.false_beq]))
  refine cond_ne (fun h => ?_) (fun h => ?_)
  · (simp only [go_sem, vc_block_seq, vc_block_region, vc_block_cond, vc_block_block, Nat.reduceBEq, Nat.reduceAdd, Nat.reduceLeDiff, Nat.reduceEqDiff, Int.reduceAdd, Int.reduceBEq, Int.reduceBNe, reduceCtorEq, beq_self_eq_true, Bool.true_beq, Bool.false_beq]; repeat ((with_reducible refine leK_refl ?_); simp only [go_sem, vc_block_seq, vc_block_region, vc_block_cond, vc_block_block, Nat.reduceBEq, Nat.reduceAdd, Nat.reduceLeDiff, Nat.reduceEqDiff, Int.reduceAdd, Int.reduceBEq, Int.reduceBNe, reduceCtorEq, beq_self_eq_true, Bool.true_beq, Bool.false_beq]))
    refine ⟨Sub.refl _, ?_⟩
    have : ¬ xs = ys := fun e => h (by rw [← lx, ← ly, e])
    simp [this]
  have hnm : n = m := by omega
  subst hnm
  (simp only [go_sem, vc_block_seq, vc_block_region, vc_block_cond, vc_block_block, Nat.reduceBEq, Nat.reduceAdd, Nat.reduceLeDiff, Nat.reduceEqDiff, Int.reduceAdd, Int.reduceBEq, Int.reduceBNe, reduceCtorEq, beq_self_eq_true, Bool.true_beq, Bool.false_beq]; repeat ((with_reducible refine leK_refl ?_); simp only [go_sem, vc_block_seq, vc_block_region, vc_block_cond, vc_block_block, Nat.reduceBEq, Nat.reduceAdd, Nat.reduceLeDiff, Nat.reduceEqDiff, Int.reduceAdd, Int.reduceBEq, Int.reduceBNe, reduceCtorEq, beq_self_eq_true, Bool.true_beq, Bool.false_beq]))
  refine vc_range n (fun (_ : Unit) => []) (fun _ => []) (fun k _ u' => Sub u u' ∧ xs.take k = ys.take k) () (le_chk (by simp only [go_sem, vc_block_seq, vc_block_region, vc_block_cond, vc_block_block, Nat.reduceBEq, Nat.reduceAdd, Nat.reduceLeDiff, Nat.reduceEqDiff, Int.reduceAdd, Int.reduceBEq, Int.reduceBNe, reduceCtorEq, beq_self_eq_true, Bool.true_beq, Bool.false_beq])) ⟨Sub.refl _, by simp⟩ (fun _ _ => rfl) hn (fun _ => rfl) ?_ ?_
  · rintro k g u1 hk ⟨hs, hF⟩
    obtain ⟨x, ex⟩ := exAt hk lx
    obtain ⟨y, ey⟩ := exAt hk ly
    (simp only [go_sem, vc_block_seq, vc_block_region, vc_block_cond, vc_block_block, Nat.reduceBEq, Nat.reduceAdd, Nat.reduceLeDiff, Nat.reduceEqDiff, Int.reduceAdd, Int.reduceBEq, Int.reduceBNe, reduceCtorEq, beq_self_eq_true, Bool.true_beq, Bool.false_beq]; repeat ((with_reducible refine leK_refl ?_); simp only [go_sem, vc_block_seq, vc_block_region, vc_block_cond, vc_block_block, Nat.reduceBEq, Nat.reduceAdd, Nat.reduceLeDiff, Nat.reduceEqDiff, Int.reduceAdd, Int.reduceBEq, Int.reduceBNe, reduceCtorEq, beq_self_eq_true, Bool.true_beq, Bool.false_beq]))
    refine .inl ⟨[(0, false), (1, false), (4, false), (5, false), (2, false), (6, false), (3, false), (7, false), (8, false)], by kernel_rfl, ?_⟩
    (simp only [go_sem, vc_block_seq, vc_block_region, vc_block_cond, vc_block_block, Nat.reduceBEq, Nat.reduceAdd, Nat.reduceLeDiff, Nat.reduceEqDiff, Int.reduceAdd, Int.reduceBEq, Int.reduceBNe, reduceCtorEq, beq_self_eq_true, Bool.true_beq, Bool.false_beq]; repeat ((with_reducible refine leK_refl ?_); simp only [go_sem, vc_block_seq, vc_block_region, vc_block_cond, vc_block_block, Nat.reduceBEq, Nat.reduceAdd, Nat.reduceLeDiff, Nat.reduceEqDiff, Int.reduceAdd, Int.reduceBEq, Int.reduceBNe, reduceCtorEq, beq_self_eq_true, Bool.true_beq, Bool.false_beq]))
    refine ⟨⟨hx.some_ hk, by omega, by omega⟩, ?_⟩
    refine ⟨⟨hy.some_ hk, by omega, by omega⟩, ?_⟩
    refine (hx.mono hs).load (getMap ex) (.inl rfl) (Nat.le_of_ble_eq_true rfl) ?_
    (simp only [go_sem, vc_block_seq, vc_block_region, vc_block_cond, vc_block_block, Nat.reduceBEq, Nat.reduceAdd, Nat.reduceLeDiff, Nat.reduceEqDiff, Int.reduceAdd, Int.reduceBEq, Int.reduceBNe, reduceCtorEq, beq_self_eq_true, Bool.true_beq, Bool.false_beq]; repeat ((with_reducible refine leK_refl ?_); simp only [go_sem, vc_block_seq, vc_block_region, vc_block_cond, vc_block_block, Nat.reduceBEq, Nat.reduceAdd, Nat.reduceLeDiff, Nat.reduceEqDiff, Int.reduceAdd, Int.reduceBEq, Int.reduceBNe, reduceCtorEq, beq_self_eq_true, Bool.true_beq, Bool.false_beq]))
    refine (hy.mono hs).load (getMap ey) (.inl rfl) (Nat.le_of_ble_eq_true rfl) ?_
    (simp only [go_sem, vc_block_seq, vc_block_region, vc_block_cond, vc_block_block, Nat.reduceBEq, Nat.reduceAdd, Nat.reduceLeDiff, Nat.reduceEqDiff, Int.reduceAdd, Int.reduceBEq, Int.reduceBNe, reduceCtorEq, beq_self_eq_true, Bool.true_beq, Bool.false_beq]; repeat ((with_reducible refine leK_refl ?_); simp only [go_sem, vc_block_seq, vc_block_region, vc_block_cond, vc_block_block, Nat.reduceBEq, Nat.reduceAdd, Nat.reduceLeDiff, Nat.reduceEqDiff, Int.reduceAdd, Int.reduceBEq, Int.reduceBNe, reduceCtorEq, beq_self_eq_true, Bool.true_beq, Bool.false_beq]))
    refine cond_ne (fun h => ?_) (fun h => ?_)
    · (simp only [go_sem, vc_block_seq, vc_block_region, vc_block_cond, vc_block_block, Nat.reduceBEq, Nat.reduceAdd, Nat.reduceLeDiff, Nat.reduceEqDiff, Int.reduceAdd, Int.reduceBEq, Int.reduceBNe, reduceCtorEq, beq_self_eq_true, Bool.true_beq, Bool.false_beq]; repeat ((with_reducible refine leK_refl ?_); simp only [go_sem, vc_block_seq, vc_block_region, vc_block_cond, vc_block_block, Nat.reduceBEq, Nat.reduceAdd, Nat.reduceLeDiff, Nat.reduceEqDiff, Int.reduceAdd, Int.reduceBEq, Int.reduceBNe, reduceCtorEq, beq_self_eq_true, Bool.true_beq, Bool.false_beq]))
      refine ⟨hs, ?_⟩
      have : ¬ xs = ys := fun e => h (by rw [e, ey] at ex; cases ex; rfl)
      simp [this]
    · have hxy : x = y := by simpa using h
      (simp only [go_sem, vc_block_seq, vc_block_region, vc_block_cond, vc_block_block, Nat.reduceBEq, Nat.reduceAdd, Nat.reduceLeDiff, Nat.reduceEqDiff, Int.reduceAdd, Int.reduceBEq, Int.reduceBNe, reduceCtorEq, beq_self_eq_true, Bool.true_beq, Bool.false_beq]; repeat ((with_reducible refine leK_refl ?_); simp only [go_sem, vc_block_seq, vc_block_region, vc_block_cond, vc_block_block, Nat.reduceBEq, Nat.reduceAdd, Nat.reduceLeDiff, Nat.reduceEqDiff, Int.reduceAdd, Int.reduceBEq, Int.reduceBNe, reduceCtorEq, beq_self_eq_true, Bool.true_beq, Bool.false_beq]))
      exact ⟨(), le_chk (by simp only [go_sem, vc_block_seq, vc_block_region, vc_block_cond, vc_block_block, Nat.reduceBEq, Nat.reduceAdd, Nat.reduceLeDiff, Nat.reduceEqDiff, Int.reduceAdd, Int.reduceBEq, Int.reduceBNe, reduceCtorEq, beq_self_eq_true, Bool.true_beq, Bool.false_beq]), hs, by rw [take_succ ex, take_succ ey, hF, hxy]⟩
  · rintro g u1 ⟨hs, hF⟩
    rw [take_all lx, take_all ly] at hF
    (simp only [go_sem, vc_block_seq, vc_block_region, vc_block_cond, vc_block_block, Nat.reduceBEq, Nat.reduceAdd, Nat.reduceLeDiff, Nat.reduceEqDiff, Int.reduceAdd, Int.reduceBEq, Int.reduceBNe, reduceCtorEq, beq_self_eq_true, Bool.true_beq, Bool.false_beq]; repeat ((with_reducible refine leK_refl ?_); simp only [go_sem, vc_block_seq, vc_block_region, vc_block_cond, vc_block_block, Nat.reduceBEq, Nat.reduceAdd, Nat.reduceLeDiff, Nat.reduceEqDiff, Int.reduceAdd, Int.reduceBEq, Int.reduceBNe, reduceCtorEq, beq_self_eq_true, Bool.true_beq, Bool.false_beq]))
    exact ⟨hs, by simp [hF]⟩


theorem sameB_con (xs ys : List UInt8) (p q : Option Addr) (n c m d : Nat) (u : World) (hx : Sl u 1 p n c (xs.map encB)) (hy : Sl u 1 q m d (ys.map encB)) (hn : n ≤ 9223372036854775807) :
    Con Try.prog 59 [.slice p n c, .slice q m d] u (fun r _ => r = .bool (decide (xs = ys))) := by
  have lx : xs.length = n := by simpa using hx.len
  have ly : ys.length = m := by simpa using hy.len
  refine spec_of_vc Ty.mixed Try.func59 rfl (by kernel_rfl) (by kernel_rfl) rfl [.tmp 4] rfl ?_
  (simp only [go_sem, vc_block_seq, vc_block_region, vc_block_cond, vc_block_block, Nat.reduceBEq, Nat.reduceAdd, Nat.reduceLeDiff, Nat.reduceEqDiff, Int.reduceAdd, Int.reduceBEq, Int.reduceBNe, reduceCtorEq, beq_self_eq_true, Bool.true_beq, Bool.false_beq]; repeat ((with_reducible refine leK_refl ?_); simp only [go_sem, vc_block_seq, vc_block_region, vc_block_cond, vc_block_block, Nat.reduceBEq, Nat.reduceAdd, Nat.reduceLeDiff, Nat.reduceEqDiff, Int.reduceAdd, Int.reduceBEq, Int.reduceBNe, reduceCtorEq, beq_self_eq_true, Bool.true_beq, Bool.false_beq]))
  refine cond_ne (fun h => ?_) (fun h => ?_)
  · (simp only [go_sem, vc_block_seq, vc_block_region, vc_block_cond, vc_block_block, Nat.reduceBEq, Nat.reduceAdd, Nat.reduceLeDiff, Nat.reduceEqDiff, Int.reduceAdd, Int.reduceBEq, Int.reduceBNe, reduceCtorEq, beq_self_eq_true, Bool.true_beq, Bool.false_beq]; repeat ((with_reducible refine leK_refl ?_); simp only [go_sem, vc_block_seq, vc_block_region, vc_block_cond, vc_block_block, Nat.reduceBEq, Nat.reduceAdd, Nat.reduceLeDiff, Nat.reduceEqDiff, Int.reduceAdd, Int.reduceBEq, Int.reduceBNe, reduceCtorEq, beq_self_eq_true, Bool.true_beq, Bool.false_beq]))
    refine ⟨Sub.refl _, ?_⟩
    have : ¬ xs = ys := fun e => h (by rw [← lx, ← ly, e])
    simp [this]
  have hnm : n = m := by omega
  subst hnm
  (simp only [go_sem, vc_block_seq, vc_block_region, vc_block_cond, vc_block_block, Nat.reduceBEq, Nat.reduceAdd, Nat.reduceLeDiff, Nat.reduceEqDiff, Int.reduceAdd, Int.reduceBEq, Int.reduceBNe, reduceCtorEq, beq_self_eq_true, Bool.true_beq, Bool.false_beq]; repeat ((with_reducible refine leK_refl ?_); simp only [go_sem, vc_block_seq, vc_block_region, vc_block_cond, vc_block_block, Nat.reduceBEq, Nat.reduceAdd, Nat.reduceLeDiff, Nat.reduceEqDiff, Int.reduceAdd, Int.reduceBEq, Int.reduceBNe, reduceCtorEq, beq_self_eq_true, Bool.true_beq, Bool.false_beq]))
  refine vc_range n (fun (_ : Unit) => []) (fun _ => []) (fun k _ u' => Sub u u' ∧ xs.take k = ys.take k) () (le_chk (by simp only [go_sem, vc_block_seq, vc_block_region, vc_block_cond, vc_block_block, Nat.reduceBEq, Nat.reduceAdd, Nat.reduceLeDiff, Nat.reduceEqDiff, Int.reduceAdd, Int.reduceBEq, Int.reduceBNe, reduceCtorEq, beq_self_eq_true, Bool.true_beq, Bool.false_beq])) ⟨Sub.refl _, by simp⟩ (fun _ _ => rfl) hn (fun _ => rfl) ?_ ?_
  · rintro k g u1 hk ⟨hs, hF⟩
    obtain ⟨x, ex⟩ := exAt hk lx
    obtain ⟨y, ey⟩ := exAt hk ly
    (simp only [go_sem, vc_block_seq, vc_block_region, vc_block_cond, vc_block_block, Nat.reduceBEq, Nat.reduceAdd, Nat.reduceLeDiff, Nat.reduceEqDiff, Int.reduceAdd, Int.reduceBEq, Int.reduceBNe, reduceCtorEq, beq_self_eq_true, Bool.true_beq, Bool.false_beq]; repeat ((with_reducible refine leK_refl ?_); simp only [go_sem, vc_block_seq, vc_block_region, vc_block_cond, vc_block_block, Nat.reduceBEq, Nat.reduceAdd, Nat.reduceLeDiff, Nat.reduceEqDiff, Int.reduceAdd, Int.reduceBEq, Int.reduceBNe, reduceCtorEq, beq_self_eq_true, Bool.true_beq, Bool.false_beq]))
    refine .inl ⟨[(0, false), (1, false), (4, false), (5, false), (2, false), (6, false), (3, false), (7, false), (8, false)], by kernel_rfl, ?_⟩
    (simp only [go_sem, vc_block_seq, vc_block_region, vc_block_cond, vc_block_block, Nat.reduceBEq, Nat.reduceAdd, Nat.reduceLeDiff, Nat.reduceEqDiff, Int.reduceAdd, Int.reduceBEq, Int.reduceBNe, reduceCtorEq, beq_self_eq_true, Bool.true_beq, Bool.false_beq]; repeat ((with_reducible refine leK_refl ?_); simp only [go_sem, vc_block_seq, vc_block_region, vc_block_cond, vc_block_block, Nat.reduceBEq, Nat.reduceAdd, Nat.reduceLeDiff, Nat.reduceEqDiff, Int.reduceAdd, Int.reduceBEq, Int.reduceBNe, reduceCtorEq, beq_self_eq_true, Bool.true_beq, Bool.false_beq]))
    refine ⟨⟨hx.some_ hk, by omega, by omega⟩, ?_⟩
    refine ⟨⟨hy.some_ hk, by omega, by omega⟩, ?_⟩
    refine (hx.mono hs).load (getMap ex) (.inl rfl) (Nat.le_of_ble_eq_true rfl) ?_
    (simp only [go_sem, vc_block_seq, vc_block_region, vc_block_cond, vc_block_block, Nat.reduceBEq, Nat.reduceAdd, Nat.reduceLeDiff, Nat.reduceEqDiff, Int.reduceAdd, Int.reduceBEq, Int.reduceBNe, reduceCtorEq, beq_self_eq_true, Bool.true_beq, Bool.false_beq]; repeat ((with_reducible refine leK_refl ?_); simp only [go_sem, vc_block_seq, vc_block_region, vc_block_cond, vc_block_block, Nat.reduceBEq, Nat.reduceAdd, Nat.reduceLeDiff, Nat.reduceEqDiff, Int.reduceAdd, Int.reduceBEq, Int.reduceBNe, reduceCtorEq, beq_self_eq_true, Bool.true_beq, Bool.false_beq]))
    refine (hy.mono hs).load (getMap ey) (.inl rfl) (Nat.le_of_ble_eq_true rfl) ?_
    (simp only [go_sem, vc_block_seq, vc_block_region, vc_block_cond, vc_block_block, Nat.reduceBEq, Nat.reduceAdd, Nat.reduceLeDiff, Nat.reduceEqDiff, Int.reduceAdd, Int.reduceBEq, Int.reduceBNe, reduceCtorEq, beq_self_eq_true, Bool.true_beq, Bool.false_beq]; repeat ((with_reducible refine leK_refl ?_); simp only [go_sem, vc_block_seq, vc_block_region, vc_block_cond, vc_block_block, Nat.reduceBEq, Nat.reduceAdd, Nat.reduceLeDiff, Nat.reduceEqDiff, Int.reduceAdd, Int.reduceBEq, Int.reduceBNe, reduceCtorEq, beq_self_eq_true, Bool.true_beq, Bool.false_beq]))
    refine cond_ne (fun h => ?_) (fun h => ?_)
    · (simp only [go_sem, vc_block_seq, vc_block_region, vc_block_cond, vc_block_block, Nat.reduceBEq, Nat.reduceAdd, Nat.reduceLeDiff, Nat.reduceEqDiff, Int.reduceAdd, Int.reduceBEq, Int.reduceBNe, reduceCtorEq, beq_self_eq_true, Bool.true_beq, Bool.false_beq]; repeat ((with_reducible refine leK_refl ?_); simp only [go_sem, vc_block_seq, vc_block_region, vc_block_cond, vc_block_block, Nat.reduceBEq, Nat.reduceAdd, Nat.reduceLeDiff, Nat.reduceEqDiff, Int.reduceAdd, Int.reduceBEq, Int.reduceBNe, reduceCtorEq, beq_self_eq_true, Bool.true_beq, Bool.false_beq]))
      refine ⟨hs, ?_⟩
      have : ¬ xs = ys := fun e => h (by rw [e, ey] at ex; cases ex; rfl)
      simp [this]
    · have hxy : x = y := by exact UInt8.toNat_inj.1 (by omega)
      (simp only [go_sem, vc_block_seq, vc_block_region, vc_block_cond, vc_block_block, Nat.reduceBEq, Nat.reduceAdd, Nat.reduceLeDiff, Nat.reduceEqDiff, Int.reduceAdd, Int.reduceBEq, Int.reduceBNe, reduceCtorEq, beq_self_eq_true, Bool.true_beq, Bool.false_beq]; repeat ((with_reducible refine leK_refl ?_); simp only [go_sem, vc_block_seq, vc_block_region, vc_block_cond, vc_block_block, Nat.reduceBEq, Nat.reduceAdd, Nat.reduceLeDiff, Nat.reduceEqDiff, Int.reduceAdd, Int.reduceBEq, Int.reduceBNe, reduceCtorEq, beq_self_eq_true, Bool.true_beq, Bool.false_beq]))
      exact ⟨(), le_chk (by simp only [go_sem, vc_block_seq, vc_block_region, vc_block_cond, vc_block_block, Nat.reduceBEq, Nat.reduceAdd, Nat.reduceLeDiff, Nat.reduceEqDiff, Int.reduceAdd, Int.reduceBEq, Int.reduceBNe, reduceCtorEq, beq_self_eq_true, Bool.true_beq, Bool.false_beq]), hs, by rw [take_succ ex, take_succ ey, hF, hxy]⟩
  · rintro g u1 ⟨hs, hF⟩
    rw [take_all lx, take_all ly] at hF
    (simp only [go_sem, vc_block_seq, vc_block_region, vc_block_cond, vc_block_block, Nat.reduceBEq, Nat.reduceAdd, Nat.reduceLeDiff, Nat.reduceEqDiff, Int.reduceAdd, Int.reduceBEq, Int.reduceBNe, reduceCtorEq, beq_self_eq_true, Bool.true_beq, Bool.false_beq]; repeat ((with_reducible refine leK_refl ?_); simp only [go_sem, vc_block_seq, vc_block_region, vc_block_cond, vc_block_block, Nat.reduceBEq, Nat.reduceAdd, Nat.reduceLeDiff, Nat.reduceEqDiff, Int.reduceAdd, Int.reduceBEq, Int.reduceBNe, reduceCtorEq, beq_self_eq_true, Bool.true_beq, Bool.false_beq]))
    exact ⟨hs, by simp [hF]⟩



theorem one_con (x : PE) (u : World) (hx : There u (EvK.parts x)) (hn : x.n ≤ 1000000) (hm : x.m ≤ 1000000) : Con Try.prog 38 [x.val] u (fun r u' => ∃ y : PE, r = y.val ∧ y.g = x.g ∧ Owned u u' (EvK.parts y)) := by
  have h1 := ev_vals hx
  have h2 := ev_data hx
  refine spec_of_vc Ty.mixed Try.func38 rfl (by kernel_rfl) (by kernel_rfl) rfl [.cell 2 34] rfl ?_
  (simp only [go_sem, vc_block_seq, vc_block_region, vc_block_cond, vc_block_block, Nat.reduceBEq, Nat.reduceAdd, Nat.reduceLeDiff, Nat.reduceEqDiff, Int.reduceAdd, Int.reduceBEq, Int.reduceBNe, reduceCtorEq, beq_self_eq_true, Bool.true_beq, Bool.false_beq]; repeat ((with_reducible refine leK_refl ?_); simp only [go_sem, vc_block_seq, vc_block_region, vc_block_cond, vc_block_block, Nat.reduceBEq, Nat.reduceAdd, Nat.reduceLeDiff, Nat.reduceEqDiff, Int.reduceAdd, Int.reduceBEq, Int.reduceBNe, reduceCtorEq, beq_self_eq_true, Bool.true_beq, Bool.false_beq]))
  intro b1 b2
  refine .inl ⟨[(0, false), (2, false), (5, false), (1, false), (3, false), (6, false), (4, true), (7, true), (8, false), (9, false)], by kernel_rfl, ?_⟩
  (simp only [go_sem, vc_block_seq, vc_block_region, vc_block_cond, vc_block_block, Nat.reduceBEq, Nat.reduceAdd, Nat.reduceLeDiff, Nat.reduceEqDiff, Int.reduceAdd, Int.reduceBEq, Int.reduceBNe, reduceCtorEq, beq_self_eq_true, Bool.true_beq, Bool.false_beq]; repeat ((with_reducible refine leK_refl ?_); simp only [go_sem, vc_block_seq, vc_block_region, vc_block_cond, vc_block_block, Nat.reduceBEq, Nat.reduceAdd, Nat.reduceLeDiff, Nat.reduceEqDiff, Int.reduceAdd, Int.reduceBEq, Int.reduceBNe, reduceCtorEq, beq_self_eq_true, Bool.true_beq, Bool.false_beq]))
  refine AtCall.of_spec (cloneI_con _ x.p x.n x.c u h1 (onesI _) (by omega)) ?_
  rintro r u1 hs1 ⟨p1, c1, rfl, o1⟩
  (simp only [go_sem, vc_block_seq, vc_block_region, vc_block_cond, vc_block_block, Nat.reduceBEq, Nat.reduceAdd, Nat.reduceLeDiff, Nat.reduceEqDiff, Int.reduceAdd, Int.reduceBEq, Int.reduceBNe, reduceCtorEq, beq_self_eq_true, Bool.true_beq, Bool.false_beq]; repeat ((with_reducible refine leK_refl ?_); simp only [go_sem, vc_block_seq, vc_block_region, vc_block_cond, vc_block_block, Nat.reduceBEq, Nat.reduceAdd, Nat.reduceLeDiff, Nat.reduceEqDiff, Int.reduceAdd, Int.reduceBEq, Int.reduceBNe, reduceCtorEq, beq_self_eq_true, Bool.true_beq, Bool.false_beq]))
  refine AtCall.of_spec (cloneB_con _ x.q x.m x.d u1 (h2.mono hs1) (onesB _) (by omega)) ?_
  rintro r u2 hs2 ⟨p2, c2, rfl, o2⟩
  (simp only [go_sem, vc_block_seq, vc_block_region, vc_block_cond, vc_block_block, Nat.reduceBEq, Nat.reduceAdd, Nat.reduceLeDiff, Nat.reduceEqDiff, Int.reduceAdd, Int.reduceBEq, Int.reduceBNe, reduceCtorEq, beq_self_eq_true, Bool.true_beq, Bool.false_beq]; repeat ((with_reducible refine leK_refl ?_); simp only [go_sem, vc_block_seq, vc_block_region, vc_block_cond, vc_block_block, Nat.reduceBEq, Nat.reduceAdd, Nat.reduceLeDiff, Nat.reduceEqDiff, Int.reduceAdd, Int.reduceBEq, Int.reduceBNe, reduceCtorEq, beq_self_eq_true, Bool.true_beq, Bool.false_beq]))
  exact ⟨hs1.trans hs2, ⟨x.g, p1, x.n, c1, p2, x.m, c2⟩, rfl, rfl, ev_owned (o1.mono hs2) (o2.anti hs1)⟩

theorem bsame_con (x y : PE) (u : World) (hx : There u (EvK.parts x)) (hy : There u (EvK.parts y)) (hn : x.n ≤ 1000000) (hm : x.m ≤ 1000000) : Con Try.prog 42 [x.val, y.val] u (fun r _ => r = .bool (decide (x.g = y.g))) := by
  refine spec_of_vc Ty.mixed Try.func42 rfl (by kernel_rfl) (by kernel_rfl) rfl [.tmp 4] rfl ?_
  (simp only [go_sem, vc_block_seq, vc_block_region, vc_block_cond, vc_block_block, Nat.reduceBEq, Nat.reduceAdd, Nat.reduceLeDiff, Nat.reduceEqDiff, Int.reduceAdd, Int.reduceBEq, Int.reduceBNe, reduceCtorEq, beq_self_eq_true, Bool.true_beq, Bool.false_beq]; repeat ((with_reducible refine leK_refl ?_); simp only [go_sem, vc_block_seq, vc_block_region, vc_block_cond, vc_block_block, Nat.reduceBEq, Nat.reduceAdd, Nat.reduceLeDiff, Nat.reduceEqDiff, Int.reduceAdd, Int.reduceBEq, Int.reduceBNe, reduceCtorEq, beq_self_eq_true, Bool.true_beq, Bool.false_beq]))
  intro b1 b2
  by_cases h1 : x.g.id = y.g.id
  case neg =>
    rw [decide_eq_false h1]
    (simp only [go_sem, vc_block_seq, vc_block_region, vc_block_cond, vc_block_block, Nat.reduceBEq, Nat.reduceAdd, Nat.reduceLeDiff, Nat.reduceEqDiff, Int.reduceAdd, Int.reduceBEq, Int.reduceBNe, reduceCtorEq, beq_self_eq_true, Bool.true_beq, Bool.false_beq]; repeat ((with_reducible refine leK_refl ?_); simp only [go_sem, vc_block_seq, vc_block_region, vc_block_cond, vc_block_block, Nat.reduceBEq, Nat.reduceAdd, Nat.reduceLeDiff, Nat.reduceEqDiff, Int.reduceAdd, Int.reduceBEq, Int.reduceBNe, reduceCtorEq, beq_self_eq_true, Bool.true_beq, Bool.false_beq]))
    exact ⟨Sub.refl _, by rw [decide_eq_false (fun e => h1 (by rw [e]))]⟩
  rw [decide_eq_true h1]
  (simp only [go_sem, vc_block_seq, vc_block_region, vc_block_cond, vc_block_block, Nat.reduceBEq, Nat.reduceAdd, Nat.reduceLeDiff, Nat.reduceEqDiff, Int.reduceAdd, Int.reduceBEq, Int.reduceBNe, reduceCtorEq, beq_self_eq_true, Bool.true_beq, Bool.false_beq]; repeat ((with_reducible refine leK_refl ?_); simp only [go_sem, vc_block_seq, vc_block_region, vc_block_cond, vc_block_block, Nat.reduceBEq, Nat.reduceAdd, Nat.reduceLeDiff, Nat.reduceEqDiff, Int.reduceAdd, Int.reduceBEq, Int.reduceBNe, reduceCtorEq, beq_self_eq_true, Bool.true_beq, Bool.false_beq]))
  refine AtCall.of_spec (sameI_con x.g.vals y.g.vals _ _ _ _ _ _ u (ev_vals hx) (ev_vals hy) (by omega)) ?_
  rintro r u1 hs1 rfl
  by_cases h2 : x.g.vals = y.g.vals
  case neg =>
    rw [decide_eq_false h2]
    (simp only [go_sem, vc_block_seq, vc_block_region, vc_block_cond, vc_block_block, Nat.reduceBEq, Nat.reduceAdd, Nat.reduceLeDiff, Nat.reduceEqDiff, Int.reduceAdd, Int.reduceBEq, Int.reduceBNe, reduceCtorEq, beq_self_eq_true, Bool.true_beq, Bool.false_beq]; repeat ((with_reducible refine leK_refl ?_); simp only [go_sem, vc_block_seq, vc_block_region, vc_block_cond, vc_block_block, Nat.reduceBEq, Nat.reduceAdd, Nat.reduceLeDiff, Nat.reduceEqDiff, Int.reduceAdd, Int.reduceBEq, Int.reduceBNe, reduceCtorEq, beq_self_eq_true, Bool.true_beq, Bool.false_beq]))
    exact ⟨hs1, by rw [decide_eq_false (fun e => h2 (by rw [e]))]⟩
  rw [decide_eq_true h2]
  (simp only [go_sem, vc_block_seq, vc_block_region, vc_block_cond, vc_block_block, Nat.reduceBEq, Nat.reduceAdd, Nat.reduceLeDiff, Nat.reduceEqDiff, Int.reduceAdd, Int.reduceBEq, Int.reduceBNe, reduceCtorEq, beq_self_eq_true, Bool.true_beq, Bool.false_beq]; repeat ((with_reducible refine leK_refl ?_); simp only [go_sem, vc_block_seq, vc_block_region, vc_block_cond, vc_block_block, Nat.reduceBEq, Nat.reduceAdd, Nat.reduceLeDiff, Nat.reduceEqDiff, Int.reduceAdd, Int.reduceBEq, Int.reduceBNe, reduceCtorEq, beq_self_eq_true, Bool.true_beq, Bool.false_beq]))
  refine AtCall.of_spec (sameB_con x.g.data y.g.data _ _ _ _ _ _ u1 ((ev_data hx).mono hs1) ((ev_data hy).mono hs1) (by omega)) ?_
  rintro r u2 hs2 rfl
  (simp only [go_sem, vc_block_seq, vc_block_region, vc_block_cond, vc_block_block, Nat.reduceBEq, Nat.reduceAdd, Nat.reduceLeDiff, Nat.reduceEqDiff, Int.reduceAdd, Int.reduceBEq, Int.reduceBNe, reduceCtorEq, beq_self_eq_true, Bool.true_beq, Bool.false_beq]; repeat ((with_reducible refine leK_refl ?_); simp only [go_sem, vc_block_seq, vc_block_region, vc_block_cond, vc_block_block, Nat.reduceBEq, Nat.reduceAdd, Nat.reduceLeDiff, Nat.reduceEqDiff, Int.reduceAdd, Int.reduceBEq, Int.reduceBNe, reduceCtorEq, beq_self_eq_true, Bool.true_beq, Bool.false_beq]))
  refine ⟨hs1.trans hs2, ?_⟩
  congr 1
  rw [Bool.eq_iff_iff]
  simp only [decide_eq_true_eq]
  have key : ∀ a b : GEv, a.id = b.id → a.vals = b.vals → a.data = b.data → a = b := by rintro ⟨_, _, _⟩ ⟨_, _, _⟩ rfl rfl rfl; rfl
  exact ⟨fun h3 => key _ _ h1 h2 h3, fun e => by rw [e]⟩

theorem equalf_con (l m : List PE) (p q : Option Addr) (n c k d : Nat) (u : World) (hl : EL EvK u p n c l) (hm : EL EvK u q k d m) (hn : n ≤ 1000000) (h8 : ∀ x ∈ l, x.n ≤ 1000000 ∧ x.m ≤ 1000000) :
    Con Try.prog 41 [.slice p n c, .slice q k d, .func (.func 42) #[] #[]] u (fun r _ => r = .bool (decide (es l = es m))) := by
  have ll := hl.len
  have lm := hm.len
  refine spec_of_vc Ty.mixed Try.func41 rfl (by kernel_rfl) (by kernel_rfl) rfl [.tmp 6] rfl ?_
  (simp only [go_sem, vc_block_seq, vc_block_region, vc_block_cond, vc_block_block, Nat.reduceBEq, Nat.reduceAdd, Nat.reduceLeDiff, Nat.reduceEqDiff, Int.reduceAdd, Int.reduceBEq, Int.reduceBNe, reduceCtorEq, beq_self_eq_true, Bool.true_beq, Bool.false_beq]; repeat ((with_reducible refine leK_refl ?_); simp only [go_sem, vc_block_seq, vc_block_region, vc_block_cond, vc_block_block, Nat.reduceBEq, Nat.reduceAdd, Nat.reduceLeDiff, Nat.reduceEqDiff, Int.reduceAdd, Int.reduceBEq, Int.reduceBNe, reduceCtorEq, beq_self_eq_true, Bool.true_beq, Bool.false_beq]))
  refine cond_ne (fun h => ?_) (fun h => ?_)
  · (simp only [go_sem, vc_block_seq, vc_block_region, vc_block_cond, vc_block_block, Nat.reduceBEq, Nat.reduceAdd, Nat.reduceLeDiff, Nat.reduceEqDiff, Int.reduceAdd, Int.reduceBEq, Int.reduceBNe, reduceCtorEq, beq_self_eq_true, Bool.true_beq, Bool.false_beq]; repeat ((with_reducible refine leK_refl ?_); simp only [go_sem, vc_block_seq, vc_block_region, vc_block_cond, vc_block_block, Nat.reduceBEq, Nat.reduceAdd, Nat.reduceLeDiff, Nat.reduceEqDiff, Int.reduceAdd, Int.reduceBEq, Int.reduceBNe, reduceCtorEq, beq_self_eq_true, Bool.true_beq, Bool.false_beq]))
    refine ⟨Sub.refl _, ?_⟩
    rw [decide_eq_false (fun e => ?_)]
    have := congrArg List.length e
    simp at this
    omega
  obtain rfl : n = k := by omega
  (simp only [go_sem, vc_block_seq, vc_block_region, vc_block_cond, vc_block_block, Nat.reduceBEq, Nat.reduceAdd, Nat.reduceLeDiff, Nat.reduceEqDiff, Int.reduceAdd, Int.reduceBEq, Int.reduceBNe, reduceCtorEq, beq_self_eq_true, Bool.true_beq, Bool.false_beq]; repeat ((with_reducible refine leK_refl ?_); simp only [go_sem, vc_block_seq, vc_block_region, vc_block_cond, vc_block_block, Nat.reduceBEq, Nat.reduceAdd, Nat.reduceLeDiff, Nat.reduceEqDiff, Int.reduceAdd, Int.reduceBEq, Int.reduceBNe, reduceCtorEq, beq_self_eq_true, Bool.true_beq, Bool.false_beq]))
  refine vc_range n (fun (_ : Unit) => []) (fun _ => []) (fun k _ u' => Sub u u' ∧ (es l).take k = (es m).take k) () (le_chk (by simp only [go_sem, vc_block_seq, vc_block_region, vc_block_cond, vc_block_block, Nat.reduceBEq, Nat.reduceAdd, Nat.reduceLeDiff, Nat.reduceEqDiff, Int.reduceAdd, Int.reduceBEq, Int.reduceBNe, reduceCtorEq, beq_self_eq_true, Bool.true_beq, Bool.false_beq])) ⟨Sub.refl _, by simp⟩ (fun _ _ => rfl) (by omega) (fun _ => rfl) ?_ ?_
  · rintro k _ u1 hk ⟨hs, hF⟩
    obtain ⟨x, hx⟩ := exAt hk ll
    obtain ⟨y, hy⟩ := exAt hk lm
    have hx8 := h8 x (List.mem_of_getElem? hx)
    (simp only [go_sem, vc_block_seq, vc_block_region, vc_block_cond, vc_block_block, Nat.reduceBEq, Nat.reduceAdd, Nat.reduceLeDiff, Nat.reduceEqDiff, Int.reduceAdd, Int.reduceBEq, Int.reduceBNe, reduceCtorEq, beq_self_eq_true, Bool.true_beq, Bool.false_beq]; repeat ((with_reducible refine leK_refl ?_); simp only [go_sem, vc_block_seq, vc_block_region, vc_block_cond, vc_block_block, Nat.reduceBEq, Nat.reduceAdd, Nat.reduceLeDiff, Nat.reduceEqDiff, Int.reduceAdd, Int.reduceBEq, Int.reduceBNe, reduceCtorEq, beq_self_eq_true, Bool.true_beq, Bool.false_beq]))
    refine ⟨⟨hl.sl.some_ hk, by omega, by omega⟩, ?_⟩
    refine (hl.sl.mono hs).load (getMap hx) (.inr rfl) (Nat.le_of_ble_eq_true rfl) ?_
    (simp only [go_sem, vc_block_seq, vc_block_region, vc_block_cond, vc_block_block, Nat.reduceBEq, Nat.reduceAdd, Nat.reduceLeDiff, Nat.reduceEqDiff, Int.reduceAdd, Int.reduceBEq, Int.reduceBNe, reduceCtorEq, beq_self_eq_true, Bool.true_beq, Bool.false_beq]; repeat ((with_reducible refine leK_refl ?_); simp only [go_sem, vc_block_seq, vc_block_region, vc_block_cond, vc_block_block, Nat.reduceBEq, Nat.reduceAdd, Nat.reduceLeDiff, Nat.reduceEqDiff, Int.reduceAdd, Int.reduceBEq, Int.reduceBNe, reduceCtorEq, beq_self_eq_true, Bool.true_beq, Bool.false_beq]))
    intro b8
    refine ⟨⟨hm.sl.some_ hk, by omega, by omega⟩, ?_⟩
    refine (hm.sl.mono hs).load (getMap hy) (.inr rfl) (Nat.le_of_ble_eq_true rfl) ?_
    (simp only [go_sem, vc_block_seq, vc_block_region, vc_block_cond, vc_block_block, Nat.reduceBEq, Nat.reduceAdd, Nat.reduceLeDiff, Nat.reduceEqDiff, Int.reduceAdd, Int.reduceBEq, Int.reduceBNe, reduceCtorEq, beq_self_eq_true, Bool.true_beq, Bool.false_beq]; repeat ((with_reducible refine leK_refl ?_); simp only [go_sem, vc_block_seq, vc_block_region, vc_block_cond, vc_block_block, Nat.reduceBEq, Nat.reduceAdd, Nat.reduceLeDiff, Nat.reduceEqDiff, Int.reduceAdd, Int.reduceBEq, Int.reduceBNe, reduceCtorEq, beq_self_eq_true, Bool.true_beq, Bool.false_beq]))
    intro b9
    refine AtCall.of_spec (bsame_con x y u1 ((hl.at_ hx).mono hs) ((hm.at_ hy).mono hs) hx8.1 hx8.2) ?_
    rintro r u2 hs2 rfl
    by_cases h1 : x.g = y.g
    · rw [decide_eq_true h1]
      (simp only [go_sem, vc_block_seq, vc_block_region, vc_block_cond, vc_block_block, Nat.reduceBEq, Nat.reduceAdd, Nat.reduceLeDiff, Nat.reduceEqDiff, Int.reduceAdd, Int.reduceBEq, Int.reduceBNe, reduceCtorEq, beq_self_eq_true, Bool.true_beq, Bool.false_beq]; repeat ((with_reducible refine leK_refl ?_); simp only [go_sem, vc_block_seq, vc_block_region, vc_block_cond, vc_block_block, Nat.reduceBEq, Nat.reduceAdd, Nat.reduceLeDiff, Nat.reduceEqDiff, Int.reduceAdd, Int.reduceBEq, Int.reduceBNe, reduceCtorEq, beq_self_eq_true, Bool.true_beq, Bool.false_beq]))
      exact ⟨(), le_chk (by simp only [go_sem, vc_block_seq, vc_block_region, vc_block_cond, vc_block_block, Nat.reduceBEq, Nat.reduceAdd, Nat.reduceLeDiff, Nat.reduceEqDiff, Int.reduceAdd, Int.reduceBEq, Int.reduceBNe, reduceCtorEq, beq_self_eq_true, Bool.true_beq, Bool.false_beq]), hs.trans hs2, by rw [take_succ (getEs hx), take_succ (getEs hy), hF, h1]⟩
    · rw [decide_eq_false h1]
      (simp only [go_sem, vc_block_seq, vc_block_region, vc_block_cond, vc_block_block, Nat.reduceBEq, Nat.reduceAdd, Nat.reduceLeDiff, Nat.reduceEqDiff, Int.reduceAdd, Int.reduceBEq, Int.reduceBNe, reduceCtorEq, beq_self_eq_true, Bool.true_beq, Bool.false_beq]; repeat ((with_reducible refine leK_refl ?_); simp only [go_sem, vc_block_seq, vc_block_region, vc_block_cond, vc_block_block, Nat.reduceBEq, Nat.reduceAdd, Nat.reduceLeDiff, Nat.reduceEqDiff, Int.reduceAdd, Int.reduceBEq, Int.reduceBNe, reduceCtorEq, beq_self_eq_true, Bool.true_beq, Bool.false_beq]))
      refine ⟨hs.trans hs2, ?_⟩
      rw [decide_eq_false (fun e => h1 ?_)]
      have h2 := getEs hx
      rw [e, getEs hy] at h2
      exact (Option.some.inj h2).symm
  · rintro _ u1 ⟨hs, hF⟩
    rw [take_all (by simpa using ll), take_all (by simpa using lm)] at hF
    (simp only [go_sem, vc_block_seq, vc_block_region, vc_block_cond, vc_block_block, Nat.reduceBEq, Nat.reduceAdd, Nat.reduceLeDiff, Nat.reduceEqDiff, Int.reduceAdd, Int.reduceBEq, Int.reduceBNe, reduceCtorEq, beq_self_eq_true, Bool.true_beq, Bool.false_beq]; repeat ((with_reducible refine leK_refl ?_); simp only [go_sem, vc_block_seq, vc_block_region, vc_block_cond, vc_block_block, Nat.reduceBEq, Nat.reduceAdd, Nat.reduceLeDiff, Nat.reduceEqDiff, Int.reduceAdd, Int.reduceBEq, Int.reduceBNe, reduceCtorEq, beq_self_eq_true, Bool.true_beq, Bool.false_beq]))
    exact ⟨hs, by rw [decide_eq_true hF]⟩

/-- A buffer that is there, small. -/
structure BL (u : World) (N : Nat) (b : PB) : Prop where
  el : EL EvK u b.p b.n b.c b.l
  len : b.n ≤ N
  small : ∀ x ∈ b.l, x.n ≤ 1000 ∧ x.m ≤ 1000
theorem BL.mono {u u' : World} {N : Nat} {b : PB} (hs : Sub u u') (h : BL u N b) : BL u' N b := ⟨h.el.mono hs, h.len, h.small⟩
theorem BL.wide {u : World} {N M : Nat} {b : PB} (h : BL u N b) (hNM : N ≤ M) : BL u M b := ⟨h.el, Nat.le_trans h.len hNM, h.small⟩

theorem bufsame_con (a b : PB) (u : World) (ha : BL u 1000 a) (hb : EL EvK u b.p b.n b.c b.l) : Con Try.prog 14 [a.val, b.val] u (fun r _ => r = .bool (decide (a.room = b.room) && decide (es a.l = es b.l))) := by
  have han := ha.len
  refine spec_of_vc Ty.mixed Try.func14 rfl (by kernel_rfl) (by kernel_rfl) rfl [.tmp 4] rfl ?_
  (simp only [go_sem, vc_block_seq, vc_block_region, vc_block_cond, vc_block_block, Nat.reduceBEq, Nat.reduceAdd, Nat.reduceLeDiff, Nat.reduceEqDiff, Int.reduceAdd, Int.reduceBEq, Int.reduceBNe, reduceCtorEq, beq_self_eq_true, Bool.true_beq, Bool.false_beq]; repeat ((with_reducible refine leK_refl ?_); simp only [go_sem, vc_block_seq, vc_block_region, vc_block_cond, vc_block_block, Nat.reduceBEq, Nat.reduceAdd, Nat.reduceLeDiff, Nat.reduceEqDiff, Int.reduceAdd, Int.reduceBEq, Int.reduceBNe, reduceCtorEq, beq_self_eq_true, Bool.true_beq, Bool.false_beq]))
  intro b1 b2
  by_cases h1 : a.room = b.room
  case neg =>
    rw [show (a.room == b.room) = false by simpa using h1]
    (simp only [go_sem, vc_block_seq, vc_block_region, vc_block_cond, vc_block_block, Nat.reduceBEq, Nat.reduceAdd, Nat.reduceLeDiff, Nat.reduceEqDiff, Int.reduceAdd, Int.reduceBEq, Int.reduceBNe, reduceCtorEq, beq_self_eq_true, Bool.true_beq, Bool.false_beq]; repeat ((with_reducible refine leK_refl ?_); simp only [go_sem, vc_block_seq, vc_block_region, vc_block_cond, vc_block_block, Nat.reduceBEq, Nat.reduceAdd, Nat.reduceLeDiff, Nat.reduceEqDiff, Int.reduceAdd, Int.reduceBEq, Int.reduceBNe, reduceCtorEq, beq_self_eq_true, Bool.true_beq, Bool.false_beq]))
    exact ⟨Sub.refl _, by rw [decide_eq_false h1]; rfl⟩
  rw [show (a.room == b.room) = true by simpa using h1]
  (simp only [go_sem, vc_block_seq, vc_block_region, vc_block_cond, vc_block_block, Nat.reduceBEq, Nat.reduceAdd, Nat.reduceLeDiff, Nat.reduceEqDiff, Int.reduceAdd, Int.reduceBEq, Int.reduceBNe, reduceCtorEq, beq_self_eq_true, Bool.true_beq, Bool.false_beq]; repeat ((with_reducible refine leK_refl ?_); simp only [go_sem, vc_block_seq, vc_block_region, vc_block_cond, vc_block_block, Nat.reduceBEq, Nat.reduceAdd, Nat.reduceLeDiff, Nat.reduceEqDiff, Int.reduceAdd, Int.reduceBEq, Int.reduceBNe, reduceCtorEq, beq_self_eq_true, Bool.true_beq, Bool.false_beq]))
  refine AtCall.of_spec (equalf_con a.l b.l _ _ _ _ _ _ u ha.el hb (by omega) (fun x hx => by have := ha.small x hx; omega)) ?_
  rintro r u1 hs1 rfl
  (simp only [go_sem, vc_block_seq, vc_block_region, vc_block_cond, vc_block_block, Nat.reduceBEq, Nat.reduceAdd, Nat.reduceLeDiff, Nat.reduceEqDiff, Int.reduceAdd, Int.reduceBEq, Int.reduceBNe, reduceCtorEq, beq_self_eq_true, Bool.true_beq, Bool.false_beq]; repeat ((with_reducible refine leK_refl ?_); simp only [go_sem, vc_block_seq, vc_block_region, vc_block_cond, vc_block_block, Nat.reduceBEq, Nat.reduceAdd, Nat.reduceLeDiff, Nat.reduceEqDiff, Int.reduceAdd, Int.reduceBEq, Int.reduceBNe, reduceCtorEq, beq_self_eq_true, Bool.true_beq, Bool.false_beq]))
  exact ⟨hs1, by rw [decide_eq_true h1]; rfl⟩
end Go.Proofs.Ytcaobkpfafcnjaa
