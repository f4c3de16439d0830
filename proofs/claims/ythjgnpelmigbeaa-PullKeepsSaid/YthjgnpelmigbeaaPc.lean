/-
  Walks: clone, insert.
-/
import Derived.Test.YthjgnpelmigbeaaPb
import Derived.Test.YthjgnpelmigbeaaEj
set_option linter.unusedSimpArgs false
set_option linter.unusedVariables false
namespace Go.Proofs.Ythjgnpelmigbeaa
open Go.Eng

theorem cloneAsk_con (xs : List (List Value)) (p : Option Addr) (n c : Nat) (u : World) (hl : Sl u 5 p n c xs) (h1 : allOnes xs) (hb : n * 12 ≤ 140737488355328) :
    Con Try.prog 25 [.slice p n c] u (fun r u' => ∃ p' c', r = .slice p' n c' ∧ Own u u' 28 5 p' n c' xs) := by
  refine spec_of_vc Ty.mixed Try.func25 rfl (by kernel_rfl) (by kernel_rfl) rfl [.tmp 2] rfl ?_
  (simp only [go_sem, vc_block_seq, vc_block_region, vc_block_cond, vc_block_block, Nat.reduceBEq, Nat.reduceAdd, Nat.reduceLeDiff, Nat.reduceEqDiff, Int.reduceAdd, Int.reduceBEq, Int.reduceBNe, reduceCtorEq, beq_self_eq_true, Bool.true_beq, Bool.false_beq]; repeat ((with_reducible refine leK_refl ?_); simp only [go_sem, vc_block_seq, vc_block_region, vc_block_cond, vc_block_block, Nat.reduceBEq, Nat.reduceAdd, Nat.reduceLeDiff, Nat.reduceEqDiff, Int.reduceAdd, Int.reduceBEq, Int.reduceBNe, reduceCtorEq, beq_self_eq_true, Bool.true_beq, Bool.false_beq]))
  refine cond_split (fun h => ?_) (fun h => ?_)
  · have hp : p = none := by simpa using h
    subst hp
    obtain ⟨rfl, rfl⟩ := hl.nil rfl
    have hx : xs = [] := List.eq_nil_of_length_eq_zero hl.len
    subst hx
    (simp only [go_sem, vc_block_seq, vc_block_region, vc_block_cond, vc_block_block, Nat.reduceBEq, Nat.reduceAdd, Nat.reduceLeDiff, Nat.reduceEqDiff, Int.reduceAdd, Int.reduceBEq, Int.reduceBNe, reduceCtorEq, beq_self_eq_true, Bool.true_beq, Bool.false_beq]; repeat ((with_reducible refine leK_refl ?_); simp only [go_sem, vc_block_seq, vc_block_region, vc_block_cond, vc_block_block, Nat.reduceBEq, Nat.reduceAdd, Nat.reduceLeDiff, Nat.reduceEqDiff, Int.reduceAdd, Int.reduceBEq, Int.reduceBNe, reduceCtorEq, beq_self_eq_true, Bool.true_beq, Bool.false_beq]))
    exact ⟨Sub.refl _, none, 0, rfl, Own.nil_ _ _ _ _⟩
  · (simp only [go_sem, vc_block_seq, vc_block_region, vc_block_cond, vc_block_block, Nat.reduceBEq, Nat.reduceAdd, Nat.reduceLeDiff, Nat.reduceEqDiff, Int.reduceAdd, Int.reduceBEq, Int.reduceBNe, reduceCtorEq, beq_self_eq_true, Bool.true_beq, Bool.false_beq]; repeat ((with_reducible refine leK_refl ?_); simp only [go_sem, vc_block_seq, vc_block_region, vc_block_cond, vc_block_block, Nat.reduceBEq, Nat.reduceAdd, Nat.reduceLeDiff, Nat.reduceEqDiff, Int.reduceAdd, Int.reduceBEq, Int.reduceBNe, reduceCtorEq, beq_self_eq_true, Bool.true_beq, Bool.false_beq]))
    refine eff_lit (n := 0) (vs := []) Ty.el22 rfl rfl (by simp) (by omega) ?_
    intro p1 u1 ho1 hs1 _
    (simp only [go_sem, vc_block_seq, vc_block_region, vc_block_cond, vc_block_block, Nat.reduceBEq, Nat.reduceAdd, Nat.reduceLeDiff, Nat.reduceEqDiff, Int.reduceAdd, Int.reduceBEq, Int.reduceBNe, reduceCtorEq, beq_self_eq_true, Bool.true_beq, Bool.false_beq]; repeat ((with_reducible refine leK_refl ?_); simp only [go_sem, vc_block_seq, vc_block_region, vc_block_cond, vc_block_block, Nat.reduceBEq, Nat.reduceAdd, Nat.reduceLeDiff, Nat.reduceEqDiff, Int.reduceAdd, Int.reduceBEq, Int.reduceBNe, reduceCtorEq, beq_self_eq_true, Bool.true_beq, Bool.false_beq]))
    refine eff_append Ty.el22 ho1 (hl.mono hs1) h1 (by simpa using hb) (by omega) ?_
    intro p2 c2 u2 ho2 hs2 _
    (simp only [go_sem, vc_block_seq, vc_block_region, vc_block_cond, vc_block_block, Nat.reduceBEq, Nat.reduceAdd, Nat.reduceLeDiff, Nat.reduceEqDiff, Int.reduceAdd, Int.reduceBEq, Int.reduceBNe, reduceCtorEq, beq_self_eq_true, Bool.true_beq, Bool.false_beq]; repeat ((with_reducible refine leK_refl ?_); simp only [go_sem, vc_block_seq, vc_block_region, vc_block_cond, vc_block_block, Nat.reduceBEq, Nat.reduceAdd, Nat.reduceLeDiff, Nat.reduceEqDiff, Int.reduceAdd, Int.reduceBEq, Int.reduceBNe, reduceCtorEq, beq_self_eq_true, Bool.true_beq, Bool.false_beq]))
    simp only [List.map_nil, List.nil_append, Nat.zero_add] at ho2
    exact ⟨hs2.sub hs1 ho1.fresh, p2, c2, rfl, ho2⟩

set_option maxHeartbeats 1000000 in
/-- slices.Insert of one element into a slice of the caller's own. -/
theorem insertAsk_call (xs : List (List Value)) (x : List Value) (i n c : Nat) (p : Option Addr) (gv : Nat) (u0 u : World) (ho : Own u0 u 28 5 p n c xs) (hi : i ≤ n)
    (hv : u.heap[gv]? = some (.cells x.toArray 28 (0, 0))) (hx : x.length = 5) (hx1 : allOne x = true) (hxs : allOnes xs) (hne : ∀ a, p = some a → gv ≠ a.block) (hb : (n + 1) * 12 ≤ 140737488355328) {K : Value → World → Prop}
    (hK : ∀ p' c' u', Own u0 u' 28 5 p' (n + 1) c' (xs.take i ++ [x] ++ xs.drop i) → SubX p u u' → K (.slice p' (n + 1) c') u') :
    AtCall false Try.prog 29 [.slice p n c, .int .i64 i, .slice (some ⟨gv, 0, none⟩) 1 1] u0 u K := by
  have hvs : Sl u 5 (some ⟨gv, 0, none⟩) 1 1 [x] := ⟨rfl, Nat.le_refl _, by simpa using hx, (fun h => by cases h), fun a ha => by
    cases ha
    refine ⟨rfl, fun i y hy j v hvj => ?_⟩
    cases i with
    | zero => simp at hy; subst hy; exact cell?_of hv (by simpa using hvj)
    | succ i => simp at hy⟩
  have hsl := ho.sl
  have hcap := hsl.cap
  have hlen := ho.len
  have hlA : (xs.take i).flatten.length = i * 5 := by rw [flatten_length (sz := 5) _ (fun y hy => ho.each y (List.mem_of_mem_take hy))]; simp [hlen]; omega
  have hlB : (xs.drop i).flatten.length = (n - i) * 5 := by rw [flatten_length (sz := 5) _ (fun y hy => ho.each y (List.mem_of_mem_drop hy))]; simp [hlen]
  have hfin : (xs.take i ++ [x] ++ xs.drop i).flatten = (xs.take i).flatten ++ x ++ (xs.drop i).flatten := by simp
  have hfl : (xs.take i ++ [x] ++ xs.drop i).length = n + 1 := by simp [hlen]; omega
  have hfe : ∀ y ∈ xs.take i ++ [x] ++ xs.drop i, y.length = 5 := by
    intro y hy
    simp only [List.append_assoc, List.mem_append, List.mem_singleton] at hy
    rcases hy with hy | rfl | hy
    · exact ho.each y (List.mem_of_mem_take hy)
    · exact hx
    · exact ho.each y (List.mem_of_mem_drop hy)
  have hxs2 : xs.flatten = (xs.take i).flatten ++ (xs.drop i).flatten := by rw [← List.flatten_append, List.take_append_drop]
  refine .inl (call_of_vc Ty.mixed Try.func29 rfl (by kernel_rfl) (by kernel_rfl) rfl [.tmp 6] rfl ?_)
  (simp only [go_sem, vc_block_seq, vc_block_region, vc_block_cond, vc_block_block, Nat.reduceBEq, Nat.reduceAdd, Nat.reduceLeDiff, Nat.reduceEqDiff, Int.reduceAdd, Int.reduceBEq, Int.reduceBNe, reduceCtorEq, beq_self_eq_true, Bool.true_beq, Bool.false_beq]; repeat ((with_reducible refine leK_refl ?_); simp only [go_sem, vc_block_seq, vc_block_region, vc_block_cond, vc_block_block, Nat.reduceBEq, Nat.reduceAdd, Nat.reduceLeDiff, Nat.reduceEqDiff, Int.reduceAdd, Int.reduceBEq, Int.reduceBNe, reduceCtorEq, beq_self_eq_true, Bool.true_beq, Bool.false_beq]))
  rw [slice_fromE Ty.el22 (by omega) (by omega)]
  (simp only [go_sem, vc_block_seq, vc_block_region, vc_block_cond, vc_block_block, Nat.reduceBEq, Nat.reduceAdd, Nat.reduceLeDiff, Nat.reduceEqDiff, Int.reduceAdd, Int.reduceBEq, Int.reduceBNe, reduceCtorEq, beq_self_eq_true, Bool.true_beq, Bool.false_beq]; repeat ((with_reducible refine leK_refl ?_); simp only [go_sem, vc_block_seq, vc_block_region, vc_block_cond, vc_block_block, Nat.reduceBEq, Nat.reduceAdd, Nat.reduceLeDiff, Nat.reduceEqDiff, Int.reduceAdd, Int.reduceBEq, Int.reduceBNe, reduceCtorEq, beq_self_eq_true, Bool.true_beq, Bool.false_beq]))
  refine cond_eq (fun h => absurd h (by omega)) (fun _ => ?_)
  (simp only [go_sem, vc_block_seq, vc_block_region, vc_block_cond, vc_block_block, Nat.reduceBEq, Nat.reduceAdd, Nat.reduceLeDiff, Nat.reduceEqDiff, Int.reduceAdd, Int.reduceBEq, Int.reduceBNe, reduceCtorEq, beq_self_eq_true, Bool.true_beq, Bool.false_beq]; repeat ((with_reducible refine leK_refl ?_); simp only [go_sem, vc_block_seq, vc_block_region, vc_block_cond, vc_block_block, Nat.reduceBEq, Nat.reduceAdd, Nat.reduceLeDiff, Nat.reduceEqDiff, Int.reduceAdd, Int.reduceBEq, Int.reduceBNe, reduceCtorEq, beq_self_eq_true, Bool.true_beq, Bool.false_beq]))
  refine cond_eq (fun h => ?_) (fun h => ?_)
  · -- at the end
    have hin : i = n := by omega
    subst hin
    (simp only [go_sem, vc_block_seq, vc_block_region, vc_block_cond, vc_block_block, Nat.reduceBEq, Nat.reduceAdd, Nat.reduceLeDiff, Nat.reduceEqDiff, Int.reduceAdd, Int.reduceBEq, Int.reduceBNe, reduceCtorEq, beq_self_eq_true, Bool.true_beq, Bool.false_beq]; repeat ((with_reducible refine leK_refl ?_); simp only [go_sem, vc_block_seq, vc_block_region, vc_block_cond, vc_block_block, Nat.reduceBEq, Nat.reduceAdd, Nat.reduceLeDiff, Nat.reduceEqDiff, Int.reduceAdd, Int.reduceBEq, Int.reduceBNe, reduceCtorEq, beq_self_eq_true, Bool.true_beq, Bool.false_beq]))
    refine eff_append Ty.el22 ho hvs (by intro y hy; simp at hy; subst hy; exact hx1) hb (by omega) ?_
    intro p' c' u' ho' hs' _
    (simp only [go_sem, vc_block_seq, vc_block_region, vc_block_cond, vc_block_block, Nat.reduceBEq, Nat.reduceAdd, Nat.reduceLeDiff, Nat.reduceEqDiff, Int.reduceAdd, Int.reduceBEq, Int.reduceBNe, reduceCtorEq, beq_self_eq_true, Bool.true_beq, Bool.false_beq]; repeat ((with_reducible refine leK_refl ?_); simp only [go_sem, vc_block_seq, vc_block_region, vc_block_cond, vc_block_block, Nat.reduceBEq, Nat.reduceAdd, Nat.reduceLeDiff, Nat.reduceEqDiff, Int.reduceAdd, Int.reduceBEq, Int.reduceBNe, reduceCtorEq, beq_self_eq_true, Bool.true_beq, Bool.false_beq]))
    refine hK p' c' u' ?_ hs'
    have : xs.take i ++ [x] ++ xs.drop i = xs ++ [x] := by rw [List.take_of_length_le (by omega), List.drop_eq_nil_of_le (by omega)]; simp
    rw [this]; exact ho'
  have hlt : i < n := by omega
  obtain ⟨a, hp⟩ : ∃ a, p = some a := by cases p with | none => have := hsl.some_ hlt; cases this | some a => exact ⟨a, rfl⟩
  subst hp
  rcases ho.at_ with ⟨hh, _⟩ | ⟨g, cur, hg0, hg, h1, h2, h3, h4, h5⟩
  · cases hh
  cases hg0
  have hgne : gv ≠ g := hne _ rfl
  have hB1 : ∀ v ∈ (xs.drop i).flatten, v.oneCell' = true := fun v hv => allOnes_flatten hxs v (by rw [hxs2]; exact List.mem_append_right _ hv)
  (simp only [go_sem, vc_block_seq, vc_block_region, vc_block_cond, vc_block_block, Nat.reduceBEq, Nat.reduceAdd, Nat.reduceLeDiff, Nat.reduceEqDiff, Int.reduceAdd, Int.reduceBEq, Int.reduceBNe, reduceCtorEq, beq_self_eq_true, Bool.true_beq, Bool.false_beq]; repeat ((with_reducible refine leK_refl ?_); simp only [go_sem, vc_block_seq, vc_block_region, vc_block_cond, vc_block_block, Nat.reduceBEq, Nat.reduceAdd, Nat.reduceLeDiff, Nat.reduceEqDiff, Int.reduceAdd, Int.reduceBEq, Int.reduceBNe, reduceCtorEq, beq_self_eq_true, Bool.true_beq, Bool.false_beq]))
  rw [arith_i64 (by omega)]
  (simp only [go_sem, vc_block_seq, vc_block_region, vc_block_cond, vc_block_block, Nat.reduceBEq, Nat.reduceAdd, Nat.reduceLeDiff, Nat.reduceEqDiff, Int.reduceAdd, Int.reduceBEq, Int.reduceBNe, reduceCtorEq, beq_self_eq_true, Bool.true_beq, Bool.false_beq]; repeat ((with_reducible refine leK_refl ?_); simp only [go_sem, vc_block_seq, vc_block_region, vc_block_cond, vc_block_block, Nat.reduceBEq, Nat.reduceAdd, Nat.reduceLeDiff, Nat.reduceEqDiff, Int.reduceAdd, Int.reduceBEq, Int.reduceBNe, reduceCtorEq, beq_self_eq_true, Bool.true_beq, Bool.false_beq]))
  refine cond_dec (fun h => ?_) (fun h => ?_)
  · -- a new block
    (simp only [go_sem, vc_block_seq, vc_block_region, vc_block_cond, vc_block_block, Nat.reduceBEq, Nat.reduceAdd, Nat.reduceLeDiff, Nat.reduceEqDiff, Int.reduceAdd, Int.reduceBEq, Int.reduceBNe, reduceCtorEq, beq_self_eq_true, Bool.true_beq, Bool.false_beq]; repeat ((with_reducible refine leK_refl ?_); simp only [go_sem, vc_block_seq, vc_block_region, vc_block_cond, vc_block_block, Nat.reduceBEq, Nat.reduceAdd, Nat.reduceLeDiff, Nat.reduceEqDiff, Int.reduceAdd, Int.reduceBEq, Int.reduceBNe, reduceCtorEq, beq_self_eq_true, Bool.true_beq, Bool.false_beq]))
    rw [slice_toE Ty.el22 (by omega) (by omega)]
    (simp only [go_sem, vc_block_seq, vc_block_region, vc_block_cond, vc_block_block, Nat.reduceBEq, Nat.reduceAdd, Nat.reduceLeDiff, Nat.reduceEqDiff, Int.reduceAdd, Int.reduceBEq, Int.reduceBNe, reduceCtorEq, beq_self_eq_true, Bool.true_beq, Bool.false_beq]; repeat ((with_reducible refine leK_refl ?_); simp only [go_sem, vc_block_seq, vc_block_region, vc_block_cond, vc_block_block, Nat.reduceBEq, Nat.reduceAdd, Nat.reduceLeDiff, Nat.reduceEqDiff, Int.reduceAdd, Int.reduceBEq, Int.reduceBNe, reduceCtorEq, beq_self_eq_true, Bool.true_beq, Bool.false_beq]))
    rw [arith_i64 (by omega)]
    (simp only [go_sem, vc_block_seq, vc_block_region, vc_block_cond, vc_block_block, Nat.reduceBEq, Nat.reduceAdd, Nat.reduceLeDiff, Nat.reduceEqDiff, Int.reduceAdd, Int.reduceBEq, Int.reduceBNe, reduceCtorEq, beq_self_eq_true, Bool.true_beq, Bool.false_beq]; repeat ((with_reducible refine leK_refl ?_); simp only [go_sem, vc_block_seq, vc_block_region, vc_block_cond, vc_block_block, Nat.reduceBEq, Nat.reduceAdd, Nat.reduceLeDiff, Nat.reduceEqDiff, Int.reduceAdd, Int.reduceBEq, Int.reduceBNe, reduceCtorEq, beq_self_eq_true, Bool.true_beq, Bool.false_beq]))
    rw [arith_i64 (by omega)]
    (simp only [go_sem, vc_block_seq, vc_block_region, vc_block_cond, vc_block_block, Nat.reduceBEq, Nat.reduceAdd, Nat.reduceLeDiff, Nat.reduceEqDiff, Int.reduceAdd, Int.reduceBEq, Int.reduceBNe, reduceCtorEq, beq_self_eq_true, Bool.true_beq, Bool.false_beq]; repeat ((with_reducible refine leK_refl ?_); simp only [go_sem, vc_block_seq, vc_block_region, vc_block_cond, vc_block_block, Nat.reduceBEq, Nat.reduceAdd, Nat.reduceLeDiff, Nat.reduceEqDiff, Int.reduceAdd, Int.reduceBEq, Int.reduceBNe, reduceCtorEq, beq_self_eq_true, Bool.true_beq, Bool.false_beq]))
    have e0 : ((i : Int).toNat) = i := by omega
    have e1 : ((n : Int) + (1 : Nat) - (i : Int)).toNat = n + 1 - i := by omega
    rw [e0]
    have e3 : i + ((n : Int) + (1 : Nat) - (i : Int)).toNat = n + 1 := by omega
    refine eff_append_zeros Ty.el22 Ty.intK3 Ty.zero28 (hsl.take hi) (by omega) (by omega) (by rw [e3]; exact hb) (by omega) ?_
    rw [e3]
    intro p2 c2 u2 ho2 hs2 hf2
    rcases ho2.at_ with ⟨_, hh, _⟩ | ⟨g2, cur2, hg20, hg2, k1, k2, k3, k4, k5⟩
    · omega
    subst hg20
    have hg2f : Fresh u g2 := hf2 _ rfl
    have hg2g : g2 ≠ g := fun e => cells_ne_junk (hg2f _ (e ▸ hg))
    have hg2v : g2 ≠ gv := fun e => cells_ne_junk (hg2f _ (e ▸ hv))
    (simp only [go_sem, vc_block_seq, vc_block_region, vc_block_cond, vc_block_block, Nat.reduceBEq, Nat.reduceAdd, Nat.reduceLeDiff, Nat.reduceEqDiff, Int.reduceAdd, Int.reduceBEq, Int.reduceBNe, reduceCtorEq, beq_self_eq_true, Bool.true_beq, Bool.false_beq]; repeat ((with_reducible refine leK_refl ?_); simp only [go_sem, vc_block_seq, vc_block_region, vc_block_cond, vc_block_block, Nat.reduceBEq, Nat.reduceAdd, Nat.reduceLeDiff, Nat.reduceEqDiff, Int.reduceAdd, Int.reduceBEq, Int.reduceBNe, reduceCtorEq, beq_self_eq_true, Bool.true_beq, Bool.false_beq]))
    rw [slice_fromE Ty.el22 (by omega) (by omega)]
    (simp only [go_sem, vc_block_seq, vc_block_region, vc_block_cond, vc_block_block, Nat.reduceBEq, Nat.reduceAdd, Nat.reduceLeDiff, Nat.reduceEqDiff, Int.reduceAdd, Int.reduceBEq, Int.reduceBNe, reduceCtorEq, beq_self_eq_true, Bool.true_beq, Bool.false_beq]; repeat ((with_reducible refine leK_refl ?_); simp only [go_sem, vc_block_seq, vc_block_region, vc_block_cond, vc_block_block, Nat.reduceBEq, Nat.reduceAdd, Nat.reduceLeDiff, Nat.reduceEqDiff, Int.reduceAdd, Int.reduceBEq, Int.reduceBNe, reduceCtorEq, beq_self_eq_true, Bool.true_beq, Bool.false_beq]))
    rw [e0, cutP_lt (by omega)]
    have hcc : (n + 1) * 5 ≤ c2 * 5 := Nat.mul_le_mul_right _ k1
    have hv2 : ∀ j v, x[j]? = some v → u2.cell? ((⟨gv, 0, none⟩ : Addr).add j) = some v := fun j v hj => by rw [Addr.add_lit]; exact cell?_of (hs2 _ _ hv cells_ne_junk) (by simpa using hj)
    refine eff_copy (news := x) Ty.el22 hg2 k5 (by rw [hx, show Nat.min 1 (n + 1 - i) = 1 from by simp only [Nat.min_def]; split <;> omega]) hv2 (allOne_mem hx1) (by rw [k3, hx]; omega) ?_
    intro u3 hg3 hs3
    (simp only [go_sem, vc_block_seq, vc_block_region, vc_block_cond, vc_block_block, Nat.reduceBEq, Nat.reduceAdd, Nat.reduceLeDiff, Nat.reduceEqDiff, Int.reduceAdd, Int.reduceBEq, Int.reduceBNe, reduceCtorEq, beq_self_eq_true, Bool.true_beq, Bool.false_beq]; repeat ((with_reducible refine leK_refl ?_); simp only [go_sem, vc_block_seq, vc_block_region, vc_block_cond, vc_block_block, Nat.reduceBEq, Nat.reduceAdd, Nat.reduceLeDiff, Nat.reduceEqDiff, Int.reduceAdd, Int.reduceBEq, Int.reduceBNe, reduceCtorEq, beq_self_eq_true, Bool.true_beq, Bool.false_beq]))
    refine .inl ⟨[(0, false), (1, false), (2, false), (5, false), (6, false), (3, false), (7, false), (4, false), (8, false)], by kernel_rfl, ?_⟩
    (simp only [go_sem, vc_block_seq, vc_block_region, vc_block_cond, vc_block_block, Nat.reduceBEq, Nat.reduceAdd, Nat.reduceLeDiff, Nat.reduceEqDiff, Int.reduceAdd, Int.reduceBEq, Int.reduceBNe, reduceCtorEq, beq_self_eq_true, Bool.true_beq, Bool.false_beq]; repeat ((with_reducible refine leK_refl ?_); simp only [go_sem, vc_block_seq, vc_block_region, vc_block_cond, vc_block_block, Nat.reduceBEq, Nat.reduceAdd, Nat.reduceLeDiff, Nat.reduceEqDiff, Int.reduceAdd, Int.reduceBEq, Int.reduceBNe, reduceCtorEq, beq_self_eq_true, Bool.true_beq, Bool.false_beq]))
    rw [arith_i64 (by omega)]
    (simp only [go_sem, vc_block_seq, vc_block_region, vc_block_cond, vc_block_block, Nat.reduceBEq, Nat.reduceAdd, Nat.reduceLeDiff, Nat.reduceEqDiff, Int.reduceAdd, Int.reduceBEq, Int.reduceBNe, reduceCtorEq, beq_self_eq_true, Bool.true_beq, Bool.false_beq]; repeat ((with_reducible refine leK_refl ?_); simp only [go_sem, vc_block_seq, vc_block_region, vc_block_cond, vc_block_block, Nat.reduceBEq, Nat.reduceAdd, Nat.reduceLeDiff, Nat.reduceEqDiff, Int.reduceAdd, Int.reduceBEq, Int.reduceBNe, reduceCtorEq, beq_self_eq_true, Bool.true_beq, Bool.false_beq]))
    have e2 : ((i : Int) + ((1 : Nat) : Int)).toNat = i + 1 := by omega
    rw [slice_fromE Ty.el22 (by omega) (by omega)]
    (simp only [go_sem, vc_block_seq, vc_block_region, vc_block_cond, vc_block_block, Nat.reduceBEq, Nat.reduceAdd, Nat.reduceLeDiff, Nat.reduceEqDiff, Int.reduceAdd, Int.reduceBEq, Int.reduceBNe, reduceCtorEq, beq_self_eq_true, Bool.true_beq, Bool.false_beq]; repeat ((with_reducible refine leK_refl ?_); simp only [go_sem, vc_block_seq, vc_block_region, vc_block_cond, vc_block_block, Nat.reduceBEq, Nat.reduceAdd, Nat.reduceLeDiff, Nat.reduceEqDiff, Int.reduceAdd, Int.reduceBEq, Int.reduceBNe, reduceCtorEq, beq_self_eq_true, Bool.true_beq, Bool.false_beq]))
    rw [slice_fromE Ty.el22 (by omega) (by omega)]
    (simp only [go_sem, vc_block_seq, vc_block_region, vc_block_cond, vc_block_block, Nat.reduceBEq, Nat.reduceAdd, Nat.reduceLeDiff, Nat.reduceEqDiff, Int.reduceAdd, Int.reduceBEq, Int.reduceBNe, reduceCtorEq, beq_self_eq_true, Bool.true_beq, Bool.false_beq]; repeat ((with_reducible refine leK_refl ?_); simp only [go_sem, vc_block_seq, vc_block_region, vc_block_cond, vc_block_block, Nat.reduceBEq, Nat.reduceAdd, Nat.reduceLeDiff, Nat.reduceEqDiff, Int.reduceAdd, Int.reduceBEq, Int.reduceBNe, reduceCtorEq, beq_self_eq_true, Bool.true_beq, Bool.false_beq]))
    rw [e0, e2, cutP_lt (by omega), cutP_lt (by omega)]
    have hold : ∀ j v, (xs.drop i).flatten[j]? = some v → u3.cell? ((⟨g, 0 + i * 5, none⟩ : Addr).add j) = some v := by
      intro j v hj
      have hsl3 : Sl u3 5 (some ⟨g, 0, none⟩) n c xs := (hsl.mono hs2).subX hs3 (by intro a b ha hb; cases ha; cases hb; exact fun e => hg2g e.symm)
      have hd := hsl3.drop hi
      rw [cutP_lt (by omega)] at hd
      exact hd.cells j v hj
    have hmin : Nat.min (n - i) (n + 1 - (i + 1)) = n - i := by simp only [Nat.min_def]; split <;> omega
    refine eff_copy (news := (xs.drop i).flatten) Ty.el22 hg3 k5 (by rw [hlB, hmin]) hold hB1 ?_ ?_
    · simp only [List.size_toArray, List.length_append, List.length_take, List.length_drop, Array.length_toList, k3, hx, hlB]
      omega
    intro u4 hg4 hs4
    (simp only [go_sem, vc_block_seq, vc_block_region, vc_block_cond, vc_block_block, Nat.reduceBEq, Nat.reduceAdd, Nat.reduceLeDiff, Nat.reduceEqDiff, Int.reduceAdd, Int.reduceBEq, Int.reduceBNe, reduceCtorEq, beq_self_eq_true, Bool.true_beq, Bool.false_beq]; repeat ((with_reducible refine leK_refl ?_); simp only [go_sem, vc_block_seq, vc_block_region, vc_block_cond, vc_block_block, Nat.reduceBEq, Nat.reduceAdd, Nat.reduceLeDiff, Nat.reduceEqDiff, Int.reduceAdd, Int.reduceBEq, Int.reduceBNe, reduceCtorEq, beq_self_eq_true, Bool.true_beq, Bool.false_beq]))
    refine hK _ c2 u4 ⟨hfl, hfe, .inr ⟨g2, _, rfl, hg4, k1, k2, ?_, ?_, k5⟩⟩ ?_
    · simp only [List.size_toArray, List.length_append, List.length_take, List.length_drop, Array.length_toList, k3, hx, hlB]
      omega
    · have hk : (cur2.toList.take (i * 5)) = (xs.take i).flatten := by
        have := congrArg (List.take (i * 5)) k4
        rw [List.take_take, Nat.min_eq_left (by omega), List.flatten_append] at this
        rw [this]
        apply List.take_left' hlA
      have := ins_new (s := 5) (b := (n - i) * 5) hk hlA hx hlB (by simp only [Array.length_toList, k3]; omega)
      simp only [hx, hlB, hfin]
      rw [show 0 + i * 5 = i * 5 from by omega, show 0 + (i + 1) * 5 = i * 5 + 5 from by omega, show (n + 1) * 5 = i * 5 + 5 + (n - i) * 5 from by omega]
      exact this
    · intro b o hbn hbo hoj
      have hb2 : b ≠ g2 := fun e => hoj (hg2f o (e ▸ hbo))
      exact hs4 b o (fun a ha => by cases ha; exact hb2) (hs3 b o (fun a ha => by cases ha; exact hb2) (hs2 b o hbo hoj) hoj) hoj
  · -- in place
    (simp only [go_sem, vc_block_seq, vc_block_region, vc_block_cond, vc_block_block, Nat.reduceBEq, Nat.reduceAdd, Nat.reduceLeDiff, Nat.reduceEqDiff, Int.reduceAdd, Int.reduceBEq, Int.reduceBNe, reduceCtorEq, beq_self_eq_true, Bool.true_beq, Bool.false_beq]; repeat ((with_reducible refine leK_refl ?_); simp only [go_sem, vc_block_seq, vc_block_region, vc_block_cond, vc_block_block, Nat.reduceBEq, Nat.reduceAdd, Nat.reduceLeDiff, Nat.reduceEqDiff, Int.reduceAdd, Int.reduceBEq, Int.reduceBNe, reduceCtorEq, beq_self_eq_true, Bool.true_beq, Bool.false_beq]))
    rw [arith_i64 (by omega)]
    (simp only [go_sem, vc_block_seq, vc_block_region, vc_block_cond, vc_block_block, Nat.reduceBEq, Nat.reduceAdd, Nat.reduceLeDiff, Nat.reduceEqDiff, Int.reduceAdd, Int.reduceBEq, Int.reduceBNe, reduceCtorEq, beq_self_eq_true, Bool.true_beq, Bool.false_beq]; repeat ((with_reducible refine leK_refl ?_); simp only [go_sem, vc_block_seq, vc_block_region, vc_block_cond, vc_block_block, Nat.reduceBEq, Nat.reduceAdd, Nat.reduceLeDiff, Nat.reduceEqDiff, Int.reduceAdd, Int.reduceBEq, Int.reduceBNe, reduceCtorEq, beq_self_eq_true, Bool.true_beq, Bool.false_beq]))
    rw [slice_toE Ty.el22 (by omega) (by omega)]
    (simp only [go_sem, vc_block_seq, vc_block_region, vc_block_cond, vc_block_block, Nat.reduceBEq, Nat.reduceAdd, Nat.reduceLeDiff, Nat.reduceEqDiff, Int.reduceAdd, Int.reduceBEq, Int.reduceBNe, reduceCtorEq, beq_self_eq_true, Bool.true_beq, Bool.false_beq]; repeat ((with_reducible refine leK_refl ?_); simp only [go_sem, vc_block_seq, vc_block_region, vc_block_cond, vc_block_block, Nat.reduceBEq, Nat.reduceAdd, Nat.reduceLeDiff, Nat.reduceEqDiff, Int.reduceAdd, Int.reduceBEq, Int.reduceBNe, reduceCtorEq, beq_self_eq_true, Bool.true_beq, Bool.false_beq]))
    rw [arith_i64 (by omega)]
    (simp only [go_sem, vc_block_seq, vc_block_region, vc_block_cond, vc_block_block, Nat.reduceBEq, Nat.reduceAdd, Nat.reduceLeDiff, Nat.reduceEqDiff, Int.reduceAdd, Int.reduceBEq, Int.reduceBNe, reduceCtorEq, beq_self_eq_true, Bool.true_beq, Bool.false_beq]; repeat ((with_reducible refine leK_refl ?_); simp only [go_sem, vc_block_seq, vc_block_region, vc_block_cond, vc_block_block, Nat.reduceBEq, Nat.reduceAdd, Nat.reduceLeDiff, Nat.reduceEqDiff, Int.reduceAdd, Int.reduceBEq, Int.reduceBNe, reduceCtorEq, beq_self_eq_true, Bool.true_beq, Bool.false_beq]))
    have e0 : ((i : Int).toNat) = i := by omega
    have e1 : ((n : Int) + ((1 : Nat) : Int)).toNat = n + 1 := by omega
    have e2 : ((i : Int) + ((1 : Nat) : Int)).toNat = i + 1 := by omega
    rw [e1, slice_fromE Ty.el22 (by omega) (by omega)]
    (simp only [go_sem, vc_block_seq, vc_block_region, vc_block_cond, vc_block_block, Nat.reduceBEq, Nat.reduceAdd, Nat.reduceLeDiff, Nat.reduceEqDiff, Int.reduceAdd, Int.reduceBEq, Int.reduceBNe, reduceCtorEq, beq_self_eq_true, Bool.true_beq, Bool.false_beq]; repeat ((with_reducible refine leK_refl ?_); simp only [go_sem, vc_block_seq, vc_block_region, vc_block_cond, vc_block_block, Nat.reduceBEq, Nat.reduceAdd, Nat.reduceLeDiff, Nat.reduceEqDiff, Int.reduceAdd, Int.reduceBEq, Int.reduceBNe, reduceCtorEq, beq_self_eq_true, Bool.true_beq, Bool.false_beq]))
    rw [e2, cutP_lt (by omega)]
    refine ext_overlaps (R := 4) Ty.el22 (by kernel_rfl) hgne hv hg (by rw [h3]; intro h0; rcases Nat.mul_eq_zero.1 h0 with h0 | h0 <;> omega) ?_
    (simp only [go_sem, vc_block_seq, vc_block_region, vc_block_cond, vc_block_block, Nat.reduceBEq, Nat.reduceAdd, Nat.reduceLeDiff, Nat.reduceEqDiff, Int.reduceAdd, Int.reduceBEq, Int.reduceBNe, reduceCtorEq, beq_self_eq_true, Bool.true_beq, Bool.false_beq]; repeat ((with_reducible refine leK_refl ?_); simp only [go_sem, vc_block_seq, vc_block_region, vc_block_cond, vc_block_block, Nat.reduceBEq, Nat.reduceAdd, Nat.reduceLeDiff, Nat.reduceEqDiff, Int.reduceAdd, Int.reduceBEq, Int.reduceBNe, reduceCtorEq, beq_self_eq_true, Bool.true_beq, Bool.false_beq]))
    refine .inl ⟨[(0, false), (1, false), (2, false), (5, false), (6, false), (3, false), (7, false), (4, false), (8, false)], by kernel_rfl, ?_⟩
    (simp only [go_sem, vc_block_seq, vc_block_region, vc_block_cond, vc_block_block, Nat.reduceBEq, Nat.reduceAdd, Nat.reduceLeDiff, Nat.reduceEqDiff, Int.reduceAdd, Int.reduceBEq, Int.reduceBNe, reduceCtorEq, beq_self_eq_true, Bool.true_beq, Bool.false_beq]; repeat ((with_reducible refine leK_refl ?_); simp only [go_sem, vc_block_seq, vc_block_region, vc_block_cond, vc_block_block, Nat.reduceBEq, Nat.reduceAdd, Nat.reduceLeDiff, Nat.reduceEqDiff, Int.reduceAdd, Int.reduceBEq, Int.reduceBNe, reduceCtorEq, beq_self_eq_true, Bool.true_beq, Bool.false_beq]))
    rw [arith_i64 (by omega)]
    (simp only [go_sem, vc_block_seq, vc_block_region, vc_block_cond, vc_block_block, Nat.reduceBEq, Nat.reduceAdd, Nat.reduceLeDiff, Nat.reduceEqDiff, Int.reduceAdd, Int.reduceBEq, Int.reduceBNe, reduceCtorEq, beq_self_eq_true, Bool.true_beq, Bool.false_beq]; repeat ((with_reducible refine leK_refl ?_); simp only [go_sem, vc_block_seq, vc_block_region, vc_block_cond, vc_block_block, Nat.reduceBEq, Nat.reduceAdd, Nat.reduceLeDiff, Nat.reduceEqDiff, Int.reduceAdd, Int.reduceBEq, Int.reduceBNe, reduceCtorEq, beq_self_eq_true, Bool.true_beq, Bool.false_beq]))
    rw [slice_fromE Ty.el22 (by omega) (by omega)]
    (simp only [go_sem, vc_block_seq, vc_block_region, vc_block_cond, vc_block_block, Nat.reduceBEq, Nat.reduceAdd, Nat.reduceLeDiff, Nat.reduceEqDiff, Int.reduceAdd, Int.reduceBEq, Int.reduceBNe, reduceCtorEq, beq_self_eq_true, Bool.true_beq, Bool.false_beq]; repeat ((with_reducible refine leK_refl ?_); simp only [go_sem, vc_block_seq, vc_block_region, vc_block_cond, vc_block_block, Nat.reduceBEq, Nat.reduceAdd, Nat.reduceLeDiff, Nat.reduceEqDiff, Int.reduceAdd, Int.reduceBEq, Int.reduceBNe, reduceCtorEq, beq_self_eq_true, Bool.true_beq, Bool.false_beq]))
    rw [slice_fromE Ty.el22 (by omega) (by omega)]
    (simp only [go_sem, vc_block_seq, vc_block_region, vc_block_cond, vc_block_block, Nat.reduceBEq, Nat.reduceAdd, Nat.reduceLeDiff, Nat.reduceEqDiff, Int.reduceAdd, Int.reduceBEq, Int.reduceBNe, reduceCtorEq, beq_self_eq_true, Bool.true_beq, Bool.false_beq]; repeat ((with_reducible refine leK_refl ?_); simp only [go_sem, vc_block_seq, vc_block_region, vc_block_cond, vc_block_block, Nat.reduceBEq, Nat.reduceAdd, Nat.reduceLeDiff, Nat.reduceEqDiff, Int.reduceAdd, Int.reduceBEq, Int.reduceBNe, reduceCtorEq, beq_self_eq_true, Bool.true_beq, Bool.false_beq]))
    rw [e0, e2, cutP_lt (by omega), cutP_lt (by omega)]
    have hold : ∀ j v, (xs.drop i).flatten[j]? = some v → u.cell? ((⟨g, 0 + i * 5, none⟩ : Addr).add j) = some v := by
      intro j v hj
      have hd := hsl.drop hi
      rw [cutP_lt (by omega)] at hd
      exact hd.cells j v hj
    have hmin : Nat.min (n + 1 - i) (n + 1 - (i + 1)) = n - i := by simp only [Nat.min_def]; split <;> omega
    have hcc : (n + 1) * 5 ≤ c * 5 := Nat.mul_le_mul_right _ (by omega)
    refine eff_copy (news := (xs.drop i).flatten) Ty.el22 hg h5 (by rw [hlB, hmin]) hold hB1 (by rw [h3, hlB]; omega) ?_
    intro u3 hg3 hs3
    (simp only [go_sem, vc_block_seq, vc_block_region, vc_block_cond, vc_block_block, Nat.reduceBEq, Nat.reduceAdd, Nat.reduceLeDiff, Nat.reduceEqDiff, Int.reduceAdd, Int.reduceBEq, Int.reduceBNe, reduceCtorEq, beq_self_eq_true, Bool.true_beq, Bool.false_beq]; repeat ((with_reducible refine leK_refl ?_); simp only [go_sem, vc_block_seq, vc_block_region, vc_block_cond, vc_block_block, Nat.reduceBEq, Nat.reduceAdd, Nat.reduceLeDiff, Nat.reduceEqDiff, Int.reduceAdd, Int.reduceBEq, Int.reduceBNe, reduceCtorEq, beq_self_eq_true, Bool.true_beq, Bool.false_beq]))
    rw [slice_fromE Ty.el22 (by omega) (by omega)]
    (simp only [go_sem, vc_block_seq, vc_block_region, vc_block_cond, vc_block_block, Nat.reduceBEq, Nat.reduceAdd, Nat.reduceLeDiff, Nat.reduceEqDiff, Int.reduceAdd, Int.reduceBEq, Int.reduceBNe, reduceCtorEq, beq_self_eq_true, Bool.true_beq, Bool.false_beq]; repeat ((with_reducible refine leK_refl ?_); simp only [go_sem, vc_block_seq, vc_block_region, vc_block_cond, vc_block_block, Nat.reduceBEq, Nat.reduceAdd, Nat.reduceLeDiff, Nat.reduceEqDiff, Int.reduceAdd, Int.reduceBEq, Int.reduceBNe, reduceCtorEq, beq_self_eq_true, Bool.true_beq, Bool.false_beq]))
    rw [e0, cutP_lt (by omega)]
    have hv3 : u3.heap[gv]? = some (.cells x.toArray 28 (0, 0)) := hs3 _ _ (fun a ha => by cases ha; exact hgne) hv cells_ne_junk
    have hv2 : ∀ j v, x[j]? = some v → u3.cell? ((⟨gv, 0, none⟩ : Addr).add j) = some v := fun j v hj => by rw [Addr.add_lit]; exact cell?_of hv3 (by simpa using hj)
    refine eff_copy (news := x) Ty.el22 hg3 h5 (by rw [hx, show Nat.min 1 (n + 1 - i) = 1 from by simp only [Nat.min_def]; split <;> omega]) hv2 (allOne_mem hx1) ?_ ?_
    · simp only [List.size_toArray, List.length_append, List.length_take, List.length_drop, Array.length_toList, h3, hx, hlB]
      omega
    intro u4 hg4 hs4
    (simp only [go_sem, vc_block_seq, vc_block_region, vc_block_cond, vc_block_block, Nat.reduceBEq, Nat.reduceAdd, Nat.reduceLeDiff, Nat.reduceEqDiff, Int.reduceAdd, Int.reduceBEq, Int.reduceBNe, reduceCtorEq, beq_self_eq_true, Bool.true_beq, Bool.false_beq]; repeat ((with_reducible refine leK_refl ?_); simp only [go_sem, vc_block_seq, vc_block_region, vc_block_cond, vc_block_block, Nat.reduceBEq, Nat.reduceAdd, Nat.reduceLeDiff, Nat.reduceEqDiff, Int.reduceAdd, Int.reduceBEq, Int.reduceBNe, reduceCtorEq, beq_self_eq_true, Bool.true_beq, Bool.false_beq]))
    refine hK _ c u4 ⟨hfl, hfe, .inr ⟨g, _, rfl, hg4, by omega, h2, ?_, ?_, h5⟩⟩ ?_
    · simp only [List.size_toArray, List.length_append, List.length_take, List.length_drop, Array.length_toList, h3, hx, hlB]
      omega
    · have hk : (cur.toList.take (i * 5)) = (xs.take i).flatten := by
        have := congrArg (List.take (i * 5)) h4
        rw [List.take_take, Nat.min_eq_left (by omega), hxs2] at this
        rw [this]
        apply List.take_left' hlA
      have := ins_in (s := 5) (b := (n - i) * 5) hk hlA hx hlB (by simp only [Array.length_toList, h3]; omega)
      simp only [hx, hlB, hfin]
      rw [show 0 + i * 5 = i * 5 from by omega, show 0 + (i + 1) * 5 = i * 5 + 5 from by omega, show (n + 1) * 5 = i * 5 + 5 + (n - i) * 5 from by omega]
      exact this
    · intro b o hbn hbo hoj
      have hb2 := hbn _ rfl
      exact hs4 b o (fun a ha => by cases ha; exact hb2) (hs3 b o (fun a ha => by cases ha; exact hb2) hbo hoj) hoj


end Go.Proofs.Ythjgnpelmigbeaa
