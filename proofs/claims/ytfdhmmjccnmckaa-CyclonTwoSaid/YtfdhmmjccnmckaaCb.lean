/-
  Walks: cyclon: Pick, Ask.
-/
import Derived.Test.YtfdhmmjccnmckaaCa
set_option linter.unusedSimpArgs false
set_option linter.unusedVariables false
namespace Go.Eng
theorem pick_len (many : Int) : ∀ (r : List UInt32) (left out : List GDesc), (cPick many left out r).length ≤ out.length + r.length := by
  intro r
  induction r with
  | nil => intro left out; simp [cPick]
  | cons d r ih =>
    intro left out
    rw [cPick]
    split
    · simp
    · split
      · refine Nat.le_trans (ih _ _) ?_
        simp; omega
      · simp
theorem pick_mem (many : Int) : ∀ (r : List UInt32) (left out : List GDesc) (x : GDesc), x ∈ cPick many left out r → x ∈ left ∨ x ∈ out := by
  intro r
  induction r with
  | nil => intro left out x h; exact .inr h
  | cons d r ih =>
    intro left out x h
    rw [cPick] at h
    split at h
    · exact .inr h
    · split at h
      · rename_i y hy
        rcases ih _ _ x h with h | h
        · rcases List.mem_append.1 h with h | h
          · exact .inl (List.mem_of_mem_take h)
          · exact .inl (List.mem_of_mem_drop h)
        · rcases List.mem_append.1 h with h | h
          · exact .inr h
          · simp at h; subst h; exact .inl (List.mem_of_getElem? hy)
      · exact .inr h
end Go.Eng
namespace Go.Proofs.Ytfdhmmjccnmckaa
open Go.Eng
attribute [local go_sem] GSpan.val GSpan.enc PD.val PD.enc enc32

set_option maxHeartbeats 1000000 in
theorem pick_con (l : List PD) (many : Int) (not : UInt8) (dr : List UInt32) (p pd : Option Addr) (n c nd cd : Nat) (u : World) (hl : DL u p n c l) (hd : Sl u 1 pd nd cd (dr.map enc32)) (hn : n ≤ 1000) (hs8 : ∀ x ∈ l, x.n ≤ 8) (hnd : nd ≤ 1000) :
    Con Try.prog 15 [.slice p n c, .int .i64 many, .int .u8 not.toNat, .slice pd nd cd] u (fun r u' => Back u u' r (cPick many (dDrop (ds l) not) [] dr)) := by
  have ldr : dr.length = nd := by simpa using hd.len
  refine spec_of_vc Ty.mixed Try.func15 rfl (by kernel_rfl) (by kernel_rfl) rfl [.tmp 8] rfl ?_
  (simp only [go_sem, vc_block_seq, vc_block_region, vc_block_cond, vc_block_block, Nat.reduceBEq, Nat.reduceAdd, Nat.reduceLeDiff, Nat.reduceEqDiff, Int.reduceAdd, Int.reduceBEq, Int.reduceBNe, reduceCtorEq, beq_self_eq_true, Bool.true_beq, Bool.false_beq]; repeat ((with_reducible refine leK_refl ?_); simp only [go_sem, vc_block_seq, vc_block_region, vc_block_cond, vc_block_block, Nat.reduceBEq, Nat.reduceAdd, Nat.reduceLeDiff, Nat.reduceEqDiff, Int.reduceAdd, Int.reduceBEq, Int.reduceBNe, reduceCtorEq, beq_self_eq_true, Bool.true_beq, Bool.false_beq]))
  refine AtCall.of_spec (copy_con l p n c u hl (by omega) (fun x hx => by have := hs8 x hx; omega)) ?_
  rintro r u1 hs1 ⟨p1, c1, l1, rfl, o1, e1, _⟩
  (simp only [go_sem, vc_block_seq, vc_block_region, vc_block_cond, vc_block_block, Nat.reduceBEq, Nat.reduceAdd, Nat.reduceLeDiff, Nat.reduceEqDiff, Int.reduceAdd, Int.reduceBEq, Int.reduceBNe, reduceCtorEq, beq_self_eq_true, Bool.true_beq, Bool.false_beq]; repeat ((with_reducible refine leK_refl ?_); simp only [go_sem, vc_block_seq, vc_block_region, vc_block_cond, vc_block_block, Nat.reduceBEq, Nat.reduceAdd, Nat.reduceLeDiff, Nat.reduceEqDiff, Int.reduceAdd, Int.reduceBEq, Int.reduceBNe, reduceCtorEq, beq_self_eq_true, Bool.true_beq, Bool.false_beq]))
  refine AtCall.of_spec (of_con not u1) ?_
  rintro r u2 hs2 ⟨b, rfl, hb, hfb⟩
  have hbne : ∀ a, p1 = some a → b ≠ a.block := fun a ha e => o1.own.known ha (e ▸ hfb)
  replace o1 := o1.mono hs2
  (simp only [go_sem, vc_block_seq, vc_block_region, vc_block_cond, vc_block_block, Nat.reduceBEq, Nat.reduceAdd, Nat.reduceLeDiff, Nat.reduceEqDiff, Int.reduceAdd, Int.reduceBEq, Int.reduceBNe, reduceCtorEq, beq_self_eq_true, Bool.true_beq, Bool.false_beq]; repeat ((with_reducible refine leK_refl ?_); simp only [go_sem, vc_block_seq, vc_block_region, vc_block_cond, vc_block_block, Nat.reduceBEq, Nat.reduceAdd, Nat.reduceLeDiff, Nat.reduceEqDiff, Int.reduceAdd, Int.reduceBEq, Int.reduceBNe, reduceCtorEq, beq_self_eq_true, Bool.true_beq, Bool.false_beq]))
  refine deletef_call l1 not p1 n c1 u u2 o1 (by omega) 43 [] [_] (fun x u' hx => of1_con x not b u' (hb.subX hx hbne)) ?_
  intro m u3 o3 x3
  have hs3 : Sub u u3 := x3.sub (hs1.trans hs2) o1.own.fresh
  have hmn : m ≤ n := by
    have h1 := o3.len
    have h2 := o1.len
    have h3 := List.length_filter_le (fun x : PD => !decide (x.d.node = not)) l1
    unfold pDrop at h1
    omega
  have hR : cPick many (ds (pDrop not l1)) (ds []) (dr.drop 0) = cPick many (dDrop (ds l) not) [] dr := by rw [ds_pDrop, e1]; rfl
  generalize cPick many (dDrop (ds l) not) [] dr = R at hR
  (simp only [go_sem, vc_block_seq, vc_block_region, vc_block_cond, vc_block_block, Nat.reduceBEq, Nat.reduceAdd, Nat.reduceLeDiff, Nat.reduceEqDiff, Int.reduceAdd, Int.reduceBEq, Int.reduceBNe, reduceCtorEq, beq_self_eq_true, Bool.true_beq, Bool.false_beq]; repeat ((with_reducible refine leK_refl ?_); simp only [go_sem, vc_block_seq, vc_block_region, vc_block_cond, vc_block_block, Nat.reduceBEq, Nat.reduceAdd, Nat.reduceLeDiff, Nat.reduceEqDiff, Int.reduceAdd, Int.reduceBEq, Int.reduceBNe, reduceCtorEq, beq_self_eq_true, Bool.true_beq, Bool.false_beq]))
  refine vc_range nd (fun (g : Nat × Option Addr × Nat × Nat) => [(9, .v (.slice p1 g.1 c1)), (10, .v (.slice g.2.1 g.2.2.1 g.2.2.2))]) (fun _ => [])
    (fun j g u' => Sub u u' ∧ ∃ ll lo, DO u u' 34 30 p1 g.1 c1 ll ∧ DO u u' 34 30 g.2.1 g.2.2.1 g.2.2.2 lo ∧ NE p1 g.2.1 ∧ (∀ x ∈ ll, NE x.p g.2.1) ∧ (∀ x ∈ lo, NE x.p p1) ∧ cPick many (ds ll) (ds lo) (dr.drop j) = R ∧ g.2.2.1 ≤ j ∧ g.1 ≤ n)
    (m, none, 0, 0) (le_chk (by simp only [go_sem, vc_block_seq, vc_block_region, vc_block_cond, vc_block_block, Nat.reduceBEq, Nat.reduceAdd, Nat.reduceLeDiff, Nat.reduceEqDiff, Int.reduceAdd, Int.reduceBEq, Int.reduceBNe, reduceCtorEq, beq_self_eq_true, Bool.true_beq, Bool.false_beq])) ⟨hs3, pDrop not l1, [], o3, DO.nil_ _ _ _ _, (fun a b _ h => by cases h), (fun x _ a b _ h => by cases h), by simp, hR, Nat.le_refl _, hmn⟩ (fun _ _ => rfl) (by omega) (fun _ => rfl) ?_ ?_
  · rintro j ⟨m, q, k, d⟩ v2 hj ⟨hs, ll, lo, oll, olo, n1, n2, n3, hR, hkj, hmn⟩
    simp only at oll olo n1 n2 hkj hmn
    obtain ⟨x, hx⟩ := exAt hj ldr
    have hxb := x.toNat_lt
    have hll := oll.len
    have hlo := olo.len
    rw [drop_atU hx] at hR
    (simp only [go_sem, vc_block_seq, vc_block_region, vc_block_cond, vc_block_block, Nat.reduceBEq, Nat.reduceAdd, Nat.reduceLeDiff, Nat.reduceEqDiff, Int.reduceAdd, Int.reduceBEq, Int.reduceBNe, reduceCtorEq, beq_self_eq_true, Bool.true_beq, Bool.false_beq]; repeat ((with_reducible refine leK_refl ?_); simp only [go_sem, vc_block_seq, vc_block_region, vc_block_cond, vc_block_block, Nat.reduceBEq, Nat.reduceAdd, Nat.reduceLeDiff, Nat.reduceEqDiff, Int.reduceAdd, Int.reduceBEq, Int.reduceBNe, reduceCtorEq, beq_self_eq_true, Bool.true_beq, Bool.false_beq]))
    refine ⟨⟨hd.some_ hj, by omega, by omega⟩, ?_⟩
    refine (hd.mono hs).load (getMap hx) (.inl rfl) (Nat.le_of_ble_eq_true rfl) ?_
    (simp only [go_sem, vc_block_seq, vc_block_region, vc_block_cond, vc_block_block, Nat.reduceBEq, Nat.reduceAdd, Nat.reduceLeDiff, Nat.reduceEqDiff, Int.reduceAdd, Int.reduceBEq, Int.reduceBNe, reduceCtorEq, beq_self_eq_true, Bool.true_beq, Bool.false_beq]; repeat ((with_reducible refine leK_refl ?_); simp only [go_sem, vc_block_seq, vc_block_region, vc_block_cond, vc_block_block, Nat.reduceBEq, Nat.reduceAdd, Nat.reduceLeDiff, Nat.reduceEqDiff, Int.reduceAdd, Int.reduceBEq, Int.reduceBNe, reduceCtorEq, beq_self_eq_true, Bool.true_beq, Bool.false_beq]))
    by_cases h1 : many ≤ (k : Int)
    · rw [decide_eq_true h1]
      (simp only [go_sem, vc_block_seq, vc_block_region, vc_block_cond, vc_block_block, Nat.reduceBEq, Nat.reduceAdd, Nat.reduceLeDiff, Nat.reduceEqDiff, Int.reduceAdd, Int.reduceBEq, Int.reduceBNe, reduceCtorEq, beq_self_eq_true, Bool.true_beq, Bool.false_beq]; repeat ((with_reducible refine leK_refl ?_); simp only [go_sem, vc_block_seq, vc_block_region, vc_block_cond, vc_block_block, Nat.reduceBEq, Nat.reduceAdd, Nat.reduceLeDiff, Nat.reduceEqDiff, Int.reduceAdd, Int.reduceBEq, Int.reduceBNe, reduceCtorEq, beq_self_eq_true, Bool.true_beq, Bool.false_beq]))
      exact ⟨hs, q, k, d, lo, rfl, olo, by rw [← hR, pick_full (by simp; omega)]⟩
    rw [decide_eq_false h1]
    (simp only [go_sem, vc_block_seq, vc_block_region, vc_block_cond, vc_block_block, Nat.reduceBEq, Nat.reduceAdd, Nat.reduceLeDiff, Nat.reduceEqDiff, Int.reduceAdd, Int.reduceBEq, Int.reduceBNe, reduceCtorEq, beq_self_eq_true, Bool.true_beq, Bool.false_beq]; repeat ((with_reducible refine leK_refl ?_); simp only [go_sem, vc_block_seq, vc_block_region, vc_block_cond, vc_block_block, Nat.reduceBEq, Nat.reduceAdd, Nat.reduceLeDiff, Nat.reduceEqDiff, Int.reduceAdd, Int.reduceBEq, Int.reduceBNe, reduceCtorEq, beq_self_eq_true, Bool.true_beq, Bool.false_beq]))
    by_cases h2 : m = 0
    · rw [show ((m : Int) == 0) = true by simp; omega]
      (simp only [go_sem, vc_block_seq, vc_block_region, vc_block_cond, vc_block_block, Nat.reduceBEq, Nat.reduceAdd, Nat.reduceLeDiff, Nat.reduceEqDiff, Int.reduceAdd, Int.reduceBEq, Int.reduceBNe, reduceCtorEq, beq_self_eq_true, Bool.true_beq, Bool.false_beq]; repeat ((with_reducible refine leK_refl ?_); simp only [go_sem, vc_block_seq, vc_block_region, vc_block_cond, vc_block_block, Nat.reduceBEq, Nat.reduceAdd, Nat.reduceLeDiff, Nat.reduceEqDiff, Int.reduceAdd, Int.reduceBEq, Int.reduceBNe, reduceCtorEq, beq_self_eq_true, Bool.true_beq, Bool.false_beq]))
      have : ll = [] := List.eq_nil_of_length_eq_zero (by omega)
      subst this
      exact ⟨hs, q, k, d, lo, rfl, olo, by rw [← hR]; exact (pick_nil _ _ _).symm⟩
    rw [show ((m : Int) == 0) = false by simp; omega]
    (simp only [go_sem, vc_block_seq, vc_block_region, vc_block_cond, vc_block_block, Nat.reduceBEq, Nat.reduceAdd, Nat.reduceLeDiff, Nat.reduceEqDiff, Int.reduceAdd, Int.reduceBEq, Int.reduceBNe, reduceCtorEq, beq_self_eq_true, Bool.true_beq, Bool.false_beq]; repeat ((with_reducible refine leK_refl ?_); simp only [go_sem, vc_block_seq, vc_block_region, vc_block_cond, vc_block_block, Nat.reduceBEq, Nat.reduceAdd, Nat.reduceLeDiff, Nat.reduceEqDiff, Int.reduceAdd, Int.reduceBEq, Int.reduceBNe, reduceCtorEq, beq_self_eq_true, Bool.true_beq, Bool.false_beq]))
    rw [arith_u64 (by omega)]
    (simp only [go_sem, vc_block_seq, vc_block_region, vc_block_cond, vc_block_block, Nat.reduceBEq, Nat.reduceAdd, Nat.reduceLeDiff, Nat.reduceEqDiff, Int.reduceAdd, Int.reduceBEq, Int.reduceBNe, reduceCtorEq, beq_self_eq_true, Bool.true_beq, Bool.false_beq]; repeat ((with_reducible refine leK_refl ?_); simp only [go_sem, vc_block_seq, vc_block_region, vc_block_cond, vc_block_block, Nat.reduceBEq, Nat.reduceAdd, Nat.reduceLeDiff, Nat.reduceEqDiff, Int.reduceAdd, Int.reduceBEq, Int.reduceBNe, reduceCtorEq, beq_self_eq_true, Bool.true_beq, Bool.false_beq]))
    rw [arith_u64 (by omega)]
    (simp only [go_sem, vc_block_seq, vc_block_region, vc_block_cond, vc_block_block, Nat.reduceBEq, Nat.reduceAdd, Nat.reduceLeDiff, Nat.reduceEqDiff, Int.reduceAdd, Int.reduceBEq, Int.reduceBNe, reduceCtorEq, beq_self_eq_true, Bool.true_beq, Bool.false_beq]; repeat ((with_reducible refine leK_refl ?_); simp only [go_sem, vc_block_seq, vc_block_region, vc_block_cond, vc_block_block, Nat.reduceBEq, Nat.reduceAdd, Nat.reduceLeDiff, Nat.reduceEqDiff, Int.reduceAdd, Int.reduceBEq, Int.reduceBNe, reduceCtorEq, beq_self_eq_true, Bool.true_beq, Bool.false_beq]))
    rw [bin_remN (a := x.toNat) (b := m) rfl rfl (by omega)]
    generalize hk0 : x.toNat % m = k0
    have hk0m : k0 < m := by rw [← hk0]; exact Nat.mod_lt _ (by omega)
    obtain ⟨y, hy⟩ := exAt hk0m hll
    (simp only [go_sem, vc_block_seq, vc_block_region, vc_block_cond, vc_block_block, Nat.reduceBEq, Nat.reduceAdd, Nat.reduceLeDiff, Nat.reduceEqDiff, Int.reduceAdd, Int.reduceBEq, Int.reduceBNe, reduceCtorEq, beq_self_eq_true, Bool.true_beq, Bool.false_beq]; repeat ((with_reducible refine leK_refl ?_); simp only [go_sem, vc_block_seq, vc_block_region, vc_block_cond, vc_block_block, Nat.reduceBEq, Nat.reduceAdd, Nat.reduceLeDiff, Nat.reduceEqDiff, Int.reduceAdd, Int.reduceBEq, Int.reduceBNe, reduceCtorEq, beq_self_eq_true, Bool.true_beq, Bool.false_beq]))
    rw [arith_i64 (by omega)]
    (simp only [go_sem, vc_block_seq, vc_block_region, vc_block_cond, vc_block_block, Nat.reduceBEq, Nat.reduceAdd, Nat.reduceLeDiff, Nat.reduceEqDiff, Int.reduceAdd, Int.reduceBEq, Int.reduceBNe, reduceCtorEq, beq_self_eq_true, Bool.true_beq, Bool.false_beq]; repeat ((with_reducible refine leK_refl ?_); simp only [go_sem, vc_block_seq, vc_block_region, vc_block_cond, vc_block_block, Nat.reduceBEq, Nat.reduceAdd, Nat.reduceLeDiff, Nat.reduceEqDiff, Int.reduceAdd, Int.reduceBEq, Int.reduceBNe, reduceCtorEq, beq_self_eq_true, Bool.true_beq, Bool.false_beq]))
    refine ⟨⟨oll.own.sl.some_ hk0m, by omega, by omega⟩, ?_⟩
    refine oll.own.sl.load (getMap hy) (.inr rfl) (Nat.le_of_ble_eq_true rfl) ?_
    (simp only [go_sem, vc_block_seq, vc_block_region, vc_block_cond, vc_block_block, Nat.reduceBEq, Nat.reduceAdd, Nat.reduceLeDiff, Nat.reduceEqDiff, Int.reduceAdd, Int.reduceBEq, Int.reduceBNe, reduceCtorEq, beq_self_eq_true, Bool.true_beq, Bool.false_beq]; repeat ((with_reducible refine leK_refl ?_); simp only [go_sem, vc_block_seq, vc_block_region, vc_block_cond, vc_block_block, Nat.reduceBEq, Nat.reduceAdd, Nat.reduceLeDiff, Nat.reduceEqDiff, Int.reduceAdd, Int.reduceBEq, Int.reduceBNe, reduceCtorEq, beq_self_eq_true, Bool.true_beq, Bool.false_beq]))
    refine eff_lit (n := 1) (vs := [y.val]) Ty.el22 rfl rfl (by intro v hv; simp at hv; subst hv; rfl) (by omega) ?_
    intro pv v3 hov hs3 hfv
    (simp only [go_sem, vc_block_seq, vc_block_region, vc_block_cond, vc_block_block, Nat.reduceBEq, Nat.reduceAdd, Nat.reduceLeDiff, Nat.reduceEqDiff, Int.reduceAdd, Int.reduceBEq, Int.reduceBNe, reduceCtorEq, beq_self_eq_true, Bool.true_beq, Bool.false_beq]; repeat ((with_reducible refine leK_refl ?_); simp only [go_sem, vc_block_seq, vc_block_region, vc_block_cond, vc_block_block, Nat.reduceBEq, Nat.reduceAdd, Nat.reduceLeDiff, Nat.reduceEqDiff, Int.reduceAdd, Int.reduceBEq, Int.reduceBNe, reduceCtorEq, beq_self_eq_true, Bool.true_beq, Bool.false_beq]))
    refine eff_append Ty.el22 (olo.own.mono hs3) hov.sl (by intro y hy; simp at hy; subst hy; rfl) (by omega) (by omega) ?_
    intro p4 c4 v4 o4 x4 y4
    have oll3 := oll.mono hs3
    have olo3 := olo.mono hs3
    have oll4 := oll3.subX x4 n1 n2
    have hy2 := List.mem_of_getElem? hy
    have hmem : ∀ z ∈ lo ++ [y], Fo u v3 30 z ∧ NE z.p q ∧ NE z.p p1 := fun z hz => by
      rcases List.mem_append.1 hz with hz | hz
      · exact ⟨olo3.fl z hz, olo3.ne z hz, n3 z hz⟩
      · simp at hz; subst hz; exact ⟨oll3.fl z hy2, n2 z hy2, oll3.ne z hy2⟩
    have hnew : ∀ z : PD, Fo u v3 30 z → NE z.p q → NE z.p p4 := fun z h1 h2 => by
      rcases y4 with rfl | hf
      · exact h2
      · exact ne_of_fresh h1 hf
    have olo4 : DO u v4 34 30 p4 (k + 1) c4 (lo ++ [y]) := ⟨by simpa [PD.cells] using o4, fun z hz => (hmem z hz).1.subX x4 (hmem z hz).2.1, fun z hz => hnew z (hmem z hz).1 (hmem z hz).2.1⟩
    have n14 : NE p1 p4 := by
      rcases y4 with rfl | hf
      · exact n1
      · exact ne_of_fresh oll3.own hf
    (simp only [go_sem, vc_block_seq, vc_block_region, vc_block_cond, vc_block_block, Nat.reduceBEq, Nat.reduceAdd, Nat.reduceLeDiff, Nat.reduceEqDiff, Int.reduceAdd, Int.reduceBEq, Int.reduceBNe, reduceCtorEq, beq_self_eq_true, Bool.true_beq, Bool.false_beq]; repeat ((with_reducible refine leK_refl ?_); simp only [go_sem, vc_block_seq, vc_block_region, vc_block_cond, vc_block_block, Nat.reduceBEq, Nat.reduceAdd, Nat.reduceLeDiff, Nat.reduceEqDiff, Int.reduceAdd, Int.reduceBEq, Int.reduceBNe, reduceCtorEq, beq_self_eq_true, Bool.true_beq, Bool.false_beq]))
    rw [arith_i64 (by omega)]
    (simp only [go_sem, vc_block_seq, vc_block_region, vc_block_cond, vc_block_block, Nat.reduceBEq, Nat.reduceAdd, Nat.reduceLeDiff, Nat.reduceEqDiff, Int.reduceAdd, Int.reduceBEq, Int.reduceBNe, reduceCtorEq, beq_self_eq_true, Bool.true_beq, Bool.false_beq]; repeat ((with_reducible refine leK_refl ?_); simp only [go_sem, vc_block_seq, vc_block_region, vc_block_cond, vc_block_block, Nat.reduceBEq, Nat.reduceAdd, Nat.reduceLeDiff, Nat.reduceEqDiff, Int.reduceAdd, Int.reduceBEq, Int.reduceBNe, reduceCtorEq, beq_self_eq_true, Bool.true_beq, Bool.false_beq]))
    refine delete_call _ p1 m c1 k0 u v4 oll4.own (PD.ones ll) hk0m (by omega) ?_
    intro v5 o5 x5
    rw [← List.map_take, ← List.map_drop, ← List.map_append] at o5
    (simp only [go_sem, vc_block_seq, vc_block_region, vc_block_cond, vc_block_block, Nat.reduceBEq, Nat.reduceAdd, Nat.reduceLeDiff, Nat.reduceEqDiff, Int.reduceAdd, Int.reduceBEq, Int.reduceBNe, reduceCtorEq, beq_self_eq_true, Bool.true_beq, Bool.false_beq]; repeat ((with_reducible refine leK_refl ?_); simp only [go_sem, vc_block_seq, vc_block_region, vc_block_cond, vc_block_block, Nat.reduceBEq, Nat.reduceAdd, Nat.reduceLeDiff, Nat.reduceEqDiff, Int.reduceAdd, Int.reduceBEq, Int.reduceBNe, reduceCtorEq, beq_self_eq_true, Bool.true_beq, Bool.false_beq]))
    refine ⟨(m - 1, p4, k + 1, c4), le_chk (by simp only [go_sem, vc_block_seq, vc_block_region, vc_block_cond, vc_block_block, Nat.reduceBEq, Nat.reduceAdd, Nat.reduceLeDiff, Nat.reduceEqDiff, Int.reduceAdd, Int.reduceBEq, Int.reduceBNe, reduceCtorEq, beq_self_eq_true, Bool.true_beq, Bool.false_beq]), x5.sub (x4.sub (hs.trans hs3) olo.own.fresh) oll.own.fresh, ll.take k0 ++ ll.drop (k0 + 1), lo ++ [y], oll4.write x5 o5 ?_, olo4.subX x5 n14.symm (fun z hz => (hmem z hz).2.2), n14, ?_, fun z hz => (hmem z hz).2.2, ?_, by simp only; omega, by simp only; omega⟩
    · intro z hz
      rcases List.mem_append.1 hz with hz | hz
      · exact ⟨z, List.mem_of_mem_take hz, rfl, rfl, rfl, rfl⟩
      · exact ⟨z, List.mem_of_mem_drop hz, rfl, rfl, rfl, rfl⟩
    · intro z hz
      have hz2 : z ∈ ll := by
        rcases List.mem_append.1 hz with hz | hz
        · exact List.mem_of_mem_take hz
        · exact List.mem_of_mem_drop hz
      exact hnew z (oll3.fl z hz2) (n2 z hz2)
    · rw [← hR, pick_step (by simp; omega) (by simp; rw [hll]; exact hk0) (getDs hy), take_ds, drop_ds]
      simp [ds]
  · rintro ⟨m, q, k, d⟩ v2 ⟨hs, ll, lo, oll, olo, n1, n2, n3, hR, hkj, hmn⟩
    (simp only [go_sem, vc_block_seq, vc_block_region, vc_block_cond, vc_block_block, Nat.reduceBEq, Nat.reduceAdd, Nat.reduceLeDiff, Nat.reduceEqDiff, Int.reduceAdd, Int.reduceBEq, Int.reduceBNe, reduceCtorEq, beq_self_eq_true, Bool.true_beq, Bool.false_beq]; repeat ((with_reducible refine leK_refl ?_); simp only [go_sem, vc_block_seq, vc_block_region, vc_block_cond, vc_block_block, Nat.reduceBEq, Nat.reduceAdd, Nat.reduceLeDiff, Nat.reduceEqDiff, Int.reduceAdd, Int.reduceBEq, Int.reduceBNe, reduceCtorEq, beq_self_eq_true, Bool.true_beq, Bool.false_beq]))
    refine ⟨hs, q, k, d, lo, rfl, olo, ?_⟩
    rw [← hR, List.drop_eq_nil_of_le (by omega)]
    rfl

set_option maxHeartbeats 1000000 in
theorem ask_con (l : List PD) (self : PD) (many : Int) (dr : List UInt32) (p pd : Option Addr) (n c nd cd : Nat) (u : World) (hl : DL u p n c l) (hself : Fl u self) (hsn : self.n ≤ 8) (hd : Sl u 1 pd nd cd (dr.map enc32)) (hn : n ≤ 1000) (hs8 : ∀ x ∈ l, x.n ≤ 8) (hnd : nd ≤ 1000) (hmany : many ≤ 9223372036854775807) :
    Con Try.prog 12 [.slice p n c, self.val, .int .i64 many, .slice pd nd cd] u (fun r u' =>
      (∃ i o v, dOld (ds l) = some i ∧ (ds l)[i]? = some o ∧ 1 ≤ many ∧ r = .tuple #[.int .u8 o.node.toNat, v, .bool true] ∧ BackL u' v (cAsk (ds l) self.d many dr o.node)) ∨ ((l = [] ∨ many < 1) ∧ r = .tuple #[.int .u8 0, .slice none 0 0, .bool false])) := by
  have ll := hl.len
  have ldr : dr.length = nd := by simpa using hd.len
  refine spec_of_vc Ty.mixed Try.func12 rfl (by kernel_rfl) (by kernel_rfl) rfl [.tmp 8, .tmp 9, .tmp 10] rfl ?_
  (simp only [go_sem, vc_block_seq, vc_block_region, vc_block_cond, vc_block_block, Nat.reduceBEq, Nat.reduceAdd, Nat.reduceLeDiff, Nat.reduceEqDiff, Int.reduceAdd, Int.reduceBEq, Int.reduceBNe, reduceCtorEq, beq_self_eq_true, Bool.true_beq, Bool.false_beq]; repeat ((with_reducible refine leK_refl ?_); simp only [go_sem, vc_block_seq, vc_block_region, vc_block_cond, vc_block_block, Nat.reduceBEq, Nat.reduceAdd, Nat.reduceLeDiff, Nat.reduceEqDiff, Int.reduceAdd, Int.reduceBEq, Int.reduceBNe, reduceCtorEq, beq_self_eq_true, Bool.true_beq, Bool.false_beq]))
  intro b5
  refine AtCall.of_spec (oldest_con l p n c u hl (by omega)) ?_
  rintro r u1 hs1 rfl
  (simp only [go_sem, vc_block_seq, vc_block_region, vc_block_cond, vc_block_block, Nat.reduceBEq, Nat.reduceAdd, Nat.reduceLeDiff, Nat.reduceEqDiff, Int.reduceAdd, Int.reduceBEq, Int.reduceBNe, reduceCtorEq, beq_self_eq_true, Bool.true_beq, Bool.false_beq]; repeat ((with_reducible refine leK_refl ?_); simp only [go_sem, vc_block_seq, vc_block_region, vc_block_cond, vc_block_block, Nat.reduceBEq, Nat.reduceAdd, Nat.reduceLeDiff, Nat.reduceEqDiff, Int.reduceAdd, Int.reduceBEq, Int.reduceBNe, reduceCtorEq, beq_self_eq_true, Bool.true_beq, Bool.false_beq]))
  by_cases h0 : l = []
  · rw [show dOldest (ds l) = -1 by rw [h0]; rfl, show decide ((-1 : Int) < 0) = true from rfl]
    (simp only [go_sem, vc_block_seq, vc_block_region, vc_block_cond, vc_block_block, Nat.reduceBEq, Nat.reduceAdd, Nat.reduceLeDiff, Nat.reduceEqDiff, Int.reduceAdd, Int.reduceBEq, Int.reduceBNe, reduceCtorEq, beq_self_eq_true, Bool.true_beq, Bool.false_beq]; repeat ((with_reducible refine leK_refl ?_); simp only [go_sem, vc_block_seq, vc_block_region, vc_block_cond, vc_block_block, Nat.reduceBEq, Nat.reduceAdd, Nat.reduceLeDiff, Nat.reduceEqDiff, Int.reduceAdd, Int.reduceBEq, Int.reduceBNe, reduceCtorEq, beq_self_eq_true, Bool.true_beq, Bool.false_beq]))
    exact ⟨hs1, .inr ⟨.inl h0, rfl⟩⟩
  obtain ⟨i, hi⟩ := old_some (l := ds l) (by simpa using h0)
  obtain ⟨o, ho, _, _⟩ := old_spec hi
  have hin : i < n := by obtain ⟨h, _⟩ := List.getElem?_eq_some_iff.1 ho; simp at h; omega
  obtain ⟨y, hy⟩ := exAt hin ll
  have hyo := atDs hy ho
  rw [show dOldest (ds l) = (i : Int) by unfold dOldest; rw [hi]]
  rw [decide_eq_false (show ¬ (i : Int) < 0 by omega)]
  (simp only [go_sem, vc_block_seq, vc_block_region, vc_block_cond, vc_block_block, Nat.reduceBEq, Nat.reduceAdd, Nat.reduceLeDiff, Nat.reduceEqDiff, Int.reduceAdd, Int.reduceBEq, Int.reduceBNe, reduceCtorEq, beq_self_eq_true, Bool.true_beq, Bool.false_beq]; repeat ((with_reducible refine leK_refl ?_); simp only [go_sem, vc_block_seq, vc_block_region, vc_block_cond, vc_block_block, Nat.reduceBEq, Nat.reduceAdd, Nat.reduceLeDiff, Nat.reduceEqDiff, Int.reduceAdd, Int.reduceBEq, Int.reduceBNe, reduceCtorEq, beq_self_eq_true, Bool.true_beq, Bool.false_beq]))
  refine cond_dec (fun h1 => ?_) (fun h1 => ?_)
  · (simp only [go_sem, vc_block_seq, vc_block_region, vc_block_cond, vc_block_block, Nat.reduceBEq, Nat.reduceAdd, Nat.reduceLeDiff, Nat.reduceEqDiff, Int.reduceAdd, Int.reduceBEq, Int.reduceBNe, reduceCtorEq, beq_self_eq_true, Bool.true_beq, Bool.false_beq]; repeat ((with_reducible refine leK_refl ?_); simp only [go_sem, vc_block_seq, vc_block_region, vc_block_cond, vc_block_block, Nat.reduceBEq, Nat.reduceAdd, Nat.reduceLeDiff, Nat.reduceEqDiff, Int.reduceAdd, Int.reduceBEq, Int.reduceBNe, reduceCtorEq, beq_self_eq_true, Bool.true_beq, Bool.false_beq]))
    exact ⟨hs1, .inr ⟨.inr h1, rfl⟩⟩
  (simp only [go_sem, vc_block_seq, vc_block_region, vc_block_cond, vc_block_block, Nat.reduceBEq, Nat.reduceAdd, Nat.reduceLeDiff, Nat.reduceEqDiff, Int.reduceAdd, Int.reduceBEq, Int.reduceBNe, reduceCtorEq, beq_self_eq_true, Bool.true_beq, Bool.false_beq]; repeat ((with_reducible refine leK_refl ?_); simp only [go_sem, vc_block_seq, vc_block_region, vc_block_cond, vc_block_block, Nat.reduceBEq, Nat.reduceAdd, Nat.reduceLeDiff, Nat.reduceEqDiff, Int.reduceAdd, Int.reduceBEq, Int.reduceBNe, reduceCtorEq, beq_self_eq_true, Bool.true_beq, Bool.false_beq]))
  refine ⟨⟨hl.sl.some_ hin, by omega, by omega⟩, ?_⟩
  refine (hl.sl.mono hs1).load (getMap hy) (.inl rfl) (Nat.le_of_ble_eq_true rfl) ?_
  (simp only [go_sem, vc_block_seq, vc_block_region, vc_block_cond, vc_block_block, Nat.reduceBEq, Nat.reduceAdd, Nat.reduceLeDiff, Nat.reduceEqDiff, Int.reduceAdd, Int.reduceBEq, Int.reduceBNe, reduceCtorEq, beq_self_eq_true, Bool.true_beq, Bool.false_beq]; repeat ((with_reducible refine leK_refl ?_); simp only [go_sem, vc_block_seq, vc_block_region, vc_block_cond, vc_block_block, Nat.reduceBEq, Nat.reduceAdd, Nat.reduceLeDiff, Nat.reduceEqDiff, Int.reduceAdd, Int.reduceBEq, Int.reduceBNe, reduceCtorEq, beq_self_eq_true, Bool.true_beq, Bool.false_beq]))
  refine eff_lit (n := 1) (vs := [self.val]) Ty.el22 rfl rfl (by intro v hv; simp at hv; subst hv; rfl) (by omega) ?_
  intro pl ul hol sl fl
  have L : DL ul pl 1 1 [self] := ⟨hol.sl, by intro x hx; simp at hx; subst hx; exact hself.mono (hs1.trans sl)⟩
  (simp only [go_sem, vc_block_seq, vc_block_region, vc_block_cond, vc_block_block, Nat.reduceBEq, Nat.reduceAdd, Nat.reduceLeDiff, Nat.reduceEqDiff, Int.reduceAdd, Int.reduceBEq, Int.reduceBNe, reduceCtorEq, beq_self_eq_true, Bool.true_beq, Bool.false_beq]; repeat ((with_reducible refine leK_refl ?_); simp only [go_sem, vc_block_seq, vc_block_region, vc_block_cond, vc_block_block, Nat.reduceBEq, Nat.reduceAdd, Nat.reduceLeDiff, Nat.reduceEqDiff, Int.reduceAdd, Int.reduceBEq, Int.reduceBNe, reduceCtorEq, beq_self_eq_true, Bool.true_beq, Bool.false_beq]))
  refine AtCall.of_spec (copy_con [self] pl 1 1 ul L (by omega) (by intro x hx; simp at hx; subst hx; omega)) ?_
  rintro r u2 hs2 ⟨p2, c2, l2, rfl, o2, e2, hp2⟩
  have l2l := o2.len
  obtain ⟨z, rfl⟩ : ∃ z, l2 = [z] := by
    match l2, l2l with
    | [z], _ => exact ⟨z, rfl⟩
  have hzd : z.d = self.d := by simpa using e2
  have hsA := hs1.trans (sl.trans hs2)
  replace o2 := o2.anti (hs1.trans sl)
  (simp only [go_sem, vc_block_seq, vc_block_region, vc_block_cond, vc_block_block, Nat.reduceBEq, Nat.reduceAdd, Nat.reduceLeDiff, Nat.reduceEqDiff, Int.reduceAdd, Int.reduceBEq, Int.reduceBNe, reduceCtorEq, beq_self_eq_true, Bool.true_beq, Bool.false_beq]; repeat ((with_reducible refine leK_refl ?_); simp only [go_sem, vc_block_seq, vc_block_region, vc_block_cond, vc_block_block, Nat.reduceBEq, Nat.reduceAdd, Nat.reduceLeDiff, Nat.reduceEqDiff, Int.reduceAdd, Int.reduceBEq, Int.reduceBNe, reduceCtorEq, beq_self_eq_true, Bool.true_beq, Bool.false_beq]))
  refine ⟨⟨o2.own.sl.some_ (show 0 < 1 by omega), by omega, by omega⟩, ?_⟩
  refine own_store (i := 0) Ty.lay5 o2.own (x := z.enc) rfl rfl (by omega) rfl ?_
  intro u3 o3 x3
  have e3 : ([z].map PD.enc).set 0 (splice z.enc 2 (Value.int .u8 0).cells.toList) = [PD.mk ⟨self.d.node, self.d.inc, 0, self.d.filter⟩ z.p z.n z.c].map PD.enc := by
    rw [← hzd]; rfl
  have o3' : DO u u3 34 30 p2 1 c2 [PD.mk ⟨self.d.node, self.d.inc, 0, self.d.filter⟩ z.p z.n z.c] := o2.write x3 (by rw [← e3]; exact o3) (by
    intro w hw; simp at hw; subst hw; exact ⟨z, by simp, rfl, rfl, rfl, by rw [hzd]⟩)
  have hsB : Sub u u3 := x3.sub hsA o2.own.fresh
  clear o3 e3
  (simp only [go_sem, vc_block_seq, vc_block_region, vc_block_cond, vc_block_block, Nat.reduceBEq, Nat.reduceAdd, Nat.reduceLeDiff, Nat.reduceEqDiff, Int.reduceAdd, Int.reduceBEq, Int.reduceBNe, reduceCtorEq, beq_self_eq_true, Bool.true_beq, Bool.false_beq]; repeat ((with_reducible refine leK_refl ?_); simp only [go_sem, vc_block_seq, vc_block_region, vc_block_cond, vc_block_block, Nat.reduceBEq, Nat.reduceAdd, Nat.reduceLeDiff, Nat.reduceEqDiff, Int.reduceAdd, Int.reduceBEq, Int.reduceBNe, reduceCtorEq, beq_self_eq_true, Bool.true_beq, Bool.false_beq]))
  rw [arith_i64 (by omega)]
  (simp only [go_sem, vc_block_seq, vc_block_region, vc_block_cond, vc_block_block, Nat.reduceBEq, Nat.reduceAdd, Nat.reduceLeDiff, Nat.reduceEqDiff, Int.reduceAdd, Int.reduceBEq, Int.reduceBNe, reduceCtorEq, beq_self_eq_true, Bool.true_beq, Bool.false_beq]; repeat ((with_reducible refine leK_refl ?_); simp only [go_sem, vc_block_seq, vc_block_region, vc_block_cond, vc_block_block, Nat.reduceBEq, Nat.reduceAdd, Nat.reduceLeDiff, Nat.reduceEqDiff, Int.reduceAdd, Int.reduceBEq, Int.reduceBNe, reduceCtorEq, beq_self_eq_true, Bool.true_beq, Bool.false_beq]))
  refine AtCall.of_spec (pick_con l (many - 1) y.d.node dr p pd n c nd cd u3 (hl.mono hsB) (hd.mono hsB) hn hs8 hnd) ?_
  rintro r u4 hs4 ⟨p4, n4, c4, l4, rfl, o4, e4⟩
  have hl4 := o4.len
  have hb4 : n4 ≤ nd := by
    have h2 := congrArg List.length e4
    have h3 := pick_len (many - 1) dr (dDrop (ds l) y.d.node) []
    simp at h2 h3
    omega
  have hfr : ∀ w ∈ l4, NE w.p p2 := fun w hw => NE.symm (ne_of_fresh o3'.own (Own.fresh (o4.fl w hw)))
  replace o3' := o3'.mono hs4
  (simp only [go_sem, vc_block_seq, vc_block_region, vc_block_cond, vc_block_block, Nat.reduceBEq, Nat.reduceAdd, Nat.reduceLeDiff, Nat.reduceEqDiff, Int.reduceAdd, Int.reduceBEq, Int.reduceBNe, reduceCtorEq, beq_self_eq_true, Bool.true_beq, Bool.false_beq]; repeat ((with_reducible refine leK_refl ?_); simp only [go_sem, vc_block_seq, vc_block_region, vc_block_cond, vc_block_block, Nat.reduceBEq, Nat.reduceAdd, Nat.reduceLeDiff, Nat.reduceEqDiff, Int.reduceAdd, Int.reduceBEq, Int.reduceBNe, reduceCtorEq, beq_self_eq_true, Bool.true_beq, Bool.false_beq]))
  refine eff_append Ty.el22 o3'.own o4.own.sl (PD.ones l4) (by omega) (by omega) ?_
  intro p5 c5 u5 o5 x5 y5
  have hsC : Sub u u5 := x5.sub (hsB.trans hs4) o3'.own.fresh
  (simp only [go_sem, vc_block_seq, vc_block_region, vc_block_cond, vc_block_block, Nat.reduceBEq, Nat.reduceAdd, Nat.reduceLeDiff, Nat.reduceEqDiff, Int.reduceAdd, Int.reduceBEq, Int.reduceBNe, reduceCtorEq, beq_self_eq_true, Bool.true_beq, Bool.false_beq]; repeat ((with_reducible refine leK_refl ?_); simp only [go_sem, vc_block_seq, vc_block_region, vc_block_cond, vc_block_block, Nat.reduceBEq, Nat.reduceAdd, Nat.reduceLeDiff, Nat.reduceEqDiff, Int.reduceAdd, Int.reduceBEq, Int.reduceBNe, reduceCtorEq, beq_self_eq_true, Bool.true_beq, Bool.false_beq]))
  refine ⟨hsC, .inl ⟨i, o, _, hi, ho, by omega, by rw [hyo], p5, 1 + n4, c5, PD.mk ⟨self.d.node, self.d.inc, 0, self.d.filter⟩ z.p z.n z.c :: l4, rfl, ⟨by simpa using o5.sl, ?_⟩, ?_⟩⟩
  · intro w hw
    rcases List.mem_cons.1 hw with rfl | hw
    · exact Own.sl (Own.subX x5 (o3'.ne _ (List.mem_singleton_self _)) (o3'.fl _ (List.mem_singleton_self _)))
    · exact Own.sl (Own.subX x5 (hfr w hw) ((o4.fl w hw).anti hsB))
  · rw [cAsk, hyo, ← e4]; rfl

end Go.Proofs.Ytfdhmmjccnmckaa
