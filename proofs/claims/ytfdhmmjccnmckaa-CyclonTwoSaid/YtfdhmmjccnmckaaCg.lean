/-
  Walks: the document's answers of layer 10.
-/
import Derived.Test.YtfdhmmjccnmckaaCf
import Derived.Test.YtfdhmmjccnmckaaDi
set_option linter.unusedSimpArgs false
set_option linter.unusedVariables false
namespace Go.Eng
theorem drop_lt {L : List GDesc} {s : UInt8} (hu : Up dKey L) (h : dIdx L s ≠ none) : (dDrop L s).length < L.length := by
  cases hi : dIdx L s with
  | none => exact absurd hi h
  | some i =>
    obtain ⟨o, ho, _⟩ := dIdx_some hi
    obtain ⟨hlt, _⟩ := List.getElem?_eq_some_iff.1 ho
    rw [drop_idx hu hi]
    simp
    omega
theorem idx_drop_none {L : List GDesc} {s node : UInt8} (h : dIdx L node = none) : dIdx (dDrop L s) node = none := by
  unfold dIdx
  rw [List.findIdx?_eq_none_iff]
  intro d hd
  simpa using dIdx_none h d (List.mem_filter.1 hd).1
theorem put_any_room {L : List GDesc} {d : GDesc} {self : UInt8} {r r' : Int} (h : dIdx L d.node = none) (h1 : d.node ≠ self) (h2 : d.inc ≠ 0) (h3 : (L.length : Int) < r) (h4 : (L.length : Int) < r') : dPut L d self r = dPut L d self r' := by
  rw [put_new h h1 h2 h3, put_new h h1 h2 h4]
end Go.Eng
namespace Go.Proofs.Ytfdhmmjccnmckaa
open Go.Eng
attribute [local go_sem] GSpan.val GSpan.enc PD.val PD.enc enc32

theorem rdropO_con (l : List PD) (node : UInt8) (p : Option Addr) (n c : Nat) (u : World) (hl : Sl u 4 p n c (l.map PD.enc)) (hn : n ≤ 100000) :
    Con Try.prog 33 [.slice p n c, .int .u8 node.toNat] u (fun r u' => ∃ p' n' c', r = .slice p' n' c' ∧ Own u u' 34 4 p' n' c' ((pDrop node l).map PD.enc)) := by
  have ll : l.length = n := by simpa using hl.len
  refine spec_of_vc Ty.mixed Try.func33 rfl (by kernel_rfl) (by kernel_rfl) rfl [.tmp 4] rfl ?_
  (simp only [go_sem, vc_block_seq, vc_block_region, vc_block_cond, vc_block_block, Nat.reduceBEq, Nat.reduceAdd, Nat.reduceLeDiff, Nat.reduceEqDiff, Int.reduceAdd, Int.reduceBEq, Int.reduceBNe, reduceCtorEq, beq_self_eq_true, Bool.true_beq, Bool.false_beq]; repeat ((with_reducible refine leK_refl ?_); simp only [go_sem, vc_block_seq, vc_block_region, vc_block_cond, vc_block_block, Nat.reduceBEq, Nat.reduceAdd, Nat.reduceLeDiff, Nat.reduceEqDiff, Int.reduceAdd, Int.reduceBEq, Int.reduceBNe, reduceCtorEq, beq_self_eq_true, Bool.true_beq, Bool.false_beq]))
  refine vc_for (fun (g : Nat × Option Addr × Nat × Nat) => [(6, .v (.int .i64 g.1)), (5, .v (.slice g.2.1 g.2.2.1 g.2.2.2))]) (fun _ => [])
    (fun g u' => Sub u u' ∧ g.1 ≤ n ∧ g.2.2.1 ≤ g.1 ∧ Own u u' 34 4 g.2.1 g.2.2.1 g.2.2.2 ((pDrop node (l.take g.1)).map PD.enc)) (fun g => n - g.1) (0, none, 0, 0) (le_chk (by simp only [go_sem, vc_block_seq, vc_block_region, vc_block_cond, vc_block_block, Nat.reduceBEq, Nat.reduceAdd, Nat.reduceLeDiff, Nat.reduceEqDiff, Int.reduceAdd, Int.reduceBEq, Int.reduceBNe, reduceCtorEq, beq_self_eq_true, Bool.true_beq, Bool.false_beq]; rfl)) ⟨Sub.refl _, Nat.zero_le _, Nat.le_refl _, Own.nil_ _ _ _ _⟩ ?_
  rintro ⟨k, q, m, d⟩ u1 ⟨hs, hkn, hm, ho⟩
  simp only at hkn hm ho
  (simp only [go_sem, vc_block_seq, vc_block_region, vc_block_cond, vc_block_block, Nat.reduceBEq, Nat.reduceAdd, Nat.reduceLeDiff, Nat.reduceEqDiff, Int.reduceAdd, Int.reduceBEq, Int.reduceBNe, reduceCtorEq, beq_self_eq_true, Bool.true_beq, Bool.false_beq]; repeat ((with_reducible refine leK_refl ?_); simp only [go_sem, vc_block_seq, vc_block_region, vc_block_cond, vc_block_block, Nat.reduceBEq, Nat.reduceAdd, Nat.reduceLeDiff, Nat.reduceEqDiff, Int.reduceAdd, Int.reduceBEq, Int.reduceBNe, reduceCtorEq, beq_self_eq_true, Bool.true_beq, Bool.false_beq]))
  refine cond_dec (fun h => ?_) (fun h => ?_)
  · have hk : k < n := by omega
    obtain ⟨y, hy⟩ := exAt hk ll
    (simp only [go_sem, vc_block_seq, vc_block_region, vc_block_cond, vc_block_block, Nat.reduceBEq, Nat.reduceAdd, Nat.reduceLeDiff, Nat.reduceEqDiff, Int.reduceAdd, Int.reduceBEq, Int.reduceBNe, reduceCtorEq, beq_self_eq_true, Bool.true_beq, Bool.false_beq]; repeat ((with_reducible refine leK_refl ?_); simp only [go_sem, vc_block_seq, vc_block_region, vc_block_cond, vc_block_block, Nat.reduceBEq, Nat.reduceAdd, Nat.reduceLeDiff, Nat.reduceEqDiff, Int.reduceAdd, Int.reduceBEq, Int.reduceBNe, reduceCtorEq, beq_self_eq_true, Bool.true_beq, Bool.false_beq]))
    refine ⟨⟨hl.some_ hk, by omega, by omega⟩, ?_⟩
    refine (hl.mono hs).load (getMap hy) (.inl rfl) (Nat.le_of_ble_eq_true rfl) ?_
    (simp only [go_sem, vc_block_seq, vc_block_region, vc_block_cond, vc_block_block, Nat.reduceBEq, Nat.reduceAdd, Nat.reduceLeDiff, Nat.reduceEqDiff, Int.reduceAdd, Int.reduceBEq, Int.reduceBNe, reduceCtorEq, beq_self_eq_true, Bool.true_beq, Bool.false_beq]; repeat ((with_reducible refine leK_refl ?_); simp only [go_sem, vc_block_seq, vc_block_region, vc_block_cond, vc_block_block, Nat.reduceBEq, Nat.reduceAdd, Nat.reduceLeDiff, Nat.reduceEqDiff, Int.reduceAdd, Int.reduceBEq, Int.reduceBNe, reduceCtorEq, beq_self_eq_true, Bool.true_beq, Bool.false_beq]))
    rw [u8_bne]
    by_cases h1 : y.d.node = node
    · rw [decide_eq_true h1]
      (simp only [go_sem, vc_block_seq, vc_block_region, vc_block_cond, vc_block_block, Nat.reduceBEq, Nat.reduceAdd, Nat.reduceLeDiff, Nat.reduceEqDiff, Int.reduceAdd, Int.reduceBEq, Int.reduceBNe, reduceCtorEq, beq_self_eq_true, Bool.true_beq, Bool.false_beq]; repeat ((with_reducible refine leK_refl ?_); simp only [go_sem, vc_block_seq, vc_block_region, vc_block_cond, vc_block_block, Nat.reduceBEq, Nat.reduceAdd, Nat.reduceLeDiff, Nat.reduceEqDiff, Int.reduceAdd, Int.reduceBEq, Int.reduceBNe, reduceCtorEq, beq_self_eq_true, Bool.true_beq, Bool.false_beq]))
      rw [arith_i64 (by omega)]
      (simp only [go_sem, vc_block_seq, vc_block_region, vc_block_cond, vc_block_block, Nat.reduceBEq, Nat.reduceAdd, Nat.reduceLeDiff, Nat.reduceEqDiff, Int.reduceAdd, Int.reduceBEq, Int.reduceBNe, reduceCtorEq, beq_self_eq_true, Bool.true_beq, Bool.false_beq]; repeat ((with_reducible refine leK_refl ?_); simp only [go_sem, vc_block_seq, vc_block_region, vc_block_cond, vc_block_block, Nat.reduceBEq, Nat.reduceAdd, Nat.reduceLeDiff, Nat.reduceEqDiff, Int.reduceAdd, Int.reduceBEq, Int.reduceBNe, reduceCtorEq, beq_self_eq_true, Bool.true_beq, Bool.false_beq]))
      refine ⟨(k + 1, q, m, d), le_chk (by simp only [go_sem, vc_block_seq, vc_block_region, vc_block_cond, vc_block_block, Nat.reduceBEq, Nat.reduceAdd, Nat.reduceLeDiff, Nat.reduceEqDiff, Int.reduceAdd, Int.reduceBEq, Int.reduceBNe, reduceCtorEq, beq_self_eq_true, Bool.true_beq, Bool.false_beq]; rfl), ⟨hs, by simp only; omega, by simp only; omega, ?_⟩, by simp only; omega⟩
      simp only
      rw [take_succ hy, pDrop, List.filter_append]
      simpa [h1, pDrop] using ho
    · rw [decide_eq_false h1]
      (simp only [go_sem, vc_block_seq, vc_block_region, vc_block_cond, vc_block_block, Nat.reduceBEq, Nat.reduceAdd, Nat.reduceLeDiff, Nat.reduceEqDiff, Int.reduceAdd, Int.reduceBEq, Int.reduceBNe, reduceCtorEq, beq_self_eq_true, Bool.true_beq, Bool.false_beq]; repeat ((with_reducible refine leK_refl ?_); simp only [go_sem, vc_block_seq, vc_block_region, vc_block_cond, vc_block_block, Nat.reduceBEq, Nat.reduceAdd, Nat.reduceLeDiff, Nat.reduceEqDiff, Int.reduceAdd, Int.reduceBEq, Int.reduceBNe, reduceCtorEq, beq_self_eq_true, Bool.true_beq, Bool.false_beq]))
      refine ⟨⟨hl.some_ hk, by omega, by omega⟩, ?_⟩
      refine (hl.mono hs).load (getMap hy) (.inr rfl) (Nat.le_of_ble_eq_true rfl) ?_
      (simp only [go_sem, vc_block_seq, vc_block_region, vc_block_cond, vc_block_block, Nat.reduceBEq, Nat.reduceAdd, Nat.reduceLeDiff, Nat.reduceEqDiff, Int.reduceAdd, Int.reduceBEq, Int.reduceBNe, reduceCtorEq, beq_self_eq_true, Bool.true_beq, Bool.false_beq]; repeat ((with_reducible refine leK_refl ?_); simp only [go_sem, vc_block_seq, vc_block_region, vc_block_cond, vc_block_block, Nat.reduceBEq, Nat.reduceAdd, Nat.reduceLeDiff, Nat.reduceEqDiff, Int.reduceAdd, Int.reduceBEq, Int.reduceBNe, reduceCtorEq, beq_self_eq_true, Bool.true_beq, Bool.false_beq]))
      refine eff_lit (n := 1) (vs := [y.val]) Ty.el22 rfl rfl (by intro v hv; simp at hv; subst hv; rfl) (by omega) ?_
      intro pv u3 hov hs3 hfv
      (simp only [go_sem, vc_block_seq, vc_block_region, vc_block_cond, vc_block_block, Nat.reduceBEq, Nat.reduceAdd, Nat.reduceLeDiff, Nat.reduceEqDiff, Int.reduceAdd, Int.reduceBEq, Int.reduceBNe, reduceCtorEq, beq_self_eq_true, Bool.true_beq, Bool.false_beq]; repeat ((with_reducible refine leK_refl ?_); simp only [go_sem, vc_block_seq, vc_block_region, vc_block_cond, vc_block_block, Nat.reduceBEq, Nat.reduceAdd, Nat.reduceLeDiff, Nat.reduceEqDiff, Int.reduceAdd, Int.reduceBEq, Int.reduceBNe, reduceCtorEq, beq_self_eq_true, Bool.true_beq, Bool.false_beq]))
      refine eff_append Ty.el22 (ho.mono hs3) hov.sl (by intro y hy; simp at hy; subst hy; rfl) (by omega) (by omega) ?_
      intro p4 c4 u4 ho4 hs4 hp4
      (simp only [go_sem, vc_block_seq, vc_block_region, vc_block_cond, vc_block_block, Nat.reduceBEq, Nat.reduceAdd, Nat.reduceLeDiff, Nat.reduceEqDiff, Int.reduceAdd, Int.reduceBEq, Int.reduceBNe, reduceCtorEq, beq_self_eq_true, Bool.true_beq, Bool.false_beq]; repeat ((with_reducible refine leK_refl ?_); simp only [go_sem, vc_block_seq, vc_block_region, vc_block_cond, vc_block_block, Nat.reduceBEq, Nat.reduceAdd, Nat.reduceLeDiff, Nat.reduceEqDiff, Int.reduceAdd, Int.reduceBEq, Int.reduceBNe, reduceCtorEq, beq_self_eq_true, Bool.true_beq, Bool.false_beq]))
      rw [arith_i64 (by omega)]
      (simp only [go_sem, vc_block_seq, vc_block_region, vc_block_cond, vc_block_block, Nat.reduceBEq, Nat.reduceAdd, Nat.reduceLeDiff, Nat.reduceEqDiff, Int.reduceAdd, Int.reduceBEq, Int.reduceBNe, reduceCtorEq, beq_self_eq_true, Bool.true_beq, Bool.false_beq]; repeat ((with_reducible refine leK_refl ?_); simp only [go_sem, vc_block_seq, vc_block_region, vc_block_cond, vc_block_block, Nat.reduceBEq, Nat.reduceAdd, Nat.reduceLeDiff, Nat.reduceEqDiff, Int.reduceAdd, Int.reduceBEq, Int.reduceBNe, reduceCtorEq, beq_self_eq_true, Bool.true_beq, Bool.false_beq]))
      refine ⟨(k + 1, p4, m + 1, c4), le_chk (by simp only [go_sem, vc_block_seq, vc_block_region, vc_block_cond, vc_block_block, Nat.reduceBEq, Nat.reduceAdd, Nat.reduceLeDiff, Nat.reduceEqDiff, Int.reduceAdd, Int.reduceBEq, Int.reduceBNe, reduceCtorEq, beq_self_eq_true, Bool.true_beq, Bool.false_beq]; rfl), ⟨hs4.sub (hs.trans hs3) ho.fresh, by simp only; omega, by simp only; omega, ?_⟩, by simp only; omega⟩
      simp only
      rw [take_succ hy, pDrop, List.filter_append]
      simpa [h1, PD.cells, pDrop] using ho4
  · obtain rfl : k = n := by omega
    rw [take_all ll] at ho
    (simp only [go_sem, vc_block_seq, vc_block_region, vc_block_cond, vc_block_block, Nat.reduceBEq, Nat.reduceAdd, Nat.reduceLeDiff, Nat.reduceEqDiff, Int.reduceAdd, Int.reduceBEq, Int.reduceBNe, reduceCtorEq, beq_self_eq_true, Bool.true_beq, Bool.false_beq]; repeat ((with_reducible refine leK_refl ?_); simp only [go_sem, vc_block_seq, vc_block_region, vc_block_cond, vc_block_block, Nat.reduceBEq, Nat.reduceAdd, Nat.reduceLeDiff, Nat.reduceEqDiff, Int.reduceAdd, Int.reduceBEq, Int.reduceBNe, reduceCtorEq, beq_self_eq_true, Bool.true_beq, Bool.false_beq]))
    exact ⟨hs, q, m, d, rfl, ho⟩

set_option maxHeartbeats 1000000 in
theorem rpick_con (l : List PD) (hu : Up dKey (ds l)) (many : Int) (not : UInt8) (dr : List UInt32) (p pd : Option Addr) (n c nd cd : Nat) (u : World) (hl : Sl u 4 p n c (l.map PD.enc)) (hd : Sl u 1 pd nd cd (dr.map enc32)) (hn : n ≤ 1000) (hnd : nd ≤ 1000) :
    Con Try.prog 16 [.slice p n c, .int .i64 many, .int .u8 not.toNat, .slice pd nd cd] u (fun r u' => ∃ p' n' c' lo, r = .slice p' n' c' ∧ Own u u' 34 4 p' n' c' (lo.map PD.enc) ∧ (∀ x ∈ lo, x ∈ l) ∧ ds lo = cPick many (dDrop (ds l) not) [] dr) := by
  have ll : l.length = n := by simpa using hl.len
  have ldr : dr.length = nd := by simpa using hd.len
  refine spec_of_vc Ty.mixed Try.func16 rfl (by kernel_rfl) (by kernel_rfl) rfl [.tmp 8] rfl ?_
  (simp only [go_sem, vc_block_seq, vc_block_region, vc_block_cond, vc_block_block, Nat.reduceBEq, Nat.reduceAdd, Nat.reduceLeDiff, Nat.reduceEqDiff, Int.reduceAdd, Int.reduceBEq, Int.reduceBNe, reduceCtorEq, beq_self_eq_true, Bool.true_beq, Bool.false_beq]; repeat ((with_reducible refine leK_refl ?_); simp only [go_sem, vc_block_seq, vc_block_region, vc_block_cond, vc_block_block, Nat.reduceBEq, Nat.reduceAdd, Nat.reduceLeDiff, Nat.reduceEqDiff, Int.reduceAdd, Int.reduceBEq, Int.reduceBNe, reduceCtorEq, beq_self_eq_true, Bool.true_beq, Bool.false_beq]))
  refine AtCall.of_spec (rdropO_con l not p n c u hl (by omega)) ?_
  rintro r u1 hs1 ⟨p1, n1, c1, rfl, o1⟩
  have hR : cPick many (ds (pDrop not l)) (ds []) (dr.drop 0) = cPick many (dDrop (ds l) not) [] dr := by rw [ds_pDrop]; rfl
  have hu1 : Up dKey (ds (pDrop not l)) := by rw [ds_pDrop]; exact hu.filter _
  have hm1 : ∀ x ∈ pDrop not l, x ∈ l := fun x hx => (List.mem_filter.1 hx).1
  have hn1 : n1 ≤ n := by
    have h1 := o1.len
    have h3 := List.length_filter_le (fun x : PD => !decide (x.d.node = not)) l
    simp only [List.length_map] at h1
    unfold pDrop at h1
    omega
  generalize cPick many (dDrop (ds l) not) [] dr = R at hR
  (simp only [go_sem, vc_block_seq, vc_block_region, vc_block_cond, vc_block_block, Nat.reduceBEq, Nat.reduceAdd, Nat.reduceLeDiff, Nat.reduceEqDiff, Int.reduceAdd, Int.reduceBEq, Int.reduceBNe, reduceCtorEq, beq_self_eq_true, Bool.true_beq, Bool.false_beq]; repeat ((with_reducible refine leK_refl ?_); simp only [go_sem, vc_block_seq, vc_block_region, vc_block_cond, vc_block_block, Nat.reduceBEq, Nat.reduceAdd, Nat.reduceLeDiff, Nat.reduceEqDiff, Int.reduceAdd, Int.reduceBEq, Int.reduceBNe, reduceCtorEq, beq_self_eq_true, Bool.true_beq, Bool.false_beq]))
  refine vc_for (fun (g : Nat × (Option Addr × Nat × Nat) × (Option Addr × Nat × Nat)) => [(11, .v (.int .i64 g.1)), (9, .v (.slice g.2.1.1 g.2.1.2.1 g.2.1.2.2)), (10, .v (.slice g.2.2.1 g.2.2.2.1 g.2.2.2.2))]) (fun _ => [])
    (fun g u' => Sub u u' ∧ g.1 ≤ nd ∧ g.2.2.2.1 ≤ g.1 ∧ g.2.1.2.1 ≤ n ∧ ∃ ll lo, Own u u' 34 4 g.2.1.1 g.2.1.2.1 g.2.1.2.2 (ll.map PD.enc) ∧ Own u u' 34 4 g.2.2.1 g.2.2.2.1 g.2.2.2.2 (lo.map PD.enc) ∧ NE g.2.1.1 g.2.2.1 ∧ (∀ x ∈ ll, x ∈ l) ∧ (∀ x ∈ lo, x ∈ l) ∧ Up dKey (ds ll) ∧ cPick many (ds ll) (ds lo) (dr.drop g.1) = R)
    (fun g => nd - g.1) (0, (p1, n1, c1), (none, 0, 0)) (le_chk (by simp only [go_sem, vc_block_seq, vc_block_region, vc_block_cond, vc_block_block, Nat.reduceBEq, Nat.reduceAdd, Nat.reduceLeDiff, Nat.reduceEqDiff, Int.reduceAdd, Int.reduceBEq, Int.reduceBNe, reduceCtorEq, beq_self_eq_true, Bool.true_beq, Bool.false_beq]; simp)) ⟨hs1, Nat.zero_le _, Nat.le_refl _, hn1, pDrop not l, [], o1, Own.nil_ _ _ _ _, (fun a b _ h => by cases h), hm1, by simp, hu1, hR⟩ ?_
  rintro ⟨j, ⟨pl, m, cl⟩, ⟨q, k, d⟩⟩ v2 ⟨hs, hj, hkj, hmn, ll2, lo, oll, olo, n1, m1, m2, hu2, hR⟩
  simp only at hj hkj hmn oll olo n1 hR
  have hll : ll2.length = m := by simpa using oll.len
  have hlo : lo.length = k := by simpa using olo.len
  (simp only [go_sem, vc_block_seq, vc_block_region, vc_block_cond, vc_block_block, Nat.reduceBEq, Nat.reduceAdd, Nat.reduceLeDiff, Nat.reduceEqDiff, Int.reduceAdd, Int.reduceBEq, Int.reduceBNe, reduceCtorEq, beq_self_eq_true, Bool.true_beq, Bool.false_beq]; repeat ((with_reducible refine leK_refl ?_); simp only [go_sem, vc_block_seq, vc_block_region, vc_block_cond, vc_block_block, Nat.reduceBEq, Nat.reduceAdd, Nat.reduceLeDiff, Nat.reduceEqDiff, Int.reduceAdd, Int.reduceBEq, Int.reduceBNe, reduceCtorEq, beq_self_eq_true, Bool.true_beq, Bool.false_beq]))
  by_cases h1 : (j : Int) < (nd : Int)
  case neg =>
    rw [decide_eq_false h1]
    (simp only [go_sem, vc_block_seq, vc_block_region, vc_block_cond, vc_block_block, Nat.reduceBEq, Nat.reduceAdd, Nat.reduceLeDiff, Nat.reduceEqDiff, Int.reduceAdd, Int.reduceBEq, Int.reduceBNe, reduceCtorEq, beq_self_eq_true, Bool.true_beq, Bool.false_beq]; repeat ((with_reducible refine leK_refl ?_); simp only [go_sem, vc_block_seq, vc_block_region, vc_block_cond, vc_block_block, Nat.reduceBEq, Nat.reduceAdd, Nat.reduceLeDiff, Nat.reduceEqDiff, Int.reduceAdd, Int.reduceBEq, Int.reduceBNe, reduceCtorEq, beq_self_eq_true, Bool.true_beq, Bool.false_beq]))
    refine ⟨hs, q, k, d, lo, rfl, olo, m2, ?_⟩
    rw [← hR, List.drop_eq_nil_of_le (by omega)]
    rfl
  rw [decide_eq_true h1]
  have hjn : j < nd := by omega
  obtain ⟨x, hx⟩ := exAt hjn ldr
  have hxb := x.toNat_lt
  rw [drop_atU hx] at hR
  (simp only [go_sem, vc_block_seq, vc_block_region, vc_block_cond, vc_block_block, Nat.reduceBEq, Nat.reduceAdd, Nat.reduceLeDiff, Nat.reduceEqDiff, Int.reduceAdd, Int.reduceBEq, Int.reduceBNe, reduceCtorEq, beq_self_eq_true, Bool.true_beq, Bool.false_beq]; repeat ((with_reducible refine leK_refl ?_); simp only [go_sem, vc_block_seq, vc_block_region, vc_block_cond, vc_block_block, Nat.reduceBEq, Nat.reduceAdd, Nat.reduceLeDiff, Nat.reduceEqDiff, Int.reduceAdd, Int.reduceBEq, Int.reduceBNe, reduceCtorEq, beq_self_eq_true, Bool.true_beq, Bool.false_beq]))
  by_cases h2 : (k : Int) < many
  case neg =>
    rw [decide_eq_false h2]
    (simp only [go_sem, vc_block_seq, vc_block_region, vc_block_cond, vc_block_block, Nat.reduceBEq, Nat.reduceAdd, Nat.reduceLeDiff, Nat.reduceEqDiff, Int.reduceAdd, Int.reduceBEq, Int.reduceBNe, reduceCtorEq, beq_self_eq_true, Bool.true_beq, Bool.false_beq]; repeat ((with_reducible refine leK_refl ?_); simp only [go_sem, vc_block_seq, vc_block_region, vc_block_cond, vc_block_block, Nat.reduceBEq, Nat.reduceAdd, Nat.reduceLeDiff, Nat.reduceEqDiff, Int.reduceAdd, Int.reduceBEq, Int.reduceBNe, reduceCtorEq, beq_self_eq_true, Bool.true_beq, Bool.false_beq]))
    exact ⟨hs, q, k, d, lo, rfl, olo, m2, by rw [← hR, pick_full (by simp; omega)]⟩
  rw [decide_eq_true h2]
  (simp only [go_sem, vc_block_seq, vc_block_region, vc_block_cond, vc_block_block, Nat.reduceBEq, Nat.reduceAdd, Nat.reduceLeDiff, Nat.reduceEqDiff, Int.reduceAdd, Int.reduceBEq, Int.reduceBNe, reduceCtorEq, beq_self_eq_true, Bool.true_beq, Bool.false_beq]; repeat ((with_reducible refine leK_refl ?_); simp only [go_sem, vc_block_seq, vc_block_region, vc_block_cond, vc_block_block, Nat.reduceBEq, Nat.reduceAdd, Nat.reduceLeDiff, Nat.reduceEqDiff, Int.reduceAdd, Int.reduceBEq, Int.reduceBNe, reduceCtorEq, beq_self_eq_true, Bool.true_beq, Bool.false_beq]))
  by_cases h3 : (0 : Int) < (m : Int)
  case neg =>
    rw [decide_eq_false h3]
    (simp only [go_sem, vc_block_seq, vc_block_region, vc_block_cond, vc_block_block, Nat.reduceBEq, Nat.reduceAdd, Nat.reduceLeDiff, Nat.reduceEqDiff, Int.reduceAdd, Int.reduceBEq, Int.reduceBNe, reduceCtorEq, beq_self_eq_true, Bool.true_beq, Bool.false_beq]; repeat ((with_reducible refine leK_refl ?_); simp only [go_sem, vc_block_seq, vc_block_region, vc_block_cond, vc_block_block, Nat.reduceBEq, Nat.reduceAdd, Nat.reduceLeDiff, Nat.reduceEqDiff, Int.reduceAdd, Int.reduceBEq, Int.reduceBNe, reduceCtorEq, beq_self_eq_true, Bool.true_beq, Bool.false_beq]))
    have : ll2 = [] := List.eq_nil_of_length_eq_zero (by omega)
    subst this
    exact ⟨hs, q, k, d, lo, rfl, olo, m2, by rw [← hR]; exact (pick_nil _ _ _).symm⟩
  rw [decide_eq_true h3]
  (simp only [go_sem, vc_block_seq, vc_block_region, vc_block_cond, vc_block_block, Nat.reduceBEq, Nat.reduceAdd, Nat.reduceLeDiff, Nat.reduceEqDiff, Int.reduceAdd, Int.reduceBEq, Int.reduceBNe, reduceCtorEq, beq_self_eq_true, Bool.true_beq, Bool.false_beq]; repeat ((with_reducible refine leK_refl ?_); simp only [go_sem, vc_block_seq, vc_block_region, vc_block_cond, vc_block_block, Nat.reduceBEq, Nat.reduceAdd, Nat.reduceLeDiff, Nat.reduceEqDiff, Int.reduceAdd, Int.reduceBEq, Int.reduceBNe, reduceCtorEq, beq_self_eq_true, Bool.true_beq, Bool.false_beq]))
  refine ⟨⟨hd.some_ hjn, by omega, by omega⟩, ?_⟩
  refine (hd.mono hs).load (getMap hx) (.inl rfl) (Nat.le_of_ble_eq_true rfl) ?_
  (simp only [go_sem, vc_block_seq, vc_block_region, vc_block_cond, vc_block_block, Nat.reduceBEq, Nat.reduceAdd, Nat.reduceLeDiff, Nat.reduceEqDiff, Int.reduceAdd, Int.reduceBEq, Int.reduceBNe, reduceCtorEq, beq_self_eq_true, Bool.true_beq, Bool.false_beq]; repeat ((with_reducible refine leK_refl ?_); simp only [go_sem, vc_block_seq, vc_block_region, vc_block_cond, vc_block_block, Nat.reduceBEq, Nat.reduceAdd, Nat.reduceLeDiff, Nat.reduceEqDiff, Int.reduceAdd, Int.reduceBEq, Int.reduceBNe, reduceCtorEq, beq_self_eq_true, Bool.true_beq, Bool.false_beq]))
  rw [arith_u32 (by omega)]
  (simp only [go_sem, vc_block_seq, vc_block_region, vc_block_cond, vc_block_block, Nat.reduceBEq, Nat.reduceAdd, Nat.reduceLeDiff, Nat.reduceEqDiff, Int.reduceAdd, Int.reduceBEq, Int.reduceBNe, reduceCtorEq, beq_self_eq_true, Bool.true_beq, Bool.false_beq]; repeat ((with_reducible refine leK_refl ?_); simp only [go_sem, vc_block_seq, vc_block_region, vc_block_cond, vc_block_block, Nat.reduceBEq, Nat.reduceAdd, Nat.reduceLeDiff, Nat.reduceEqDiff, Int.reduceAdd, Int.reduceBEq, Int.reduceBNe, reduceCtorEq, beq_self_eq_true, Bool.true_beq, Bool.false_beq]))
  rw [bin_remN (a := x.toNat) (b := m) rfl rfl (by omega)]
  generalize hk0 : x.toNat % m = k0
  have hk0m : k0 < m := by rw [← hk0]; exact Nat.mod_lt _ (by omega)
  obtain ⟨y, hy⟩ := exAt hk0m hll
  (simp only [go_sem, vc_block_seq, vc_block_region, vc_block_cond, vc_block_block, Nat.reduceBEq, Nat.reduceAdd, Nat.reduceLeDiff, Nat.reduceEqDiff, Int.reduceAdd, Int.reduceBEq, Int.reduceBNe, reduceCtorEq, beq_self_eq_true, Bool.true_beq, Bool.false_beq]; repeat ((with_reducible refine leK_refl ?_); simp only [go_sem, vc_block_seq, vc_block_region, vc_block_cond, vc_block_block, Nat.reduceBEq, Nat.reduceAdd, Nat.reduceLeDiff, Nat.reduceEqDiff, Int.reduceAdd, Int.reduceBEq, Int.reduceBNe, reduceCtorEq, beq_self_eq_true, Bool.true_beq, Bool.false_beq]))
  rw [arith_i64 (by omega)]
  (simp only [go_sem, vc_block_seq, vc_block_region, vc_block_cond, vc_block_block, Nat.reduceBEq, Nat.reduceAdd, Nat.reduceLeDiff, Nat.reduceEqDiff, Int.reduceAdd, Int.reduceBEq, Int.reduceBNe, reduceCtorEq, beq_self_eq_true, Bool.true_beq, Bool.false_beq]; repeat ((with_reducible refine leK_refl ?_); simp only [go_sem, vc_block_seq, vc_block_region, vc_block_cond, vc_block_block, Nat.reduceBEq, Nat.reduceAdd, Nat.reduceLeDiff, Nat.reduceEqDiff, Int.reduceAdd, Int.reduceBEq, Int.reduceBNe, reduceCtorEq, beq_self_eq_true, Bool.true_beq, Bool.false_beq]))
  refine ⟨⟨oll.sl.some_ hk0m, by omega, by omega⟩, ?_⟩
  refine oll.sl.load (getMap hy) (.inr rfl) (Nat.le_of_ble_eq_true rfl) ?_
  (simp only [go_sem, vc_block_seq, vc_block_region, vc_block_cond, vc_block_block, Nat.reduceBEq, Nat.reduceAdd, Nat.reduceLeDiff, Nat.reduceEqDiff, Int.reduceAdd, Int.reduceBEq, Int.reduceBNe, reduceCtorEq, beq_self_eq_true, Bool.true_beq, Bool.false_beq]; repeat ((with_reducible refine leK_refl ?_); simp only [go_sem, vc_block_seq, vc_block_region, vc_block_cond, vc_block_block, Nat.reduceBEq, Nat.reduceAdd, Nat.reduceLeDiff, Nat.reduceEqDiff, Int.reduceAdd, Int.reduceBEq, Int.reduceBNe, reduceCtorEq, beq_self_eq_true, Bool.true_beq, Bool.false_beq]))
  refine eff_lit (n := 1) (vs := [y.val]) Ty.el22 rfl rfl (by intro v hv; simp at hv; subst hv; rfl) (by omega) ?_
  intro pv v3 hov hs3 hfv
  (simp only [go_sem, vc_block_seq, vc_block_region, vc_block_cond, vc_block_block, Nat.reduceBEq, Nat.reduceAdd, Nat.reduceLeDiff, Nat.reduceEqDiff, Int.reduceAdd, Int.reduceBEq, Int.reduceBNe, reduceCtorEq, beq_self_eq_true, Bool.true_beq, Bool.false_beq]; repeat ((with_reducible refine leK_refl ?_); simp only [go_sem, vc_block_seq, vc_block_region, vc_block_cond, vc_block_block, Nat.reduceBEq, Nat.reduceAdd, Nat.reduceLeDiff, Nat.reduceEqDiff, Int.reduceAdd, Int.reduceBEq, Int.reduceBNe, reduceCtorEq, beq_self_eq_true, Bool.true_beq, Bool.false_beq]))
  refine eff_append Ty.el22 (olo.mono hs3) hov.sl (by intro y hy; simp at hy; subst hy; rfl) (by omega) (by omega) ?_
  intro p4 c4 v4 o4 x4 y4
  have oll4 := (oll.mono hs3).subX x4 n1
  have o4' : Own u v4 34 4 p4 (k + 1) c4 ((lo ++ [y]).map PD.enc) := by simpa [PD.cells] using o4
  clear o4
  have hs4 : Sub u v4 := x4.sub (hs.trans hs3) olo.fresh
  (simp only [go_sem, vc_block_seq, vc_block_region, vc_block_cond, vc_block_block, Nat.reduceBEq, Nat.reduceAdd, Nat.reduceLeDiff, Nat.reduceEqDiff, Int.reduceAdd, Int.reduceBEq, Int.reduceBNe, reduceCtorEq, beq_self_eq_true, Bool.true_beq, Bool.false_beq]; repeat ((with_reducible refine leK_refl ?_); simp only [go_sem, vc_block_seq, vc_block_region, vc_block_cond, vc_block_block, Nat.reduceBEq, Nat.reduceAdd, Nat.reduceLeDiff, Nat.reduceEqDiff, Int.reduceAdd, Int.reduceBEq, Int.reduceBNe, reduceCtorEq, beq_self_eq_true, Bool.true_beq, Bool.false_beq]))
  refine ⟨⟨oll4.sl.some_ hk0m, by omega, by omega⟩, ?_⟩
  refine oll4.sl.load (getMap hy) (.inl rfl) (Nat.le_of_ble_eq_true rfl) ?_
  (simp only [go_sem, vc_block_seq, vc_block_region, vc_block_cond, vc_block_block, Nat.reduceBEq, Nat.reduceAdd, Nat.reduceLeDiff, Nat.reduceEqDiff, Int.reduceAdd, Int.reduceBEq, Int.reduceBNe, reduceCtorEq, beq_self_eq_true, Bool.true_beq, Bool.false_beq]; repeat ((with_reducible refine leK_refl ?_); simp only [go_sem, vc_block_seq, vc_block_region, vc_block_cond, vc_block_block, Nat.reduceBEq, Nat.reduceAdd, Nat.reduceLeDiff, Nat.reduceEqDiff, Int.reduceAdd, Int.reduceBEq, Int.reduceBNe, reduceCtorEq, beq_self_eq_true, Bool.true_beq, Bool.false_beq]))
  refine AtCall.of_spec (rdropO_con ll2 y.d.node pl m cl v4 oll4.sl (by omega)) ?_
  rintro r v5 hs5 ⟨p5, n5, c5, rfl, o5⟩
  have h5 := o5.len
  have h6 := List.length_filter_le (fun x : PD => !decide (x.d.node = y.d.node)) ll2
  simp only [List.length_map] at h5
  unfold pDrop at h5
  (simp only [go_sem, vc_block_seq, vc_block_region, vc_block_cond, vc_block_block, Nat.reduceBEq, Nat.reduceAdd, Nat.reduceLeDiff, Nat.reduceEqDiff, Int.reduceAdd, Int.reduceBEq, Int.reduceBNe, reduceCtorEq, beq_self_eq_true, Bool.true_beq, Bool.false_beq]; repeat ((with_reducible refine leK_refl ?_); simp only [go_sem, vc_block_seq, vc_block_region, vc_block_cond, vc_block_block, Nat.reduceBEq, Nat.reduceAdd, Nat.reduceLeDiff, Nat.reduceEqDiff, Int.reduceAdd, Int.reduceBEq, Int.reduceBNe, reduceCtorEq, beq_self_eq_true, Bool.true_beq, Bool.false_beq]))
  rw [arith_i64 (by omega)]
  (simp only [go_sem, vc_block_seq, vc_block_region, vc_block_cond, vc_block_block, Nat.reduceBEq, Nat.reduceAdd, Nat.reduceLeDiff, Nat.reduceEqDiff, Int.reduceAdd, Int.reduceBEq, Int.reduceBNe, reduceCtorEq, beq_self_eq_true, Bool.true_beq, Bool.false_beq]; repeat ((with_reducible refine leK_refl ?_); simp only [go_sem, vc_block_seq, vc_block_region, vc_block_cond, vc_block_block, Nat.reduceBEq, Nat.reduceAdd, Nat.reduceLeDiff, Nat.reduceEqDiff, Int.reduceAdd, Int.reduceBEq, Int.reduceBNe, reduceCtorEq, beq_self_eq_true, Bool.true_beq, Bool.false_beq]))
  refine ⟨(j + 1, (p5, n5, c5), (p4, k + 1, c4)), le_chk (by simp only [go_sem, vc_block_seq, vc_block_region, vc_block_cond, vc_block_block, Nat.reduceBEq, Nat.reduceAdd, Nat.reduceLeDiff, Nat.reduceEqDiff, Int.reduceAdd, Int.reduceBEq, Int.reduceBNe, reduceCtorEq, beq_self_eq_true, Bool.true_beq, Bool.false_beq]; simp), ⟨hs4.trans hs5, by simp only; omega, by simp only; omega, by simp only; omega, pDrop y.d.node ll2, lo ++ [y], o5.anti hs4, o4'.mono hs5, NE.symm (ne_of_fresh o4' o5.fresh), fun z hz => m1 z (List.mem_filter.1 hz).1, ?_, ?_, ?_⟩, by simp only; omega⟩
  · intro z hz
    rcases List.mem_append.1 hz with hz | hz
    · exact m2 z hz
    · simp at hz; subst hz; exact m1 z (List.mem_of_getElem? hy)
  · rw [ds_pDrop]; exact hu2.filter _
  · rw [← hR, pick_step (by simp; omega) (by simp; rw [hll]; exact hk0) (getDs hy), ds_pDrop, drop_idx hu2 (dIdx_at (self := 0) hu2 (getDs hy))]
    simp [ds]

set_option maxHeartbeats 1000000 in
theorem rask_con (l : List PD) (hu : Up dKey (ds l)) (self : PD) (many : Int) (dr : List UInt32) (p pd : Option Addr) (n c nd cd : Nat) (u : World) (hl : DL u p n c l) (hself : Fl u self) (hd : Sl u 1 pd nd cd (dr.map enc32)) (hn : n ≤ 1000) (hnd : nd ≤ 1000) (hmany : many ≤ 9223372036854775807) :
    Con Try.prog 13 [.slice p n c, self.val, .int .i64 many, .slice pd nd cd] u (fun r u' =>
      (∃ i o v, dOld (ds l) = some i ∧ (ds l)[i]? = some o ∧ 1 ≤ many ∧ r = .tuple #[.int .u8 o.node.toNat, v, .bool true] ∧ BackL u' v (cAsk (ds l) self.d many dr o.node)) ∨ ((l = [] ∨ many < 1) ∧ r = .tuple #[.int .u8 0, .slice none 0 0, .bool false])) := by
  have ll := hl.len
  have ldr : dr.length = nd := by simpa using hd.len
  refine spec_of_vc Ty.mixed Try.func13 rfl (by kernel_rfl) (by kernel_rfl) rfl [.tmp 8, .tmp 9, .tmp 10] rfl ?_
  (simp only [go_sem, vc_block_seq, vc_block_region, vc_block_cond, vc_block_block, Nat.reduceBEq, Nat.reduceAdd, Nat.reduceLeDiff, Nat.reduceEqDiff, Int.reduceAdd, Int.reduceBEq, Int.reduceBNe, reduceCtorEq, beq_self_eq_true, Bool.true_beq, Bool.false_beq]; repeat ((with_reducible refine leK_refl ?_); simp only [go_sem, vc_block_seq, vc_block_region, vc_block_cond, vc_block_block, Nat.reduceBEq, Nat.reduceAdd, Nat.reduceLeDiff, Nat.reduceEqDiff, Int.reduceAdd, Int.reduceBEq, Int.reduceBNe, reduceCtorEq, beq_self_eq_true, Bool.true_beq, Bool.false_beq]))
  intro b5
  by_cases h0 : l = []
  · have hn0 : n = 0 := by rw [h0] at ll; simpa using ll.symm
    rw [show ((n : Int) == 0) = true by rw [hn0]; rfl]
    (simp only [go_sem, vc_block_seq, vc_block_region, vc_block_cond, vc_block_block, Nat.reduceBEq, Nat.reduceAdd, Nat.reduceLeDiff, Nat.reduceEqDiff, Int.reduceAdd, Int.reduceBEq, Int.reduceBNe, reduceCtorEq, beq_self_eq_true, Bool.true_beq, Bool.false_beq]; repeat ((with_reducible refine leK_refl ?_); simp only [go_sem, vc_block_seq, vc_block_region, vc_block_cond, vc_block_block, Nat.reduceBEq, Nat.reduceAdd, Nat.reduceLeDiff, Nat.reduceEqDiff, Int.reduceAdd, Int.reduceBEq, Int.reduceBNe, reduceCtorEq, beq_self_eq_true, Bool.true_beq, Bool.false_beq]))
    exact ⟨Sub.refl _, .inr ⟨.inl h0, rfl⟩⟩
  have hn0 : n ≠ 0 := fun e => h0 (List.eq_nil_of_length_eq_zero (by omega))
  rw [show ((n : Int) == 0) = false by simp; omega]
  (simp only [go_sem, vc_block_seq, vc_block_region, vc_block_cond, vc_block_block, Nat.reduceBEq, Nat.reduceAdd, Nat.reduceLeDiff, Nat.reduceEqDiff, Int.reduceAdd, Int.reduceBEq, Int.reduceBNe, reduceCtorEq, beq_self_eq_true, Bool.true_beq, Bool.false_beq]; repeat ((with_reducible refine leK_refl ?_); simp only [go_sem, vc_block_seq, vc_block_region, vc_block_cond, vc_block_block, Nat.reduceBEq, Nat.reduceAdd, Nat.reduceLeDiff, Nat.reduceEqDiff, Int.reduceAdd, Int.reduceBEq, Int.reduceBNe, reduceCtorEq, beq_self_eq_true, Bool.true_beq, Bool.false_beq]))
  refine cond_dec (fun h1 => ?_) (fun h1 => ?_)
  · (simp only [go_sem, vc_block_seq, vc_block_region, vc_block_cond, vc_block_block, Nat.reduceBEq, Nat.reduceAdd, Nat.reduceLeDiff, Nat.reduceEqDiff, Int.reduceAdd, Int.reduceBEq, Int.reduceBNe, reduceCtorEq, beq_self_eq_true, Bool.true_beq, Bool.false_beq]; repeat ((with_reducible refine leK_refl ?_); simp only [go_sem, vc_block_seq, vc_block_region, vc_block_cond, vc_block_block, Nat.reduceBEq, Nat.reduceAdd, Nat.reduceLeDiff, Nat.reduceEqDiff, Int.reduceAdd, Int.reduceBEq, Int.reduceBNe, reduceCtorEq, beq_self_eq_true, Bool.true_beq, Bool.false_beq]))
    exact ⟨Sub.refl _, .inr ⟨.inr h1, rfl⟩⟩
  (simp only [go_sem, vc_block_seq, vc_block_region, vc_block_cond, vc_block_block, Nat.reduceBEq, Nat.reduceAdd, Nat.reduceLeDiff, Nat.reduceEqDiff, Int.reduceAdd, Int.reduceBEq, Int.reduceBNe, reduceCtorEq, beq_self_eq_true, Bool.true_beq, Bool.false_beq]; repeat ((with_reducible refine leK_refl ?_); simp only [go_sem, vc_block_seq, vc_block_region, vc_block_cond, vc_block_block, Nat.reduceBEq, Nat.reduceAdd, Nat.reduceLeDiff, Nat.reduceEqDiff, Int.reduceAdd, Int.reduceBEq, Int.reduceBNe, reduceCtorEq, beq_self_eq_true, Bool.true_beq, Bool.false_beq]))
  refine AtCall.of_spec (roldest_con l p n c u hl (by omega)) ?_
  rintro r u1 hs1 rfl
  obtain ⟨i, hi⟩ := old_some (l := ds l) (by simpa using h0)
  obtain ⟨o, ho, _, _⟩ := old_spec hi
  have hin : i < n := by obtain ⟨h, _⟩ := List.getElem?_eq_some_iff.1 ho; simp at h; omega
  obtain ⟨y, hy⟩ := exAt hin ll
  have hyo := atDs hy ho
  rw [show dOldest (ds l) = (i : Int) by unfold dOldest; rw [hi]]
  (simp only [go_sem, vc_block_seq, vc_block_region, vc_block_cond, vc_block_block, Nat.reduceBEq, Nat.reduceAdd, Nat.reduceLeDiff, Nat.reduceEqDiff, Int.reduceAdd, Int.reduceBEq, Int.reduceBNe, reduceCtorEq, beq_self_eq_true, Bool.true_beq, Bool.false_beq]; repeat ((with_reducible refine leK_refl ?_); simp only [go_sem, vc_block_seq, vc_block_region, vc_block_cond, vc_block_block, Nat.reduceBEq, Nat.reduceAdd, Nat.reduceLeDiff, Nat.reduceEqDiff, Int.reduceAdd, Int.reduceBEq, Int.reduceBNe, reduceCtorEq, beq_self_eq_true, Bool.true_beq, Bool.false_beq]))
  refine ⟨⟨hl.sl.some_ hin, by omega, by omega⟩, ?_⟩
  refine (hl.sl.mono hs1).load (getMap hy) (.inl rfl) (Nat.le_of_ble_eq_true rfl) ?_
  (simp only [go_sem, vc_block_seq, vc_block_region, vc_block_cond, vc_block_block, Nat.reduceBEq, Nat.reduceAdd, Nat.reduceLeDiff, Nat.reduceEqDiff, Int.reduceAdd, Int.reduceBEq, Int.reduceBNe, reduceCtorEq, beq_self_eq_true, Bool.true_beq, Bool.false_beq]; repeat ((with_reducible refine leK_refl ?_); simp only [go_sem, vc_block_seq, vc_block_region, vc_block_cond, vc_block_block, Nat.reduceBEq, Nat.reduceAdd, Nat.reduceLeDiff, Nat.reduceEqDiff, Int.reduceAdd, Int.reduceBEq, Int.reduceBNe, reduceCtorEq, beq_self_eq_true, Bool.true_beq, Bool.false_beq]))
  refine eff_lit (n := 1) (vs := [PD.val ⟨⟨self.d.node, self.d.inc, 0, self.d.filter⟩, self.p, self.n, self.c⟩]) Ty.el22 rfl rfl (by intro v hv; simp at hv; subst hv; rfl) (by omega) ?_
  intro pl ul hol sl fl
  have hol' : Own u ul 34 4 pl 1 1 ([PD.mk ⟨self.d.node, self.d.inc, 0, self.d.filter⟩ self.p self.n self.c].map PD.enc) := hol
  clear hol
  (simp only [go_sem, vc_block_seq, vc_block_region, vc_block_cond, vc_block_block, Nat.reduceBEq, Nat.reduceAdd, Nat.reduceLeDiff, Nat.reduceEqDiff, Int.reduceAdd, Int.reduceBEq, Int.reduceBNe, reduceCtorEq, beq_self_eq_true, Bool.true_beq, Bool.false_beq]; repeat ((with_reducible refine leK_refl ?_); simp only [go_sem, vc_block_seq, vc_block_region, vc_block_cond, vc_block_block, Nat.reduceBEq, Nat.reduceAdd, Nat.reduceLeDiff, Nat.reduceEqDiff, Int.reduceAdd, Int.reduceBEq, Int.reduceBNe, reduceCtorEq, beq_self_eq_true, Bool.true_beq, Bool.false_beq]))
  rw [arith_i64 (by omega)]
  (simp only [go_sem, vc_block_seq, vc_block_region, vc_block_cond, vc_block_block, Nat.reduceBEq, Nat.reduceAdd, Nat.reduceLeDiff, Nat.reduceEqDiff, Int.reduceAdd, Int.reduceBEq, Int.reduceBNe, reduceCtorEq, beq_self_eq_true, Bool.true_beq, Bool.false_beq]; repeat ((with_reducible refine leK_refl ?_); simp only [go_sem, vc_block_seq, vc_block_region, vc_block_cond, vc_block_block, Nat.reduceBEq, Nat.reduceAdd, Nat.reduceLeDiff, Nat.reduceEqDiff, Int.reduceAdd, Int.reduceBEq, Int.reduceBNe, reduceCtorEq, beq_self_eq_true, Bool.true_beq, Bool.false_beq]))
  refine AtCall.of_spec (rpick_con l hu (many - 1) y.d.node dr p pd n c nd cd ul (hl.sl.mono (hs1.trans sl)) (hd.mono (hs1.trans sl)) hn hnd) ?_
  rintro r u4 hs4 ⟨p4, n4, c4, l4, rfl, o4, m4, e4⟩
  have hl4 := o4.len
  have hb4 : n4 ≤ nd := by
    have h2 := congrArg List.length e4
    have h3 := pick_len (many - 1) dr (dDrop (ds l) y.d.node) []
    simp at h2 h3 hl4
    omega
  have hol4 := hol'.mono hs4
  (simp only [go_sem, vc_block_seq, vc_block_region, vc_block_cond, vc_block_block, Nat.reduceBEq, Nat.reduceAdd, Nat.reduceLeDiff, Nat.reduceEqDiff, Int.reduceAdd, Int.reduceBEq, Int.reduceBNe, reduceCtorEq, beq_self_eq_true, Bool.true_beq, Bool.false_beq]; repeat ((with_reducible refine leK_refl ?_); simp only [go_sem, vc_block_seq, vc_block_region, vc_block_cond, vc_block_block, Nat.reduceBEq, Nat.reduceAdd, Nat.reduceLeDiff, Nat.reduceEqDiff, Int.reduceAdd, Int.reduceBEq, Int.reduceBNe, reduceCtorEq, beq_self_eq_true, Bool.true_beq, Bool.false_beq]))
  refine eff_append Ty.el22 hol4 o4.sl (PD.ones l4) (by omega) (by omega) ?_
  intro p5 c5 u5 o5 x5 y5
  have hsC : Sub u u5 := x5.sub (hs1.trans (sl.trans hs4)) hol'.fresh
  (simp only [go_sem, vc_block_seq, vc_block_region, vc_block_cond, vc_block_block, Nat.reduceBEq, Nat.reduceAdd, Nat.reduceLeDiff, Nat.reduceEqDiff, Int.reduceAdd, Int.reduceBEq, Int.reduceBNe, reduceCtorEq, beq_self_eq_true, Bool.true_beq, Bool.false_beq]; repeat ((with_reducible refine leK_refl ?_); simp only [go_sem, vc_block_seq, vc_block_region, vc_block_cond, vc_block_block, Nat.reduceBEq, Nat.reduceAdd, Nat.reduceLeDiff, Nat.reduceEqDiff, Int.reduceAdd, Int.reduceBEq, Int.reduceBNe, reduceCtorEq, beq_self_eq_true, Bool.true_beq, Bool.false_beq]))
  refine ⟨hsC, .inl ⟨i, o, _, hi, ho, by omega, by rw [hyo], p5, 1 + n4, c5, PD.mk ⟨self.d.node, self.d.inc, 0, self.d.filter⟩ self.p self.n self.c :: l4, rfl, ⟨by simpa using o5.sl, ?_⟩, ?_⟩⟩
  · intro w hw
    rcases List.mem_cons.1 hw with rfl | hw
    · exact Sl.mono hsC hself
    · exact (hl.fl w (m4 w hw)).mono hsC
  · rw [cAsk, hyo, ← e4]; rfl

end Go.Proofs.Ytfdhmmjccnmckaa
