/-
  The walk of PullAny.
-/
import Derived.Test.YthjgnpelmigbeaaPq
import Derived.Test.YthjgnpelmigbeaaPg
import Derived.Test.YthjgnpelmigbeaaDs
set_option linter.unusedSimpArgs false
set_option linter.unusedVariables false
namespace Go.Proofs.Ythjgnpelmigbeaa
open Go.Eng
attribute [local go_sem] GID.val GAsk.val GID.enc GAsk.enc

theorem unlike_snoc {L : List GAsk} {y : GAsk} (h : Unlike L) (h1 : y.left ≠ 0) (h2 : iHas (L.map GAsk.id) y.id = false) : Unlike (L ++ [y]) := by
  refine ⟨fun a ha => ?_, ?_⟩
  · rcases List.mem_append.1 ha with ha | ha
    · exact h.left a ha
    · simp at ha; subst ha; exact h1
  · rw [List.map_append, List.nodup_append]
    refine ⟨h.ids, by simp, fun a ha b hb e => ?_⟩
    simp at hb
    subst hb
    subst e
    have h3 := List.any_eq_false.1 h2 y.id ha
    simp at h3

theorem left_ne {y : GAsk} (h : (y.left.toNat : Int) ≠ 0) : y.left ≠ 0 := fun e => h (by rw [e]; rfl)

theorem u8_succ (x : UInt8) : IntKind.u8.wrap ((x.toNat : Int) + 1) = ((x + 1).toNat : Int) := by
  have := x.toNat_lt
  rw [UInt8.toNat_add]
  simp [IntKind.wrap, IntKind.bits, IntKind.signed]

theorem filled_con (l : List GAsk) (hu : Unlike l) (h40 : l.length ≤ 40) (p : Option Addr) (n c : Nat) (u : World) (hl : Sl u 5 p n c (l.map GAsk.enc)) :
    Con Try.prog 12 [.slice p n c] u (fun r u' => ∃ p' m c', r = .tuple #[.slice p' m c', .bool true] ∧ Own u u' 28 5 p' m c' ((pFill 41 l).map GAsk.enc)) := by
  have hlen : l.length = n := by simpa using hl.len
  refine spec_of_vc Ty.mixed Try.func12 rfl (by kernel_rfl) (by kernel_rfl) rfl [.tmp 2, .tmp 3] rfl ?_
  simp only [go_sem, Nat.reduceBEq, Nat.reduceAdd, Nat.reduceLeDiff, Nat.reduceEqDiff, Int.reduceAdd, Int.reduceBEq, Int.reduceBNe, reduceCtorEq, beq_self_eq_true, Bool.true_beq, Bool.false_beq]
  refine vc_range n (fun (g : Option Addr × Nat × Nat) => [(4, .v (.slice g.1 g.2.1 g.2.2)), (5, .v (.bool true))]) (fun _ => [])
    (fun k g u' => Sub u u' ∧ (pFill 41 (l.take k)).Perm (l.take k) ∧ Own u u' 28 5 g.1 g.2.1 g.2.2 ((pFill 41 (l.take k)).map GAsk.enc))
    (none, 0, 0) (le_chk (by simp only [go_sem, Nat.reduceBEq, Nat.reduceAdd, Nat.reduceLeDiff, Nat.reduceEqDiff, Int.reduceAdd, Int.reduceBEq, Int.reduceBNe, reduceCtorEq, beq_self_eq_true, Bool.true_beq, Bool.false_beq])) ⟨Sub.refl _, by simp [pFill], by simpa [pFill] using Own.nil_ _ _ _ _⟩ (fun _ _ => rfl) (by omega) (fun _ => rfl) ?_ ?_
  · rintro k ⟨q, d, e⟩ u1 hk ⟨hs, hp, ho⟩
    simp only at ho
    obtain ⟨x, hx⟩ := exAt hk hlen
    have hd : d ≤ k := by
      have h1 := ho.len
      have h2 := hp.length_eq
      simp only [List.length_map, List.length_take] at h1 h2
      omega
    obtain ⟨he, hp2⟩ := fill_step hu h40 hx hp
    simp only [go_sem, Nat.reduceBEq, Nat.reduceAdd, Nat.reduceLeDiff, Nat.reduceEqDiff, Int.reduceAdd, Int.reduceBEq, Int.reduceBNe, reduceCtorEq, beq_self_eq_true, Bool.true_beq, Bool.false_beq]
    refine ⟨⟨hl.some_ hk, by omega, by omega⟩, ?_⟩
    refine (hl.mono hs).load (getMap hx) (.inr rfl) (Nat.le_of_ble_eq_true rfl) ?_
    simp only [go_sem, Nat.reduceBEq, Nat.reduceAdd, Nat.reduceLeDiff, Nat.reduceEqDiff, Int.reduceAdd, Int.reduceBEq, Int.reduceBNe, reduceCtorEq, beq_self_eq_true, Bool.true_beq, Bool.false_beq]
    intro b1
    refine AtCall.of_spec (add_con (pFill 41 (l.take k)) x 41 q d e u1 ho.sl (by omega)) ?_
    rintro r u2 hs2 ⟨q2, m2, d2, rfl, ho2⟩
    rw [he]
    simp only [go_sem, Nat.reduceBEq, Nat.reduceAdd, Nat.reduceLeDiff, Nat.reduceEqDiff, Int.reduceAdd, Int.reduceBEq, Int.reduceBNe, reduceCtorEq, beq_self_eq_true, Bool.true_beq, Bool.false_beq]
    refine ⟨(q2, m2, d2), le_chk (by simp only [go_sem, Nat.reduceBEq, Nat.reduceAdd, Nat.reduceLeDiff, Nat.reduceEqDiff, Int.reduceAdd, Int.reduceBEq, Int.reduceBNe, reduceCtorEq, beq_self_eq_true, Bool.true_beq, Bool.false_beq]), hs.trans hs2, hp2, ?_⟩
    simp only
    rw [take_succ hx, fill_snoc]
    exact ho2.anti hs
  · rintro ⟨q, d, e⟩ u1 ⟨hs, hp, ho⟩
    simp only at ho
    rw [take_all hlen] at ho
    simp only [go_sem, Nat.reduceBEq, Nat.reduceAdd, Nat.reduceLeDiff, Nat.reduceEqDiff, Int.reduceAdd, Int.reduceBEq, Int.reduceBNe, reduceCtorEq, beq_self_eq_true, Bool.true_beq, Bool.false_beq]
    exact ⟨hs, q, d, e, rfl, ho⟩

set_option maxRecDepth 4000 in
set_option maxHeartbeats 1000000 in
theorem any_con (l : List GAsk) (turn : UInt8) (x : GAsk) (p : Option Addr) (n c : Nat) (u : World) (hl : Sl u 5 p n c (l.map GAsk.enc)) (hb : n * 12 ≤ 140737488351232) :
    Con Try.prog 4 [.slice p n c, .int .u8 turn.toNat, x.val] u (fun r _ => r = .bool true) := by
  have hlen : l.length = n := by simpa using hl.len
  refine spec_of_vc Ty.mixed Try.func4 rfl (by kernel_rfl) (by kernel_rfl) rfl [.tmp 6] rfl ?_
  simp only [go_sem, Nat.reduceBEq, Nat.reduceAdd, Nat.reduceLeDiff, Nat.reduceEqDiff, Int.reduceAdd, Int.reduceBEq, Int.reduceBNe, reduceCtorEq, beq_self_eq_true, Bool.true_beq, Bool.false_beq]
  intro b0
  refine vc_range n (fun (g : Option Addr × Nat × Nat) => [(7, .v (.slice g.1 g.2.1 g.2.2))]) (fun _ => [])
    (fun k g u' => Sub u u' ∧ Unlike (l.take k) ∧ Own u u' 26 3 g.1 g.2.1 g.2.2 (((l.take k).map GAsk.id).map GID.enc))
    (none, 0, 0) (le_chk (by simp only [go_sem, Nat.reduceBEq, Nat.reduceAdd, Nat.reduceLeDiff, Nat.reduceEqDiff, Int.reduceAdd, Int.reduceBEq, Int.reduceBNe, reduceCtorEq, beq_self_eq_true, Bool.true_beq, Bool.false_beq])) ⟨Sub.refl _, ⟨by simp, by simp⟩, by simpa using Own.nil_ _ _ _ _⟩ (fun _ _ => rfl) (by omega) (fun _ => rfl) ?_ ?_
  · rintro k ⟨q, d, e⟩ u1 hk ⟨hs, hU, ho⟩
    simp only at ho
    obtain ⟨y, hy⟩ := exAt hk hlen
    have hd : d = k := by
      have h1 := ho.len
      simp only [List.length_map, List.length_take] at h1
      omega
    simp only [go_sem, Nat.reduceBEq, Nat.reduceAdd, Nat.reduceLeDiff, Nat.reduceEqDiff, Int.reduceAdd, Int.reduceBEq, Int.reduceBNe, reduceCtorEq, beq_self_eq_true, Bool.true_beq, Bool.false_beq]
    refine ⟨⟨hl.some_ hk, by omega, by omega⟩, ?_⟩
    refine (hl.mono hs).load (getMap hy) (.inr rfl) (Nat.le_of_ble_eq_true rfl) ?_
    simp only [go_sem, Nat.reduceBEq, Nat.reduceAdd, Nat.reduceLeDiff, Nat.reduceEqDiff, Int.reduceAdd, Int.reduceBEq, Int.reduceBNe, reduceCtorEq, beq_self_eq_true, Bool.true_beq, Bool.false_beq]
    intro b1
    refine AtCall.of_spec (ihas_con ((l.take k).map GAsk.id) y.id q d e u1 ho.sl (by omega)) ?_
    rintro r u2 hs2 rfl
    generalize hhas : iHas ((l.take k).map GAsk.id) y.id = B
    cases B with
    | true =>
      simp only [go_sem, Nat.reduceBEq, Nat.reduceAdd, Nat.reduceLeDiff, Nat.reduceEqDiff, Int.reduceAdd, Int.reduceBEq, Int.reduceBNe, reduceCtorEq, beq_self_eq_true, Bool.true_beq, Bool.false_beq]
      refine AtCall.of_spec (awake_con u2) ?_
      rintro r W1 H1 rfl
      simp only [go_sem, Nat.reduceBEq, Nat.reduceAdd, Nat.reduceLeDiff, Nat.reduceEqDiff, Int.reduceAdd, Int.reduceBEq, Int.reduceBNe, reduceCtorEq, beq_self_eq_true, Bool.true_beq, Bool.false_beq]
      exact ⟨hs.trans (hs2.trans H1), rfl⟩
    | false =>
      simp only [go_sem, Nat.reduceBEq, Nat.reduceAdd, Nat.reduceLeDiff, Nat.reduceEqDiff, Int.reduceAdd, Int.reduceBEq, Int.reduceBNe, reduceCtorEq, beq_self_eq_true, Bool.true_beq, Bool.false_beq]
      refine cond_eq (fun h => ?_) (fun h => ?_)
      · simp only [go_sem, Nat.reduceBEq, Nat.reduceAdd, Nat.reduceLeDiff, Nat.reduceEqDiff, Int.reduceAdd, Int.reduceBEq, Int.reduceBNe, reduceCtorEq, beq_self_eq_true, Bool.true_beq, Bool.false_beq]
        refine AtCall.of_spec (awake_con u2) ?_
        rintro r W2 H2 rfl
        simp only [go_sem, Nat.reduceBEq, Nat.reduceAdd, Nat.reduceLeDiff, Nat.reduceEqDiff, Int.reduceAdd, Int.reduceBEq, Int.reduceBNe, reduceCtorEq, beq_self_eq_true, Bool.true_beq, Bool.false_beq]
        exact ⟨hs.trans (hs2.trans H2), rfl⟩
      replace ho := ho.mono hs2
      simp only [go_sem, Nat.reduceBEq, Nat.reduceAdd, Nat.reduceLeDiff, Nat.reduceEqDiff, Int.reduceAdd, Int.reduceBEq, Int.reduceBNe, reduceCtorEq, beq_self_eq_true, Bool.true_beq, Bool.false_beq]
      refine eff_lit (n := 1) (vs := [y.id.val]) Ty.el33 rfl rfl (by intro v hv; simp at hv; subst hv; rfl) (by omega) ?_
      intro pv3 v3 hov3 hsv3 hfv3
      simp only [go_sem, Nat.reduceBEq, Nat.reduceAdd, Nat.reduceLeDiff, Nat.reduceEqDiff, Int.reduceAdd, Int.reduceBEq, Int.reduceBNe, reduceCtorEq, beq_self_eq_true, Bool.true_beq, Bool.false_beq]
      refine eff_append Ty.el33 (ho.mono hsv3) hov3.sl (by intro y hy; simp at hy; subst hy; rfl) (by omega) (by omega) ?_
      intro q3 d3 w3 ho3 hsw3 hqw3
      simp only [go_sem, Nat.reduceBEq, Nat.reduceAdd, Nat.reduceLeDiff, Nat.reduceEqDiff, Int.reduceAdd, Int.reduceBEq, Int.reduceBNe, reduceCtorEq, beq_self_eq_true, Bool.true_beq, Bool.false_beq]
      refine ⟨(q3, d + 1, d3), le_chk (by simp only [go_sem, Nat.reduceBEq, Nat.reduceAdd, Nat.reduceLeDiff, Nat.reduceEqDiff, Int.reduceAdd, Int.reduceBEq, Int.reduceBNe, reduceCtorEq, beq_self_eq_true, Bool.true_beq, Bool.false_beq]), hsw3.sub (hs.trans (hs2.trans hsv3)) ho.fresh, ?_, ?_⟩
      · rw [take_succ hy]
        exact unlike_snoc hU (left_ne h) hhas
      · simp only
        rw [take_succ hy]
        simpa [GID.cells] using ho3
  rintro ⟨q, d, e⟩ u1 ⟨hs, hU, ho⟩
  simp only at ho
  rw [take_all hlen] at ho hU
  have hd : d = n := by
    have h1 := ho.len
    simp only [List.length_map] at h1
    omega
  subst hd
  simp only [go_sem, Nat.reduceBEq, Nat.reduceAdd, Nat.reduceLeDiff, Nat.reduceEqDiff, Int.reduceAdd, Int.reduceBEq, Int.reduceBNe, reduceCtorEq, beq_self_eq_true, Bool.true_beq, Bool.false_beq]
  refine cond_dec (fun h => ?_) (fun h => ?_)
  · simp only [go_sem, Nat.reduceBEq, Nat.reduceAdd, Nat.reduceLeDiff, Nat.reduceEqDiff, Int.reduceAdd, Int.reduceBEq, Int.reduceBNe, reduceCtorEq, beq_self_eq_true, Bool.true_beq, Bool.false_beq]
    refine AtCall.of_spec (awake_con u1) ?_
    rintro r W4 H4 rfl
    simp only [go_sem, Nat.reduceBEq, Nat.reduceAdd, Nat.reduceLeDiff, Nat.reduceEqDiff, Int.reduceAdd, Int.reduceBEq, Int.reduceBNe, reduceCtorEq, beq_self_eq_true, Bool.true_beq, Bool.false_beq]
    exact ⟨hs.trans H4, rfl⟩
  have h40 : l.length ≤ 40 := by omega
  have hcap := hl.cap
  have htl := turn.toNat_lt
  simp only [go_sem, Nat.reduceBEq, Nat.reduceAdd, Nat.reduceLeDiff, Nat.reduceEqDiff, Int.reduceAdd, Int.reduceBEq, Int.reduceBNe, reduceCtorEq, beq_self_eq_true, Bool.true_beq, Bool.false_beq]
  rw [arith_i64 (by omega)]
  simp only [go_sem, Nat.reduceBEq, Nat.reduceAdd, Nat.reduceLeDiff, Nat.reduceEqDiff, Int.reduceAdd, Int.reduceBEq, Int.reduceBNe, reduceCtorEq, beq_self_eq_true, Bool.true_beq, Bool.false_beq]
  rw [arith_i64 (by omega)]
  simp only [go_sem, Nat.reduceBEq, Nat.reduceAdd, Nat.reduceLeDiff, Nat.reduceEqDiff, Int.reduceAdd, Int.reduceBEq, Int.reduceBNe, reduceCtorEq, beq_self_eq_true, Bool.true_beq, Bool.false_beq]
  rw [bin_remN (b := d + 1) rfl (by omega) (by omega)]
  have hk : turn.toNat % (d + 1) < d + 1 := Nat.mod_lt _ (by omega)
  generalize turn.toNat % (d + 1) = k at hk
  replace hl := hl.mono hs
  have hS : Sub u1 u1 := Sub.refl _
  simp only [go_sem, Nat.reduceBEq, Nat.reduceAdd, Nat.reduceLeDiff, Nat.reduceEqDiff, Int.reduceAdd, Int.reduceBEq, Int.reduceBNe, reduceCtorEq, beq_self_eq_true, Bool.true_beq, Bool.false_beq]
  refine AtCall.of_spec (filled_con l hU h40 p _ c u1 hl) ?_
  rintro r W5 H5 ⟨pa, da, ca, rfl, oa⟩
  replace hS := hS.trans H5
  replace hl := hl.mono H5
  replace ho := ho.mono H5
  simp only [go_sem, Nat.reduceBEq, Nat.reduceAdd, Nat.reduceLeDiff, Nat.reduceEqDiff, Int.reduceAdd, Int.reduceBEq, Int.reduceBNe, reduceCtorEq, beq_self_eq_true, Bool.true_beq, Bool.false_beq]
  have hA := good_fill 41 l
  have hAp := fill_perm hU h40
  have hda : da ≤ 40 := by have := oa.len; have := hAp.length_eq; simp at *; omega
  replace oa := oa.anti hs
  refine .inl ⟨[(0, false), (2, false), (3, false), (6, false), (7, false), (4, false), (8, false), (1, false), (5, false), (9, false), (10, false), (11, false), (12, false), (13, false), (14, false), (15, false)], by kernel_rfl, ?_⟩
  simp only [go_sem, Nat.reduceBEq, Nat.reduceAdd, Nat.reduceLeDiff, Nat.reduceEqDiff, Int.reduceAdd, Int.reduceBEq, Int.reduceBNe, reduceCtorEq, beq_self_eq_true, Bool.true_beq, Bool.false_beq]
  rw [slice_fromN (k0 := k) Ty.el22 (by omega) (by omega)]
  simp only [go_sem, Nat.reduceBEq, Nat.reduceAdd, Nat.reduceLeDiff, Nat.reduceEqDiff, Int.reduceAdd, Int.reduceBEq, Int.reduceBNe, reduceCtorEq, beq_self_eq_true, Bool.true_beq, Bool.false_beq]
  rw [slice_toN (k0 := k) Ty.el22 (by omega) (by omega)]
  simp only [go_sem, Nat.reduceBEq, Nat.reduceAdd, Nat.reduceLeDiff, Nat.reduceEqDiff, Int.reduceAdd, Int.reduceBEq, Int.reduceBNe, reduceCtorEq, beq_self_eq_true, Bool.true_beq, Bool.false_beq]
  refine eff_lit (n := 0) (vs := []) Ty.el22 rfl rfl (by simp) (by omega) ?_
  intro p6 v6 h6 s6 f6
  simp only [go_sem, Nat.reduceBEq, Nat.reduceAdd, Nat.reduceLeDiff, Nat.reduceEqDiff, Int.reduceAdd, Int.reduceBEq, Int.reduceBNe, reduceCtorEq, beq_self_eq_true, Bool.true_beq, Bool.false_beq]
  refine eff_append Ty.el22 h6 ((hl.mono s6).drop (l := k) (by omega)) (by rw [← List.map_drop]; exact GAsk.ones _) (by omega) (by omega) ?_
  intro p7 c7 v7 h7 x7 y7
  simp only [Nat.zero_add, List.map_nil, List.nil_append] at h7 ⊢
  have s7 := x7.sub s6 f6
  have f7 := freshP_app y7 f6 s6
  simp only [go_sem, Nat.reduceBEq, Nat.reduceAdd, Nat.reduceLeDiff, Nat.reduceEqDiff, Int.reduceAdd, Int.reduceBEq, Int.reduceBNe, reduceCtorEq, beq_self_eq_true, Bool.true_beq, Bool.false_beq]
  refine eff_append Ty.el22 h7 ((hl.mono s7).take (k := k) (by omega)) (by rw [← List.map_take]; exact GAsk.ones _) (by omega) (by omega) ?_
  intro p8 c8 v8 h8 x8 y8
  have s8 := x8.sub s7 f7
  rw [← List.map_take, ← List.map_drop, ← List.map_append] at h8
  replace hS := hS.trans s8
  replace hl := hl.mono s8
  replace ho := ho.mono s8
  replace oa := oa.mono s8
  have hT := turned_perm l k
  simp only [go_sem, Nat.reduceBEq, Nat.reduceAdd, Nat.reduceLeDiff, Nat.reduceEqDiff, Int.reduceAdd, Int.reduceBEq, Int.reduceBNe, reduceCtorEq, beq_self_eq_true, Bool.true_beq, Bool.false_beq]
  refine AtCall.of_spec (filled_con (l.drop k ++ l.take k) (unlike_perm hT.symm hU) (by rw [hT.length_eq]; exact h40) p8 _ c8 v8 h8.sl) ?_
  rintro r W6 H6 ⟨pb, db, cb, rfl, ob⟩
  replace hS := hS.trans H6
  replace hl := hl.mono H6
  replace ho := ho.mono H6
  replace oa := oa.mono H6
  replace h8 := h8.mono H6
  simp only [go_sem, Nat.reduceBEq, Nat.reduceAdd, Nat.reduceLeDiff, Nat.reduceEqDiff, Int.reduceAdd, Int.reduceBEq, Int.reduceBNe, reduceCtorEq, beq_self_eq_true, Bool.true_beq, Bool.false_beq]
  rw [fill_any hU h40 hT] at ob
  generalize pFill 41 l = A at oa ob hA hAp
  refine eff_lit (n := 0) (vs := []) Ty.el22 rfl rfl (by simp) (by omega) ?_
  intro pl7 vl7 hl7 hsl7 hfl7
  simp only [go_sem, Nat.reduceBEq, Nat.reduceAdd, Nat.reduceLeDiff, Nat.reduceEqDiff, Int.reduceAdd, Int.reduceBEq, Int.reduceBNe, reduceCtorEq, beq_self_eq_true, Bool.true_beq, Bool.false_beq]
  refine eff_append Ty.el22 hl7 (oa.sl.mono hsl7) (GAsk.ones A) (by omega) (by omega) ?_
  intro pW cW wW hW hxW hyW
  simp only [Nat.zero_add, List.map_nil, List.nil_append] at hW ⊢
  have fW := freshP_app hyW hfl7 hsl7
  have tW := hxW.sub hsl7 hfl7
  replace hS := hS.trans tW
  replace hl := hl.mono tW
  replace ho := ho.mono tW
  replace oa := oa.mono tW
  replace ob := ob.mono tW
  simp only [go_sem, Nat.reduceBEq, Nat.reduceAdd, Nat.reduceLeDiff, Nat.reduceEqDiff, Int.reduceAdd, Int.reduceBEq, Int.reduceBNe, reduceCtorEq, beq_self_eq_true, Bool.true_beq, Bool.false_beq]
  refine AtCall.of_spec (sameAsk_con A A _ _ _ _ _ _ wW oa.sl ob.sl (by omega)) ?_
  rintro r W8 H8 rfl
  replace hS := hS.trans H8
  replace hl := hl.mono H8
  replace ho := ho.mono H8
  replace oa := oa.mono H8
  replace ob := ob.mono H8
  replace hW := hW.mono H8
  rw [decide_eq_true rfl]
  simp only [go_sem, Nat.reduceBEq, Nat.reduceAdd, Nat.reduceLeDiff, Nat.reduceEqDiff, Int.reduceAdd, Int.reduceBEq, Int.reduceBNe, reduceCtorEq, beq_self_eq_true, Bool.true_beq, Bool.false_beq]
  have oa0 := oa
  have hW0 := hW
  have hS0 := hS
  refine AtCall.of_spec (add_con A x 41 _ _ _ W8 oa.sl (by omega)) ?_
  rintro r W9 H9 ⟨pm, dm, cm, rfl, om⟩
  replace hS := hS.trans H9
  replace hl := hl.mono H9
  replace ho := ho.mono H9
  replace oa := oa.mono H9
  replace ob := ob.mono H9
  replace hW := hW.mono H9
  simp only [go_sem, Nat.reduceBEq, Nat.reduceAdd, Nat.reduceLeDiff, Nat.reduceEqDiff, Int.reduceAdd, Int.reduceBEq, Int.reduceBNe, reduceCtorEq, beq_self_eq_true, Bool.true_beq, Bool.false_beq]
  have fm := om.fresh
  have hSm := H9
  replace om := om.anti (hs.trans hS0)
  have hids : iHas (l.map GAsk.id) x.id = pHas A x.id := by
    rw [Bool.eq_iff_iff, pHas_iff]
    simp only [iHas, List.any_eq_true, decide_eq_true_eq, List.mem_map]
    constructor
    · rintro ⟨_, ⟨a, ha, rfl⟩, e⟩; exact ⟨a, hAp.mem_iff.2 ha, e⟩
    · rintro ⟨a, ha, e⟩; exact ⟨a.id, ⟨a, hAp.mem_iff.1 ha, rfl⟩, e⟩
  have hel : (A.length : Int) < 41 := by have := hAp.length_eq; omega
  have hdm : dm ≤ 41 := by
    have h1 := om.len
    have h2 := pAdd_len A x 41
    have h3 := hAp.length_eq
    simp only [List.length_map] at h1
    omega
  have hgt : (0 < (x.left.toNat : Int)) ↔ x.left ≠ 0 := by
    constructor
    · intro h e; rw [e] at h; simp at h
    · intro h
      have : x.left.toNat ≠ 0 := fun e => h (UInt8.toNat_inj.1 e)
      omega
  by_cases hx0 : x.left = 0
  case' pos =>
    have hE : pErr A x 41 = 2 := by simp [pErr, hx0]
    rw [hE, decide_eq_false (by rw [hgt]; simpa using hx0)]
    simp only [go_sem, Nat.reduceBEq, Nat.reduceAdd, Nat.reduceLeDiff, Nat.reduceEqDiff, Int.reduceAdd, Int.reduceBEq, Int.reduceBNe, reduceCtorEq, beq_self_eq_true, Bool.true_beq, Bool.false_beq]
  case' neg =>
    rw [decide_eq_true (hgt.2 hx0)]
    simp only [go_sem, Nat.reduceBEq, Nat.reduceAdd, Nat.reduceLeDiff, Nat.reduceEqDiff, Int.reduceAdd, Int.reduceBEq, Int.reduceBNe, reduceCtorEq, beq_self_eq_true, Bool.true_beq, Bool.false_beq]
    refine AtCall.of_spec (ihas_con _ x.id _ _ _ W9 ho.sl (by omega)) ?_
    rintro r W10 H10 rfl
    replace hS := hS.trans H10
    replace hl := hl.mono H10
    replace ho := ho.mono H10
    replace oa := oa.mono H10
    replace ob := ob.mono H10
    replace hW := hW.mono H10
    replace om := om.mono H10
    replace hSm := hSm.trans H10
    rw [hids]
    cases hB : pHas A x.id
  case' neg.true =>
    have hE : pErr A x 41 = 150 := by simp [pErr, hx0, hB]
    rw [hE]
    simp only [go_sem, Nat.reduceBEq, Nat.reduceAdd, Nat.reduceLeDiff, Nat.reduceEqDiff, Int.reduceAdd, Int.reduceBEq, Int.reduceBNe, reduceCtorEq, beq_self_eq_true, Bool.true_beq, Bool.false_beq]
  case' neg.false =>
    have hE : pErr A x 41 = 0 := by simp [pErr, hx0, hB]; omega
    have hD := drop_add hE
    rw [hE]
    simp only [go_sem, Nat.reduceBEq, Nat.reduceAdd, Nat.reduceLeDiff, Nat.reduceEqDiff, Int.reduceAdd, Int.reduceBEq, Int.reduceBNe, reduceCtorEq, beq_self_eq_true, Bool.true_beq, Bool.false_beq]
    refine AtCall.of_spec (drop_con _ x.id _ _ _ _ om.sl (by omega)) ?_
    rintro r W11 H11 ⟨pd, dd, cd, rfl, od⟩
    replace hS := hS.trans H11
    replace hl := hl.mono H11
    replace ho := ho.mono H11
    replace oa := oa.mono H11
    replace ob := ob.mono H11
    replace hW := hW.mono H11
    replace om := om.mono H11
    replace hSm := hSm.trans H11
    simp only [go_sem, Nat.reduceBEq, Nat.reduceAdd, Nat.reduceLeDiff, Nat.reduceEqDiff, Int.reduceAdd, Int.reduceBEq, Int.reduceBNe, reduceCtorEq, beq_self_eq_true, Bool.true_beq, Bool.false_beq]
    rw [hD] at od
    have hdd := od.len
    simp only [List.length_map] at hdd
    refine AtCall.of_spec (sameAsk_con A A _ _ _ _ _ _ _ od.sl oa.sl (by omega)) ?_
    rintro r W12 H12 rfl
    replace hS := hS.trans H12
    replace hl := hl.mono H12
    replace ho := ho.mono H12
    replace oa := oa.mono H12
    replace ob := ob.mono H12
    replace hW := hW.mono H12
    replace om := om.mono H12
    replace hSm := hSm.trans H12
    rw [decide_eq_true rfl]
    simp only [go_sem, Nat.reduceBEq, Nat.reduceAdd, Nat.reduceLeDiff, Nat.reduceEqDiff, Int.reduceAdd, Int.reduceBEq, Int.reduceBNe, reduceCtorEq, beq_self_eq_true, Bool.true_beq, Bool.false_beq]
  all_goals
    refine vc_range dm (fun (_ : Unit) => []) (fun _ => [])
      (fun k _ u' => Sub W8 u' ∧ ∃ M : List GAsk, Own u u' 28 5 pm dm cm (M.map GAsk.enc))
      () (le_chk (by simp only [go_sem, Nat.reduceBEq, Nat.reduceAdd, Nat.reduceLeDiff, Nat.reduceEqDiff, Int.reduceAdd, Int.reduceBEq, Int.reduceBNe, reduceCtorEq, beq_self_eq_true, Bool.true_beq, Bool.false_beq])) ⟨hSm, _, om⟩ (fun _ _ => rfl) (by omega) (fun _ => rfl) ?_ ?_
    · rintro i _ u9 hi ⟨s9, M, o9⟩
      have hMl : M.length = dm := by simpa using o9.len
      obtain ⟨y, hy⟩ := exAt hi hMl
      simp only [go_sem, Nat.reduceBEq, Nat.reduceAdd, Nat.reduceLeDiff, Nat.reduceEqDiff, Int.reduceAdd, Int.reduceBEq, Int.reduceBNe, reduceCtorEq, beq_self_eq_true, Bool.true_beq, Bool.false_beq]
      refine ⟨⟨o9.sl.some_ hi, by omega, by omega⟩, ?_⟩
      refine o9.sl.load (getMap hy) (.inl rfl) (Nat.le_of_ble_eq_true rfl) ?_
      simp only [go_sem, Nat.reduceBEq, Nat.reduceAdd, Nat.reduceLeDiff, Nat.reduceEqDiff, Int.reduceAdd, Int.reduceBEq, Int.reduceBNe, reduceCtorEq, beq_self_eq_true, Bool.true_beq, Bool.false_beq]
      unfold AtArith
      simp only [go_sem, Nat.reduceBEq, Nat.reduceAdd, Nat.reduceLeDiff, Nat.reduceEqDiff, Int.reduceAdd, Int.reduceBEq, Int.reduceBNe, reduceCtorEq, beq_self_eq_true, Bool.true_beq, Bool.false_beq]
      refine ⟨⟨o9.sl.some_ hi, by omega, by omega⟩, ?_⟩
      refine own_store Ty.lay5 o9 (getMap hy) rfl (by omega) rfl ?_
      intro v9 o10 x10
      simp only [go_sem, Nat.reduceBEq, Nat.reduceAdd, Nat.reduceLeDiff, Nat.reduceEqDiff, Int.reduceAdd, Int.reduceBEq, Int.reduceBNe, reduceCtorEq, beq_self_eq_true, Bool.true_beq, Bool.false_beq]
      refine ⟨(), le_chk (by simp only [go_sem, Nat.reduceBEq, Nat.reduceAdd, Nat.reduceLeDiff, Nat.reduceEqDiff, Int.reduceAdd, Int.reduceBEq, Int.reduceBNe, reduceCtorEq, beq_self_eq_true, Bool.true_beq, Bool.false_beq]), x10.sub s9 fm, M.set i y.more1, ?_⟩
      rw [List.map_set, show y.more1.enc = splice y.enc 4 (Value.int .u8 (IntKind.u8.wrap ((y.left.toNat : Int) + 1))).cells.toList from by rw [u8_succ]; rfl]
      exact o10
    · rintro _ u9 ⟨s9, M, o9⟩
      replace oa0 := oa0.mono s9
      replace hW0 := hW0.mono s9
      simp only [go_sem, Nat.reduceBEq, Nat.reduceAdd, Nat.reduceLeDiff, Nat.reduceEqDiff, Int.reduceAdd, Int.reduceBEq, Int.reduceBNe, reduceCtorEq, beq_self_eq_true, Bool.true_beq, Bool.false_beq]
      refine AtCall.of_spec (sameAsk_con A A _ _ _ _ _ _ u9 oa0.sl hW0.sl (by omega)) ?_
      rintro r W13 H13 rfl
      rw [decide_eq_true rfl]
      simp only [go_sem, Nat.reduceBEq, Nat.reduceAdd, Nat.reduceLeDiff, Nat.reduceEqDiff, Int.reduceAdd, Int.reduceBEq, Int.reduceBNe, reduceCtorEq, beq_self_eq_true, Bool.true_beq, Bool.false_beq]
      refine AtCall.of_spec (awake_con _) ?_
      rintro r u10 s10 rfl
      simp only [go_sem, Nat.reduceBEq, Nat.reduceAdd, Nat.reduceLeDiff, Nat.reduceEqDiff, Int.reduceAdd, Int.reduceBEq, Int.reduceBNe, reduceCtorEq, beq_self_eq_true, Bool.true_beq, Bool.false_beq]
      exact ⟨hs.trans (hS0.trans (s9.trans (H13.trans s10))), rfl⟩
end Go.Proofs.Ythjgnpelmigbeaa
