/-
  The walk of PullRight.
-/
import Derived.Test.YthjgnpelmigbeaaPq
import Derived.Test.YthjgnpelmigbeaaPi
import Derived.Test.YthjgnpelmigbeaaPg
import Derived.Test.YthjgnpelmigbeaaDs
set_option linter.unusedSimpArgs false
set_option linter.unusedVariables false
namespace Go.Proofs.Ythjgnpelmigbeaa
open Go.Eng
attribute [local go_sem] GID.val GAsk.val GID.enc GAsk.enc

theorem iIns_eq (l : List GID) (x : GID) : iIns l x = kIns GID.key l x := rfl
theorem made_up {l : List GID} (h : Up GID.key l) : iMade l = l := by
  have key : ∀ (l a : List GID), Up GID.key (a ++ l) → l.foldl iPut a = a ++ l := by
    intro l
    induction l with
    | nil => intro a _; simp
    | cons x r ih =>
      intro a h
      have hax : ∀ y ∈ a, y.key < x.key := fun y hy => (List.pairwise_append.1 h).2.2 y hy x List.mem_cons_self
      have hhas : iHas a x = false := by
        simp only [iHas, List.any_eq_false, decide_eq_true_eq]
        intro y hy e
        have := hax y hy
        rw [e] at this
        omega
      have hp : iPut a x = a ++ [x] := by
        rw [iPut, hhas, iIns_eq, kIns_last (fun y hy => Nat.le_of_lt (hax y hy))]
        rfl
      rw [List.foldl_cons, hp, ih (a ++ [x]) (by simpa using h)]
      simp
  have := key l [] (by simpa using h)
  simpa [iMade] using this
theorem made_ids {A : List GAsk} (h : Eng.Good A) : iMade (A.map GAsk.id) = A.map GAsk.id := made_up (pairwise_id h.up)

theorem min_cast (n m : Nat) : (if (m : Int) < (n : Int) then (m : Int) else n) = ((min n m : Nat) : Int) := by split <;> omega
theorem min40 (n : Nat) : (if 40 < (n : Int) then 40 else (n : Int)) = ((min n 40 : Nat) : Int) := by split <;> omega

theorem pright_con (l : List GAsk) (at_ : UInt8) (most : Int) (p : Option Addr) (n c : Nat) (u : World) (hl : Sl u 5 p n c (l.map GAsk.enc)) (hc : c ≤ maxLen) :
    Con Try.prog 7 [.slice p n c, .int .u8 at_.toNat, .int .i64 most] u (fun r _ => r = .bool true) := by
  have hlen : l.length = n := by simpa using hl.len
  have hcap := hl.cap
  refine spec_of_vc Ty.mixed Try.func7 rfl (by kernel_rfl) (by kernel_rfl) rfl [.tmp 6] rfl ?_
  simp only [go_sem, Nat.reduceBEq, Nat.reduceAdd, Nat.reduceLeDiff, Nat.reduceEqDiff, Int.reduceAdd, Int.reduceBEq, Int.reduceBNe, reduceCtorEq]
  rw [min40]
  generalize hm : min n 40 = m
  have hm40 : m ≤ 40 := by omega
  have hmn : m ≤ n := by omega
  rw [slice_toE Ty.el22 (by omega) (by omega)]
  simp only [Int.toNat_natCast]
  have hL := hl.take (k := m) (by omega)
  rw [← List.map_take] at hL
  have hLl : (l.take m).length = m := by simp; omega
  generalize l.take m = L at hL hLl
  simp only [go_sem, Nat.reduceBEq, Nat.reduceAdd, Nat.reduceLeDiff, Nat.reduceEqDiff, Int.reduceAdd, Int.reduceBEq, Int.reduceBNe, reduceCtorEq]
  refine vc_range m (fun (g : Option Addr × Nat × Nat) => [(7, .v (.slice g.1 g.2.1 g.2.2))]) (fun _ => [])
    (fun k g u' => Sub u u' ∧ Own u u' 28 5 g.1 g.2.1 g.2.2 ((pFill 40 (L.take k)).map GAsk.enc))
    (none, 0, 0) (le_chk (by simp only [go_sem, Nat.reduceBEq, Nat.reduceAdd, Nat.reduceLeDiff, Nat.reduceEqDiff, Int.reduceAdd, Int.reduceBEq, Int.reduceBNe, reduceCtorEq])) ⟨Sub.refl _, by simpa [pFill] using Own.nil_ _ _ _ _⟩ (fun _ _ => rfl) (by omega) (fun _ => rfl) ?_ ?_
  · rintro k ⟨q, d, e⟩ u1 hk ⟨hs, ho⟩
    simp only at ho
    obtain ⟨x, hx⟩ := exAt hk hLl
    have hd : d ≤ k := by
      have h1 := ho.len
      have h2 := fill_len 40 (L.take k)
      simp only [List.length_map, List.length_take] at h1 h2
      omega
    simp only [go_sem, Nat.reduceBEq, Nat.reduceAdd, Nat.reduceLeDiff, Nat.reduceEqDiff, Int.reduceAdd, Int.reduceBEq, Int.reduceBNe, reduceCtorEq]
    refine ⟨⟨hL.some_ hk, by omega, by omega⟩, ?_⟩
    refine (hL.mono hs).load (getMap hx) (.inr rfl) (Nat.le_of_ble_eq_true rfl) ?_
    simp only [go_sem, Nat.reduceBEq, Nat.reduceAdd, Nat.reduceLeDiff, Nat.reduceEqDiff, Int.reduceAdd, Int.reduceBEq, Int.reduceBNe, reduceCtorEq]
    intro b1
    refine AtCall.of_spec (add_con (pFill 40 (L.take k)) x 40 q d e u1 ho.sl (by omega)) ?_
    rintro r u2 hs2 ⟨q2, m2, d2, rfl, ho2⟩
    simp only [go_sem, Nat.reduceBEq, Nat.reduceAdd, Nat.reduceLeDiff, Nat.reduceEqDiff, Int.reduceAdd, Int.reduceBEq, Int.reduceBNe, reduceCtorEq]
    refine ⟨(q2, m2, d2), le_chk (by simp only [go_sem, Nat.reduceBEq, Nat.reduceAdd, Nat.reduceLeDiff, Nat.reduceEqDiff, Int.reduceAdd, Int.reduceBEq, Int.reduceBNe, reduceCtorEq]), hs.trans hs2, ?_⟩
    simp only
    rw [take_succ hx, fill_snoc]
    exact ho2.anti hs
  rintro ⟨q, d, e⟩ u1 ⟨hs, ho⟩
  simp only at ho
  rw [take_all hLl] at ho
  have hg := good_fill 40 L
  have hd := fill_len 40 L
  generalize pFill 40 L = A at ho hg hd
  have hAl : A.length = d := by simpa using ho.len
  have hS : Sub u1 u1 := Sub.refl _
  simp only [go_sem, Nat.reduceBEq, Nat.reduceAdd, Nat.reduceLeDiff, Nat.reduceEqDiff, Int.reduceAdd, Int.reduceBEq, Int.reduceBNe, reduceCtorEq]
  refine AtCall.of_spec (right_con [] 0 none 0 0 u1 (Sl.none_ _ _) (by omega)) ?_
  rintro r W1 H1 rfl
  replace hS := hS.trans H1
  replace ho := ho.mono H1
  rw [show pRight [] 0 = true from rfl]
  simp only [go_sem, Nat.reduceBEq, Nat.reduceAdd, Nat.reduceLeDiff, Nat.reduceEqDiff, Int.reduceAdd, Int.reduceBEq, Int.reduceBNe, reduceCtorEq]
  refine AtCall.of_spec (right_con [] (-1) none 0 0 W1 (Sl.none_ _ _) (by omega)) ?_
  rintro r W2 H2 rfl
  replace hS := hS.trans H2
  replace ho := ho.mono H2
  rw [show pRight [] (-1) = false from rfl]
  simp only [go_sem, Nat.reduceBEq, Nat.reduceAdd, Nat.reduceLeDiff, Nat.reduceEqDiff, Int.reduceAdd, Int.reduceBEq, Int.reduceBNe, reduceCtorEq]
  refine AtCall.of_spec (right_con A most q d e W2 ho.sl (by omega)) ?_
  rintro r W3 H3 rfl
  replace hS := hS.trans H3
  replace ho := ho.mono H3
  have hR : pRight A most = decide ((d : Int) ≤ most) := by simp [pRight, (good_iff A).2 hg, hAl]
  rw [hR]
  simp only [go_sem, Nat.reduceBEq, Nat.reduceAdd, Nat.reduceLeDiff, Nat.reduceEqDiff, Int.reduceAdd, Int.reduceBEq, Int.reduceBNe, reduceCtorEq]
  rw [beq_self_eq_true]
  simp only [go_sem, Nat.reduceBEq, Nat.reduceAdd, Nat.reduceLeDiff, Nat.reduceEqDiff, Int.reduceAdd, Int.reduceBEq, Int.reduceBNe, reduceCtorEq]
  refine cond_eq (fun h => ?_) (fun h => ?_)
  · simp only [go_sem, Nat.reduceBEq, Nat.reduceAdd, Nat.reduceLeDiff, Nat.reduceEqDiff, Int.reduceAdd, Int.reduceBEq, Int.reduceBNe, reduceCtorEq]
    refine AtCall.of_spec (awake_con W3) ?_
    rintro r W4 H4 rfl
    replace hS := hS.trans H4
    replace ho := ho.mono H4
    simp only [go_sem, Nat.reduceBEq, Nat.reduceAdd, Nat.reduceLeDiff, Nat.reduceEqDiff, Int.reduceAdd, Int.reduceBEq, Int.reduceBNe, reduceCtorEq]
    exact ⟨hs.trans hS, rfl⟩
  have hd0 : 0 < d := by omega
  have hat := at_.toNat_lt
  simp only [go_sem, Nat.reduceBEq, Nat.reduceAdd, Nat.reduceLeDiff, Nat.reduceEqDiff, Int.reduceAdd, Int.reduceBEq, Int.reduceBNe, reduceCtorEq]
  rw [arith_i64 (by omega)]
  simp only [go_sem, Nat.reduceBEq, Nat.reduceAdd, Nat.reduceLeDiff, Nat.reduceEqDiff, Int.reduceAdd, Int.reduceBEq, Int.reduceBNe, reduceCtorEq]
  rw [bin_remN rfl rfl hd0]
  have hk : at_.toNat % d < d := Nat.mod_lt _ hd0
  generalize at_.toNat % d = k at hk
  obtain ⟨x, hx⟩ := exAt hk hAl
  simp only [go_sem, Nat.reduceBEq, Nat.reduceAdd, Nat.reduceLeDiff, Nat.reduceEqDiff, Int.reduceAdd, Int.reduceBEq, Int.reduceBNe, reduceCtorEq]
  -- the one without a tick
  refine eff_lit (n := 0) (vs := []) Ty.el22 rfl rfl (by simp) (by omega) ?_
  intro pl5 vl5 hl5 hsl5 hfl5
  simp only [go_sem, Nat.reduceBEq, Nat.reduceAdd, Nat.reduceLeDiff, Nat.reduceEqDiff, Int.reduceAdd, Int.reduceBEq, Int.reduceBNe, reduceCtorEq]
  refine eff_append Ty.el22 hl5 (ho.sl.mono hsl5) (GAsk.ones A) (by omega) (by omega) ?_
  intro pB cB wB hB hxB hyB
  simp only [Nat.zero_add, List.map_nil, List.nil_append] at hB ⊢
  have fB := freshP_app hyB hfl5 hsl5
  have tB := hxB.sub hsl5 hfl5
  simp only [go_sem, Nat.reduceBEq, Nat.reduceAdd, Nat.reduceLeDiff, Nat.reduceEqDiff, Int.reduceAdd, Int.reduceBEq, Int.reduceBNe, reduceCtorEq]
  refine ⟨⟨hB.sl.some_ hk, by omega, by omega⟩, ?_⟩
  refine own_store Ty.lay5 hB (getMap hx) rfl (by omega) rfl ?_
  intro v3 hB3 hsb3
  have t3 := hsb3.sub tB fB
  replace ho := ho.mono t3
  replace hS := hS.trans t3
  have eB : (A.map GAsk.enc).set k (splice x.enc 4 (Value.int .u8 0).cells.toList) = (A.set k ⟨x.id, x.frm, 0⟩).map GAsk.enc := by
    rw [List.map_set]; rfl
  rw [eB] at hB3
  clear hB hsb3 t3 tB fB eB
  simp only [go_sem, Nat.reduceBEq, Nat.reduceAdd, Nat.reduceLeDiff, Nat.reduceEqDiff, Int.reduceAdd, Int.reduceBEq, Int.reduceBNe, reduceCtorEq]
  have hecap := ho.sl.cap
  have twice : ∀ (p7 : Option Addr) (c7 : Nat) (p8 : Option Addr) (v8 : World) (K : Value → World → Prop), Own u v8 28 5 p7 (k + 1) c7 ((A.map GAsk.enc).take (k + 1)) → Sl v8 5 p8 1 1 [x.enc] → Sub v3 v8 → FreshP v3 p7 →
      (∀ pT cT vT, Own u vT 28 5 pT (d + 1) cT ((A.take (k + 1) ++ [x] ++ A.drop (k + 1)).map GAsk.enc) → Sub v3 vT → K (.slice pT (d + 1) cT) vT) →
      AtEff false Try.prog (bApp #[22, 22] 22 #[.slice p7 (k + 1) c7, .slice p8 1 1]) u v8 (fun r u' => AtEff false Try.prog (bApp #[22, 22] 22 #[r, .slice (cutP q e (k + 1) 5) (d - (k + 1)) (e - (k + 1))]) u u' K) := by
    intro p7 c7 p8 v8 K h7 h8 s8 f7 hK
    refine eff_append Ty.el22 h7 h8 (by intro y hy; simp at hy; subst hy; rfl) (by omega) (by omega) ?_
    intro p9 c9 v9 h9 x9 y9
    have s9 := x9.sub s8 f7
    have f9 := freshP_app y9 f7 s8
    refine eff_append Ty.el22 h9 ((ho.mono s9).sl.drop (l := k + 1) (by omega)) (by rw [← List.map_drop]; exact GAsk.ones _) (by omega) (by omega) ?_
    intro pT cT vT hT xT yT
    have sT := xT.sub s9 f9
    have eT : (A.map GAsk.enc).take (k + 1) ++ [x.enc] ++ (A.map GAsk.enc).drop (k + 1) = (A.take (k + 1) ++ [x] ++ A.drop (k + 1)).map GAsk.enc := by
      simp [List.map_take, List.map_drop]
    rw [eT] at hT
    have := hK pT cT vT
    rw [show k + 1 + 1 + (d - (k + 1)) = d + 1 by omega] at hT ⊢
    exact this hT sT
  refine draw_tree (.fl 1 (.fl 2 (.fl 6 (.fl 7 (.fl 12 (.fl 13 (.fl 3 (.fl 8 (.fl 14 (.fl 4 (.fl 9 (.fl 15 (.eff 0 true (.eff 5 true (.eff 10 false (.eff 11 false (.eff 16 false (.fl 17 .done) .no) .no) .no) (.eff 10 false (.eff 5 true (.eff 11 false (.eff 16 false (.fl 17 .done) .no) .no) .no) .no)) (.eff 10 false (.eff 0 true (.eff 5 true (.eff 11 false (.eff 16 false (.fl 17 .done) .no) .no) .no) .no) .no)))))))))))))) (by kernel_rfl) (fun (g : Option Addr × Nat) => [(13, .v (.slice g.1 (d + 1) g.2))]) (fun g u' => Sub v3 u' ∧ Own u u' 28 5 g.1 (d + 1) g.2 ((A.take (k + 1) ++ [x] ++ A.drop (k + 1)).map GAsk.enc)) ?_ ?_
  · simp only [go_sem, Nat.reduceBEq, Nat.reduceAdd, Nat.reduceLeDiff, Nat.reduceEqDiff, Int.reduceAdd, Int.reduceBEq, Int.reduceBNe, reduceCtorEq]
    rw [arith_i64 (by omega)]
    simp only [go_sem, Nat.reduceBEq, Nat.reduceAdd, Nat.reduceLeDiff, Nat.reduceEqDiff, Int.reduceAdd, Int.reduceBEq, Int.reduceBNe, reduceCtorEq]
    rw [arith_i64 (by omega)]
    simp only [go_sem, Nat.reduceBEq, Nat.reduceAdd, Nat.reduceLeDiff, Nat.reduceEqDiff, Int.reduceAdd, Int.reduceBEq, Int.reduceBNe, reduceCtorEq]
    rw [slice_toN (k0 := k + 1) Ty.el22 (by omega) (by omega)]
    simp only [go_sem, Nat.reduceBEq, Nat.reduceAdd, Nat.reduceLeDiff, Nat.reduceEqDiff, Int.reduceAdd, Int.reduceBEq, Int.reduceBNe, reduceCtorEq]
    refine ⟨⟨ho.sl.some_ hk, by omega, by omega⟩, ?_⟩
    refine ho.sl.load (getMap hx) (.inr rfl) (Nat.le_of_ble_eq_true rfl) ?_
    simp only [go_sem, Nat.reduceBEq, Nat.reduceAdd, Nat.reduceLeDiff, Nat.reduceEqDiff, Int.reduceAdd, Int.reduceBEq, Int.reduceBNe, reduceCtorEq]
    rw [slice_fromN (k0 := k + 1) Ty.el22 (by omega) (by omega)]
    simp only [go_sem, Nat.reduceBEq, Nat.reduceAdd, Nat.reduceLeDiff, Nat.reduceEqDiff, Int.reduceAdd, Int.reduceBEq, Int.reduceBNe, reduceCtorEq]
    refine ⟨?_, ?_⟩
    · refine eff_lit (n := 0) (vs := []) Ty.el22 rfl rfl (by simp) (by omega) ?_
      intro p6 v6 h6 s6 f6
      simp only [go_sem, Nat.reduceBEq, Nat.reduceAdd, Nat.reduceLeDiff, Nat.reduceEqDiff, Int.reduceAdd, Int.reduceBEq, Int.reduceBNe, reduceCtorEq]
      refine ⟨?_, ?_⟩
      · refine eff_append_any Ty.el22 h6 ((ho.mono s6).sl.take (k := k + 1) (by omega)) (by rw [← List.map_take]; exact GAsk.ones _) (by omega) (by omega) (.inr rfl) ?_
        intro p7 c7 v7 h7 x7 y7
        simp only [Nat.zero_add, List.map_nil, List.nil_append] at h7 ⊢
        simp only [go_sem, Nat.reduceBEq, Nat.reduceAdd, Nat.reduceLeDiff, Nat.reduceEqDiff, Int.reduceAdd, Int.reduceBEq, Int.reduceBNe, reduceCtorEq]
        have s7 := x7.sub s6 f6
        have f7 := freshP_app y7 f6 s6
        refine eff_lit (n := 1) (vs := [x.val]) Ty.el22 rfl rfl (by intro v hv; simp at hv; subst hv; rfl) (by omega) ?_
        intro p8 v8 h8 s8 f8
        simp only [go_sem, Nat.reduceBEq, Nat.reduceAdd, Nat.reduceLeDiff, Nat.reduceEqDiff, Int.reduceAdd, Int.reduceBEq, Int.reduceBNe, reduceCtorEq]
        refine (twice p7 c7 p8 _ (fun r u' => ∃ pT cT, r = .slice pT (d + 1) cT ∧ Own u u' 28 5 pT (d + 1) cT ((A.take (k + 1) ++ [x] ++ A.drop (k + 1)).map GAsk.enc) ∧ Sub v3 u') (h7.mono s8) (h8.sl) (s7.trans s8) (f7) (fun pT cT vT h s => ⟨pT, cT, rfl, h, s⟩)).mono ?_
        intro r u9 hc
        simp only [go_sem, Nat.reduceBEq, Nat.reduceAdd, Nat.reduceLeDiff, Nat.reduceEqDiff, Int.reduceAdd, Int.reduceBEq, Int.reduceBNe, reduceCtorEq]
        refine hc.mono ?_
        rintro r uT ⟨pT, cT, rfl, hT, sT⟩
        simp only [go_sem, Nat.reduceBEq, Nat.reduceAdd, Nat.reduceLeDiff, Nat.reduceEqDiff, Int.reduceAdd, Int.reduceBEq, Int.reduceBNe, reduceCtorEq]
        exact ⟨(pT, cT), le_chk (by simp only [go_sem, Nat.reduceBEq, Nat.reduceAdd, Nat.reduceLeDiff, Nat.reduceEqDiff, Int.reduceAdd, Int.reduceBEq, Int.reduceBNe, reduceCtorEq]), sT, hT⟩
      · refine eff_lit (n := 1) (vs := [x.val]) Ty.el22 rfl rfl (by intro v hv; simp at hv; subst hv; rfl) (by omega) ?_
        intro p8 v8 h8 s8 f8
        simp only [go_sem, Nat.reduceBEq, Nat.reduceAdd, Nat.reduceLeDiff, Nat.reduceEqDiff, Int.reduceAdd, Int.reduceBEq, Int.reduceBNe, reduceCtorEq]
        refine eff_append_any Ty.el22 (h6.mono s8) ((ho.mono (s6.trans s8)).sl.take (k := k + 1) (by omega)) (by rw [← List.map_take]; exact GAsk.ones _) (by omega) (by omega) (.inr rfl) ?_
        intro p7 c7 v7 h7 x7 y7
        simp only [Nat.zero_add, List.map_nil, List.nil_append] at h7 ⊢
        simp only [go_sem, Nat.reduceBEq, Nat.reduceAdd, Nat.reduceLeDiff, Nat.reduceEqDiff, Int.reduceAdd, Int.reduceBEq, Int.reduceBNe, reduceCtorEq]
        have s7 := x7.sub (s6.trans s8) f6
        have f7 := freshP_app y7 f6 (s6.trans s8)
        have n8 := ne_of_fresh h6 f8
        refine (twice p7 c7 p8 _ (fun r u' => ∃ pT cT, r = .slice pT (d + 1) cT ∧ Own u u' 28 5 pT (d + 1) cT ((A.take (k + 1) ++ [x] ++ A.drop (k + 1)).map GAsk.enc) ∧ Sub v3 u') (h7) ((h8.subX x7 (fun a b ha hb e => n8 b a hb ha e.symm)).sl) (s7) (f7) (fun pT cT vT h s => ⟨pT, cT, rfl, h, s⟩)).mono ?_
        intro r u9 hc
        simp only [go_sem, Nat.reduceBEq, Nat.reduceAdd, Nat.reduceLeDiff, Nat.reduceEqDiff, Int.reduceAdd, Int.reduceBEq, Int.reduceBNe, reduceCtorEq]
        refine hc.mono ?_
        rintro r uT ⟨pT, cT, rfl, hT, sT⟩
        simp only [go_sem, Nat.reduceBEq, Nat.reduceAdd, Nat.reduceLeDiff, Nat.reduceEqDiff, Int.reduceAdd, Int.reduceBEq, Int.reduceBNe, reduceCtorEq]
        exact ⟨(pT, cT), le_chk (by simp only [go_sem, Nat.reduceBEq, Nat.reduceAdd, Nat.reduceLeDiff, Nat.reduceEqDiff, Int.reduceAdd, Int.reduceBEq, Int.reduceBNe, reduceCtorEq]), sT, hT⟩
    · refine eff_lit (n := 1) (vs := [x.val]) Ty.el22 rfl rfl (by intro v hv; simp at hv; subst hv; rfl) (by omega) ?_
      intro p8 v8 h8 s8 f8
      simp only [go_sem, Nat.reduceBEq, Nat.reduceAdd, Nat.reduceLeDiff, Nat.reduceEqDiff, Int.reduceAdd, Int.reduceBEq, Int.reduceBNe, reduceCtorEq]
      refine eff_lit (n := 0) (vs := []) Ty.el22 rfl rfl (by simp) (by omega) ?_
      intro p6 v6 h6 s6 f6
      simp only [go_sem, Nat.reduceBEq, Nat.reduceAdd, Nat.reduceLeDiff, Nat.reduceEqDiff, Int.reduceAdd, Int.reduceBEq, Int.reduceBNe, reduceCtorEq]
      refine eff_append_any Ty.el22 h6 ((ho.mono (s8.trans s6)).sl.take (k := k + 1) (by omega)) (by rw [← List.map_take]; exact GAsk.ones _) (by omega) (by omega) (.inr rfl) ?_
      intro p7 c7 v7 h7 x7 y7
      simp only [Nat.zero_add, List.map_nil, List.nil_append] at h7 ⊢
      simp only [go_sem, Nat.reduceBEq, Nat.reduceAdd, Nat.reduceLeDiff, Nat.reduceEqDiff, Int.reduceAdd, Int.reduceBEq, Int.reduceBNe, reduceCtorEq]
      have s7 := x7.sub s6 f6
      have f7 := freshP_app y7 f6 s6
      refine (twice p7 c7 p8 _ (fun r u' => ∃ pT cT, r = .slice pT (d + 1) cT ∧ Own u u' 28 5 pT (d + 1) cT ((A.take (k + 1) ++ [x] ++ A.drop (k + 1)).map GAsk.enc) ∧ Sub v3 u') (h7) ((h8.mono s7).sl) (s8.trans s7) (f7.anti s8) (fun pT cT vT h s => ⟨pT, cT, rfl, h, s⟩)).mono ?_
      intro r u9 hc
      simp only [go_sem, Nat.reduceBEq, Nat.reduceAdd, Nat.reduceLeDiff, Nat.reduceEqDiff, Int.reduceAdd, Int.reduceBEq, Int.reduceBNe, reduceCtorEq]
      refine hc.mono ?_
      rintro r uT ⟨pT, cT, rfl, hT, sT⟩
      simp only [go_sem, Nat.reduceBEq, Nat.reduceAdd, Nat.reduceLeDiff, Nat.reduceEqDiff, Int.reduceAdd, Int.reduceBEq, Int.reduceBNe, reduceCtorEq]
      exact ⟨(pT, cT), le_chk (by simp only [go_sem, Nat.reduceBEq, Nat.reduceAdd, Nat.reduceLeDiff, Nat.reduceEqDiff, Int.reduceAdd, Int.reduceBEq, Int.reduceBNe, reduceCtorEq]), sT, hT⟩
  rintro ⟨pT, cT⟩ vT ⟨sT, hT⟩
  simp only at hT
  replace ho := ho.mono sT
  replace hS := hS.trans sT
  replace hB3 := hB3.mono sT
  simp only [go_sem, Nat.reduceBEq, Nat.reduceAdd, Nat.reduceLeDiff, Nat.reduceEqDiff, Int.reduceAdd, Int.reduceBEq, Int.reduceBNe, reduceCtorEq]
  -- the ids
  refine vc_range d (fun (g : Option Addr × Nat × Nat) => [(14, .v (.slice g.1 g.2.1 g.2.2))]) (fun _ => [])
    (fun k g u' => Sub vT u' ∧ FreshP vT g.1 ∧ g.2.1 ≤ k ∧ Own u u' 26 3 g.1 g.2.1 g.2.2 (((A.take k).map GAsk.id).map GID.enc))
    (none, 0, 0) (le_chk (by simp only [go_sem, Nat.reduceBEq, Nat.reduceAdd, Nat.reduceLeDiff, Nat.reduceEqDiff, Int.reduceAdd, Int.reduceBEq, Int.reduceBNe, reduceCtorEq])) ⟨Sub.refl _, (fun a ha => by cases ha), Nat.le_refl _, by simpa using Own.nil_ _ _ _ _⟩ (fun _ _ => rfl) (by omega) (fun _ => rfl) ?_ ?_
  · rintro i ⟨r, j, f⟩ u4 hi ⟨h4, f4, hj, o4⟩
    simp only at hj o4
    obtain ⟨y, hy⟩ := exAt hi hAl
    simp only [go_sem, Nat.reduceBEq, Nat.reduceAdd, Nat.reduceLeDiff, Nat.reduceEqDiff, Int.reduceAdd, Int.reduceBEq, Int.reduceBNe, reduceCtorEq]
    refine ⟨⟨ho.sl.some_ hi, by omega, by omega⟩, ?_⟩
    refine ((ho.mono h4).sl).load (getMap hy) (.inr rfl) (Nat.le_of_ble_eq_true rfl) ?_
    simp only [go_sem, Nat.reduceBEq, Nat.reduceAdd, Nat.reduceLeDiff, Nat.reduceEqDiff, Int.reduceAdd, Int.reduceBEq, Int.reduceBNe, reduceCtorEq]
    intro b1
    refine eff_lit (n := 1) (vs := [y.id.val]) Ty.el33 rfl rfl (by intro v hv; simp at hv; subst hv; rfl) (by omega) ?_
    intro p8 v8 h8 s8 f8
    simp only [go_sem, Nat.reduceBEq, Nat.reduceAdd, Nat.reduceLeDiff, Nat.reduceEqDiff, Int.reduceAdd, Int.reduceBEq, Int.reduceBNe, reduceCtorEq]
    refine eff_append Ty.el33 (o4.mono s8) h8.sl (by intro y hy; simp at hy; subst hy; rfl) (by omega) (by omega) ?_
    intro p9 c9 v9 h9 x9 y9
    simp only [go_sem, Nat.reduceBEq, Nat.reduceAdd, Nat.reduceLeDiff, Nat.reduceEqDiff, Int.reduceAdd, Int.reduceBEq, Int.reduceBNe, reduceCtorEq]
    refine ⟨(p9, j + 1, c9), le_chk (by simp only [go_sem, Nat.reduceBEq, Nat.reduceAdd, Nat.reduceLeDiff, Nat.reduceEqDiff, Int.reduceAdd, Int.reduceBEq, Int.reduceBNe, reduceCtorEq]), x9.sub (h4.trans s8) f4, freshP_app y9 f4 (h4.trans s8), by simp only; omega, ?_⟩
    simp only
    rw [take_succ hy]
    simpa [GID.cells] using h9
  rintro ⟨r, j, f⟩ u4 ⟨h4, f4, hj, o4⟩
  simp only at hj o4
  rw [take_all hAl] at o4
  replace ho := ho.mono h4
  replace hS := hS.trans h4
  replace hB3 := hB3.mono h4
  replace hT := hT.mono h4
  have hjl : j = d := by have := o4.len; simp at this; omega
  subst hjl
  have b1 : pRight (A.set k ⟨x.id, x.frm, 0⟩) 100 = false := right_bad (by omega)
  have b2 : pRight (A.take (k + 1) ++ [x] ++ A.drop (k + 1)) 100 = false := right_twice hx
  have b3 : iMade (A.map GAsk.id) = A.map GAsk.id := made_ids hg
  simp only [go_sem, Nat.reduceBEq, Nat.reduceAdd, Nat.reduceLeDiff, Nat.reduceEqDiff, Int.reduceAdd, Int.reduceBEq, Int.reduceBNe, reduceCtorEq]
  refine AtCall.of_spec (right_con _ 100 _ _ _ u4 hB3.sl (by omega)) ?_
  rintro r W6 H6 rfl
  replace ho := ho.mono H6
  replace hS := hS.trans H6
  replace hB3 := hB3.mono H6
  replace hT := hT.mono H6
  replace o4 := o4.mono H6
  rw [b1]
  simp only [go_sem, Nat.reduceBEq, Nat.reduceAdd, Nat.reduceLeDiff, Nat.reduceEqDiff, Int.reduceAdd, Int.reduceBEq, Int.reduceBNe, reduceCtorEq]
  refine AtCall.of_spec (right_con _ 100 _ _ _ W6 hT.sl (by omega)) ?_
  rintro r W7 H7 rfl
  replace ho := ho.mono H7
  replace hS := hS.trans H7
  replace hB3 := hB3.mono H7
  replace hT := hT.mono H7
  replace o4 := o4.mono H7
  rw [b2]
  simp only [go_sem, Nat.reduceBEq, Nat.reduceAdd, Nat.reduceLeDiff, Nat.reduceEqDiff, Int.reduceAdd, Int.reduceBEq, Int.reduceBNe, reduceCtorEq]
  refine AtCall.of_spec (imade_con _ _ _ _ W7 o4.sl (by omega)) ?_
  rintro r W8 H8 ⟨pm, mm, cm, rfl, om⟩
  replace ho := ho.mono H8
  replace hS := hS.trans H8
  replace hB3 := hB3.mono H8
  replace hT := hT.mono H8
  replace o4 := o4.mono H8
  rw [b3] at om
  have hmm := om.len
  simp only [List.length_map] at hmm
  simp only [go_sem, Nat.reduceBEq, Nat.reduceAdd, Nat.reduceLeDiff, Nat.reduceEqDiff, Int.reduceAdd, Int.reduceBEq, Int.reduceBNe, reduceCtorEq]
  refine AtCall.of_spec (sameID_con _ _ _ _ _ _ _ _ W8 om.sl o4.sl (by omega)) ?_
  rintro r W9 H9 rfl
  replace ho := ho.mono H9
  replace hS := hS.trans H9
  replace hB3 := hB3.mono H9
  replace hT := hT.mono H9
  replace o4 := o4.mono H9
  replace om := om.mono H9
  rw [decide_eq_true rfl]
  simp only [go_sem, Nat.reduceBEq, Nat.reduceAdd, Nat.reduceLeDiff, Nat.reduceEqDiff, Int.reduceAdd, Int.reduceBEq, Int.reduceBNe, reduceCtorEq]
  refine AtCall.of_spec (awake_con W9) ?_
  rintro r W10 H10 rfl
  replace ho := ho.mono H10
  replace hS := hS.trans H10
  replace hB3 := hB3.mono H10
  replace hT := hT.mono H10
  replace o4 := o4.mono H10
  replace om := om.mono H10
  simp only [go_sem, Nat.reduceBEq, Nat.reduceAdd, Nat.reduceLeDiff, Nat.reduceEqDiff, Int.reduceAdd, Int.reduceBEq, Int.reduceBNe, reduceCtorEq]
  exact ⟨hs.trans hS, rfl⟩
end Go.Proofs.Ythjgnpelmigbeaa
