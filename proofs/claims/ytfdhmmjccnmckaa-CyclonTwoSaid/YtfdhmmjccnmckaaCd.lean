/-
  Walks: cyclon: Merge.
-/
import Derived.Test.YtfdhmmjccnmckaaCc
set_option linter.unusedSimpArgs false
set_option linter.unusedVariables false
namespace Go.Eng
theorem give_spec (L got : List GDesc) : ∀ S : List GDesc, (gGive L got S).1 = L ∨ ∃ node, (gGive L got S).1 = dDrop L node := by
  intro S
  induction S with
  | nil => exact .inl rfl
  | cons s r ih =>
    unfold gGive
    split
    · exact .inr ⟨_, rfl⟩
    · exact ih
theorem give_vw {L got S : List GDesc} {self : UInt8} (h : Vw self L) : Vw self (gGive L got S).1 := by
  rcases give_spec L got S with e | ⟨node, e⟩ <;> rw [e]
  · exact h
  · exact vw_drop h _
theorem give_len (L got S : List GDesc) : (gGive L got S).1.length ≤ L.length := by
  rcases give_spec L got S with e | ⟨node, e⟩ <;> rw [e]
  · exact Nat.le_refl _
  · exact drop_len_le _ _
theorem give_mem {L got S : List GDesc} {x : GDesc} (h : x ∈ (gGive L got S).1) : x ∈ L := by
  rcases give_spec L got S with e | ⟨node, e⟩ <;> rw [e] at h
  · exact h
  · exact (List.mem_filter.1 h).1
end Go.Eng
namespace Go.Proofs.Ytfdhmmjccnmckaa
open Go.Eng
attribute [local go_sem] GSpan.val GSpan.enc PD.val PD.enc enc32

theorem small_put {L : List GDesc} {d : GDesc} {self : UInt8} {room : Int} (hL : ∀ x ∈ L, x.filter.length ≤ 8) (hd : d.filter.length ≤ 8) : ∀ x ∈ (dPut L d self room).1, x.filter.length ≤ 8 := fun x hx => by
  rcases put_mem x hx with h | h
  · exact hL x h
  · rw [h]; exact hd

set_option maxHeartbeats 2000000 in
theorem merge_con (l got sent : List PD) (self : UInt8) (room : Int) (p pg ps : Option Addr) (n c ng cg ns cs : Nat) (u : World) (hl : DL u p n c l) (hv : Vw self (ds l)) (hgot : DL u pg ng cg got) (hsent : DL u ps ns cs sent) (hn : n ≤ 300) (hng : ng ≤ 300) (hns : ns ≤ 300) (h8 : ∀ x ∈ l, x.n ≤ 8) (hg8 : ∀ x ∈ got, x.n ≤ 8) :
    Con Try.prog 17 [.slice p n c, .slice pg ng cg, .slice ps ns cs, .int .u8 self.toNat, .int .i64 room] u (fun r u' => Back u u' r (cMerge (ds got) self room (ds l) (ds sent) (ds got))) := by
  have ll := hl.len
  have lg := hgot.len
  refine spec_of_vc Ty.mixed Try.func17 rfl (by kernel_rfl) (by kernel_rfl) rfl [.tmp 10] rfl ?_
  (simp only [go_sem, vc_block_seq, vc_block_region, vc_block_cond, vc_block_block, Nat.reduceBEq, Nat.reduceAdd, Nat.reduceLeDiff, Nat.reduceEqDiff, Int.reduceAdd, Int.reduceBEq, Int.reduceBNe, reduceCtorEq, beq_self_eq_true, Bool.true_beq, Bool.false_beq]; repeat ((with_reducible refine leK_refl ?_); simp only [go_sem, vc_block_seq, vc_block_region, vc_block_cond, vc_block_block, Nat.reduceBEq, Nat.reduceAdd, Nat.reduceLeDiff, Nat.reduceEqDiff, Int.reduceAdd, Int.reduceBEq, Int.reduceBNe, reduceCtorEq, beq_self_eq_true, Bool.true_beq, Bool.false_beq]))
  refine AtCall.of_spec (copy_con l p n c u hl (by omega) (fun x hx => by have := h8 x hx; omega)) ?_
  rintro r u1 hs1 ⟨p1, c1, l1, rfl, o1, e1, _⟩
  (simp only [go_sem, vc_block_seq, vc_block_region, vc_block_cond, vc_block_block, Nat.reduceBEq, Nat.reduceAdd, Nat.reduceLeDiff, Nat.reduceEqDiff, Int.reduceAdd, Int.reduceBEq, Int.reduceBNe, reduceCtorEq, beq_self_eq_true, Bool.true_beq, Bool.false_beq]; repeat ((with_reducible refine leK_refl ?_); simp only [go_sem, vc_block_seq, vc_block_region, vc_block_cond, vc_block_block, Nat.reduceBEq, Nat.reduceAdd, Nat.reduceLeDiff, Nat.reduceEqDiff, Int.reduceAdd, Int.reduceBEq, Int.reduceBNe, reduceCtorEq, beq_self_eq_true, Bool.true_beq, Bool.false_beq]))
  refine AtCall.of_spec (giver_con ps pg ns cs ng cg u1) ?_
  rintro r u2 hs2 ⟨b5, b2, b3, rfl, h5, h2, h3, hf5⟩
  have hf5u : Fresh u b5 := Fresh.anti hs1 hf5
  have hne1 : NE p1 (cellP b5) := fun a b ha hb e => by cases hb; exact o1.own.known ha (e ▸ hf5)
  have hnx1 : ∀ x ∈ l1, NE x.p (cellP b5) := fun x hx a b ha hb e => by cases hb; exact Own.known (o1.fl x hx) ha (e ▸ hf5)
  have h52 : b2 ≠ b5 := cel_ne h5 h2 (by decide)
  have h53 : b3 ≠ b5 := cel_ne h5 h3 (by decide)
  replace o1 := o1.mono hs2
  have h81 : ∀ d ∈ ds l1, d.filter.length ≤ 8 := fun d hd => by rw [e1] at hd; obtain ⟨y, hy, rfl⟩ := List.mem_map.1 hd; rw [(hl.fl y hy).len]; exact h8 y hy
  have hR : cMerge (ds got) self room (ds l1) ((ds sent).drop 0) ((ds got).drop 0) = cMerge (ds got) self room (ds l) (ds sent) (ds got) := by rw [e1]; rfl
  generalize cMerge (ds got) self room (ds l) (ds sent) (ds got) = R at hR
  (simp only [go_sem, vc_block_seq, vc_block_region, vc_block_cond, vc_block_block, Nat.reduceBEq, Nat.reduceAdd, Nat.reduceLeDiff, Nat.reduceEqDiff, Int.reduceAdd, Int.reduceBEq, Int.reduceBNe, reduceCtorEq, beq_self_eq_true, Bool.true_beq, Bool.false_beq]; repeat ((with_reducible refine leK_refl ?_); simp only [go_sem, vc_block_seq, vc_block_region, vc_block_cond, vc_block_block, Nat.reduceBEq, Nat.reduceAdd, Nat.reduceLeDiff, Nat.reduceEqDiff, Int.reduceAdd, Int.reduceBEq, Int.reduceBNe, reduceCtorEq, beq_self_eq_true, Bool.true_beq, Bool.false_beq]))
  refine vc_range ng (fun (g : (Option Addr × Nat × Nat) × Nat) => [(11, .v (.slice g.1.1 g.1.2.1 g.1.2.2))]) (fun _ => [])
    (fun j g u' => Sub u u' ∧ ∃ lv, DO u u' 34 30 g.1.1 g.1.2.1 g.1.2.2 lv ∧ NE g.1.1 (cellP b5) ∧ (∀ x ∈ lv, NE x.p (cellP b5)) ∧ Vw self (ds lv) ∧ (∀ d ∈ ds lv, d.filter.length ≤ 8) ∧ g.1.2.1 ≤ n + j ∧
      Cel u' b5 [.int .i64 (g.2 : Nat)] 3 ∧ Cel u' b2 [.slice ps ns cs] 22 ∧ Cel u' b3 [.slice pg ng cg] 22 ∧ g.2 ≤ ns ∧ cMerge (ds got) self room (ds lv) ((ds sent).drop g.2) ((ds got).drop j) = R)
    ((p1, n, c1), 0) (le_chk (by simp only [go_sem, vc_block_seq, vc_block_region, vc_block_cond, vc_block_block, Nat.reduceBEq, Nat.reduceAdd, Nat.reduceLeDiff, Nat.reduceEqDiff, Int.reduceAdd, Int.reduceBEq, Int.reduceBNe, reduceCtorEq, beq_self_eq_true, Bool.true_beq, Bool.false_beq])) ⟨hs1.trans hs2, l1, o1, hne1, hnx1, by rw [e1]; exact hv, h81, by simp only; omega, h5, h2, h3, Nat.zero_le _, hR⟩ (fun _ _ => rfl) (by omega) (fun _ => rfl) ?_ ?_
  · rintro j ⟨⟨pv, nv, cv⟩, k⟩ v2 hj ⟨hS, lv, ov, hne, hnx, hvv, hv8, hnv, g5, g2, g3, hk, hR⟩
    simp only at ov hne hnv g5 hk hR
    obtain ⟨x, hx⟩ := exAt hj lg
    have hx8 := hg8 x (List.mem_of_getElem? hx)
    have hxf : x.d.filter.length ≤ 8 := by rw [(hgot.at_ hx).len]; exact hx8
    have hlv := ov.len
    have hvn : ∀ y ∈ lv, y.n ≤ 8 := fun y hy => by rw [← (ov.dl.fl y hy).len]; exact hv8 y.d (List.mem_map_of_mem hy)
    rw [drop_at (getDs hx)] at hR
    (simp only [go_sem, vc_block_seq, vc_block_region, vc_block_cond, vc_block_block, Nat.reduceBEq, Nat.reduceAdd, Nat.reduceLeDiff, Nat.reduceEqDiff, Int.reduceAdd, Int.reduceBEq, Int.reduceBNe, reduceCtorEq, beq_self_eq_true, Bool.true_beq, Bool.false_beq]; repeat ((with_reducible refine leK_refl ?_); simp only [go_sem, vc_block_seq, vc_block_region, vc_block_cond, vc_block_block, Nat.reduceBEq, Nat.reduceAdd, Nat.reduceLeDiff, Nat.reduceEqDiff, Int.reduceAdd, Int.reduceBEq, Int.reduceBNe, reduceCtorEq, beq_self_eq_true, Bool.true_beq, Bool.false_beq]))
    refine ⟨⟨hgot.sl.some_ hj, by omega, by omega⟩, ?_⟩
    refine (hgot.sl.mono hS).load (getMap hx) (.inr rfl) (Nat.le_of_ble_eq_true rfl) ?_
    (simp only [go_sem, vc_block_seq, vc_block_region, vc_block_cond, vc_block_block, Nat.reduceBEq, Nat.reduceAdd, Nat.reduceLeDiff, Nat.reduceEqDiff, Int.reduceAdd, Int.reduceBEq, Int.reduceBNe, reduceCtorEq, beq_self_eq_true, Bool.true_beq, Bool.false_beq]; repeat ((with_reducible refine leK_refl ?_); simp only [go_sem, vc_block_seq, vc_block_region, vc_block_cond, vc_block_block, Nat.reduceBEq, Nat.reduceAdd, Nat.reduceLeDiff, Nat.reduceEqDiff, Int.reduceAdd, Int.reduceBEq, Int.reduceBNe, reduceCtorEq, beq_self_eq_true, Bool.true_beq, Bool.false_beq]))
    intro b14
    refine AtCall.of_spec (put_con lv hvv.2 x self room pv nv cv v2 ov.dl ((hgot.at_ hx).mono hS) (by omega) (fun y hy => by have := hvn y hy; omega) (by omega)) ?_
    rintro r v3 hs3 ⟨w3, rfl, p3, n3, c3, l3, rfl, o3, e3⟩
    generalize hP : (dPut (ds lv) x.d self room).2 = P
    have hq3 : ∀ (q : Option Addr), FreshP v2 q → NE q (cellP b5) := fun q hf a b ha hb e => by cases hb; exact (g5.ne hf) a ha e.symm
    (simp -implicitDefEqProofs only [go_sem, vc_block_seq, vc_block_region, vc_block_cond, vc_block_block, Nat.reduceBEq, Nat.reduceAdd, Nat.reduceLeDiff, Nat.reduceEqDiff, Int.reduceAdd, Int.reduceBEq, Int.reduceBNe, reduceCtorEq, beq_self_eq_true, Bool.true_beq, Bool.false_beq]; repeat ((with_reducible refine leK_refl ?_); simp -implicitDefEqProofs only [go_sem, vc_block_seq, vc_block_region, vc_block_cond, vc_block_block, Nat.reduceBEq, Nat.reduceAdd, Nat.reduceLeDiff, Nat.reduceEqDiff, Int.reduceAdd, Int.reduceBEq, Int.reduceBNe, reduceCtorEq, beq_self_eq_true, Bool.true_beq, Bool.false_beq]))
    refine cond_split (fun h => ?_) (fun h => ?_)
    · subst h
      have hl3 := o3.len
      (simp only [go_sem, vc_block_seq, vc_block_region, vc_block_cond, vc_block_block, Nat.reduceBEq, Nat.reduceAdd, Nat.reduceLeDiff, Nat.reduceEqDiff, Int.reduceAdd, Int.reduceBEq, Int.reduceBNe, reduceCtorEq, beq_self_eq_true, Bool.true_beq, Bool.false_beq]; repeat ((with_reducible refine leK_refl ?_); simp only [go_sem, vc_block_seq, vc_block_region, vc_block_cond, vc_block_block, Nat.reduceBEq, Nat.reduceAdd, Nat.reduceLeDiff, Nat.reduceEqDiff, Int.reduceAdd, Int.reduceBEq, Int.reduceBNe, reduceCtorEq, beq_self_eq_true, Bool.true_beq, Bool.false_beq]))
      refine ⟨((p3, n3, c3), k), le_chk (by simp only [go_sem, vc_block_seq, vc_block_region, vc_block_cond, vc_block_block, Nat.reduceBEq, Nat.reduceAdd, Nat.reduceLeDiff, Nat.reduceEqDiff, Int.reduceAdd, Int.reduceBEq, Int.reduceBNe, reduceCtorEq, beq_self_eq_true, Bool.true_beq, Bool.false_beq]), hS.trans hs3, l3, o3.anti hS, hq3 _ o3.own.fresh, fun z hz => hq3 _ (Own.fresh (o3.fl z hz)), by rw [e3]; exact vw_put hvv _ _, by rw [e3]; exact small_put hv8 hxf, ?_, g5.mono hs3, g2.mono hs3, g3.mono hs3, hk, by rw [← hR, cMerge, if_pos hP, e3]⟩
      have h2 := put_len (self := self) (l := ds lv) x.d room
      rw [← e3] at h2
      simp only [List.length_map] at h2
      simp only
      omega
    subst h
    have hS4 := hS.trans hs3
    have ov4 := ov.mono hs3
    have g5' := g5.mono hs3
    have g2' := g2.mono hs3
    have g3' := g3.mono hs3
    (simp only [go_sem, vc_block_seq, vc_block_region, vc_block_cond, vc_block_block, Nat.reduceBEq, Nat.reduceAdd, Nat.reduceLeDiff, Nat.reduceEqDiff, Int.reduceAdd, Int.reduceBEq, Int.reduceBNe, reduceCtorEq, beq_self_eq_true, Bool.true_beq, Bool.false_beq]; repeat ((with_reducible refine leK_refl ?_); simp only [go_sem, vc_block_seq, vc_block_region, vc_block_cond, vc_block_block, Nat.reduceBEq, Nat.reduceAdd, Nat.reduceLeDiff, Nat.reduceEqDiff, Int.reduceAdd, Int.reduceBEq, Int.reduceBNe, reduceCtorEq, beq_self_eq_true, Bool.true_beq, Bool.false_beq]))
    rw [u8_beq]
    by_cases h1 : x.d.node = self
    · have hcond : x.d.node = self ∨ x.d.inc = 0 ∨ dIdx (ds lv) x.d.node ≠ none := .inl h1
      rw [decide_eq_true h1]
      (simp only [go_sem, vc_block_seq, vc_block_region, vc_block_cond, vc_block_block, Nat.reduceBEq, Nat.reduceAdd, Nat.reduceLeDiff, Nat.reduceEqDiff, Int.reduceAdd, Int.reduceBEq, Int.reduceBNe, reduceCtorEq, beq_self_eq_true, Bool.true_beq, Bool.false_beq]; repeat ((with_reducible refine leK_refl ?_); simp only [go_sem, vc_block_seq, vc_block_region, vc_block_cond, vc_block_block, Nat.reduceBEq, Nat.reduceAdd, Nat.reduceLeDiff, Nat.reduceEqDiff, Int.reduceAdd, Int.reduceBEq, Int.reduceBNe, reduceCtorEq, beq_self_eq_true, Bool.true_beq, Bool.false_beq]))
      exact ⟨((pv, nv, cv), k), le_chk (by simp only [go_sem, vc_block_seq, vc_block_region, vc_block_cond, vc_block_block, Nat.reduceBEq, Nat.reduceAdd, Nat.reduceLeDiff, Nat.reduceEqDiff, Int.reduceAdd, Int.reduceBEq, Int.reduceBNe, reduceCtorEq, beq_self_eq_true, Bool.true_beq, Bool.false_beq]), hS4, lv, ov4, hne, hnx, hvv, hv8, by simp only; omega, g5', g2', g3', hk, by rw [← hR, cMerge, if_neg (by rw [hP]; simp), if_pos hcond]⟩
    rw [decide_eq_false h1]
    (simp only [go_sem, vc_block_seq, vc_block_region, vc_block_cond, vc_block_block, Nat.reduceBEq, Nat.reduceAdd, Nat.reduceLeDiff, Nat.reduceEqDiff, Int.reduceAdd, Int.reduceBEq, Int.reduceBNe, reduceCtorEq, beq_self_eq_true, Bool.true_beq, Bool.false_beq]; repeat ((with_reducible refine leK_refl ?_); simp only [go_sem, vc_block_seq, vc_block_region, vc_block_cond, vc_block_block, Nat.reduceBEq, Nat.reduceAdd, Nat.reduceLeDiff, Nat.reduceEqDiff, Int.reduceAdd, Int.reduceBEq, Int.reduceBNe, reduceCtorEq, beq_self_eq_true, Bool.true_beq, Bool.false_beq]))
    rw [u16_eq0]
    by_cases h2 : x.d.inc = 0
    · have hcond : x.d.node = self ∨ x.d.inc = 0 ∨ dIdx (ds lv) x.d.node ≠ none := .inr (.inl h2)
      rw [decide_eq_true h2]
      (simp only [go_sem, vc_block_seq, vc_block_region, vc_block_cond, vc_block_block, Nat.reduceBEq, Nat.reduceAdd, Nat.reduceLeDiff, Nat.reduceEqDiff, Int.reduceAdd, Int.reduceBEq, Int.reduceBNe, reduceCtorEq, beq_self_eq_true, Bool.true_beq, Bool.false_beq]; repeat ((with_reducible refine leK_refl ?_); simp only [go_sem, vc_block_seq, vc_block_region, vc_block_cond, vc_block_block, Nat.reduceBEq, Nat.reduceAdd, Nat.reduceLeDiff, Nat.reduceEqDiff, Int.reduceAdd, Int.reduceBEq, Int.reduceBNe, reduceCtorEq, beq_self_eq_true, Bool.true_beq, Bool.false_beq]))
      exact ⟨((pv, nv, cv), k), le_chk (by simp only [go_sem, vc_block_seq, vc_block_region, vc_block_cond, vc_block_block, Nat.reduceBEq, Nat.reduceAdd, Nat.reduceLeDiff, Nat.reduceEqDiff, Int.reduceAdd, Int.reduceBEq, Int.reduceBNe, reduceCtorEq, beq_self_eq_true, Bool.true_beq, Bool.false_beq]), hS4, lv, ov4, hne, hnx, hvv, hv8, by simp only; omega, g5', g2', g3', hk, by rw [← hR, cMerge, if_neg (by rw [hP]; simp), if_pos hcond]⟩
    rw [decide_eq_false h2]
    (simp only [go_sem, vc_block_seq, vc_block_region, vc_block_cond, vc_block_block, Nat.reduceBEq, Nat.reduceAdd, Nat.reduceLeDiff, Nat.reduceEqDiff, Int.reduceAdd, Int.reduceBEq, Int.reduceBNe, reduceCtorEq, beq_self_eq_true, Bool.true_beq, Bool.false_beq]; repeat ((with_reducible refine leK_refl ?_); simp only [go_sem, vc_block_seq, vc_block_region, vc_block_cond, vc_block_block, Nat.reduceBEq, Nat.reduceAdd, Nat.reduceLeDiff, Nat.reduceEqDiff, Int.reduceAdd, Int.reduceBEq, Int.reduceBNe, reduceCtorEq, beq_self_eq_true, Bool.true_beq, Bool.false_beq]))
    refine AtCall.of_spec (find_con lv hvv.2 x.d.node pv nv cv v3 ov4.dl (by omega)) ?_
    rintro r v4 hs4 rfl
    replace hS4 := hS4.trans hs4
    replace ov4 := ov4.mono hs4
    replace g5' := g5'.mono hs4
    replace g2' := g2'.mono hs4
    replace g3' := g3'.mono hs4
    (simp only [go_sem, vc_block_seq, vc_block_region, vc_block_cond, vc_block_block, Nat.reduceBEq, Nat.reduceAdd, Nat.reduceLeDiff, Nat.reduceEqDiff, Int.reduceAdd, Int.reduceBEq, Int.reduceBNe, reduceCtorEq, beq_self_eq_true, Bool.true_beq, Bool.false_beq]; repeat ((with_reducible refine leK_refl ?_); simp only [go_sem, vc_block_seq, vc_block_region, vc_block_cond, vc_block_block, Nat.reduceBEq, Nat.reduceAdd, Nat.reduceLeDiff, Nat.reduceEqDiff, Int.reduceAdd, Int.reduceBEq, Int.reduceBNe, reduceCtorEq, beq_self_eq_true, Bool.true_beq, Bool.false_beq]))
    by_cases h3 : dIdx (ds lv) x.d.node = none
    case neg =>
      have hcond : x.d.node = self ∨ x.d.inc = 0 ∨ dIdx (ds lv) x.d.node ≠ none := .inr (.inr h3)
      rw [decide_eq_true (show 0 ≤ dFind (ds lv) x.d.node from Int.not_lt.1 (mt find_neg.1 h3))]
      (simp only [go_sem, vc_block_seq, vc_block_region, vc_block_cond, vc_block_block, Nat.reduceBEq, Nat.reduceAdd, Nat.reduceLeDiff, Nat.reduceEqDiff, Int.reduceAdd, Int.reduceBEq, Int.reduceBNe, reduceCtorEq, beq_self_eq_true, Bool.true_beq, Bool.false_beq]; repeat ((with_reducible refine leK_refl ?_); simp only [go_sem, vc_block_seq, vc_block_region, vc_block_cond, vc_block_block, Nat.reduceBEq, Nat.reduceAdd, Nat.reduceLeDiff, Nat.reduceEqDiff, Int.reduceAdd, Int.reduceBEq, Int.reduceBNe, reduceCtorEq, beq_self_eq_true, Bool.true_beq, Bool.false_beq]))
      exact ⟨((pv, nv, cv), k), le_chk (by simp only [go_sem, vc_block_seq, vc_block_region, vc_block_cond, vc_block_block, Nat.reduceBEq, Nat.reduceAdd, Nat.reduceLeDiff, Nat.reduceEqDiff, Int.reduceAdd, Int.reduceBEq, Int.reduceBNe, reduceCtorEq, beq_self_eq_true, Bool.true_beq, Bool.false_beq]), hS4, lv, ov4, hne, hnx, hvv, hv8, by simp only; omega, g5', g2', g3', hk, by rw [← hR, cMerge, if_neg (by rw [hP]; simp), if_pos hcond]⟩
    rw [decide_eq_false (show ¬ 0 ≤ dFind (ds lv) x.d.node from Int.not_le.2 (find_neg.2 h3))]
    have hnc : ¬ (x.d.node = self ∨ x.d.inc = 0 ∨ dIdx (ds lv) x.d.node ≠ none) := by rintro (h | h | h); exact h1 h; exact h2 h; exact h h3
    rw [cMerge, if_neg (by rw [hP]; simp), if_neg hnc] at hR
    (simp only [go_sem, vc_block_seq, vc_block_region, vc_block_cond, vc_block_block, Nat.reduceBEq, Nat.reduceAdd, Nat.reduceLeDiff, Nat.reduceEqDiff, Int.reduceAdd, Int.reduceBEq, Int.reduceBNe, reduceCtorEq, beq_self_eq_true, Bool.true_beq, Bool.false_beq]; repeat ((with_reducible refine leK_refl ?_); simp only [go_sem, vc_block_seq, vc_block_region, vc_block_cond, vc_block_block, Nat.reduceBEq, Nat.reduceAdd, Nat.reduceLeDiff, Nat.reduceEqDiff, Int.reduceAdd, Int.reduceBEq, Int.reduceBNe, reduceCtorEq, beq_self_eq_true, Bool.true_beq, Bool.false_beq]))
    refine give_call lv sent got hvv.2 k pv ps pg nv cv ns cs ng cg b5 b2 b3 u v4 ov4 hne hnx hsent hgot hS4 hf5u g5' g2' g3' hk (by omega) (by omega) (by omega) hvn ?_
    intro w k' v5 hx5 hS5 q5 hk' eS hcase
    have hgl := give_len (ds lv) (ds got) ((ds sent).drop k)
    have q2 := g2'.subX hx5 (fun a ha => by cases ha; exact h52)
    have q3 := g3'.subX hx5 (fun a ha => by cases ha; exact h53)
    rcases hcase with ⟨hb, rfl⟩ | ⟨hb, p5, n5, c5, l5, rfl, o5, ne5, nx5, e5⟩
    · rw [if_neg (by rw [hb]; simp)] at hR
      rw [hb]
      (simp only [go_sem, vc_block_seq, vc_block_region, vc_block_cond, vc_block_block, Nat.reduceBEq, Nat.reduceAdd, Nat.reduceLeDiff, Nat.reduceEqDiff, Int.reduceAdd, Int.reduceBEq, Int.reduceBNe, reduceCtorEq, beq_self_eq_true, Bool.true_beq, Bool.false_beq]; repeat ((with_reducible refine leK_refl ?_); simp only [go_sem, vc_block_seq, vc_block_region, vc_block_cond, vc_block_block, Nat.reduceBEq, Nat.reduceAdd, Nat.reduceLeDiff, Nat.reduceEqDiff, Int.reduceAdd, Int.reduceBEq, Int.reduceBNe, reduceCtorEq, beq_self_eq_true, Bool.true_beq, Bool.false_beq]))
      exact ⟨((pv, nv, cv), k'), le_chk (by simp only [go_sem, vc_block_seq, vc_block_region, vc_block_cond, vc_block_block, Nat.reduceBEq, Nat.reduceAdd, Nat.reduceLeDiff, Nat.reduceEqDiff, Int.reduceAdd, Int.reduceBEq, Int.reduceBNe, reduceCtorEq, beq_self_eq_true, Bool.true_beq, Bool.false_beq]), hS5, lv, ov4.subX hx5 hne hnx, hne, hnx, hvv, hv8, by simp only; omega, q5, q2, q3, hk', by rw [← eS]; exact hR⟩
    · rw [if_pos hb] at hR
      rw [hb]
      have hl5 := o5.len
      rw [← e5] at hgl
      simp only [List.length_map] at hgl
      (simp only [go_sem, vc_block_seq, vc_block_region, vc_block_cond, vc_block_block, Nat.reduceBEq, Nat.reduceAdd, Nat.reduceLeDiff, Nat.reduceEqDiff, Int.reduceAdd, Int.reduceBEq, Int.reduceBNe, reduceCtorEq, beq_self_eq_true, Bool.true_beq, Bool.false_beq]; repeat ((with_reducible refine leK_refl ?_); simp only [go_sem, vc_block_seq, vc_block_region, vc_block_cond, vc_block_block, Nat.reduceBEq, Nat.reduceAdd, Nat.reduceLeDiff, Nat.reduceEqDiff, Int.reduceAdd, Int.reduceBEq, Int.reduceBNe, reduceCtorEq, beq_self_eq_true, Bool.true_beq, Bool.false_beq]))
      rw [arith_i64 (by omega)]
      (simp only [go_sem, vc_block_seq, vc_block_region, vc_block_cond, vc_block_block, Nat.reduceBEq, Nat.reduceAdd, Nat.reduceLeDiff, Nat.reduceEqDiff, Int.reduceAdd, Int.reduceBEq, Int.reduceBNe, reduceCtorEq, beq_self_eq_true, Bool.true_beq, Bool.false_beq]; repeat ((with_reducible refine leK_refl ?_); simp only [go_sem, vc_block_seq, vc_block_region, vc_block_cond, vc_block_block, Nat.reduceBEq, Nat.reduceAdd, Nat.reduceLeDiff, Nat.reduceEqDiff, Int.reduceAdd, Int.reduceBEq, Int.reduceBNe, reduceCtorEq, beq_self_eq_true, Bool.true_beq, Bool.false_beq]))
      have hv5 : Vw self (ds l5) := by rw [e5]; exact give_vw hvv
      have h85 : ∀ d ∈ ds l5, d.filter.length ≤ 8 := fun d hd => by rw [e5] at hd; exact hv8 d (give_mem hd)
      refine AtCall.of_spec (put_con l5 hv5.2 x self ((n5 : Int) + 1) p5 n5 c5 v5 o5.dl ((hgot.at_ hx).mono hS5) (by omega) (fun y hy => by rw [← (o5.dl.fl y hy).len]; have := h85 y.d (List.mem_map_of_mem hy); omega) (by omega)) ?_
      rintro r v6 hs6 ⟨w6, rfl, p6, n6, c6, l6, rfl, o6, e6⟩
      generalize hP6 : (dPut (ds l5) x.d self ((n5 : Int) + 1)).2 = P6
      have hq6 : ∀ (q : Option Addr), FreshP v5 q → NE q (cellP b5) := fun q hf a b ha hb e => by cases hb; exact (q5.ne hf) a ha e.symm
      have hl6 := o6.len
      (simp -implicitDefEqProofs only [go_sem, vc_block_seq, vc_block_region, vc_block_cond, vc_block_block, Nat.reduceBEq, Nat.reduceAdd, Nat.reduceLeDiff, Nat.reduceEqDiff, Int.reduceAdd, Int.reduceBEq, Int.reduceBNe, reduceCtorEq, beq_self_eq_true, Bool.true_beq, Bool.false_beq]; repeat ((with_reducible refine leK_refl ?_); simp -implicitDefEqProofs only [go_sem, vc_block_seq, vc_block_region, vc_block_cond, vc_block_block, Nat.reduceBEq, Nat.reduceAdd, Nat.reduceLeDiff, Nat.reduceEqDiff, Int.reduceAdd, Int.reduceBEq, Int.reduceBNe, reduceCtorEq, beq_self_eq_true, Bool.true_beq, Bool.false_beq]))
      refine ⟨((p6, n6, c6), k'), le_chk (by simp only [go_sem, vc_block_seq, vc_block_region, vc_block_cond, vc_block_block, Nat.reduceBEq, Nat.reduceAdd, Nat.reduceLeDiff, Nat.reduceEqDiff, Int.reduceAdd, Int.reduceBEq, Int.reduceBNe, reduceCtorEq, beq_self_eq_true, Bool.true_beq, Bool.false_beq]), hS5.trans hs6, l6, o6.anti hS5, hq6 _ o6.own.fresh, fun z hz => hq6 _ (Own.fresh (o6.fl z hz)), by rw [e6]; exact vw_put hv5 _ _, by rw [e6]; exact small_put h85 hxf, ?_, q5.mono hs6, q2.mono hs6, q3.mono hs6, hk', ?_⟩
      · have h2 := put_len (self := self) (l := ds l5) x.d ((n5 : Int) + 1)
        rw [← e6] at h2
        simp only [List.length_map] at h2
        simp only
        omega
      · rw [← hR, e6, ← e5, eS]
        simp only [List.length_map, hl5]
  · rintro ⟨⟨pv, nv, cv⟩, k⟩ v2 ⟨hS, lv, ov, hne, hnx, hvv, hv8, hnv, g5, g2, g3, hk, hR⟩
    rw [List.drop_eq_nil_of_le (show (ds got).length ≤ ng by simp; omega)] at hR
    (simp only [go_sem, vc_block_seq, vc_block_region, vc_block_cond, vc_block_block, Nat.reduceBEq, Nat.reduceAdd, Nat.reduceLeDiff, Nat.reduceEqDiff, Int.reduceAdd, Int.reduceBEq, Int.reduceBNe, reduceCtorEq, beq_self_eq_true, Bool.true_beq, Bool.false_beq]; repeat ((with_reducible refine leK_refl ?_); simp only [go_sem, vc_block_seq, vc_block_region, vc_block_cond, vc_block_block, Nat.reduceBEq, Nat.reduceAdd, Nat.reduceLeDiff, Nat.reduceEqDiff, Int.reduceAdd, Int.reduceBEq, Int.reduceBNe, reduceCtorEq, beq_self_eq_true, Bool.true_beq, Bool.false_beq]))
    exact ⟨hS, pv, nv, cv, lv, rfl, ov, by rw [← hR]; cases (ds sent).drop k <;> rfl⟩

end Go.Proofs.Ytfdhmmjccnmckaa
