/-
  Part 27 of the proof of M7: the engine and the walks, in their order.
-/
import Derived.Test.YtgpmgnbjpfggmaaM723
import Derived.Test.YtgpmgnbjpfggmaaM726
set_option linter.unusedSimpArgs false
set_option linter.unusedVariables false
/-
  Net at the engine's level: Take.
-/
set_option linter.unusedSimpArgs false
set_option linter.unusedVariables false
namespace Go.Eng
abbrev celP (b : Nat) : Option Addr := some ⟨b, 0, none⟩
theorem celNe {u : World} {b c : Nat} {cs ds : List Value} {T S : TypeId} (h : Cel u b cs T) (g : Cel u c ds S) (hn : T ≠ S) : c ≠ b := fun e => by
  subst e
  rw [Cel] at h g
  rw [h] at g
  injection g with g
  injection g with _ g _
  exact hn g
theorem nep_known {u0 u : World} {T sz n c b : Nat} {p : Option Addr} {xs : List (List Value)} (h : Own u0 u T sz p n c xs) (hb : ¬ Fresh u0 b) : NEP p (celP b) := fun a d ha hd e => by
  cases hd
  have h1 := h.fresh a ha
  simp only at e
  rw [e] at h1
  exact hb h1
theorem away_known {u0 u : World} {ps : List Part} {b : Nat} (h : Owned u0 u ps) (hb : ¬ Fresh u0 b) : Away (celP b) ps := fun s hs => nep_known (h s hs) hb
theorem Cel.known {u : World} {b : Nat} {cs : List Value} {T : TypeId} (h : Cel u b cs T) : ¬ Fresh u b := fun hf => cells_ne_junk (hf _ h)
theorem Cel.subX {u u' : World} {b : Nat} {cs : List Value} {T : TypeId} {p : Option Addr} (h : Cel u b cs T) (hx : SubX p u u') (hp : NEP p (celP b)) : Cel u' b cs T := hx b _ (fun a ha e => hp a ⟨b, 0, none⟩ ha rfl e.symm) h cells_ne_junk
theorem SubX.weak {p q : Option Addr} {u v w : World} (h : SubX q u v) (hx : SubX p v w) (hf : FreshP u p) : SubX q u w := fun b o hb h1 hn => hx b o (fun a ha e => hn (hf a ha o (e ▸ h1))) (h b o hb h1 hn) hn
theorem EO.base {α : Type} {κ : Kind α} {u0 u1 u : World} {p : Option Addr} {n c : Nat} {l : List α} (h : EO κ u0 u p n c l) (hp : FreshP u1 p) (hl : ∀ x ∈ l, FreshPs u1 (κ.parts x)) : EO κ u1 u p n c l :=
  ⟨h.own.base hp, fun x hx s hs => ((h.fl x hx) s hs).base (hl x hx s hs), h.ne⟩
end Go.Eng
namespace Go.Proofs.Ytgpmgnbjpfggmaa
open Go.Eng
attribute [local go_sem] PP.val PP.enc PN.val PN.enc encB

set_option maxHeartbeats 1000000 in
theorem take1_call (b : PN) (x : PP) (k a t : Nat) (cs : List Value) (u0 v u : World) (h0 : Sub u0 v) (hS : Sub v u) (hb : EO ParK v u b.p b.n b.c b.l) (hn : b.n ≤ 1000) (hx : b.l[k]? = some x)
    (ha : Cel v a [.int .i64 k] 3) (ht : Cel v t cs 33) (hcs : cs.length = 3) (ft : Fresh u0 t) {K : Value → World → Prop}
    (hK : ∀ u', SubX (celP t) v u' → Cel u' t x.enc 33 → EO ParK v u' b.p (b.n - 1) b.c (b.l.eraseIdx k) → Owned v u' (ParK.parts x) → K (.tuple #[(PN.mk b.room b.p (b.n - 1) b.c (b.l.eraseIdx k) b.lost).val, .int .i64 0]) u') :
    AtCall false Try.prog 27 [b.val, .pointer (some ⟨a, 0, none⟩), .pointer (some ⟨t, 0, none⟩)] u0 u K := by
  have ll := hb.len
  have hkl : k < b.l.length := (List.getElem?_eq_some_iff.1 hx).1
  have hk : k < b.n := by omega
  have hat := celNe ha ht (by decide)
  have hau := ha.mono hS
  have htu := ht.mono hS
  have np := nep_known hb.own ht.known
  have nx := away_known (hb.fl x (List.mem_of_getElem? hx)) ht.known
  have hna : NEP b.p (celP a) := nep_known hb.own ha.known
  refine .inl (call_of_vc Ty.mixed Try.func27 rfl (by kernel_rfl) (by kernel_rfl) rfl [.cell 4 25, .tmp 5] rfl ?_)
  (simp only [go_sem, vc_block_seq, vc_block_region, vc_block_cond, vc_block_block, Nat.reduceBEq, Nat.reduceAdd, Nat.reduceLeDiff, Nat.reduceEqDiff, Int.reduceAdd, Int.reduceBEq, Int.reduceBNe, reduceCtorEq, beq_self_eq_true, Bool.true_beq, Bool.false_beq]; repeat ((with_reducible refine leK_refl ?_); simp only [go_sem, vc_block_seq, vc_block_region, vc_block_cond, vc_block_block, Nat.reduceBEq, Nat.reduceAdd, Nat.reduceLeDiff, Nat.reduceEqDiff, Int.reduceAdd, Int.reduceBEq, Int.reduceBNe, reduceCtorEq, beq_self_eq_true, Bool.true_beq, Bool.false_beq]))
  intro b3 b4
  refine ptr_load hau (.inl rfl) (Nat.le_of_ble_eq_true rfl) ?_
  (simp only [go_sem, vc_block_seq, vc_block_region, vc_block_cond, vc_block_block, Nat.reduceBEq, Nat.reduceAdd, Nat.reduceLeDiff, Nat.reduceEqDiff, Int.reduceAdd, Int.reduceBEq, Int.reduceBNe, reduceCtorEq, beq_self_eq_true, Bool.true_beq, Bool.false_beq]; repeat ((with_reducible refine leK_refl ?_); simp only [go_sem, vc_block_seq, vc_block_region, vc_block_cond, vc_block_block, Nat.reduceBEq, Nat.reduceAdd, Nat.reduceLeDiff, Nat.reduceEqDiff, Int.reduceAdd, Int.reduceBEq, Int.reduceBNe, reduceCtorEq, beq_self_eq_true, Bool.true_beq, Bool.false_beq]))
  refine ⟨⟨hb.own.sl.some_ hk, by omega, by omega⟩, ?_⟩
  refine hb.own.sl.load (getMap hx) (.inr rfl) (Nat.le_of_ble_eq_true rfl) ?_
  (simp only [go_sem, vc_block_seq, vc_block_region, vc_block_cond, vc_block_block, Nat.reduceBEq, Nat.reduceAdd, Nat.reduceLeDiff, Nat.reduceEqDiff, Int.reduceAdd, Int.reduceBEq, Int.reduceBNe, reduceCtorEq, beq_self_eq_true, Bool.true_beq, Bool.false_beq]; repeat ((with_reducible refine leK_refl ?_); simp only [go_sem, vc_block_seq, vc_block_region, vc_block_cond, vc_block_block, Nat.reduceBEq, Nat.reduceAdd, Nat.reduceLeDiff, Nat.reduceEqDiff, Int.reduceAdd, Int.reduceBEq, Int.reduceBNe, reduceCtorEq, beq_self_eq_true, Bool.true_beq, Bool.false_beq]))
  refine do_store Ty.lay33 htu ft rfl (by simp [hcs]) rfl ?_
  intro u1 ht1 hx1
  have ht2 : Cel u1 t x.enc 33 := by
    match cs, hcs with
    | [_, _, _], _ => exact ht1
  clear ht1
  have o1 : EO ParK v u1 b.p b.n b.c b.l := hb.subX hx1 np (fun y hy => away_known (hb.fl y hy) ht.known)
  have au1 := hau.subX hx1 (fun p q hp hq e => by cases hp; cases hq; exact hat e)
  (simp only [go_sem, vc_block_seq, vc_block_region, vc_block_cond, vc_block_block, Nat.reduceBEq, Nat.reduceAdd, Nat.reduceLeDiff, Nat.reduceEqDiff, Int.reduceAdd, Int.reduceBEq, Int.reduceBNe, reduceCtorEq, beq_self_eq_true, Bool.true_beq, Bool.false_beq]; repeat ((with_reducible refine leK_refl ?_); simp only [go_sem, vc_block_seq, vc_block_region, vc_block_cond, vc_block_block, Nat.reduceBEq, Nat.reduceAdd, Nat.reduceLeDiff, Nat.reduceEqDiff, Int.reduceAdd, Int.reduceBEq, Int.reduceBNe, reduceCtorEq, beq_self_eq_true, Bool.true_beq, Bool.false_beq]))
  refine ptr_load au1 (.inl rfl) (Nat.le_of_ble_eq_true rfl) ?_
  (simp only [go_sem, vc_block_seq, vc_block_region, vc_block_cond, vc_block_block, Nat.reduceBEq, Nat.reduceAdd, Nat.reduceLeDiff, Nat.reduceEqDiff, Int.reduceAdd, Int.reduceBEq, Int.reduceBNe, reduceCtorEq, beq_self_eq_true, Bool.true_beq, Bool.false_beq]; repeat ((with_reducible refine leK_refl ?_); simp only [go_sem, vc_block_seq, vc_block_region, vc_block_cond, vc_block_block, Nat.reduceBEq, Nat.reduceAdd, Nat.reduceLeDiff, Nat.reduceEqDiff, Int.reduceAdd, Int.reduceBEq, Int.reduceBNe, reduceCtorEq, beq_self_eq_true, Bool.true_beq, Bool.false_beq]))
  refine ptr_load au1 (.inl rfl) (Nat.le_of_ble_eq_true rfl) ?_
  (simp only [go_sem, vc_block_seq, vc_block_region, vc_block_cond, vc_block_block, Nat.reduceBEq, Nat.reduceAdd, Nat.reduceLeDiff, Nat.reduceEqDiff, Int.reduceAdd, Int.reduceBEq, Int.reduceBNe, reduceCtorEq, beq_self_eq_true, Bool.true_beq, Bool.false_beq]; repeat ((with_reducible refine leK_refl ?_); simp only [go_sem, vc_block_seq, vc_block_region, vc_block_cond, vc_block_block, Nat.reduceBEq, Nat.reduceAdd, Nat.reduceLeDiff, Nat.reduceEqDiff, Int.reduceAdd, Int.reduceBEq, Int.reduceBNe, reduceCtorEq, beq_self_eq_true, Bool.true_beq, Bool.false_beq]))
  rw [arith_i64 (by omega)]
  (simp only [go_sem, vc_block_seq, vc_block_region, vc_block_cond, vc_block_block, Nat.reduceBEq, Nat.reduceAdd, Nat.reduceLeDiff, Nat.reduceEqDiff, Int.reduceAdd, Int.reduceBEq, Int.reduceBNe, reduceCtorEq, beq_self_eq_true, Bool.true_beq, Bool.false_beq]; repeat ((with_reducible refine leK_refl ?_); simp only [go_sem, vc_block_seq, vc_block_region, vc_block_cond, vc_block_block, Nat.reduceBEq, Nat.reduceAdd, Nat.reduceLeDiff, Nat.reduceEqDiff, Int.reduceAdd, Int.reduceBEq, Int.reduceBNe, reduceCtorEq, beq_self_eq_true, Bool.true_beq, Bool.false_beq]))
  refine delPar_call _ b.p b.n b.c k u0 u1 (o1.own.anti h0) (PP.ones _) hk (by omega) _ (fun u2 o2 hx2 => ?_)
  (simp only [go_sem, vc_block_seq, vc_block_region, vc_block_cond, vc_block_block, Nat.reduceBEq, Nat.reduceAdd, Nat.reduceLeDiff, Nat.reduceEqDiff, Int.reduceAdd, Int.reduceBEq, Int.reduceBNe, reduceCtorEq, beq_self_eq_true, Bool.true_beq, Bool.false_beq]; repeat ((with_reducible refine leK_refl ?_); simp only [go_sem, vc_block_seq, vc_block_region, vc_block_cond, vc_block_block, Nat.reduceBEq, Nat.reduceAdd, Nat.reduceLeDiff, Nat.reduceEqDiff, Int.reduceAdd, Int.reduceBEq, Int.reduceBNe, reduceCtorEq, beq_self_eq_true, Bool.true_beq, Bool.false_beq]))
  have e1 : (b.l.map PP.enc).take k ++ (b.l.map PP.enc).drop (k + 1) = (b.l.eraseIdx k).map PP.enc := by
    rw [List.eraseIdx_eq_take_drop_succ]; simp
  have o2 : Eng.Own u0 u2 33 3 b.p (b.n - 1) b.c ((b.l.map PP.enc).take k ++ (b.l.map PP.enc).drop (k + 1)) := o2
  rw [e1] at o2
  refine hK u2 ?_ ?_ ?_ ?_
  · exact SubX.weak ((SubX.of_sub hS).tr hx1) hx2 hb.own.fresh
  · exact ht2.subX hx2 np
  · exact o1.write hx2 (o2.base hb.own.fresh) (fun y hy => ⟨y, List.mem_of_mem_eraseIdx hy, rfl⟩)
  · exact (o1.fl x (List.mem_of_getElem? hx)).subX hx2 (o1.ne x (List.mem_of_getElem? hx))

set_option maxHeartbeats 1000000 in
theorem with1_call (b : PN) (k a t : Nat) (cs : List Value) (u0 u : World) (h0 : Sub u0 u) (hb : NL u b) (hk : k < b.n)
    (ha : Cel u a [.int .i64 k] 3) (ht : Cel u t cs 33) (hcs : cs.length = 3) (ft : Fresh u0 t) {K : Value → World → Prop}
    (hK : ∀ u' x p c l, SubX (celP t) u u' → Cel u' t x.enc 33 → EO ParK u u' p (b.n - 1) c l → Owned u u' (ParK.parts x) → (pps b.l)[k]? = some x.g → x.n ≤ 1000 → pps l = (pps b.l).eraseIdx k → (∀ y ∈ l, y.n ≤ 1000) →
      K (.tuple #[(PN.mk b.room p (b.n - 1) c l b.lost).val, .int .i64 0]) u') :
    AtCall false Try.prog 25 [b.val, .int .i64 k, .func (.func 27) #[] #[.pointer (some ⟨a, 0, none⟩), .pointer (some ⟨t, 0, none⟩)]] u0 u K := by
  have hn := hb.len
  have ll := hb.el.len
  refine .inl (call_of_vc Ty.mixed Try.func25 rfl (by kernel_rfl) (by kernel_rfl) rfl [.cell 6 25, .tmp 7] rfl ?_)
  (simp only [go_sem, vc_block_seq, vc_block_region, vc_block_cond, vc_block_block, Nat.reduceBEq, Nat.reduceAdd, Nat.reduceLeDiff, Nat.reduceEqDiff, Int.reduceAdd, Int.reduceBEq, Int.reduceBNe, reduceCtorEq, beq_self_eq_true, Bool.true_beq, Bool.false_beq]; repeat ((with_reducible refine leK_refl ?_); simp only [go_sem, vc_block_seq, vc_block_region, vc_block_cond, vc_block_block, Nat.reduceBEq, Nat.reduceAdd, Nat.reduceLeDiff, Nat.reduceEqDiff, Int.reduceAdd, Int.reduceBEq, Int.reduceBNe, reduceCtorEq, beq_self_eq_true, Bool.true_beq, Bool.false_beq]))
  intro b1 b2
  refine AtCall.of_spec (fresh1_con b u hb) ?_
  rintro r u1 hs1 ⟨p1, c1, l1, rfl, o1, e1, h8⟩
  have ll1 := o1.len
  obtain ⟨x, hx⟩ := exAt hk ll1
  (simp only [go_sem, vc_block_seq, vc_block_region, vc_block_cond, vc_block_block, Nat.reduceBEq, Nat.reduceAdd, Nat.reduceLeDiff, Nat.reduceEqDiff, Int.reduceAdd, Int.reduceBEq, Int.reduceBNe, reduceCtorEq, beq_self_eq_true, Bool.true_beq, Bool.false_beq]; repeat ((with_reducible refine leK_refl ?_); simp only [go_sem, vc_block_seq, vc_block_region, vc_block_cond, vc_block_block, Nat.reduceBEq, Nat.reduceAdd, Nat.reduceLeDiff, Nat.reduceEqDiff, Int.reduceAdd, Int.reduceBEq, Int.reduceBNe, reduceCtorEq, beq_self_eq_true, Bool.true_beq, Bool.false_beq]))
  rw [decide_eq_false (show ¬ (b.n : Int) ≤ (k : Int) by omega)]
  (simp only [go_sem, vc_block_seq, vc_block_region, vc_block_cond, vc_block_block, Nat.reduceBEq, Nat.reduceAdd, Nat.reduceLeDiff, Nat.reduceEqDiff, Int.reduceAdd, Int.reduceBEq, Int.reduceBNe, reduceCtorEq, beq_self_eq_true, Bool.true_beq, Bool.false_beq]; repeat ((with_reducible refine leK_refl ?_); simp only [go_sem, vc_block_seq, vc_block_region, vc_block_cond, vc_block_block, Nat.reduceBEq, Nat.reduceAdd, Nat.reduceLeDiff, Nat.reduceEqDiff, Int.reduceAdd, Int.reduceBEq, Int.reduceBNe, reduceCtorEq, beq_self_eq_true, Bool.true_beq, Bool.false_beq]))
  refine take1_call ⟨b.room, p1, b.n, c1, l1, b.lost⟩ x k a t cs u0 u u1 h0 hs1 o1 hn hx ha ht hcs ft (fun u2 hx2 ht2 o2 ox => ?_)
  (simp only [go_sem, vc_block_seq, vc_block_region, vc_block_cond, vc_block_block, Nat.reduceBEq, Nat.reduceAdd, Nat.reduceLeDiff, Nat.reduceEqDiff, Int.reduceAdd, Int.reduceBEq, Int.reduceBNe, reduceCtorEq, beq_self_eq_true, Bool.true_beq, Bool.false_beq]; repeat ((with_reducible refine leK_refl ?_); simp only [go_sem, vc_block_seq, vc_block_region, vc_block_cond, vc_block_block, Nat.reduceBEq, Nat.reduceAdd, Nat.reduceLeDiff, Nat.reduceEqDiff, Int.reduceAdd, Int.reduceBEq, Int.reduceBNe, reduceCtorEq, beq_self_eq_true, Bool.true_beq, Bool.false_beq]))
  refine hK u2 x p1 c1 _ hx2 ht2 o2 ox ?_ (h8 x (List.mem_of_getElem? hx)) ?_ (fun y hy => h8 y (List.mem_of_mem_eraseIdx hy))
  · rw [← e1]; exact getPs hx
  · rw [← e1]; simp only [pps, eraseIdx_map_]

set_option maxHeartbeats 1000000 in
theorem take1_con (b : PN) (k : Nat) (u : World) (hb : NL u b) (hk : k < b.n) :
    Con Try.prog 10 [b.val, .int .i64 k] u (fun r u' => ∃ x p c l, r = .tuple #[x.val, (PN.mk b.room p (b.n - 1) c l b.lost).val, .int .i64 0] ∧ EO ParK u u' p (b.n - 1) c l ∧ Owned u u' (ParK.parts x) ∧ (pps b.l)[k]? = some x.g ∧ x.n ≤ 1000 ∧
      pps l = (pps b.l).eraseIdx k ∧ ∀ y ∈ l, y.n ≤ 1000) := by
  have hn := hb.len
  have ll := hb.el.len
  refine spec_of_vc Ty.mixed Try.func10 rfl (by kernel_rfl) (by kernel_rfl) rfl [.cell 4 33, .cell 5 25, .tmp 6] rfl ?_
  (simp only [go_sem, vc_block_seq, vc_block_region, vc_block_cond, vc_block_block, Nat.reduceBEq, Nat.reduceAdd, Nat.reduceLeDiff, Nat.reduceEqDiff, Int.reduceAdd, Int.reduceBEq, Int.reduceBNe, reduceCtorEq, beq_self_eq_true, Bool.true_beq, Bool.false_beq]; repeat ((with_reducible refine leK_refl ?_); simp only [go_sem, vc_block_seq, vc_block_region, vc_block_cond, vc_block_block, Nat.reduceBEq, Nat.reduceAdd, Nat.reduceLeDiff, Nat.reduceEqDiff, Int.reduceAdd, Int.reduceBEq, Int.reduceBNe, reduceCtorEq, beq_self_eq_true, Bool.true_beq, Bool.false_beq]))
  intro b1 b2 b3 b4 b5 v1 hs1 hf1 hf2 ha hf3 v2 hs2 hf4 hf5 ht hf6
  have a2 := Cel.mono hs2 (show Cel v1 b2 [.int .i64 k] 3 from ha)
  have s02 := hs1.trans hs2
  refine with1_call b k b2 b5 _ u v2 s02 (hb.mono s02) hk a2 ht rfl (hf4.anti hs1) (fun u3 x p c l hx3 ht3 o3 ox ex xn e3 h8 => ?_)
  have hsub : Sub u u3 := hx3.sub s02 (fun a ha => by cases ha; exact hf4.anti hs1)
  (simp only [go_sem, vc_block_seq, vc_block_region, vc_block_cond, vc_block_block, Nat.reduceBEq, Nat.reduceAdd, Nat.reduceLeDiff, Nat.reduceEqDiff, Int.reduceAdd, Int.reduceBEq, Int.reduceBNe, reduceCtorEq, beq_self_eq_true, Bool.true_beq, Bool.false_beq]; repeat ((with_reducible refine leK_refl ?_); simp only [go_sem, vc_block_seq, vc_block_region, vc_block_cond, vc_block_block, Nat.reduceBEq, Nat.reduceAdd, Nat.reduceLeDiff, Nat.reduceEqDiff, Int.reduceAdd, Int.reduceBEq, Int.reduceBNe, reduceCtorEq, beq_self_eq_true, Bool.true_beq, Bool.false_beq]))
  intro b8
  refine .inr (.inr (.inl ⟨[(0, false), (1, false), (2, false), (3, true), (4, false), (5, false)], [4], by kernel_rfl, ?_⟩))
  (simp only [go_sem, vc_block_seq, vc_block_region, vc_block_cond, vc_block_block, Nat.reduceBEq, Nat.reduceAdd, Nat.reduceLeDiff, Nat.reduceEqDiff, Int.reduceAdd, Int.reduceBEq, Int.reduceBNe, reduceCtorEq, beq_self_eq_true, Bool.true_beq, Bool.false_beq]; repeat ((with_reducible refine leK_refl ?_); simp only [go_sem, vc_block_seq, vc_block_region, vc_block_cond, vc_block_block, Nat.reduceBEq, Nat.reduceAdd, Nat.reduceLeDiff, Nat.reduceEqDiff, Int.reduceAdd, Int.reduceBEq, Int.reduceBNe, reduceCtorEq, beq_self_eq_true, Bool.true_beq, Bool.false_beq]))
  refine ptr_load ht3 (.inr rfl) (Nat.le_of_ble_eq_true rfl) ?_
  (simp only [go_sem, vc_block_seq, vc_block_region, vc_block_cond, vc_block_block, Nat.reduceBEq, Nat.reduceAdd, Nat.reduceLeDiff, Nat.reduceEqDiff, Int.reduceAdd, Int.reduceBEq, Int.reduceBNe, reduceCtorEq, beq_self_eq_true, Bool.true_beq, Bool.false_beq]; repeat ((with_reducible refine leK_refl ?_); simp only [go_sem, vc_block_seq, vc_block_region, vc_block_cond, vc_block_block, Nat.reduceBEq, Nat.reduceAdd, Nat.reduceLeDiff, Nat.reduceEqDiff, Int.reduceAdd, Int.reduceBEq, Int.reduceBNe, reduceCtorEq, beq_self_eq_true, Bool.true_beq, Bool.false_beq]))
  refine ⟨hsub, x, p, c, l, rfl, o3.anti s02, ox.anti s02, ex, xn, e3, h8⟩
end Go.Proofs.Ytgpmgnbjpfggmaa
