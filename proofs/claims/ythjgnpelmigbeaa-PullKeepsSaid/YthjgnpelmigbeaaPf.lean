/-
  Walks: Drop, Tick, the examples' parts.
-/
import Derived.Test.YthjgnpelmigbeaaPe
import Derived.Test.YthjgnpelmigbeaaEk
set_option linter.unusedSimpArgs false
set_option linter.unusedVariables false
namespace Go.Proofs.Ythjgnpelmigbeaa
open Go.Eng
attribute [local go_sem] GID.val GAsk.val GID.enc GAsk.enc

theorem drop1_con (x : GID) (a : GAsk) (u : World) (b : Nat) (hb : u.heap[b]? = some (.cells x.enc.toArray 26 (0, 0))) : Con Try.prog 35 [a.val, .pointer (some ⟨b, 0, none⟩)] u (fun r _ => r = .bool (!decide (a.id = x))) := by
  refine spec_of_vc Ty.mixed Try.func35 rfl (by kernel_rfl) (by kernel_rfl) rfl [.tmp 3] rfl ?_
  (simp only [go_sem, vc_block_seq, vc_block_region, vc_block_cond, vc_block_block, Nat.reduceBEq, Nat.reduceAdd, Nat.reduceLeDiff, Nat.reduceEqDiff, Int.reduceAdd, Int.reduceBEq, Int.reduceBNe, reduceCtorEq, beq_self_eq_true, Bool.true_beq, Bool.false_beq]; repeat ((with_reducible refine leK_refl ?_); simp only [go_sem, vc_block_seq, vc_block_region, vc_block_cond, vc_block_block, Nat.reduceBEq, Nat.reduceAdd, Nat.reduceLeDiff, Nat.reduceEqDiff, Int.reduceAdd, Int.reduceBEq, Int.reduceBNe, reduceCtorEq, beq_self_eq_true, Bool.true_beq, Bool.false_beq]))
  intro b1
  refine ptr_load hb (.inr rfl) (Nat.le_of_ble_eq_true rfl) ?_
  (simp only [go_sem, vc_block_seq, vc_block_region, vc_block_cond, vc_block_block, Nat.reduceBEq, Nat.reduceAdd, Nat.reduceLeDiff, Nat.reduceEqDiff, Int.reduceAdd, Int.reduceBEq, Int.reduceBNe, reduceCtorEq, beq_self_eq_true, Bool.true_beq, Bool.false_beq]; repeat ((with_reducible refine leK_refl ?_); simp only [go_sem, vc_block_seq, vc_block_region, vc_block_cond, vc_block_block, Nat.reduceBEq, Nat.reduceAdd, Nat.reduceLeDiff, Nat.reduceEqDiff, Int.reduceAdd, Int.reduceBEq, Int.reduceBNe, reduceCtorEq, beq_self_eq_true, Bool.true_beq, Bool.false_beq]))
  exact ⟨Sub.refl _, rfl⟩

theorem drop_con (l : List GAsk) (x : GID) (p : Option Addr) (n c : Nat) (u : World) (hl : Sl u 5 p n c (l.map GAsk.enc)) (hb : n * 12 ≤ 140737488355328) :
    Con Try.prog 14 [.slice p n c, x.val] u (fun r u' => ∃ p' m c', r = .slice p' m c' ∧ Own u u' 28 5 p' m c' ((pDrop l x).map GAsk.enc)) := by
  refine spec_of_vc Ty.mixed Try.func14 rfl (by kernel_rfl) (by kernel_rfl) rfl [.tmp 4] rfl ?_
  (simp only [go_sem, vc_block_seq, vc_block_region, vc_block_cond, vc_block_block, Nat.reduceBEq, Nat.reduceAdd, Nat.reduceLeDiff, Nat.reduceEqDiff, Int.reduceAdd, Int.reduceBEq, Int.reduceBNe, reduceCtorEq, beq_self_eq_true, Bool.true_beq, Bool.false_beq]; repeat ((with_reducible refine leK_refl ?_); simp only [go_sem, vc_block_seq, vc_block_region, vc_block_cond, vc_block_block, Nat.reduceBEq, Nat.reduceAdd, Nat.reduceLeDiff, Nat.reduceEqDiff, Int.reduceAdd, Int.reduceBEq, Int.reduceBNe, reduceCtorEq, beq_self_eq_true, Bool.true_beq, Bool.false_beq]))
  intro b u1 hs hf1 hf2 hb1 hf3
  refine those_call (fun a => !decide (a.id = x)) l p n c 35 [] [.pointer (some ⟨b, 0, none⟩)] u u1 (fun _ S u' => S = (fun y => y = b) ∧ u'.heap[b]? = some (.cells x.enc.toArray 26 (0, 0))) (fun y => y = b)
    hl hs hb ⟨?_, ?_, ?_⟩ ⟨rfl, hb1⟩ ?_
  · rintro k S u' y ⟨rfl, h⟩ rfl
    exact ⟨fun hf => cells_ne_junk (hf _ h), hf1⟩
  · rintro k S u1 u2 ⟨rfl, h⟩ hp
    exact ⟨rfl, hp _ _ rfl h cells_ne_junk⟩
  · rintro k a S u1 _ h0 ⟨rfl, h⟩ K hK
    refine AtCall.of_spec (drop1_con x a u1 b h) ?_
    rintro r u2 hs2 rfl
    exact hK _ u2 ⟨rfl, hs2 _ _ h cells_ne_junk⟩ (fun b' o _ hb' hn => hs2 _ _ hb' hn) (fun b' hb' => .inl hb')
  · intro p' m c' S' u' ho' hs' _ _ _
    (simp only [go_sem, vc_block_seq, vc_block_region, vc_block_cond, vc_block_block, Nat.reduceBEq, Nat.reduceAdd, Nat.reduceLeDiff, Nat.reduceEqDiff, Int.reduceAdd, Int.reduceBEq, Int.reduceBNe, reduceCtorEq, beq_self_eq_true, Bool.true_beq, Bool.false_beq]; repeat ((with_reducible refine leK_refl ?_); simp only [go_sem, vc_block_seq, vc_block_region, vc_block_cond, vc_block_block, Nat.reduceBEq, Nat.reduceAdd, Nat.reduceLeDiff, Nat.reduceEqDiff, Int.reduceAdd, Int.reduceBEq, Int.reduceBNe, reduceCtorEq, beq_self_eq_true, Bool.true_beq, Bool.false_beq]))
    exact ⟨hs', p', m, c', rfl, ho'⟩

/-- What Tick's closure has: the variable 'out', and its slice. -/
def TickInv (l : List GAsk) (bo : Nat) (u0 : World) (k : Nat) (S : Nat → Prop) (u : World) : Prop :=
  ∃ po mo co, u.heap[bo]? = some (.cells [Value.slice po mo co].toArray 33 (0, 0)) ∧ Own u0 u 26 3 po mo co ((pGone (l.take k)).map GID.enc) ∧ mo ≤ k ∧ (∀ a, po = some a → a.block ≠ bo) ∧ Fresh u0 bo ∧
    S = fun b => b = bo ∨ ∃ a, po = some a ∧ b = a.block

theorem tick1_clo (l : List GAsk) (bo : Nat) (u0 : World) (hn : l.length * 12 ≤ 140737488355328) : Clo 31 [] [.pointer (some ⟨bo, 0, none⟩)] u0 l (fun a => !decide (a.left.toNat ≤ 1)) (TickInv l bo u0) := by
  refine ⟨?_, ?_, ?_⟩
  · rintro k S u b ⟨po, mo, co, h1, h2, h3, h4, h5, rfl⟩ hb
    rcases hb with rfl | ⟨a, ha, rfl⟩
    · exact ⟨fun hf => cells_ne_junk (hf _ h1), h5⟩
    · exact ⟨h2.known ha, h2.fresh a ha⟩
  · rintro k S u u' ⟨po, mo, co, h1, h2, h3, h4, h5, rfl⟩ hp
    refine ⟨po, mo, co, hp _ _ (.inl rfl) h1 cells_ne_junk, ⟨h2.len, h2.each, h2.at_.imp id fun ⟨g, cur, e1, e2, e3⟩ => ⟨g, cur, e1, hp _ _ (.inr ⟨_, e1, rfl⟩) e2 cells_ne_junk, e3⟩⟩, h3, h4, h5, rfl⟩
  · rintro k x S u hx h0 ⟨po, mo, co, h1, h2, h3, h4, h5, rfl⟩ K hK
    have hk : k < l.length := by rcases Nat.lt_or_ge k l.length with h | h; exact h; simp [List.getElem?_eq_none h] at hx
    refine .inl (call_of_vc Ty.mixed Try.func31 rfl (by kernel_rfl) (by kernel_rfl) rfl [.tmp 3] rfl ?_)
    (simp only [go_sem, vc_block_seq, vc_block_region, vc_block_cond, vc_block_block, Nat.reduceBEq, Nat.reduceAdd, Nat.reduceLeDiff, Nat.reduceEqDiff, Int.reduceAdd, Int.reduceBEq, Int.reduceBNe, reduceCtorEq, beq_self_eq_true, Bool.true_beq, Bool.false_beq]; repeat ((with_reducible refine leK_refl ?_); simp only [go_sem, vc_block_seq, vc_block_region, vc_block_cond, vc_block_block, Nat.reduceBEq, Nat.reduceAdd, Nat.reduceLeDiff, Nat.reduceEqDiff, Int.reduceAdd, Int.reduceBEq, Int.reduceBNe, reduceCtorEq, beq_self_eq_true, Bool.true_beq, Bool.false_beq]))
    intro b1
    refine cond_dec (fun h => ?_) (fun h => ?_)
    · have hle : x.left.toNat ≤ 1 := by omega
      (simp only [go_sem, vc_block_seq, vc_block_region, vc_block_cond, vc_block_block, Nat.reduceBEq, Nat.reduceAdd, Nat.reduceLeDiff, Nat.reduceEqDiff, Int.reduceAdd, Int.reduceBEq, Int.reduceBNe, reduceCtorEq, beq_self_eq_true, Bool.true_beq, Bool.false_beq]; repeat ((with_reducible refine leK_refl ?_); simp only [go_sem, vc_block_seq, vc_block_region, vc_block_cond, vc_block_block, Nat.reduceBEq, Nat.reduceAdd, Nat.reduceLeDiff, Nat.reduceEqDiff, Int.reduceAdd, Int.reduceBEq, Int.reduceBNe, reduceCtorEq, beq_self_eq_true, Bool.true_beq, Bool.false_beq]))
      refine ptr_load h1 (.inl rfl) (Nat.le_of_ble_eq_true rfl) ?_
      (simp only [go_sem, vc_block_seq, vc_block_region, vc_block_cond, vc_block_block, Nat.reduceBEq, Nat.reduceAdd, Nat.reduceLeDiff, Nat.reduceEqDiff, Int.reduceAdd, Int.reduceBEq, Int.reduceBNe, reduceCtorEq, beq_self_eq_true, Bool.true_beq, Bool.false_beq]; repeat ((with_reducible refine leK_refl ?_); simp only [go_sem, vc_block_seq, vc_block_region, vc_block_cond, vc_block_block, Nat.reduceBEq, Nat.reduceAdd, Nat.reduceLeDiff, Nat.reduceEqDiff, Int.reduceAdd, Int.reduceBEq, Int.reduceBNe, reduceCtorEq, beq_self_eq_true, Bool.true_beq, Bool.false_beq]))
      refine eff_lit (n := 1) (vs := [x.id.val]) Ty.el33 rfl rfl (by intro v hv; simp at hv; subst hv; rfl) (by omega) ?_
      intro pv u2 hov hs2 hfv
      (simp only [go_sem, vc_block_seq, vc_block_region, vc_block_cond, vc_block_block, Nat.reduceBEq, Nat.reduceAdd, Nat.reduceLeDiff, Nat.reduceEqDiff, Int.reduceAdd, Int.reduceBEq, Int.reduceBNe, reduceCtorEq, beq_self_eq_true, Bool.true_beq, Bool.false_beq]; repeat ((with_reducible refine leK_refl ?_); simp only [go_sem, vc_block_seq, vc_block_region, vc_block_cond, vc_block_block, Nat.reduceBEq, Nat.reduceAdd, Nat.reduceLeDiff, Nat.reduceEqDiff, Int.reduceAdd, Int.reduceBEq, Int.reduceBNe, reduceCtorEq, beq_self_eq_true, Bool.true_beq, Bool.false_beq]))
      refine eff_append Ty.el33 (h2.mono hs2) hov.sl (by intro y hy; simp at hy; subst hy; rfl) (by omega) (by omega) ?_
      intro p3 c3 u3 ho3 hs3 hp3
      (simp only [go_sem, vc_block_seq, vc_block_region, vc_block_cond, vc_block_block, Nat.reduceBEq, Nat.reduceAdd, Nat.reduceLeDiff, Nat.reduceEqDiff, Int.reduceAdd, Int.reduceBEq, Int.reduceBNe, reduceCtorEq, beq_self_eq_true, Bool.true_beq, Bool.false_beq]; repeat ((with_reducible refine leK_refl ?_); simp only [go_sem, vc_block_seq, vc_block_region, vc_block_cond, vc_block_block, Nat.reduceBEq, Nat.reduceAdd, Nat.reduceLeDiff, Nat.reduceEqDiff, Int.reduceAdd, Int.reduceBEq, Int.reduceBNe, reduceCtorEq, beq_self_eq_true, Bool.true_beq, Bool.false_beq]))
      have hb3 : u3.heap[bo]? = some (.cells [Value.slice po mo co].toArray 33 (0, 0)) := hs3 _ _ (fun a ha e => h4 a ha e.symm) (hs2 _ _ h1 cells_ne_junk) cells_ne_junk
      have hne3 : ∀ a, p3 = some a → a.block ≠ bo := by
        intro a ha e
        rcases hp3 with rfl | hp3
        · exact h4 a ha e
        · exact cells_ne_junk (hp3 a ha _ (e ▸ hs2 _ _ h1 cells_ne_junk))
      refine do_store Ty.lay33 hb3 h5 rfl (Nat.le_of_ble_eq_true rfl) rfl ?_
      intro u4 hb4 hs4
      (simp only [go_sem, vc_block_seq, vc_block_region, vc_block_cond, vc_block_block, Nat.reduceBEq, Nat.reduceAdd, Nat.reduceLeDiff, Nat.reduceEqDiff, Int.reduceAdd, Int.reduceBEq, Int.reduceBNe, reduceCtorEq, beq_self_eq_true, Bool.true_beq, Bool.false_beq]; repeat ((with_reducible refine leK_refl ?_); simp only [go_sem, vc_block_seq, vc_block_region, vc_block_cond, vc_block_block, Nat.reduceBEq, Nat.reduceAdd, Nat.reduceLeDiff, Nat.reduceEqDiff, Int.reduceAdd, Int.reduceBEq, Int.reduceBNe, reduceCtorEq, beq_self_eq_true, Bool.true_beq, Bool.false_beq]))
      have e : (pGone (l.take (k + 1))).map GID.enc = (pGone (l.take k)).map GID.enc ++ [x.id.enc] := by
        rw [take_succ hx]; simp [pGone, hle]
      have hK' := hK (fun b => b = bo ∨ ∃ a, p3 = some a ∧ b = a.block) u4 ⟨p3, mo + 1, c3, by exact hb4, ?_, by omega, hne3, h5, rfl⟩ ?_ ?_
      · rw [show (!decide (x.left.toNat ≤ 1)) = false from by simp [hle]] at hK'
        exact hK'
      · rw [e]
        exact ho3.subX hs4 (by intro a b ha hb; cases hb; exact hne3 a ha)
      · intro b o hb hbo hn
        have hb1 : b ≠ bo := fun e => hb (.inl e)
        have hb2 : ∀ a, po = some a → b ≠ a.block := fun a ha e => hb (.inr ⟨a, ha, e⟩)
        exact hs4 b o (fun a ha => by cases ha; exact hb1) (hs3 b o hb2 (hs2 b o hbo hn) hn) hn
      · intro b hb
        rcases hb with rfl | ⟨a, ha, rfl⟩
        · exact .inl (.inl rfl)
        · rcases hp3 with rfl | hp3
          · exact .inl (.inr ⟨a, ha, rfl⟩)
          · exact .inr (Fresh.anti hs2 (hp3 a ha))
    · have hle : ¬ x.left.toNat ≤ 1 := by omega
      (simp only [go_sem, vc_block_seq, vc_block_region, vc_block_cond, vc_block_block, Nat.reduceBEq, Nat.reduceAdd, Nat.reduceLeDiff, Nat.reduceEqDiff, Int.reduceAdd, Int.reduceBEq, Int.reduceBNe, reduceCtorEq, beq_self_eq_true, Bool.true_beq, Bool.false_beq]; repeat ((with_reducible refine leK_refl ?_); simp only [go_sem, vc_block_seq, vc_block_region, vc_block_cond, vc_block_block, Nat.reduceBEq, Nat.reduceAdd, Nat.reduceLeDiff, Nat.reduceEqDiff, Int.reduceAdd, Int.reduceBEq, Int.reduceBNe, reduceCtorEq, beq_self_eq_true, Bool.true_beq, Bool.false_beq]))
      have e : (pGone (l.take (k + 1))).map GID.enc = (pGone (l.take k)).map GID.enc := by
        rw [take_succ hx]; simp [pGone, hle]
      have hK' := hK (fun b => b = bo ∨ ∃ a, po = some a ∧ b = a.block) u ⟨po, mo, co, h1, by rw [e]; exact h2, by omega, h4, h5, rfl⟩ (fun b o _ h _ => h) (fun b hb => .inl hb)
      rw [show (!decide (x.left.toNat ≤ 1)) = true from by simp [hle]] at hK'
      exact hK'

theorem tick_con (l : List GAsk) (p : Option Addr) (n c : Nat) (u : World) (hl : Sl u 5 p n c (l.map GAsk.enc)) (hb : n * 12 ≤ 140737488355328) :
    Con Try.prog 9 [.slice p n c] u (fun r u' => ∃ p1 m1 c1 p2 m2 c2, r = .tuple #[.slice p1 m1 c1, .slice p2 m2 c2] ∧ Own u u' 28 5 p1 m1 c1 ((pTick l).map GAsk.enc) ∧ Own u u' 26 3 p2 m2 c2 ((pGone l).map GID.enc)) := by
  have hlen : l.length = n := by simpa using hl.len
  refine spec_of_vc Ty.mixed Try.func9 rfl (by kernel_rfl) (by kernel_rfl) rfl [.tmp 2, .tmp 3] rfl ?_
  (simp only [go_sem, vc_block_seq, vc_block_region, vc_block_cond, vc_block_block, Nat.reduceBEq, Nat.reduceAdd, Nat.reduceLeDiff, Nat.reduceEqDiff, Int.reduceAdd, Int.reduceBEq, Int.reduceBNe, reduceCtorEq, beq_self_eq_true, Bool.true_beq, Bool.false_beq]; repeat ((with_reducible refine leK_refl ?_); simp only [go_sem, vc_block_seq, vc_block_region, vc_block_cond, vc_block_block, Nat.reduceBEq, Nat.reduceAdd, Nat.reduceLeDiff, Nat.reduceEqDiff, Int.reduceAdd, Int.reduceBEq, Int.reduceBNe, reduceCtorEq, beq_self_eq_true, Bool.true_beq, Bool.false_beq]))
  intro bo u1 hs hf1 hf2 hb1 hf3
  refine those_call (fun a => !decide (a.left.toNat ≤ 1)) l p n c 31 [] [.pointer (some ⟨bo, 0, none⟩)] u u1 (TickInv l bo u) (fun b => b = bo ∨ ∃ a : Addr, (none : Option Addr) = some a ∧ b = a.block)
    hl hs hb (tick1_clo l bo u (by omega)) ⟨none, 0, 0, by simpa using hb1, by simpa [pGone] using Own.nil_ _ _ _ _, Nat.le_refl _, (fun a ha => by cases ha), hf1, rfl⟩ ?_
  intro pl m cl S' u2 ho2 hs2 hI2 hS2 _
  obtain ⟨po, mo, co, k1, k2, k3, k4, k5, rfl⟩ := hI2
  rw [take_all hlen] at k2
  have hml : (l.filter fun a => !decide (a.left.toNat ≤ 1)).length = m := by simpa using ho2.len
  have hmn : m ≤ n := by rw [← hml, ← hlen]; exact List.length_filter_le _ _
  have hne : ∀ a, pl = some a → a.block ≠ bo ∧ ∀ b, po = some b → a.block ≠ b.block := fun a ha => ⟨fun e => hS2 a ha (.inl e), fun b hb e => hS2 a ha (.inr ⟨b, hb, e⟩)⟩
  generalize hL : (l.filter fun a => !decide (a.left.toNat ≤ 1)) = L at ho2 hml
  have hL2 : ∀ a ∈ L, 2 ≤ a.left.toNat := by
    intro a ha
    rw [← hL] at ha
    have := (List.mem_filter.1 ha).2
    simp at this; omega
  (simp only [go_sem, vc_block_seq, vc_block_region, vc_block_cond, vc_block_block, Nat.reduceBEq, Nat.reduceAdd, Nat.reduceLeDiff, Nat.reduceEqDiff, Int.reduceAdd, Int.reduceBEq, Int.reduceBNe, reduceCtorEq, beq_self_eq_true, Bool.true_beq, Bool.false_beq]; repeat ((with_reducible refine leK_refl ?_); simp only [go_sem, vc_block_seq, vc_block_region, vc_block_cond, vc_block_block, Nat.reduceBEq, Nat.reduceAdd, Nat.reduceLeDiff, Nat.reduceEqDiff, Int.reduceAdd, Int.reduceBEq, Int.reduceBNe, reduceCtorEq, beq_self_eq_true, Bool.true_beq, Bool.false_beq]))
  refine vc_range m (fun (_ : Unit) => []) (fun _ => [])
    (fun k _ u' => Sub u u' ∧ Own u u' 28 5 pl m cl (((L.take k).map GAsk.less1 ++ L.drop k).map GAsk.enc) ∧ u'.heap[bo]? = some (.cells [Value.slice po mo co].toArray 33 (0, 0)) ∧ Own u u' 26 3 po mo co ((pGone l).map GID.enc))
    () (le_chk (by simp only [go_sem, vc_block_seq, vc_block_region, vc_block_cond, vc_block_block, Nat.reduceBEq, Nat.reduceAdd, Nat.reduceLeDiff, Nat.reduceEqDiff, Int.reduceAdd, Int.reduceBEq, Int.reduceBNe, reduceCtorEq, beq_self_eq_true, Bool.true_beq, Bool.false_beq])) ⟨hs2, by simpa using ho2, k1, k2⟩ (fun _ _ => rfl) (by omega) (fun _ => rfl) ?_ ?_
  · rintro k g u3 hk ⟨h1, h2, h3, h4⟩
    obtain ⟨x, hx⟩ := exAt hk hml
    have hx2 := hL2 x (List.mem_of_getElem? hx)
    have hkl : k < L.length := by omega
    have hxk : L[k] = x := by simpa [hkl] using hx
    have hcat : ((L.take k).map GAsk.less1 ++ L.drop k)[k]? = some x := by
      rw [List.getElem?_append_right (by simp; omega)]
      simp [Nat.min_eq_left (Nat.le_of_lt hkl), hx]
    have hbd := x.left.toNat_lt
    (simp only [go_sem, vc_block_seq, vc_block_region, vc_block_cond, vc_block_block, Nat.reduceBEq, Nat.reduceAdd, Nat.reduceLeDiff, Nat.reduceEqDiff, Int.reduceAdd, Int.reduceBEq, Int.reduceBNe, reduceCtorEq, beq_self_eq_true, Bool.true_beq, Bool.false_beq]; repeat ((with_reducible refine leK_refl ?_); simp only [go_sem, vc_block_seq, vc_block_region, vc_block_cond, vc_block_block, Nat.reduceBEq, Nat.reduceAdd, Nat.reduceLeDiff, Nat.reduceEqDiff, Int.reduceAdd, Int.reduceBEq, Int.reduceBNe, reduceCtorEq, beq_self_eq_true, Bool.true_beq, Bool.false_beq]))
    refine ⟨⟨h2.sl.some_ hk, by omega, by omega⟩, ?_⟩
    refine h2.sl.load (getMap hcat) (.inl rfl) (Nat.le_of_ble_eq_true rfl) ?_
    (simp only [go_sem, vc_block_seq, vc_block_region, vc_block_cond, vc_block_block, Nat.reduceBEq, Nat.reduceAdd, Nat.reduceLeDiff, Nat.reduceEqDiff, Int.reduceAdd, Int.reduceBEq, Int.reduceBNe, reduceCtorEq, beq_self_eq_true, Bool.true_beq, Bool.false_beq]; repeat ((with_reducible refine leK_refl ?_); simp only [go_sem, vc_block_seq, vc_block_region, vc_block_cond, vc_block_block, Nat.reduceBEq, Nat.reduceAdd, Nat.reduceLeDiff, Nat.reduceEqDiff, Int.reduceAdd, Int.reduceBEq, Int.reduceBNe, reduceCtorEq, beq_self_eq_true, Bool.true_beq, Bool.false_beq]))
    rw [arith_u8 (by omega)]
    (simp only [go_sem, vc_block_seq, vc_block_region, vc_block_cond, vc_block_block, Nat.reduceBEq, Nat.reduceAdd, Nat.reduceLeDiff, Nat.reduceEqDiff, Int.reduceAdd, Int.reduceBEq, Int.reduceBNe, reduceCtorEq, beq_self_eq_true, Bool.true_beq, Bool.false_beq]; repeat ((with_reducible refine leK_refl ?_); simp only [go_sem, vc_block_seq, vc_block_region, vc_block_cond, vc_block_block, Nat.reduceBEq, Nat.reduceAdd, Nat.reduceLeDiff, Nat.reduceEqDiff, Int.reduceAdd, Int.reduceBEq, Int.reduceBNe, reduceCtorEq, beq_self_eq_true, Bool.true_beq, Bool.false_beq]))
    refine ⟨⟨h2.sl.some_ hk, by omega, by omega⟩, ?_⟩
    refine own_store Ty.lay5 h2 (getMap hcat) rfl (by omega) rfl ?_
    intro u4 ho4 hs4
    (simp only [go_sem, vc_block_seq, vc_block_region, vc_block_cond, vc_block_block, Nat.reduceBEq, Nat.reduceAdd, Nat.reduceLeDiff, Nat.reduceEqDiff, Int.reduceAdd, Int.reduceBEq, Int.reduceBNe, reduceCtorEq, beq_self_eq_true, Bool.true_beq, Bool.false_beq]; repeat ((with_reducible refine leK_refl ?_); simp only [go_sem, vc_block_seq, vc_block_region, vc_block_cond, vc_block_block, Nat.reduceBEq, Nat.reduceAdd, Nat.reduceLeDiff, Nat.reduceEqDiff, Int.reduceAdd, Int.reduceBEq, Int.reduceBNe, reduceCtorEq, beq_self_eq_true, Bool.true_beq, Bool.false_beq]))
    refine ⟨(), le_chk (by simp only [go_sem, vc_block_seq, vc_block_region, vc_block_cond, vc_block_block, Nat.reduceBEq, Nat.reduceAdd, Nat.reduceLeDiff, Nat.reduceEqDiff, Int.reduceAdd, Int.reduceBEq, Int.reduceBNe, reduceCtorEq, beq_self_eq_true, Bool.true_beq, Bool.false_beq]), hs4.sub h1 h2.fresh, ?_, hs4 _ _ (fun a ha e => (hne a ha).1 e.symm) h3 cells_ne_junk, h4.subX hs4 (fun a b ha hb e => (hne b hb).2 a ha e.symm)⟩
    have e1 : (x.left - 1).toNat = x.left.toNat - 1 := by
      rw [UInt8.toNat_sub_of_le _ _ (by rw [UInt8.le_iff_toNat_le]; simp; omega)]; rfl
    have e2 : splice x.enc 4 [Value.int .u8 ((x.left.toNat : Int) - 1)] = x.less1.enc := by
      simp [splice, GAsk.enc, GAsk.less1, e1]; omega
    have e3 : ((L.take (k + 1)).map GAsk.less1 ++ L.drop (k + 1)).map GAsk.enc = (((L.take k).map GAsk.less1 ++ L.drop k).map GAsk.enc).set k x.less1.enc := by
      rw [take_succ hx, ← List.getElem_cons_drop hkl, hxk]
      simp [List.set_append, Nat.min_eq_left (Nat.le_of_lt hkl)]
    rw [e3, ← e2]
    exact ho4
  · rintro g u3 ⟨h1, h2, h3, h4⟩
    (simp only [go_sem, vc_block_seq, vc_block_region, vc_block_cond, vc_block_block, Nat.reduceBEq, Nat.reduceAdd, Nat.reduceLeDiff, Nat.reduceEqDiff, Int.reduceAdd, Int.reduceBEq, Int.reduceBNe, reduceCtorEq, beq_self_eq_true, Bool.true_beq, Bool.false_beq]; repeat ((with_reducible refine leK_refl ?_); simp only [go_sem, vc_block_seq, vc_block_region, vc_block_cond, vc_block_block, Nat.reduceBEq, Nat.reduceAdd, Nat.reduceLeDiff, Nat.reduceEqDiff, Int.reduceAdd, Int.reduceBEq, Int.reduceBNe, reduceCtorEq, beq_self_eq_true, Bool.true_beq, Bool.false_beq]))
    refine .inl ⟨[(0, false), (1, false), (2, false), (3, false)], by kernel_rfl, ?_⟩
    (simp only [go_sem, vc_block_seq, vc_block_region, vc_block_cond, vc_block_block, Nat.reduceBEq, Nat.reduceAdd, Nat.reduceLeDiff, Nat.reduceEqDiff, Int.reduceAdd, Int.reduceBEq, Int.reduceBNe, reduceCtorEq, beq_self_eq_true, Bool.true_beq, Bool.false_beq]; repeat ((with_reducible refine leK_refl ?_); simp only [go_sem, vc_block_seq, vc_block_region, vc_block_cond, vc_block_block, Nat.reduceBEq, Nat.reduceAdd, Nat.reduceLeDiff, Nat.reduceEqDiff, Int.reduceAdd, Int.reduceBEq, Int.reduceBNe, reduceCtorEq, beq_self_eq_true, Bool.true_beq, Bool.false_beq]))
    refine ptr_load h3 (.inl rfl) (Nat.le_of_ble_eq_true rfl) ?_
    (simp only [go_sem, vc_block_seq, vc_block_region, vc_block_cond, vc_block_block, Nat.reduceBEq, Nat.reduceAdd, Nat.reduceLeDiff, Nat.reduceEqDiff, Int.reduceAdd, Int.reduceBEq, Int.reduceBNe, reduceCtorEq, beq_self_eq_true, Bool.true_beq, Bool.false_beq]; repeat ((with_reducible refine leK_refl ?_); simp only [go_sem, vc_block_seq, vc_block_region, vc_block_cond, vc_block_block, Nat.reduceBEq, Nat.reduceAdd, Nat.reduceLeDiff, Nat.reduceEqDiff, Int.reduceAdd, Int.reduceBEq, Int.reduceBNe, reduceCtorEq, beq_self_eq_true, Bool.true_beq, Bool.false_beq]))
    refine ⟨h1, pl, m, cl, po, mo, co, rfl, ?_, h4⟩
    rw [take_all hml, List.drop_eq_nil_of_le (by omega), List.append_nil] at h2
    rw [pTick, hL]
    exact h2

end Go.Proofs.Ythjgnpelmigbeaa
