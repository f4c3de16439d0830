/-
  Part 27 of the proof of Ap: the engine and the walks, in their order.
-/
import Derived.Test.YtcaobkpfafcnjaaAp20
import Derived.Test.YtcaobkpfafcnjaaAp21
import Derived.Test.YtcaobkpfafcnjaaAp22
import Derived.Test.YtcaobkpfafcnjaaAp23
import Derived.Test.YtcaobkpfafcnjaaAp24
import Derived.Test.YtcaobkpfafcnjaaAp25
import Derived.Test.YtcaobkpfafcnjaaAp26
set_option linter.unusedSimpArgs false
set_option linter.unusedVariables false
/-
  The walk of BufferApart.
-/
set_option linter.unusedSimpArgs false
set_option linter.unusedVariables false
namespace Go.Proofs.Ytcaobkpfafcnjaa
open Go.Eng
attribute [local go_sem] GID.val GID.enc PE.val PE.enc PB.val PB.enc encI encB

def its3 : List EI := [⟨0, true, []⟩, ⟨3, false, [0]⟩, ⟨4, true, []⟩, ⟨5, false, [3, 4]⟩, ⟨6, true, []⟩, ⟨8, false, []⟩, ⟨9, false, [6, 8, 5]⟩, ⟨10, true, []⟩, ⟨11, false, [9, 10]⟩, ⟨12, false, [5, 8]⟩]
def fl3 (V D : List (List Value)) : List OF := [⟨0, 3, 31, 21, 1, [], true⟩, ⟨3, 5, 34, 21, 1, V, false⟩, ⟨4, 5, 35, 21, 1, [[.int .i32 5]], false⟩, ⟨5, 99, 36, 21, 1, V ++ [[.int .i32 5]], false⟩,
  ⟨6, 9, 37, 5, 1, [], true⟩, ⟨9, 11, 40, 5, 1, D, false⟩, ⟨10, 11, 41, 5, 1, [[.int .u8 5]], false⟩, ⟨11, 99, 42, 5, 1, D ++ [[.int .u8 5]], false⟩]

theorem cimp {f : FuncId} {args : List Value} {u : World} {A B : Value → World → Prop} (h : Con Try.prog f args u A) (hp : ∀ r u', Sub u u' → A r u' → B r u') : Con Try.prog f args u B :=
  ⟨h.1, fun w hw => (h.2 w hw).mono (by rintro e w' ⟨r, u', rfl, h1, h2, h3⟩; exact ⟨r, u', rfl, h1, h2, hp _ _ h2 h3⟩)⟩
theorem put_one (g : GEv) : bErr [] 2 g.id = 0 ∧ bPut [] 2 g = [g] := ⟨rfl, rfl⟩
theorem put_two {g h : GEv} (hne : ¬ g.id = h.id) : bErr [g] 2 h.id = 0 ∧ (bPut [g] 2 h = [g, h] ∨ bPut [g] 2 h = [h, g]) := by
  have h1 : bErr [g] 2 h.id = 0 := by simp [bErr, bHas, bOf, bIdx, List.findIdx?_cons, hne]
  refine ⟨h1, ?_⟩
  rw [bPut_ok h1]
  by_cases h2 : evKey h < evKey g
  · exact .inr (by simp [kIns, kAt, List.findIdx?_cons, h2])
  · exact .inl (by simp [kIns, kAt, List.findIdx?_cons, h2])
theorem get_two {g h : GEv} {L : List GEv} (hne : ¬ g.id = h.id) (hL : L = [g, h] ∨ L = [h, g]) : bHas L g.id = true ∧ bGet L g.id = g := by
  have hn' : ¬ h.id = g.id := fun e => hne e.symm
  rcases hL with rfl | rfl <;> simp [bHas, bGet, bOf, bIdx, List.findIdx?_cons, hne, hn']
theorem get_one (g : GEv) : bHas [g] g.id = true ∧ bGet [g] g.id = g := by simp [bHas, bGet, bOf, bIdx, List.findIdx?_cons]
theorem put_ok (b : PB) (e : PE) (u : World) (L : List GEv) (hb : BL u 10000 b) (he : There u (EvK.parts e)) (hen : e.n ≤ 1000000) (hem : e.m ≤ 1000000) (hL : es b.l = L) (hr : b.room = 2) (h0 : bErr L 2 e.g.id = 0) :
    Con Try.prog 10 [b.val, e.val] u (fun r u' => ∃ c : PB, r = .tuple #[c.val, .int .i64 0] ∧ c.room = 2 ∧ EO EvK u u' c.p c.n c.c c.l ∧ es c.l = bPut L 2 e.g) := by
  refine cimp (put_con b e u hb he hen hem) ?_
  rintro r u' _ ⟨v, rfl, c, rfl, h1, h2, h3⟩
  rw [hL, hr] at h3 ⊢
  rw [h0]
  exact ⟨c, rfl, h1.trans hr, h2, h3⟩
theorem get_ok (b : PB) (g : GEv) (u : World) (hb : BL u 100000 b) (h1 : bHas (es b.l) g.id = true) (h2 : bGet (es b.l) g.id = g) :
    Con Try.prog 16 [b.val, g.id.val] u (fun r u' => ∃ y : PE, r = .tuple #[y.val, .int .i64 0] ∧ y.g = g ∧ Owned u u' (EvK.parts y)) := by
  refine cimp (get_con b g.id u hb) ?_
  rintro r u' _ ⟨y, rfl, h3, h4⟩
  rw [h1, if_pos rfl]
  exact ⟨y, rfl, h3.trans h2, h4⟩
theorem bl_eo {u u' : World} {b : PB} {N : Nat} {L : List GEv} (h : EO EvK u u' b.p b.n b.c b.l) (e : es b.l = L) (hL : L.length ≤ N) (h8 : ∀ e ∈ L, e.vals.length ≤ 1000 ∧ e.data.length ≤ 1000) : BL u' N b := by
  subst e
  refine ⟨h.el, ?_, fun x hx => ?_⟩
  · have := h.len; simp at hL; omega
  · have h3 := h.el.fl x hx
    rw [← ev_nlen h3, ← ev_mlen h3]
    exact h8 x.g (List.mem_map_of_mem hx)
def kI (T : TypeId) : WK := ⟨T, 1, fun cs => ∃ a : Int, cs = [.int .i32 a]⟩
def kB (T : TypeId) : WK := ⟨T, 1, fun cs => ∃ a : Int, cs = [.int .u8 a]⟩
theorem splice_1 {v w : Value} : splice [v] 0 [w] = [w] := rfl
theorem arith_any {k : IntKind} {n : Int} {K : Value → Prop} : AtArith k n K = K (.int k (k.wrap n)) := rfl
theorem pdI {xs : List Int} : ∀ x ∈ xs.map encI, (kI 21).Pd x := fun x hx => by obtain ⟨a, _, rfl⟩ := List.mem_map.1 hx; exact ⟨a, rfl⟩
theorem pdB {xs : List UInt8} : ∀ x ∈ xs.map encB, (kB 5).Pd x := fun x hx => by obtain ⟨a, _, rfl⟩ := List.mem_map.1 hx; exact ⟨_, rfl⟩

def RW (TI TB : TypeId) (L M : List (Option Addr × Nat × Nat)) (r : WR) : Prop := (r.k = kI TI ∧ (r.p, r.n, r.c) ∈ L) ∨ (r.k = kB TB ∧ (r.p, r.n, r.c) ∈ M)
theorem RW.coh {TI TB : TypeId} {L M : List (Option Addr × Nat × Nat)} (h : TI ≠ TB) : Coh (RW TI TB L M) := by
  rintro ⟨k, p, n, c⟩ ⟨k', p', n', c'⟩ h1 h2 hT
  rcases h1 with ⟨rfl, _⟩ | ⟨rfl, _⟩ <;> rcases h2 with ⟨rfl, _⟩ | ⟨rfl, _⟩ <;> first | rfl | exact absurd hT h | exact absurd hT.symm h
theorem RW.all {L M : List (Option Addr × Nat × Nat)} {U w : World} (hL : ∀ t ∈ L, ∃ xs : List Int, Eng.Own U w 21 1 t.1 t.2.1 t.2.2 (xs.map encI)) (hM : ∀ t ∈ M, ∃ xs : List UInt8, Eng.Own U w 5 1 t.1 t.2.1 t.2.2 (xs.map encB)) :
    AllW U w (RW 21 5 L M) := by
  rintro ⟨k, p, n, c⟩ h
  rcases h with ⟨rfl, h⟩ | ⟨rfl, h⟩
  · obtain ⟨xs, h1⟩ := hL _ h
    exact ⟨_, h1, pdI⟩
  · obtain ⟨xs, h1⟩ := hM _ h
    exact ⟨_, h1, pdB⟩

set_option maxRecDepth 4000 in
set_option maxHeartbeats 4000000 in
theorem bapart_con (e o : PE) (u : World) (he : There u (EvK.parts e)) (ho : There u (EvK.parts o)) :
    Con Try.prog 4 [e.val, o.val] u (fun r _ => r = .bool true) := by
  refine spec_of_vc Ty.mixed Try.func4 rfl (by kernel_rfl) (by kernel_rfl) rfl [.tmp 4] rfl ?_
  (simp only [go_sem, vc_block_seq, vc_block_region, vc_block_cond, vc_block_block, Nat.reduceBEq, Nat.reduceAdd, Nat.reduceLeDiff, Nat.reduceEqDiff, Int.reduceAdd, Int.reduceBEq, Int.reduceBNe, reduceCtorEq, beq_self_eq_true, Bool.true_beq, Bool.false_beq]; repeat ((with_reducible refine leK_refl ?_); simp only [go_sem, vc_block_seq, vc_block_region, vc_block_cond, vc_block_block, Nat.reduceBEq, Nat.reduceAdd, Nat.reduceLeDiff, Nat.reduceEqDiff, Int.reduceAdd, Int.reduceBEq, Int.reduceBNe, reduceCtorEq, beq_self_eq_true, Bool.true_beq, Bool.false_beq]))
  intro b2 b3
  refine eff_lit (n := 2) (vs := [e.val, o.val]) Ty.el22 rfl rfl (by intro v hv; simp at hv; rcases hv with rfl | rfl <;> rfl) (by omega) ?_
  intro pl ul ol sl fl
  (simp only [go_sem, vc_block_seq, vc_block_region, vc_block_cond, vc_block_block, Nat.reduceBEq, Nat.reduceAdd, Nat.reduceLeDiff, Nat.reduceEqDiff, Int.reduceAdd, Int.reduceBEq, Int.reduceBNe, reduceCtorEq, beq_self_eq_true, Bool.true_beq, Bool.false_beq]; repeat ((with_reducible refine leK_refl ?_); simp only [go_sem, vc_block_seq, vc_block_region, vc_block_cond, vc_block_block, Nat.reduceBEq, Nat.reduceAdd, Nat.reduceLeDiff, Nat.reduceEqDiff, Int.reduceAdd, Int.reduceBEq, Int.reduceBNe, reduceCtorEq, beq_self_eq_true, Bool.true_beq, Bool.false_beq]))
  have hS : Sub ul ul := Sub.refl _
  refine AtCall.of_spec (few_con [e, o] 2 pl 2 2 ul ol.sl (by omega)) ?_
  rintro r W1 H1 ⟨B, rfl, hB⟩
  replace hS := hS.trans H1
  cases B with
  | false =>
    (simp only [go_sem, vc_block_seq, vc_block_region, vc_block_cond, vc_block_block, Nat.reduceBEq, Nat.reduceAdd, Nat.reduceLeDiff, Nat.reduceEqDiff, Int.reduceAdd, Int.reduceBEq, Int.reduceBNe, reduceCtorEq, beq_self_eq_true, Bool.true_beq, Bool.false_beq]; repeat ((with_reducible refine leK_refl ?_); simp only [go_sem, vc_block_seq, vc_block_region, vc_block_cond, vc_block_block, Nat.reduceBEq, Nat.reduceAdd, Nat.reduceLeDiff, Nat.reduceEqDiff, Int.reduceAdd, Int.reduceBEq, Int.reduceBNe, reduceCtorEq, beq_self_eq_true, Bool.true_beq, Bool.false_beq]))
    refine AtCall.of_spec (bawake_con _) ?_
    rintro r W2 H2 rfl
    replace hS := hS.trans H2
    (simp only [go_sem, vc_block_seq, vc_block_region, vc_block_cond, vc_block_block, Nat.reduceBEq, Nat.reduceAdd, Nat.reduceLeDiff, Nat.reduceEqDiff, Int.reduceAdd, Int.reduceBEq, Int.reduceBNe, reduceCtorEq, beq_self_eq_true, Bool.true_beq, Bool.false_beq]; repeat ((with_reducible refine leK_refl ?_); simp only [go_sem, vc_block_seq, vc_block_region, vc_block_cond, vc_block_block, Nat.reduceBEq, Nat.reduceAdd, Nat.reduceLeDiff, Nat.reduceEqDiff, Int.reduceAdd, Int.reduceBEq, Int.reduceBNe, reduceCtorEq, beq_self_eq_true, Bool.true_beq, Bool.false_beq]))
    exact ⟨sl.trans hS, rfl⟩
  | true =>
  have hf := hB rfl
  (simp only [go_sem, vc_block_seq, vc_block_region, vc_block_cond, vc_block_block, Nat.reduceBEq, Nat.reduceAdd, Nat.reduceLeDiff, Nat.reduceEqDiff, Int.reduceAdd, Int.reduceBEq, Int.reduceBNe, reduceCtorEq, beq_self_eq_true, Bool.true_beq, Bool.false_beq]; repeat ((with_reducible refine leK_refl ?_); simp only [go_sem, vc_block_seq, vc_block_region, vc_block_cond, vc_block_block, Nat.reduceBEq, Nat.reduceAdd, Nat.reduceLeDiff, Nat.reduceEqDiff, Int.reduceAdd, Int.reduceBEq, Int.reduceBNe, reduceCtorEq, beq_self_eq_true, Bool.true_beq, Bool.false_beq]))
  refine cond_dec (fun h => ?_) (fun hid => ?_)
  · (simp only [go_sem, vc_block_seq, vc_block_region, vc_block_cond, vc_block_block, Nat.reduceBEq, Nat.reduceAdd, Nat.reduceLeDiff, Nat.reduceEqDiff, Int.reduceAdd, Int.reduceBEq, Int.reduceBNe, reduceCtorEq, beq_self_eq_true, Bool.true_beq, Bool.false_beq]; repeat ((with_reducible refine leK_refl ?_); simp only [go_sem, vc_block_seq, vc_block_region, vc_block_cond, vc_block_block, Nat.reduceBEq, Nat.reduceAdd, Nat.reduceLeDiff, Nat.reduceEqDiff, Int.reduceAdd, Int.reduceBEq, Int.reduceBNe, reduceCtorEq, beq_self_eq_true, Bool.true_beq, Bool.false_beq]))
    refine AtCall.of_spec (bawake_con _) ?_
    rintro r W3 H3 rfl
    replace hS := hS.trans H3
    (simp only [go_sem, vc_block_seq, vc_block_region, vc_block_cond, vc_block_block, Nat.reduceBEq, Nat.reduceAdd, Nat.reduceLeDiff, Nat.reduceEqDiff, Int.reduceAdd, Int.reduceBEq, Int.reduceBNe, reduceCtorEq, beq_self_eq_true, Bool.true_beq, Bool.false_beq]; repeat ((with_reducible refine leK_refl ?_); simp only [go_sem, vc_block_seq, vc_block_region, vc_block_cond, vc_block_block, Nat.reduceBEq, Nat.reduceAdd, Nat.reduceLeDiff, Nat.reduceEqDiff, Int.reduceAdd, Int.reduceBEq, Int.reduceBNe, reduceCtorEq, beq_self_eq_true, Bool.true_beq, Bool.false_beq]))
    exact ⟨sl.trans hS, rfl⟩
  have he8 := hf.2 e (by simp)
  have ho8 := hf.2 o (by simp)
  have hvl := (ev_vals he).len
  have hdl := (ev_data he).len
  have hs1 := sl.trans hS
  clear hB hf ol fl
  generalize hV : e.g.vals.map encI = V at hvl
  generalize hD : e.g.data.map encB = D at hdl
  have hv1 : Sl u 1 e.p e.n e.c V := hV ▸ ev_vals he
  have hd1 : Sl u 1 e.q e.m e.d D := hD ▸ ev_data he
  have hVo : allOnes V := hV ▸ onesI _
  have hDo : allOnes D := hD ▸ onesB _
  (simp only [go_sem, vc_block_seq, vc_block_region, vc_block_cond, vc_block_block, Nat.reduceBEq, Nat.reduceAdd, Nat.reduceLeDiff, Nat.reduceEqDiff, Int.reduceAdd, Int.reduceBEq, Int.reduceBNe, reduceCtorEq, beq_self_eq_true, Bool.true_beq, Bool.false_beq]; repeat ((with_reducible refine leK_refl ?_); simp only [go_sem, vc_block_seq, vc_block_region, vc_block_cond, vc_block_block, Nat.reduceBEq, Nat.reduceAdd, Nat.reduceLeDiff, Nat.reduceEqDiff, Int.reduceAdd, Int.reduceBEq, Int.reduceBNe, reduceCtorEq, beq_self_eq_true, Bool.true_beq, Bool.false_beq]))
  refine draw_mk its3 [1, 2, 7] (.eff 13 false (.fl 14 (.eff 15 false .done .no)) .no) 12 (by kernel_rfl) (fun (_ : (Option Addr × Nat) × (Option Addr × Nat)) => []) (fun g => [(2, ⟨b2, (PE.mk ⟨e.g.id, [], []⟩ g.1.1 (e.n + 1) g.1.2 g.2.1 (e.m + 1) g.2.2).enc, 34⟩)])
    (fun g v => Sub u v ∧ Eng.Own u v 21 1 g.1.1 (e.n + 1) g.1.2 (V ++ [[.int .i32 5]]) ∧ Eng.Own u v 5 1 g.2.1 (e.m + 1) g.2.2 (D ++ [[.int .u8 5]]))
    u (fl3 V D) (fun d r => lk r 33 = some (.v (.slice e.p e.n e.c)) ∧ lk r 38 = some (.loc 2 4) ∧ (8 ∈ d → lk r 39 = some (.v (.slice e.q e.m e.d))) ∧ (12 ∈ d → lk r 43 = some (.loc 2 3)) ∧ 99 ∉ d) ?_ ?_ ?_ ?_
  · simp only [flsT]
    (simp only [go_sem, vc_block_seq, vc_block_region, vc_block_cond, vc_block_block, Nat.reduceBEq, Nat.reduceAdd, Nat.reduceLeDiff, Nat.reduceEqDiff, Int.reduceAdd, Int.reduceBEq, Int.reduceBNe, reduceCtorEq, beq_self_eq_true, Bool.true_beq, Bool.false_beq]; repeat ((with_reducible refine leK_refl ?_); simp only [go_sem, vc_block_seq, vc_block_region, vc_block_cond, vc_block_block, Nat.reduceBEq, Nat.reduceAdd, Nat.reduceLeDiff, Nat.reduceEqDiff, Int.reduceAdd, Int.reduceBEq, Int.reduceBNe, reduceCtorEq, beq_self_eq_true, Bool.true_beq, Bool.false_beq]))
    refine ⟨hs1, ⟨le_chk (by simp only [go_sem, vc_block_seq, vc_block_region, vc_block_cond, vc_block_block, Nat.reduceBEq, Nat.reduceAdd, Nat.reduceLeDiff, Nat.reduceEqDiff, Int.reduceAdd, Int.reduceBEq, Int.reduceBNe, reduceCtorEq, beq_self_eq_true, Bool.true_beq, Bool.false_beq]), rfl, rfl, by simp⟩, fun f hf hj => by simp at hj⟩
  · intro done r v hI it hit hj hds
    simp only [its3, List.mem_cons, List.not_mem_nil, or_false] at hit
    rcases hit with rfl | rfl | rfl | rfl | rfl | rfl | rfl | rfl | rfl | rfl
    all_goals simp only [List.mem_cons, List.not_mem_nil, or_false, forall_eq_or_imp, forall_eq] at hj hds
    · (simp only [go_sem, vc_block_seq, vc_block_region, vc_block_cond, vc_block_block, Nat.reduceBEq, Nat.reduceAdd, Nat.reduceLeDiff, Nat.reduceEqDiff, Int.reduceAdd, Int.reduceBEq, Int.reduceBNe, reduceCtorEq, beq_self_eq_true, Bool.true_beq, Bool.false_beq]; repeat ((with_reducible refine leK_refl ?_); simp only [go_sem, vc_block_seq, vc_block_region, vc_block_cond, vc_block_block, Nat.reduceBEq, Nat.reduceAdd, Nat.reduceLeDiff, Nat.reduceEqDiff, Int.reduceAdd, Int.reduceBEq, Int.reduceBNe, reduceCtorEq, beq_self_eq_true, Bool.true_beq, Bool.false_beq]))
      refine eff_lit (n := 0) (vs := []) Ty.el31 rfl rfl (by simp) (by omega) ?_
      intro p v1 o1 s1 f1
      (simp only [go_sem, vc_block_seq, vc_block_region, vc_block_cond, vc_block_block, Nat.reduceBEq, Nat.reduceAdd, Nat.reduceLeDiff, Nat.reduceEqDiff, Int.reduceAdd, Int.reduceBEq, Int.reduceBNe, reduceCtorEq, beq_self_eq_true, Bool.true_beq, Bool.false_beq]; repeat ((with_reducible refine leK_refl ?_); simp only [go_sem, vc_block_seq, vc_block_region, vc_block_cond, vc_block_block, Nat.reduceBEq, Nat.reduceAdd, Nat.reduceLeDiff, Nat.reduceEqDiff, Int.reduceAdd, Int.reduceBEq, Int.reduceBNe, reduceCtorEq, beq_self_eq_true, Bool.true_beq, Bool.false_beq]))
      refine hI.step_sub s1 ⟨le_cons hI.x.1 rfl, ?_⟩ ?_ ?_
      · have h := hI.x.2
        simpa [lk] using h
      · intro f hf hne
        simp only [fl3, List.mem_cons, List.not_mem_nil, or_false] at hf
        rcases hf with rfl | rfl | rfl | rfl | rfl | rfl | rfl | rfl <;> first | exact absurd rfl hne | simp
      · intro f hf he
        simp only [fl3, List.mem_cons, List.not_mem_nil, or_false] at hf
        rcases hf with rfl | rfl | rfl | rfl | rfl | rfl | rfl | rfl <;> first | (simp at he; done) | exact ⟨p, 0, rfl, o1, by simp⟩
    · obtain ⟨p1, c1, l1, o1, z1⟩ := hI.all _ (show (⟨0, 3, 31, 21, 1, [], true⟩ : OF) ∈ fl3 V D by simp [fl3]) hds hj
      obtain rfl := z1 rfl
      simp only [List.length_nil] at l1 o1
      have l2 := hI.x.2.1
      (simp only [go_sem, vc_block_seq, vc_block_region, vc_block_cond, vc_block_block, Nat.reduceBEq, Nat.reduceAdd, Nat.reduceLeDiff, Nat.reduceEqDiff, Int.reduceAdd, Int.reduceBEq, Int.reduceBNe, reduceCtorEq, beq_self_eq_true, Bool.true_beq, Bool.false_beq, l1, l2]; repeat ((with_reducible refine leK_refl ?_); simp only [go_sem, vc_block_seq, vc_block_region, vc_block_cond, vc_block_block, Nat.reduceBEq, Nat.reduceAdd, Nat.reduceLeDiff, Nat.reduceEqDiff, Int.reduceAdd, Int.reduceBEq, Int.reduceBNe, reduceCtorEq, beq_self_eq_true, Bool.true_beq, Bool.false_beq, l1, l2]))
      refine eff_append0 Ty.el31 o1 (hv1.mono hI.sub) hVo (by omega) (by omega) ?_
      intro p c v1 o2 s2
      (simp only [go_sem, vc_block_seq, vc_block_region, vc_block_cond, vc_block_block, Nat.reduceBEq, Nat.reduceAdd, Nat.reduceLeDiff, Nat.reduceEqDiff, Int.reduceAdd, Int.reduceBEq, Int.reduceBNe, reduceCtorEq, beq_self_eq_true, Bool.true_beq, Bool.false_beq]; repeat ((with_reducible refine leK_refl ?_); simp only [go_sem, vc_block_seq, vc_block_region, vc_block_cond, vc_block_block, Nat.reduceBEq, Nat.reduceAdd, Nat.reduceLeDiff, Nat.reduceEqDiff, Int.reduceAdd, Int.reduceBEq, Int.reduceBNe, reduceCtorEq, beq_self_eq_true, Bool.true_beq, Bool.false_beq]))
      refine hI.step_sub s2 ⟨le_cons hI.x.1 rfl, ?_⟩ ?_ ?_
      · have h := hI.x.2
        simpa [lk] using h
      · intro f hf hne
        simp only [fl3, List.mem_cons, List.not_mem_nil, or_false] at hf
        rcases hf with rfl | rfl | rfl | rfl | rfl | rfl | rfl | rfl <;> first | exact absurd rfl hne | simp
      · intro f hf he
        simp only [fl3, List.mem_cons, List.not_mem_nil, or_false] at hf
        rcases hf with rfl | rfl | rfl | rfl | rfl | rfl | rfl | rfl <;> first | (simp at he; done) | exact ⟨p, c, congrArg (fun n => some (SV.v (.slice p n c))) hvl.symm, by simp only []; rw [hvl]; exact o2, by simp⟩
    · (simp only [go_sem, vc_block_seq, vc_block_region, vc_block_cond, vc_block_block, Nat.reduceBEq, Nat.reduceAdd, Nat.reduceLeDiff, Nat.reduceEqDiff, Int.reduceAdd, Int.reduceBEq, Int.reduceBNe, reduceCtorEq, beq_self_eq_true, Bool.true_beq, Bool.false_beq]; repeat ((with_reducible refine leK_refl ?_); simp only [go_sem, vc_block_seq, vc_block_region, vc_block_cond, vc_block_block, Nat.reduceBEq, Nat.reduceAdd, Nat.reduceLeDiff, Nat.reduceEqDiff, Int.reduceAdd, Int.reduceBEq, Int.reduceBNe, reduceCtorEq, beq_self_eq_true, Bool.true_beq, Bool.false_beq]))
      refine eff_lit (n := 1) (vs := [.int .i32 5]) Ty.el31 rfl rfl (by intro v hv; simp at hv; subst hv; rfl) (by omega) ?_
      intro p v1 o1 s1 f1
      (simp only [go_sem, vc_block_seq, vc_block_region, vc_block_cond, vc_block_block, Nat.reduceBEq, Nat.reduceAdd, Nat.reduceLeDiff, Nat.reduceEqDiff, Int.reduceAdd, Int.reduceBEq, Int.reduceBNe, reduceCtorEq, beq_self_eq_true, Bool.true_beq, Bool.false_beq]; repeat ((with_reducible refine leK_refl ?_); simp only [go_sem, vc_block_seq, vc_block_region, vc_block_cond, vc_block_block, Nat.reduceBEq, Nat.reduceAdd, Nat.reduceLeDiff, Nat.reduceEqDiff, Int.reduceAdd, Int.reduceBEq, Int.reduceBNe, reduceCtorEq, beq_self_eq_true, Bool.true_beq, Bool.false_beq]))
      refine hI.step_sub s1 ⟨le_cons hI.x.1 rfl, ?_⟩ ?_ ?_
      · have h := hI.x.2
        simpa [lk] using h
      · intro f hf hne
        simp only [fl3, List.mem_cons, List.not_mem_nil, or_false] at hf
        rcases hf with rfl | rfl | rfl | rfl | rfl | rfl | rfl | rfl <;> first | exact absurd rfl hne | simp
      · intro f hf he
        simp only [fl3, List.mem_cons, List.not_mem_nil, or_false] at hf
        rcases hf with rfl | rfl | rfl | rfl | rfl | rfl | rfl | rfl <;> first | (simp at he; done) | exact ⟨p, 1, rfl, o1, by simp⟩
    · have hcon : 3 ∈ done := hds.1
      obtain ⟨p1, c1, l1, o1, z1⟩ := hI.all _ (show (⟨3, 5, 34, 21, 1, V, false⟩ : OF) ∈ fl3 V D by simp [fl3]) hds.1 hj
      obtain ⟨p2, c2, l2, o2, z2⟩ := hI.all _ (show (⟨4, 5, 35, 21, 1, [[.int .i32 5]], false⟩ : OF) ∈ fl3 V D by simp [fl3]) hds.2 hj
      simp only [List.length_cons, List.length_nil, Nat.zero_add, hvl] at l1 o1 l2 o2
      (simp only [go_sem, vc_block_seq, vc_block_region, vc_block_cond, vc_block_block, Nat.reduceBEq, Nat.reduceAdd, Nat.reduceLeDiff, Nat.reduceEqDiff, Int.reduceAdd, Int.reduceBEq, Int.reduceBNe, reduceCtorEq, beq_self_eq_true, Bool.true_beq, Bool.false_beq, l1, l2]; repeat ((with_reducible refine leK_refl ?_); simp only [go_sem, vc_block_seq, vc_block_region, vc_block_cond, vc_block_block, Nat.reduceBEq, Nat.reduceAdd, Nat.reduceLeDiff, Nat.reduceEqDiff, Int.reduceAdd, Int.reduceBEq, Int.reduceBNe, reduceCtorEq, beq_self_eq_true, Bool.true_beq, Bool.false_beq, l1, l2]))
      refine eff_append Ty.el31 o1 o2.sl (by intro y hy; simp at hy; subst hy; rfl) (by omega) (by omega) ?_
      intro p c v1 o3 s3 q3
      (simp only [go_sem, vc_block_seq, vc_block_region, vc_block_cond, vc_block_block, Nat.reduceBEq, Nat.reduceAdd, Nat.reduceLeDiff, Nat.reduceEqDiff, Int.reduceAdd, Int.reduceBEq, Int.reduceBNe, reduceCtorEq, beq_self_eq_true, Bool.true_beq, Bool.false_beq]; repeat ((with_reducible refine leK_refl ?_); simp only [go_sem, vc_block_seq, vc_block_region, vc_block_cond, vc_block_block, Nat.reduceBEq, Nat.reduceAdd, Nat.reduceLeDiff, Nat.reduceEqDiff, Int.reduceAdd, Int.reduceBEq, Int.reduceBNe, reduceCtorEq, beq_self_eq_true, Bool.true_beq, Bool.false_beq]))
      refine hI.step_subX s3 o1 ⟨le_cons hI.x.1 rfl, ?_⟩ ?_ ?_ ?_
      · have h := hI.x.2
        simpa [lk] using h
      · intro f hf hne
        simp only [fl3, List.mem_cons, List.not_mem_nil, or_false] at hf
        rcases hf with rfl | rfl | rfl | rfl | rfl | rfl | rfl | rfl <;> first | exact absurd rfl hne | simp
      · intro f hf h1 h2 h3
        simp only [fl3, List.mem_cons, List.not_mem_nil, or_false] at hf
        rcases hf with rfl | rfl | rfl | rfl | rfl | rfl | rfl | rfl <;> first | exact absurd rfl h1 | exact absurd rfl h2 | exact absurd hcon h3 | simp
      · intro f hf he
        simp only [fl3, List.mem_cons, List.not_mem_nil, or_false] at hf
        rcases hf with rfl | rfl | rfl | rfl | rfl | rfl | rfl | rfl <;> first | (simp at he; done) | exact ⟨p, c, congrArg (fun n => some (SV.v (.slice p n c))) (by simp [hvl]), by simpa [hvl] using o3, by simp⟩
    · (simp only [go_sem, vc_block_seq, vc_block_region, vc_block_cond, vc_block_block, Nat.reduceBEq, Nat.reduceAdd, Nat.reduceLeDiff, Nat.reduceEqDiff, Int.reduceAdd, Int.reduceBEq, Int.reduceBNe, reduceCtorEq, beq_self_eq_true, Bool.true_beq, Bool.false_beq]; repeat ((with_reducible refine leK_refl ?_); simp only [go_sem, vc_block_seq, vc_block_region, vc_block_cond, vc_block_block, Nat.reduceBEq, Nat.reduceAdd, Nat.reduceLeDiff, Nat.reduceEqDiff, Int.reduceAdd, Int.reduceBEq, Int.reduceBNe, reduceCtorEq, beq_self_eq_true, Bool.true_beq, Bool.false_beq]))
      refine eff_lit (n := 0) (vs := []) Ty.el32 rfl rfl (by simp) (by omega) ?_
      intro p v1 o1 s1 f1
      (simp only [go_sem, vc_block_seq, vc_block_region, vc_block_cond, vc_block_block, Nat.reduceBEq, Nat.reduceAdd, Nat.reduceLeDiff, Nat.reduceEqDiff, Int.reduceAdd, Int.reduceBEq, Int.reduceBNe, reduceCtorEq, beq_self_eq_true, Bool.true_beq, Bool.false_beq]; repeat ((with_reducible refine leK_refl ?_); simp only [go_sem, vc_block_seq, vc_block_region, vc_block_cond, vc_block_block, Nat.reduceBEq, Nat.reduceAdd, Nat.reduceLeDiff, Nat.reduceEqDiff, Int.reduceAdd, Int.reduceBEq, Int.reduceBNe, reduceCtorEq, beq_self_eq_true, Bool.true_beq, Bool.false_beq]))
      refine hI.step_sub s1 ⟨le_cons hI.x.1 rfl, ?_⟩ ?_ ?_
      · have h := hI.x.2
        simpa [lk] using h
      · intro f hf hne
        simp only [fl3, List.mem_cons, List.not_mem_nil, or_false] at hf
        rcases hf with rfl | rfl | rfl | rfl | rfl | rfl | rfl | rfl <;> first | exact absurd rfl hne | simp
      · intro f hf he
        simp only [fl3, List.mem_cons, List.not_mem_nil, or_false] at hf
        rcases hf with rfl | rfl | rfl | rfl | rfl | rfl | rfl | rfl <;> first | (simp at he; done) | exact ⟨p, 0, rfl, o1, by simp⟩
    · (simp only [go_sem, vc_block_seq, vc_block_region, vc_block_cond, vc_block_block, Nat.reduceBEq, Nat.reduceAdd, Nat.reduceLeDiff, Nat.reduceEqDiff, Int.reduceAdd, Int.reduceBEq, Int.reduceBNe, reduceCtorEq, beq_self_eq_true, Bool.true_beq, Bool.false_beq, hI.x.2.2.1]; repeat ((with_reducible refine leK_refl ?_); simp only [go_sem, vc_block_seq, vc_block_region, vc_block_cond, vc_block_block, Nat.reduceBEq, Nat.reduceAdd, Nat.reduceLeDiff, Nat.reduceEqDiff, Int.reduceAdd, Int.reduceBEq, Int.reduceBNe, reduceCtorEq, beq_self_eq_true, Bool.true_beq, Bool.false_beq, hI.x.2.2.1]))
      refine hI.step_sub (Sub.refl _) ⟨le_cons hI.x.1 rfl, ?_⟩ ?_ ?_
      · have h := hI.x.2
        simpa [lk] using (⟨h.1, h.2.1, h.2.2.2⟩ : _ ∧ _ ∧ _)
      · intro f hf hne
        simp only [fl3, List.mem_cons, List.not_mem_nil, or_false] at hf
        rcases hf with rfl | rfl | rfl | rfl | rfl | rfl | rfl | rfl <;> first | exact absurd rfl hne | simp
      · intro f hf he
        simp only [fl3, List.mem_cons, List.not_mem_nil, or_false] at hf
        rcases hf with rfl | rfl | rfl | rfl | rfl | rfl | rfl | rfl <;> first | (simp at he; done) | exact absurd he (by simp)
    · obtain ⟨p1, c1, l1, o1, z1⟩ := hI.all _ (show (⟨6, 9, 37, 5, 1, [], true⟩ : OF) ∈ fl3 V D by simp [fl3]) hds.1 hj
      obtain rfl := z1 rfl
      simp only [List.length_nil] at l1 o1
      have l2 := hI.x.2.2.2.1 hds.2.1
      (simp only [go_sem, vc_block_seq, vc_block_region, vc_block_cond, vc_block_block, Nat.reduceBEq, Nat.reduceAdd, Nat.reduceLeDiff, Nat.reduceEqDiff, Int.reduceAdd, Int.reduceBEq, Int.reduceBNe, reduceCtorEq, beq_self_eq_true, Bool.true_beq, Bool.false_beq, l1, l2]; repeat ((with_reducible refine leK_refl ?_); simp only [go_sem, vc_block_seq, vc_block_region, vc_block_cond, vc_block_block, Nat.reduceBEq, Nat.reduceAdd, Nat.reduceLeDiff, Nat.reduceEqDiff, Int.reduceAdd, Int.reduceBEq, Int.reduceBNe, reduceCtorEq, beq_self_eq_true, Bool.true_beq, Bool.false_beq, l1, l2]))
      refine eff_append0 Ty.el32 o1 (hd1.mono hI.sub) hDo (by omega) (by omega) ?_
      intro p c v1 o2 s2
      (simp only [go_sem, vc_block_seq, vc_block_region, vc_block_cond, vc_block_block, Nat.reduceBEq, Nat.reduceAdd, Nat.reduceLeDiff, Nat.reduceEqDiff, Int.reduceAdd, Int.reduceBEq, Int.reduceBNe, reduceCtorEq, beq_self_eq_true, Bool.true_beq, Bool.false_beq]; repeat ((with_reducible refine leK_refl ?_); simp only [go_sem, vc_block_seq, vc_block_region, vc_block_cond, vc_block_block, Nat.reduceBEq, Nat.reduceAdd, Nat.reduceLeDiff, Nat.reduceEqDiff, Int.reduceAdd, Int.reduceBEq, Int.reduceBNe, reduceCtorEq, beq_self_eq_true, Bool.true_beq, Bool.false_beq]))
      refine hI.step_sub s2 ⟨le_cons hI.x.1 rfl, ?_⟩ ?_ ?_
      · have h := hI.x.2
        simpa [lk] using h
      · intro f hf hne
        simp only [fl3, List.mem_cons, List.not_mem_nil, or_false] at hf
        rcases hf with rfl | rfl | rfl | rfl | rfl | rfl | rfl | rfl <;> first | exact absurd rfl hne | simp
      · intro f hf he
        simp only [fl3, List.mem_cons, List.not_mem_nil, or_false] at hf
        rcases hf with rfl | rfl | rfl | rfl | rfl | rfl | rfl | rfl <;> first | (simp at he; done) | exact ⟨p, c, congrArg (fun n => some (SV.v (.slice p n c))) hdl.symm, by simp only []; rw [hdl]; exact o2, by simp⟩
    · (simp only [go_sem, vc_block_seq, vc_block_region, vc_block_cond, vc_block_block, Nat.reduceBEq, Nat.reduceAdd, Nat.reduceLeDiff, Nat.reduceEqDiff, Int.reduceAdd, Int.reduceBEq, Int.reduceBNe, reduceCtorEq, beq_self_eq_true, Bool.true_beq, Bool.false_beq]; repeat ((with_reducible refine leK_refl ?_); simp only [go_sem, vc_block_seq, vc_block_region, vc_block_cond, vc_block_block, Nat.reduceBEq, Nat.reduceAdd, Nat.reduceLeDiff, Nat.reduceEqDiff, Int.reduceAdd, Int.reduceBEq, Int.reduceBNe, reduceCtorEq, beq_self_eq_true, Bool.true_beq, Bool.false_beq]))
      refine eff_lit (n := 1) (vs := [.int .u8 5]) Ty.el32 rfl rfl (by intro v hv; simp at hv; subst hv; rfl) (by omega) ?_
      intro p v1 o1 s1 f1
      (simp only [go_sem, vc_block_seq, vc_block_region, vc_block_cond, vc_block_block, Nat.reduceBEq, Nat.reduceAdd, Nat.reduceLeDiff, Nat.reduceEqDiff, Int.reduceAdd, Int.reduceBEq, Int.reduceBNe, reduceCtorEq, beq_self_eq_true, Bool.true_beq, Bool.false_beq]; repeat ((with_reducible refine leK_refl ?_); simp only [go_sem, vc_block_seq, vc_block_region, vc_block_cond, vc_block_block, Nat.reduceBEq, Nat.reduceAdd, Nat.reduceLeDiff, Nat.reduceEqDiff, Int.reduceAdd, Int.reduceBEq, Int.reduceBNe, reduceCtorEq, beq_self_eq_true, Bool.true_beq, Bool.false_beq]))
      refine hI.step_sub s1 ⟨le_cons hI.x.1 rfl, ?_⟩ ?_ ?_
      · have h := hI.x.2
        simpa [lk] using h
      · intro f hf hne
        simp only [fl3, List.mem_cons, List.not_mem_nil, or_false] at hf
        rcases hf with rfl | rfl | rfl | rfl | rfl | rfl | rfl | rfl <;> first | exact absurd rfl hne | simp
      · intro f hf he
        simp only [fl3, List.mem_cons, List.not_mem_nil, or_false] at hf
        rcases hf with rfl | rfl | rfl | rfl | rfl | rfl | rfl | rfl <;> first | (simp at he; done) | exact ⟨p, 1, rfl, o1, by simp⟩
    · have hcon : 9 ∈ done := hds.1
      obtain ⟨p1, c1, l1, o1, z1⟩ := hI.all _ (show (⟨9, 11, 40, 5, 1, D, false⟩ : OF) ∈ fl3 V D by simp [fl3]) hds.1 hj
      obtain ⟨p2, c2, l2, o2, z2⟩ := hI.all _ (show (⟨10, 11, 41, 5, 1, [[.int .u8 5]], false⟩ : OF) ∈ fl3 V D by simp [fl3]) hds.2 hj
      simp only [List.length_cons, List.length_nil, Nat.zero_add, hdl] at l1 o1 l2 o2
      (simp only [go_sem, vc_block_seq, vc_block_region, vc_block_cond, vc_block_block, Nat.reduceBEq, Nat.reduceAdd, Nat.reduceLeDiff, Nat.reduceEqDiff, Int.reduceAdd, Int.reduceBEq, Int.reduceBNe, reduceCtorEq, beq_self_eq_true, Bool.true_beq, Bool.false_beq, l1, l2]; repeat ((with_reducible refine leK_refl ?_); simp only [go_sem, vc_block_seq, vc_block_region, vc_block_cond, vc_block_block, Nat.reduceBEq, Nat.reduceAdd, Nat.reduceLeDiff, Nat.reduceEqDiff, Int.reduceAdd, Int.reduceBEq, Int.reduceBNe, reduceCtorEq, beq_self_eq_true, Bool.true_beq, Bool.false_beq, l1, l2]))
      refine eff_append Ty.el32 o1 o2.sl (by intro y hy; simp at hy; subst hy; rfl) (by omega) (by omega) ?_
      intro p c v1 o3 s3 q3
      (simp only [go_sem, vc_block_seq, vc_block_region, vc_block_cond, vc_block_block, Nat.reduceBEq, Nat.reduceAdd, Nat.reduceLeDiff, Nat.reduceEqDiff, Int.reduceAdd, Int.reduceBEq, Int.reduceBNe, reduceCtorEq, beq_self_eq_true, Bool.true_beq, Bool.false_beq]; repeat ((with_reducible refine leK_refl ?_); simp only [go_sem, vc_block_seq, vc_block_region, vc_block_cond, vc_block_block, Nat.reduceBEq, Nat.reduceAdd, Nat.reduceLeDiff, Nat.reduceEqDiff, Int.reduceAdd, Int.reduceBEq, Int.reduceBNe, reduceCtorEq, beq_self_eq_true, Bool.true_beq, Bool.false_beq]))
      refine hI.step_subX s3 o1 ⟨le_cons hI.x.1 rfl, ?_⟩ ?_ ?_ ?_
      · have h := hI.x.2
        simpa [lk] using h
      · intro f hf hne
        simp only [fl3, List.mem_cons, List.not_mem_nil, or_false] at hf
        rcases hf with rfl | rfl | rfl | rfl | rfl | rfl | rfl | rfl <;> first | exact absurd rfl hne | simp
      · intro f hf h1 h2 h3
        simp only [fl3, List.mem_cons, List.not_mem_nil, or_false] at hf
        rcases hf with rfl | rfl | rfl | rfl | rfl | rfl | rfl | rfl <;> first | exact absurd rfl h1 | exact absurd rfl h2 | exact absurd hcon h3 | simp
      · intro f hf he
        simp only [fl3, List.mem_cons, List.not_mem_nil, or_false] at hf
        rcases hf with rfl | rfl | rfl | rfl | rfl | rfl | rfl | rfl <;> first | (simp at he; done) | exact ⟨p, c, congrArg (fun n => some (SV.v (.slice p n c))) (by simp [hdl]), by simpa [hdl] using o3, by simp⟩
    · have l2 := le_lk hI.x.1 (t := 2) (x := .loc 2 0) rfl (by simp)
      (simp only [go_sem, vc_block_seq, vc_block_region, vc_block_cond, vc_block_block, Nat.reduceBEq, Nat.reduceAdd, Nat.reduceLeDiff, Nat.reduceEqDiff, Int.reduceAdd, Int.reduceBEq, Int.reduceBNe, reduceCtorEq, beq_self_eq_true, Bool.true_beq, Bool.false_beq, l2]; repeat ((with_reducible refine leK_refl ?_); simp only [go_sem, vc_block_seq, vc_block_region, vc_block_cond, vc_block_block, Nat.reduceBEq, Nat.reduceAdd, Nat.reduceLeDiff, Nat.reduceEqDiff, Int.reduceAdd, Int.reduceBEq, Int.reduceBNe, reduceCtorEq, beq_self_eq_true, Bool.true_beq, Bool.false_beq, l2]))
      refine hI.step_sub (Sub.refl _) ⟨le_cons hI.x.1 rfl, ?_⟩ ?_ ?_
      · have h := hI.x.2
        simpa [lk] using (⟨h.1, h.2.1, h.2.2.1, h.2.2.2.2⟩ : _ ∧ _ ∧ _ ∧ _)
      · intro f hf hne
        simp only [fl3, List.mem_cons, List.not_mem_nil, or_false] at hf
        rcases hf with rfl | rfl | rfl | rfl | rfl | rfl | rfl | rfl <;> first | exact absurd rfl hne | simp
      · intro f hf he
        simp only [fl3, List.mem_cons, List.not_mem_nil, or_false] at hf
        rcases hf with rfl | rfl | rfl | rfl | rfl | rfl | rfl | rfl <;> first | (simp at he; done) | exact absurd he (by simp)
  · intro done r v hI hall
    have m0 := hall ⟨0, true, []⟩ (by simp [its3]) (by simp)
    have m3 := hall ⟨3, false, [0]⟩ (by simp [its3]) (by simpa using m0)
    have m4 := hall ⟨4, true, []⟩ (by simp [its3]) (by simp)
    have m5 := hall ⟨5, false, [3, 4]⟩ (by simp [its3]) (by simpa using ⟨m3, m4⟩)
    have m6 := hall ⟨6, true, []⟩ (by simp [its3]) (by simp)
    have m8 := hall ⟨8, false, []⟩ (by simp [its3]) (by simp)
    have m9 := hall ⟨9, false, [6, 8, 5]⟩ (by simp [its3]) (by simpa using ⟨m6, m8, m5⟩)
    have m10 := hall ⟨10, true, []⟩ (by simp [its3]) (by simp)
    have m11 := hall ⟨11, false, [9, 10]⟩ (by simp [its3]) (by simpa using ⟨m9, m10⟩)
    have m12 := hall ⟨12, false, [5, 8]⟩ (by simp [its3]) (by simpa using ⟨m5, m8⟩)
    obtain ⟨p1, c1, l1, o1, _⟩ := hI.all _ (show (⟨5, 99, 36, 21, 1, V ++ [[.int .i32 5]], false⟩ : OF) ∈ fl3 V D by simp [fl3]) m5 hI.x.2.2.2.2.2
    obtain ⟨p2, c2, l2, o2, _⟩ := hI.all _ (show (⟨11, 99, 42, 5, 1, D ++ [[.int .u8 5]], false⟩ : OF) ∈ fl3 V D by simp [fl3]) m11 hI.x.2.2.2.2.2
    simp only [List.length_append, List.length_cons, List.length_nil, Nat.zero_add, hvl, hdl] at l1 o1 l2 o2
    have l3 := hI.x.2.2.2.2.1 m12
    have l4 := le_lk hI.x.1 (t := 2) (x := .loc 2 0) rfl (by simp)
    (simp only [go_sem, vc_block_seq, vc_block_region, vc_block_cond, vc_block_block, Nat.reduceBEq, Nat.reduceAdd, Nat.reduceLeDiff, Nat.reduceEqDiff, Int.reduceAdd, Int.reduceBEq, Int.reduceBNe, reduceCtorEq, beq_self_eq_true, Bool.true_beq, Bool.false_beq, l1, l2, l3, l4]; repeat ((with_reducible refine leK_refl ?_); simp only [go_sem, vc_block_seq, vc_block_region, vc_block_cond, vc_block_block, Nat.reduceBEq, Nat.reduceAdd, Nat.reduceLeDiff, Nat.reduceEqDiff, Int.reduceAdd, Int.reduceBEq, Int.reduceBNe, reduceCtorEq, beq_self_eq_true, Bool.true_beq, Bool.false_beq, l1, l2, l3, l4]))
    refine ⟨((p1, c1), (p2, c2)), le_loc (le_cons hI.x.1 rfl) (fun k => ?_), hI.sub, o1, o2⟩
    by_cases h2 : k = 2
    · subst h2; rfl
    · by_cases h3 : k = 3
      · subst h3; rfl
      · have e2 : (2 == k) = false := beq_false_of_ne (Ne.symm h2)
        have e3 : (3 == k) = false := beq_false_of_ne (Ne.symm h3)
        simp only [lk, e2, e3, cond_false]
  rintro ⟨⟨pv, cv⟩, ⟨pd, cd⟩⟩ u4 ⟨hs4, ov, od⟩
  simp only at ov od ⊢
  have vlen : (V ++ [[Value.int .i32 5]]).length = e.n + 1 := by simp [hvl]
  have dlen : (D ++ [[Value.int .u8 5]]).length = e.m + 1 := by simp [hdl]
  have hV5o : allOnes (V ++ [[Value.int .i32 5]]) := by
    intro y hy
    rcases List.mem_append.1 hy with h | h
    · exact hVo y h
    · simp at h; subst h; rfl
  have hD5o : allOnes (D ++ [[Value.int .u8 5]]) := by
    intro y hy
    rcases List.mem_append.1 hy with h | h
    · exact hDo y h
    · simp at h; subst h; rfl
  obtain ⟨V5, hV5⟩ : ∃ V5, V5 = V ++ [[Value.int .i32 5]] := ⟨_, rfl⟩
  obtain ⟨D5, hD5⟩ : ∃ D5, D5 = D ++ [[Value.int .u8 5]] := ⟨_, rfl⟩
  rw [← hV5] at ov vlen hV5o
  rw [← hD5] at od dlen hD5o
  clear hs1 hS H1 sl
  (simp only [go_sem, vc_block_seq, vc_block_region, vc_block_cond, vc_block_block, Nat.reduceBEq, Nat.reduceAdd, Nat.reduceLeDiff, Nat.reduceEqDiff, Int.reduceAdd, Int.reduceBEq, Int.reduceBNe, reduceCtorEq, beq_self_eq_true, Bool.true_beq, Bool.false_beq]; repeat ((with_reducible refine leK_refl ?_); simp only [go_sem, vc_block_seq, vc_block_region, vc_block_cond, vc_block_block, Nat.reduceBEq, Nat.reduceAdd, Nat.reduceLeDiff, Nat.reduceEqDiff, Int.reduceAdd, Int.reduceBEq, Int.reduceBNe, reduceCtorEq, beq_self_eq_true, Bool.true_beq, Bool.false_beq]))
  refine draw_treeL (.fl 0 (.fl 3 (.fl 7 (.fl 1 (.fl 4 (.fl 8 (.eff 2 true (.eff 5 true (.eff 6 true (.eff 9 true (.fl 10 (.eff 11 true (.eff 12 false .done .no) .no)) (.eff 11 true (.eff 9 true (.fl 10 (.eff 12 false .done .no)) .no) .no)) (.eff 11 true (.eff 6 true (.eff 9 true (.fl 10 (.eff 12 false .done .no)) .no) .no) .no)) (.eff 6 true (.eff 5 true (.eff 9 true (.fl 10 (.eff 11 true (.eff 12 false .done .no) .no)) (.eff 11 true (.eff 9 true (.fl 10 (.eff 12 false .done .no)) .no) .no)) (.eff 11 true (.eff 5 true (.eff 9 true (.fl 10 (.eff 12 false .done .no)) .no) .no) .no)) (.eff 11 true (.eff 5 true (.eff 6 true (.eff 9 true (.fl 10 (.eff 12 false .done .no)) .no) .no) (.eff 6 true (.eff 5 true (.eff 9 true (.fl 10 (.eff 12 false .done .no)) .no) .no) .no)) .no))) (.eff 6 true (.eff 2 true (.eff 5 true (.eff 9 true (.fl 10 (.eff 11 true (.eff 12 false .done .no) .no)) (.eff 11 true (.eff 9 true (.fl 10 (.eff 12 false .done .no)) .no) .no)) (.eff 11 true (.eff 5 true (.eff 9 true (.fl 10 (.eff 12 false .done .no)) .no) .no) .no)) (.eff 11 true (.eff 2 true (.eff 5 true (.eff 9 true (.fl 10 (.eff 12 false .done .no)) .no) .no) .no) .no)) (.eff 11 true (.eff 2 true (.eff 5 true (.eff 6 true (.eff 9 true (.fl 10 (.eff 12 false .done .no)) .no) .no) (.eff 6 true (.eff 5 true (.eff 9 true (.fl 10 (.eff 12 false .done .no)) .no) .no) .no)) (.eff 6 true (.eff 2 true (.eff 5 true (.eff 9 true (.fl 10 (.eff 12 false .done .no)) .no) .no) .no) .no)) .no))))))))) (by kernel_rfl) (fun (g : (Option Addr × Nat) × (Option Addr × Nat) × Nat) => [(5, .loc 5 0)]) (fun g => [(5, ⟨g.2.2, (PE.mk ⟨e.g.id, [], []⟩ g.1.1 (e.n + 1) g.1.2 g.2.1.1 (e.m + 1) g.2.1.2).enc, 34⟩)]) (fun g v => Sub u4 v ∧ Eng.Own u4 v 21 1 g.1.1 (e.n + 1) g.1.2 V5 ∧ Eng.Own u4 v 5 1 g.2.1.1 (e.m + 1) g.2.1.2 D5) ?_ ?_
  · (simp only [go_sem, vc_block_seq, vc_block_region, vc_block_cond, vc_block_block, Nat.reduceBEq, Nat.reduceAdd, Nat.reduceLeDiff, Nat.reduceEqDiff, Int.reduceAdd, Int.reduceBEq, Int.reduceBNe, reduceCtorEq, beq_self_eq_true, Bool.true_beq, Bool.false_beq]; repeat ((with_reducible refine leK_refl ?_); simp only [go_sem, vc_block_seq, vc_block_region, vc_block_cond, vc_block_block, Nat.reduceBEq, Nat.reduceAdd, Nat.reduceLeDiff, Nat.reduceEqDiff, Int.reduceAdd, Int.reduceBEq, Int.reduceBNe, reduceCtorEq, beq_self_eq_true, Bool.true_beq, Bool.false_beq]))
    have hT := Sub.refl u4
    have h5 : True := trivial
    have h6 : True := trivial
    have h2 : True := trivial
    refine ⟨?_, ?_, ?_⟩
    · refine eff_lit (n := 0) (vs := []) Ty.el31 rfl rfl (by simp) (by omega) ?_
      intro p2 w2 h2 t2 f2
      have g2 := f2.anti hT
      replace hT := hT.trans t2
      try replace h6 := h6.mono t2
      (simp only [go_sem, vc_block_seq, vc_block_region, vc_block_cond, vc_block_block, Nat.reduceBEq, Nat.reduceAdd, Nat.reduceLeDiff, Nat.reduceEqDiff, Int.reduceAdd, Int.reduceBEq, Int.reduceBNe, reduceCtorEq, beq_self_eq_true, Bool.true_beq, Bool.false_beq]; repeat ((with_reducible refine leK_refl ?_); simp only [go_sem, vc_block_seq, vc_block_region, vc_block_cond, vc_block_block, Nat.reduceBEq, Nat.reduceAdd, Nat.reduceLeDiff, Nat.reduceEqDiff, Int.reduceAdd, Int.reduceBEq, Int.reduceBNe, reduceCtorEq, beq_self_eq_true, Bool.true_beq, Bool.false_beq]))
      refine ⟨?_, ?_, ?_⟩
      · refine eff_append0f hT g2 Ty.el31 h2 (ov.sl.mono hT) hV5o (by omega) (by omega) ?_
        intro p5 c5 w5 h5 g5 t5
        replace hT := hT.trans t5
        try replace h6 := h6.mono t5
        (simp only [go_sem, vc_block_seq, vc_block_region, vc_block_cond, vc_block_block, Nat.reduceBEq, Nat.reduceAdd, Nat.reduceLeDiff, Nat.reduceEqDiff, Int.reduceAdd, Int.reduceBEq, Int.reduceBNe, reduceCtorEq, beq_self_eq_true, Bool.true_beq, Bool.false_beq]; repeat ((with_reducible refine leK_refl ?_); simp only [go_sem, vc_block_seq, vc_block_region, vc_block_cond, vc_block_block, Nat.reduceBEq, Nat.reduceAdd, Nat.reduceLeDiff, Nat.reduceEqDiff, Int.reduceAdd, Int.reduceBEq, Int.reduceBNe, reduceCtorEq, beq_self_eq_true, Bool.true_beq, Bool.false_beq]))
        refine ⟨?_, ?_⟩
        · refine eff_lit (n := 0) (vs := []) Ty.el32 rfl rfl (by simp) (by omega) ?_
          intro p6 w6 h6 t6 f6
          have g6 := f6.anti hT
          replace hT := hT.trans t6
          try replace h5 := h5.mono t6
          try replace h2 := h2.mono t6
          (simp only [go_sem, vc_block_seq, vc_block_region, vc_block_cond, vc_block_block, Nat.reduceBEq, Nat.reduceAdd, Nat.reduceLeDiff, Nat.reduceEqDiff, Int.reduceAdd, Int.reduceBEq, Int.reduceBNe, reduceCtorEq, beq_self_eq_true, Bool.true_beq, Bool.false_beq]; repeat ((with_reducible refine leK_refl ?_); simp only [go_sem, vc_block_seq, vc_block_region, vc_block_cond, vc_block_block, Nat.reduceBEq, Nat.reduceAdd, Nat.reduceLeDiff, Nat.reduceEqDiff, Int.reduceAdd, Int.reduceBEq, Int.reduceBNe, reduceCtorEq, beq_self_eq_true, Bool.true_beq, Bool.false_beq]))
          refine ⟨?_, ?_⟩
          · refine eff_append0f hT g6 Ty.el32 h6 (od.sl.mono hT) hD5o (by omega) (by omega) ?_
            intro p9 c9 w9 h9 g9 t9
            replace hT := hT.trans t9
            try replace h5 := h5.mono t9
            (simp only [go_sem, vc_block_seq, vc_block_region, vc_block_cond, vc_block_block, Nat.reduceBEq, Nat.reduceAdd, Nat.reduceLeDiff, Nat.reduceEqDiff, Int.reduceAdd, Int.reduceBEq, Int.reduceBNe, reduceCtorEq, beq_self_eq_true, Bool.true_beq, Bool.false_beq]; repeat ((with_reducible refine leK_refl ?_); simp only [go_sem, vc_block_seq, vc_block_region, vc_block_cond, vc_block_block, Nat.reduceBEq, Nat.reduceAdd, Nat.reduceLeDiff, Nat.reduceEqDiff, Int.reduceAdd, Int.reduceBEq, Int.reduceBNe, reduceCtorEq, beq_self_eq_true, Bool.true_beq, Bool.false_beq]))
            intro b5
            exact ⟨((p5, c5), (p9, c9), b5), le_chk (by simp only [go_sem, vc_block_seq, vc_block_region, vc_block_cond, vc_block_block, Nat.reduceBEq, Nat.reduceAdd, Nat.reduceLeDiff, Nat.reduceEqDiff, Int.reduceAdd, Int.reduceBEq, Int.reduceBNe, reduceCtorEq, beq_self_eq_true, Bool.true_beq, Bool.false_beq]), hT, h5.base g5, h9.base g9⟩
          · intro b5
            refine eff_append0f hT g6 Ty.el32 h6 (od.sl.mono hT) hD5o (by omega) (by omega) ?_
            intro p9 c9 w9 h9 g9 t9
            replace hT := hT.trans t9
            try replace h5 := h5.mono t9
            (simp only [go_sem, vc_block_seq, vc_block_region, vc_block_cond, vc_block_block, Nat.reduceBEq, Nat.reduceAdd, Nat.reduceLeDiff, Nat.reduceEqDiff, Int.reduceAdd, Int.reduceBEq, Int.reduceBNe, reduceCtorEq, beq_self_eq_true, Bool.true_beq, Bool.false_beq]; repeat ((with_reducible refine leK_refl ?_); simp only [go_sem, vc_block_seq, vc_block_region, vc_block_cond, vc_block_block, Nat.reduceBEq, Nat.reduceAdd, Nat.reduceLeDiff, Nat.reduceEqDiff, Int.reduceAdd, Int.reduceBEq, Int.reduceBNe, reduceCtorEq, beq_self_eq_true, Bool.true_beq, Bool.false_beq]))
            exact ⟨((p5, c5), (p9, c9), b5), le_chk (by simp only [go_sem, vc_block_seq, vc_block_region, vc_block_cond, vc_block_block, Nat.reduceBEq, Nat.reduceAdd, Nat.reduceLeDiff, Nat.reduceEqDiff, Int.reduceAdd, Int.reduceBEq, Int.reduceBNe, reduceCtorEq, beq_self_eq_true, Bool.true_beq, Bool.false_beq]), hT, h5.base g5, h9.base g9⟩
        · intro b5
          refine eff_lit (n := 0) (vs := []) Ty.el32 rfl rfl (by simp) (by omega) ?_
          intro p6 w6 h6 t6 f6
          have g6 := f6.anti hT
          replace hT := hT.trans t6
          try replace h5 := h5.mono t6
          try replace h2 := h2.mono t6
          (simp only [go_sem, vc_block_seq, vc_block_region, vc_block_cond, vc_block_block, Nat.reduceBEq, Nat.reduceAdd, Nat.reduceLeDiff, Nat.reduceEqDiff, Int.reduceAdd, Int.reduceBEq, Int.reduceBNe, reduceCtorEq, beq_self_eq_true, Bool.true_beq, Bool.false_beq]; repeat ((with_reducible refine leK_refl ?_); simp only [go_sem, vc_block_seq, vc_block_region, vc_block_cond, vc_block_block, Nat.reduceBEq, Nat.reduceAdd, Nat.reduceLeDiff, Nat.reduceEqDiff, Int.reduceAdd, Int.reduceBEq, Int.reduceBNe, reduceCtorEq, beq_self_eq_true, Bool.true_beq, Bool.false_beq]))
          refine eff_append0f hT g6 Ty.el32 h6 (od.sl.mono hT) hD5o (by omega) (by omega) ?_
          intro p9 c9 w9 h9 g9 t9
          replace hT := hT.trans t9
          try replace h5 := h5.mono t9
          (simp only [go_sem, vc_block_seq, vc_block_region, vc_block_cond, vc_block_block, Nat.reduceBEq, Nat.reduceAdd, Nat.reduceLeDiff, Nat.reduceEqDiff, Int.reduceAdd, Int.reduceBEq, Int.reduceBNe, reduceCtorEq, beq_self_eq_true, Bool.true_beq, Bool.false_beq]; repeat ((with_reducible refine leK_refl ?_); simp only [go_sem, vc_block_seq, vc_block_region, vc_block_cond, vc_block_block, Nat.reduceBEq, Nat.reduceAdd, Nat.reduceLeDiff, Nat.reduceEqDiff, Int.reduceAdd, Int.reduceBEq, Int.reduceBNe, reduceCtorEq, beq_self_eq_true, Bool.true_beq, Bool.false_beq]))
          exact ⟨((p5, c5), (p9, c9), b5), le_chk (by simp only [go_sem, vc_block_seq, vc_block_region, vc_block_cond, vc_block_block, Nat.reduceBEq, Nat.reduceAdd, Nat.reduceLeDiff, Nat.reduceEqDiff, Int.reduceAdd, Int.reduceBEq, Int.reduceBNe, reduceCtorEq, beq_self_eq_true, Bool.true_beq, Bool.false_beq]), hT, h5.base g5, h9.base g9⟩
      · refine eff_lit (n := 0) (vs := []) Ty.el32 rfl rfl (by simp) (by omega) ?_
        intro p6 w6 h6 t6 f6
        have g6 := f6.anti hT
        replace hT := hT.trans t6
        try replace h5 := h5.mono t6
        try replace h2 := h2.mono t6
        (simp only [go_sem, vc_block_seq, vc_block_region, vc_block_cond, vc_block_block, Nat.reduceBEq, Nat.reduceAdd, Nat.reduceLeDiff, Nat.reduceEqDiff, Int.reduceAdd, Int.reduceBEq, Int.reduceBNe, reduceCtorEq, beq_self_eq_true, Bool.true_beq, Bool.false_beq]; repeat ((with_reducible refine leK_refl ?_); simp only [go_sem, vc_block_seq, vc_block_region, vc_block_cond, vc_block_block, Nat.reduceBEq, Nat.reduceAdd, Nat.reduceLeDiff, Nat.reduceEqDiff, Int.reduceAdd, Int.reduceBEq, Int.reduceBNe, reduceCtorEq, beq_self_eq_true, Bool.true_beq, Bool.false_beq]))
        refine ⟨?_, ?_⟩
        · refine eff_append0f hT g2 Ty.el31 h2 (ov.sl.mono hT) hV5o (by omega) (by omega) ?_
          intro p5 c5 w5 h5 g5 t5
          replace hT := hT.trans t5
          try replace h6 := h6.mono t5
          (simp only [go_sem, vc_block_seq, vc_block_region, vc_block_cond, vc_block_block, Nat.reduceBEq, Nat.reduceAdd, Nat.reduceLeDiff, Nat.reduceEqDiff, Int.reduceAdd, Int.reduceBEq, Int.reduceBNe, reduceCtorEq, beq_self_eq_true, Bool.true_beq, Bool.false_beq]; repeat ((with_reducible refine leK_refl ?_); simp only [go_sem, vc_block_seq, vc_block_region, vc_block_cond, vc_block_block, Nat.reduceBEq, Nat.reduceAdd, Nat.reduceLeDiff, Nat.reduceEqDiff, Int.reduceAdd, Int.reduceBEq, Int.reduceBNe, reduceCtorEq, beq_self_eq_true, Bool.true_beq, Bool.false_beq]))
          refine ⟨?_, ?_⟩
          · refine eff_append0f hT g6 Ty.el32 h6 (od.sl.mono hT) hD5o (by omega) (by omega) ?_
            intro p9 c9 w9 h9 g9 t9
            replace hT := hT.trans t9
            try replace h5 := h5.mono t9
            (simp only [go_sem, vc_block_seq, vc_block_region, vc_block_cond, vc_block_block, Nat.reduceBEq, Nat.reduceAdd, Nat.reduceLeDiff, Nat.reduceEqDiff, Int.reduceAdd, Int.reduceBEq, Int.reduceBNe, reduceCtorEq, beq_self_eq_true, Bool.true_beq, Bool.false_beq]; repeat ((with_reducible refine leK_refl ?_); simp only [go_sem, vc_block_seq, vc_block_region, vc_block_cond, vc_block_block, Nat.reduceBEq, Nat.reduceAdd, Nat.reduceLeDiff, Nat.reduceEqDiff, Int.reduceAdd, Int.reduceBEq, Int.reduceBNe, reduceCtorEq, beq_self_eq_true, Bool.true_beq, Bool.false_beq]))
            intro b5
            exact ⟨((p5, c5), (p9, c9), b5), le_chk (by simp only [go_sem, vc_block_seq, vc_block_region, vc_block_cond, vc_block_block, Nat.reduceBEq, Nat.reduceAdd, Nat.reduceLeDiff, Nat.reduceEqDiff, Int.reduceAdd, Int.reduceBEq, Int.reduceBNe, reduceCtorEq, beq_self_eq_true, Bool.true_beq, Bool.false_beq]), hT, h5.base g5, h9.base g9⟩
          · intro b5
            refine eff_append0f hT g6 Ty.el32 h6 (od.sl.mono hT) hD5o (by omega) (by omega) ?_
            intro p9 c9 w9 h9 g9 t9
            replace hT := hT.trans t9
            try replace h5 := h5.mono t9
            (simp only [go_sem, vc_block_seq, vc_block_region, vc_block_cond, vc_block_block, Nat.reduceBEq, Nat.reduceAdd, Nat.reduceLeDiff, Nat.reduceEqDiff, Int.reduceAdd, Int.reduceBEq, Int.reduceBNe, reduceCtorEq, beq_self_eq_true, Bool.true_beq, Bool.false_beq]; repeat ((with_reducible refine leK_refl ?_); simp only [go_sem, vc_block_seq, vc_block_region, vc_block_cond, vc_block_block, Nat.reduceBEq, Nat.reduceAdd, Nat.reduceLeDiff, Nat.reduceEqDiff, Int.reduceAdd, Int.reduceBEq, Int.reduceBNe, reduceCtorEq, beq_self_eq_true, Bool.true_beq, Bool.false_beq]))
            exact ⟨((p5, c5), (p9, c9), b5), le_chk (by simp only [go_sem, vc_block_seq, vc_block_region, vc_block_cond, vc_block_block, Nat.reduceBEq, Nat.reduceAdd, Nat.reduceLeDiff, Nat.reduceEqDiff, Int.reduceAdd, Int.reduceBEq, Int.reduceBNe, reduceCtorEq, beq_self_eq_true, Bool.true_beq, Bool.false_beq]), hT, h5.base g5, h9.base g9⟩
        · intro b5
          refine eff_append0f hT g2 Ty.el31 h2 (ov.sl.mono hT) hV5o (by omega) (by omega) ?_
          intro p5 c5 w5 h5 g5 t5
          replace hT := hT.trans t5
          try replace h6 := h6.mono t5
          (simp only [go_sem, vc_block_seq, vc_block_region, vc_block_cond, vc_block_block, Nat.reduceBEq, Nat.reduceAdd, Nat.reduceLeDiff, Nat.reduceEqDiff, Int.reduceAdd, Int.reduceBEq, Int.reduceBNe, reduceCtorEq, beq_self_eq_true, Bool.true_beq, Bool.false_beq]; repeat ((with_reducible refine leK_refl ?_); simp only [go_sem, vc_block_seq, vc_block_region, vc_block_cond, vc_block_block, Nat.reduceBEq, Nat.reduceAdd, Nat.reduceLeDiff, Nat.reduceEqDiff, Int.reduceAdd, Int.reduceBEq, Int.reduceBNe, reduceCtorEq, beq_self_eq_true, Bool.true_beq, Bool.false_beq]))
          refine eff_append0f hT g6 Ty.el32 h6 (od.sl.mono hT) hD5o (by omega) (by omega) ?_
          intro p9 c9 w9 h9 g9 t9
          replace hT := hT.trans t9
          try replace h5 := h5.mono t9
          (simp only [go_sem, vc_block_seq, vc_block_region, vc_block_cond, vc_block_block, Nat.reduceBEq, Nat.reduceAdd, Nat.reduceLeDiff, Nat.reduceEqDiff, Int.reduceAdd, Int.reduceBEq, Int.reduceBNe, reduceCtorEq, beq_self_eq_true, Bool.true_beq, Bool.false_beq]; repeat ((with_reducible refine leK_refl ?_); simp only [go_sem, vc_block_seq, vc_block_region, vc_block_cond, vc_block_block, Nat.reduceBEq, Nat.reduceAdd, Nat.reduceLeDiff, Nat.reduceEqDiff, Int.reduceAdd, Int.reduceBEq, Int.reduceBNe, reduceCtorEq, beq_self_eq_true, Bool.true_beq, Bool.false_beq]))
          exact ⟨((p5, c5), (p9, c9), b5), le_chk (by simp only [go_sem, vc_block_seq, vc_block_region, vc_block_cond, vc_block_block, Nat.reduceBEq, Nat.reduceAdd, Nat.reduceLeDiff, Nat.reduceEqDiff, Int.reduceAdd, Int.reduceBEq, Int.reduceBNe, reduceCtorEq, beq_self_eq_true, Bool.true_beq, Bool.false_beq]), hT, h5.base g5, h9.base g9⟩
      · intro b5
        refine ⟨?_, ?_⟩
        · refine eff_append0f hT g2 Ty.el31 h2 (ov.sl.mono hT) hV5o (by omega) (by omega) ?_
          intro p5 c5 w5 h5 g5 t5
          replace hT := hT.trans t5
          try replace h6 := h6.mono t5
          (simp only [go_sem, vc_block_seq, vc_block_region, vc_block_cond, vc_block_block, Nat.reduceBEq, Nat.reduceAdd, Nat.reduceLeDiff, Nat.reduceEqDiff, Int.reduceAdd, Int.reduceBEq, Int.reduceBNe, reduceCtorEq, beq_self_eq_true, Bool.true_beq, Bool.false_beq]; repeat ((with_reducible refine leK_refl ?_); simp only [go_sem, vc_block_seq, vc_block_region, vc_block_cond, vc_block_block, Nat.reduceBEq, Nat.reduceAdd, Nat.reduceLeDiff, Nat.reduceEqDiff, Int.reduceAdd, Int.reduceBEq, Int.reduceBNe, reduceCtorEq, beq_self_eq_true, Bool.true_beq, Bool.false_beq]))
          refine eff_lit (n := 0) (vs := []) Ty.el32 rfl rfl (by simp) (by omega) ?_
          intro p6 w6 h6 t6 f6
          have g6 := f6.anti hT
          replace hT := hT.trans t6
          try replace h5 := h5.mono t6
          try replace h2 := h2.mono t6
          (simp only [go_sem, vc_block_seq, vc_block_region, vc_block_cond, vc_block_block, Nat.reduceBEq, Nat.reduceAdd, Nat.reduceLeDiff, Nat.reduceEqDiff, Int.reduceAdd, Int.reduceBEq, Int.reduceBNe, reduceCtorEq, beq_self_eq_true, Bool.true_beq, Bool.false_beq]; repeat ((with_reducible refine leK_refl ?_); simp only [go_sem, vc_block_seq, vc_block_region, vc_block_cond, vc_block_block, Nat.reduceBEq, Nat.reduceAdd, Nat.reduceLeDiff, Nat.reduceEqDiff, Int.reduceAdd, Int.reduceBEq, Int.reduceBNe, reduceCtorEq, beq_self_eq_true, Bool.true_beq, Bool.false_beq]))
          refine eff_append0f hT g6 Ty.el32 h6 (od.sl.mono hT) hD5o (by omega) (by omega) ?_
          intro p9 c9 w9 h9 g9 t9
          replace hT := hT.trans t9
          try replace h5 := h5.mono t9
          (simp only [go_sem, vc_block_seq, vc_block_region, vc_block_cond, vc_block_block, Nat.reduceBEq, Nat.reduceAdd, Nat.reduceLeDiff, Nat.reduceEqDiff, Int.reduceAdd, Int.reduceBEq, Int.reduceBNe, reduceCtorEq, beq_self_eq_true, Bool.true_beq, Bool.false_beq]; repeat ((with_reducible refine leK_refl ?_); simp only [go_sem, vc_block_seq, vc_block_region, vc_block_cond, vc_block_block, Nat.reduceBEq, Nat.reduceAdd, Nat.reduceLeDiff, Nat.reduceEqDiff, Int.reduceAdd, Int.reduceBEq, Int.reduceBNe, reduceCtorEq, beq_self_eq_true, Bool.true_beq, Bool.false_beq]))
          exact ⟨((p5, c5), (p9, c9), b5), le_chk (by simp only [go_sem, vc_block_seq, vc_block_region, vc_block_cond, vc_block_block, Nat.reduceBEq, Nat.reduceAdd, Nat.reduceLeDiff, Nat.reduceEqDiff, Int.reduceAdd, Int.reduceBEq, Int.reduceBNe, reduceCtorEq, beq_self_eq_true, Bool.true_beq, Bool.false_beq]), hT, h5.base g5, h9.base g9⟩
        · refine eff_lit (n := 0) (vs := []) Ty.el32 rfl rfl (by simp) (by omega) ?_
          intro p6 w6 h6 t6 f6
          have g6 := f6.anti hT
          replace hT := hT.trans t6
          try replace h5 := h5.mono t6
          try replace h2 := h2.mono t6
          (simp only [go_sem, vc_block_seq, vc_block_region, vc_block_cond, vc_block_block, Nat.reduceBEq, Nat.reduceAdd, Nat.reduceLeDiff, Nat.reduceEqDiff, Int.reduceAdd, Int.reduceBEq, Int.reduceBNe, reduceCtorEq, beq_self_eq_true, Bool.true_beq, Bool.false_beq]; repeat ((with_reducible refine leK_refl ?_); simp only [go_sem, vc_block_seq, vc_block_region, vc_block_cond, vc_block_block, Nat.reduceBEq, Nat.reduceAdd, Nat.reduceLeDiff, Nat.reduceEqDiff, Int.reduceAdd, Int.reduceBEq, Int.reduceBNe, reduceCtorEq, beq_self_eq_true, Bool.true_beq, Bool.false_beq]))
          refine eff_append0f hT g2 Ty.el31 h2 (ov.sl.mono hT) hV5o (by omega) (by omega) ?_
          intro p5 c5 w5 h5 g5 t5
          replace hT := hT.trans t5
          try replace h6 := h6.mono t5
          (simp only [go_sem, vc_block_seq, vc_block_region, vc_block_cond, vc_block_block, Nat.reduceBEq, Nat.reduceAdd, Nat.reduceLeDiff, Nat.reduceEqDiff, Int.reduceAdd, Int.reduceBEq, Int.reduceBNe, reduceCtorEq, beq_self_eq_true, Bool.true_beq, Bool.false_beq]; repeat ((with_reducible refine leK_refl ?_); simp only [go_sem, vc_block_seq, vc_block_region, vc_block_cond, vc_block_block, Nat.reduceBEq, Nat.reduceAdd, Nat.reduceLeDiff, Nat.reduceEqDiff, Int.reduceAdd, Int.reduceBEq, Int.reduceBNe, reduceCtorEq, beq_self_eq_true, Bool.true_beq, Bool.false_beq]))
          refine eff_append0f hT g6 Ty.el32 h6 (od.sl.mono hT) hD5o (by omega) (by omega) ?_
          intro p9 c9 w9 h9 g9 t9
          replace hT := hT.trans t9
          try replace h5 := h5.mono t9
          (simp only [go_sem, vc_block_seq, vc_block_region, vc_block_cond, vc_block_block, Nat.reduceBEq, Nat.reduceAdd, Nat.reduceLeDiff, Nat.reduceEqDiff, Int.reduceAdd, Int.reduceBEq, Int.reduceBNe, reduceCtorEq, beq_self_eq_true, Bool.true_beq, Bool.false_beq]; repeat ((with_reducible refine leK_refl ?_); simp only [go_sem, vc_block_seq, vc_block_region, vc_block_cond, vc_block_block, Nat.reduceBEq, Nat.reduceAdd, Nat.reduceLeDiff, Nat.reduceEqDiff, Int.reduceAdd, Int.reduceBEq, Int.reduceBNe, reduceCtorEq, beq_self_eq_true, Bool.true_beq, Bool.false_beq]))
          exact ⟨((p5, c5), (p9, c9), b5), le_chk (by simp only [go_sem, vc_block_seq, vc_block_region, vc_block_cond, vc_block_block, Nat.reduceBEq, Nat.reduceAdd, Nat.reduceLeDiff, Nat.reduceEqDiff, Int.reduceAdd, Int.reduceBEq, Int.reduceBNe, reduceCtorEq, beq_self_eq_true, Bool.true_beq, Bool.false_beq]), hT, h5.base g5, h9.base g9⟩
    · refine eff_lit (n := 0) (vs := []) Ty.el32 rfl rfl (by simp) (by omega) ?_
      intro p6 w6 h6 t6 f6
      have g6 := f6.anti hT
      replace hT := hT.trans t6
      try replace h5 := h5.mono t6
      try replace h2 := h2.mono t6
      (simp only [go_sem, vc_block_seq, vc_block_region, vc_block_cond, vc_block_block, Nat.reduceBEq, Nat.reduceAdd, Nat.reduceLeDiff, Nat.reduceEqDiff, Int.reduceAdd, Int.reduceBEq, Int.reduceBNe, reduceCtorEq, beq_self_eq_true, Bool.true_beq, Bool.false_beq]; repeat ((with_reducible refine leK_refl ?_); simp only [go_sem, vc_block_seq, vc_block_region, vc_block_cond, vc_block_block, Nat.reduceBEq, Nat.reduceAdd, Nat.reduceLeDiff, Nat.reduceEqDiff, Int.reduceAdd, Int.reduceBEq, Int.reduceBNe, reduceCtorEq, beq_self_eq_true, Bool.true_beq, Bool.false_beq]))
      refine ⟨?_, ?_⟩
      · refine eff_lit (n := 0) (vs := []) Ty.el31 rfl rfl (by simp) (by omega) ?_
        intro p2 w2 h2 t2 f2
        have g2 := f2.anti hT
        replace hT := hT.trans t2
        try replace h6 := h6.mono t2
        (simp only [go_sem, vc_block_seq, vc_block_region, vc_block_cond, vc_block_block, Nat.reduceBEq, Nat.reduceAdd, Nat.reduceLeDiff, Nat.reduceEqDiff, Int.reduceAdd, Int.reduceBEq, Int.reduceBNe, reduceCtorEq, beq_self_eq_true, Bool.true_beq, Bool.false_beq]; repeat ((with_reducible refine leK_refl ?_); simp only [go_sem, vc_block_seq, vc_block_region, vc_block_cond, vc_block_block, Nat.reduceBEq, Nat.reduceAdd, Nat.reduceLeDiff, Nat.reduceEqDiff, Int.reduceAdd, Int.reduceBEq, Int.reduceBNe, reduceCtorEq, beq_self_eq_true, Bool.true_beq, Bool.false_beq]))
        refine ⟨?_, ?_⟩
        · refine eff_append0f hT g2 Ty.el31 h2 (ov.sl.mono hT) hV5o (by omega) (by omega) ?_
          intro p5 c5 w5 h5 g5 t5
          replace hT := hT.trans t5
          try replace h6 := h6.mono t5
          (simp only [go_sem, vc_block_seq, vc_block_region, vc_block_cond, vc_block_block, Nat.reduceBEq, Nat.reduceAdd, Nat.reduceLeDiff, Nat.reduceEqDiff, Int.reduceAdd, Int.reduceBEq, Int.reduceBNe, reduceCtorEq, beq_self_eq_true, Bool.true_beq, Bool.false_beq]; repeat ((with_reducible refine leK_refl ?_); simp only [go_sem, vc_block_seq, vc_block_region, vc_block_cond, vc_block_block, Nat.reduceBEq, Nat.reduceAdd, Nat.reduceLeDiff, Nat.reduceEqDiff, Int.reduceAdd, Int.reduceBEq, Int.reduceBNe, reduceCtorEq, beq_self_eq_true, Bool.true_beq, Bool.false_beq]))
          refine ⟨?_, ?_⟩
          · refine eff_append0f hT g6 Ty.el32 h6 (od.sl.mono hT) hD5o (by omega) (by omega) ?_
            intro p9 c9 w9 h9 g9 t9
            replace hT := hT.trans t9
            try replace h5 := h5.mono t9
            (simp only [go_sem, vc_block_seq, vc_block_region, vc_block_cond, vc_block_block, Nat.reduceBEq, Nat.reduceAdd, Nat.reduceLeDiff, Nat.reduceEqDiff, Int.reduceAdd, Int.reduceBEq, Int.reduceBNe, reduceCtorEq, beq_self_eq_true, Bool.true_beq, Bool.false_beq]; repeat ((with_reducible refine leK_refl ?_); simp only [go_sem, vc_block_seq, vc_block_region, vc_block_cond, vc_block_block, Nat.reduceBEq, Nat.reduceAdd, Nat.reduceLeDiff, Nat.reduceEqDiff, Int.reduceAdd, Int.reduceBEq, Int.reduceBNe, reduceCtorEq, beq_self_eq_true, Bool.true_beq, Bool.false_beq]))
            intro b5
            exact ⟨((p5, c5), (p9, c9), b5), le_chk (by simp only [go_sem, vc_block_seq, vc_block_region, vc_block_cond, vc_block_block, Nat.reduceBEq, Nat.reduceAdd, Nat.reduceLeDiff, Nat.reduceEqDiff, Int.reduceAdd, Int.reduceBEq, Int.reduceBNe, reduceCtorEq, beq_self_eq_true, Bool.true_beq, Bool.false_beq]), hT, h5.base g5, h9.base g9⟩
          · intro b5
            refine eff_append0f hT g6 Ty.el32 h6 (od.sl.mono hT) hD5o (by omega) (by omega) ?_
            intro p9 c9 w9 h9 g9 t9
            replace hT := hT.trans t9
            try replace h5 := h5.mono t9
            (simp only [go_sem, vc_block_seq, vc_block_region, vc_block_cond, vc_block_block, Nat.reduceBEq, Nat.reduceAdd, Nat.reduceLeDiff, Nat.reduceEqDiff, Int.reduceAdd, Int.reduceBEq, Int.reduceBNe, reduceCtorEq, beq_self_eq_true, Bool.true_beq, Bool.false_beq]; repeat ((with_reducible refine leK_refl ?_); simp only [go_sem, vc_block_seq, vc_block_region, vc_block_cond, vc_block_block, Nat.reduceBEq, Nat.reduceAdd, Nat.reduceLeDiff, Nat.reduceEqDiff, Int.reduceAdd, Int.reduceBEq, Int.reduceBNe, reduceCtorEq, beq_self_eq_true, Bool.true_beq, Bool.false_beq]))
            exact ⟨((p5, c5), (p9, c9), b5), le_chk (by simp only [go_sem, vc_block_seq, vc_block_region, vc_block_cond, vc_block_block, Nat.reduceBEq, Nat.reduceAdd, Nat.reduceLeDiff, Nat.reduceEqDiff, Int.reduceAdd, Int.reduceBEq, Int.reduceBNe, reduceCtorEq, beq_self_eq_true, Bool.true_beq, Bool.false_beq]), hT, h5.base g5, h9.base g9⟩
        · intro b5
          refine eff_append0f hT g2 Ty.el31 h2 (ov.sl.mono hT) hV5o (by omega) (by omega) ?_
          intro p5 c5 w5 h5 g5 t5
          replace hT := hT.trans t5
          try replace h6 := h6.mono t5
          (simp only [go_sem, vc_block_seq, vc_block_region, vc_block_cond, vc_block_block, Nat.reduceBEq, Nat.reduceAdd, Nat.reduceLeDiff, Nat.reduceEqDiff, Int.reduceAdd, Int.reduceBEq, Int.reduceBNe, reduceCtorEq, beq_self_eq_true, Bool.true_beq, Bool.false_beq]; repeat ((with_reducible refine leK_refl ?_); simp only [go_sem, vc_block_seq, vc_block_region, vc_block_cond, vc_block_block, Nat.reduceBEq, Nat.reduceAdd, Nat.reduceLeDiff, Nat.reduceEqDiff, Int.reduceAdd, Int.reduceBEq, Int.reduceBNe, reduceCtorEq, beq_self_eq_true, Bool.true_beq, Bool.false_beq]))
          refine eff_append0f hT g6 Ty.el32 h6 (od.sl.mono hT) hD5o (by omega) (by omega) ?_
          intro p9 c9 w9 h9 g9 t9
          replace hT := hT.trans t9
          try replace h5 := h5.mono t9
          (simp only [go_sem, vc_block_seq, vc_block_region, vc_block_cond, vc_block_block, Nat.reduceBEq, Nat.reduceAdd, Nat.reduceLeDiff, Nat.reduceEqDiff, Int.reduceAdd, Int.reduceBEq, Int.reduceBNe, reduceCtorEq, beq_self_eq_true, Bool.true_beq, Bool.false_beq]; repeat ((with_reducible refine leK_refl ?_); simp only [go_sem, vc_block_seq, vc_block_region, vc_block_cond, vc_block_block, Nat.reduceBEq, Nat.reduceAdd, Nat.reduceLeDiff, Nat.reduceEqDiff, Int.reduceAdd, Int.reduceBEq, Int.reduceBNe, reduceCtorEq, beq_self_eq_true, Bool.true_beq, Bool.false_beq]))
          exact ⟨((p5, c5), (p9, c9), b5), le_chk (by simp only [go_sem, vc_block_seq, vc_block_region, vc_block_cond, vc_block_block, Nat.reduceBEq, Nat.reduceAdd, Nat.reduceLeDiff, Nat.reduceEqDiff, Int.reduceAdd, Int.reduceBEq, Int.reduceBNe, reduceCtorEq, beq_self_eq_true, Bool.true_beq, Bool.false_beq]), hT, h5.base g5, h9.base g9⟩
      · intro b5
        refine eff_lit (n := 0) (vs := []) Ty.el31 rfl rfl (by simp) (by omega) ?_
        intro p2 w2 h2 t2 f2
        have g2 := f2.anti hT
        replace hT := hT.trans t2
        try replace h6 := h6.mono t2
        (simp only [go_sem, vc_block_seq, vc_block_region, vc_block_cond, vc_block_block, Nat.reduceBEq, Nat.reduceAdd, Nat.reduceLeDiff, Nat.reduceEqDiff, Int.reduceAdd, Int.reduceBEq, Int.reduceBNe, reduceCtorEq, beq_self_eq_true, Bool.true_beq, Bool.false_beq]; repeat ((with_reducible refine leK_refl ?_); simp only [go_sem, vc_block_seq, vc_block_region, vc_block_cond, vc_block_block, Nat.reduceBEq, Nat.reduceAdd, Nat.reduceLeDiff, Nat.reduceEqDiff, Int.reduceAdd, Int.reduceBEq, Int.reduceBNe, reduceCtorEq, beq_self_eq_true, Bool.true_beq, Bool.false_beq]))
        refine eff_append0f hT g2 Ty.el31 h2 (ov.sl.mono hT) hV5o (by omega) (by omega) ?_
        intro p5 c5 w5 h5 g5 t5
        replace hT := hT.trans t5
        try replace h6 := h6.mono t5
        (simp only [go_sem, vc_block_seq, vc_block_region, vc_block_cond, vc_block_block, Nat.reduceBEq, Nat.reduceAdd, Nat.reduceLeDiff, Nat.reduceEqDiff, Int.reduceAdd, Int.reduceBEq, Int.reduceBNe, reduceCtorEq, beq_self_eq_true, Bool.true_beq, Bool.false_beq]; repeat ((with_reducible refine leK_refl ?_); simp only [go_sem, vc_block_seq, vc_block_region, vc_block_cond, vc_block_block, Nat.reduceBEq, Nat.reduceAdd, Nat.reduceLeDiff, Nat.reduceEqDiff, Int.reduceAdd, Int.reduceBEq, Int.reduceBNe, reduceCtorEq, beq_self_eq_true, Bool.true_beq, Bool.false_beq]))
        refine eff_append0f hT g6 Ty.el32 h6 (od.sl.mono hT) hD5o (by omega) (by omega) ?_
        intro p9 c9 w9 h9 g9 t9
        replace hT := hT.trans t9
        try replace h5 := h5.mono t9
        (simp only [go_sem, vc_block_seq, vc_block_region, vc_block_cond, vc_block_block, Nat.reduceBEq, Nat.reduceAdd, Nat.reduceLeDiff, Nat.reduceEqDiff, Int.reduceAdd, Int.reduceBEq, Int.reduceBNe, reduceCtorEq, beq_self_eq_true, Bool.true_beq, Bool.false_beq]; repeat ((with_reducible refine leK_refl ?_); simp only [go_sem, vc_block_seq, vc_block_region, vc_block_cond, vc_block_block, Nat.reduceBEq, Nat.reduceAdd, Nat.reduceLeDiff, Nat.reduceEqDiff, Int.reduceAdd, Int.reduceBEq, Int.reduceBNe, reduceCtorEq, beq_self_eq_true, Bool.true_beq, Bool.false_beq]))
        exact ⟨((p5, c5), (p9, c9), b5), le_chk (by simp only [go_sem, vc_block_seq, vc_block_region, vc_block_cond, vc_block_block, Nat.reduceBEq, Nat.reduceAdd, Nat.reduceLeDiff, Nat.reduceEqDiff, Int.reduceAdd, Int.reduceBEq, Int.reduceBNe, reduceCtorEq, beq_self_eq_true, Bool.true_beq, Bool.false_beq]), hT, h5.base g5, h9.base g9⟩
    · intro b5
      refine ⟨?_, ?_⟩
      · refine eff_lit (n := 0) (vs := []) Ty.el31 rfl rfl (by simp) (by omega) ?_
        intro p2 w2 h2 t2 f2
        have g2 := f2.anti hT
        replace hT := hT.trans t2
        try replace h6 := h6.mono t2
        (simp only [go_sem, vc_block_seq, vc_block_region, vc_block_cond, vc_block_block, Nat.reduceBEq, Nat.reduceAdd, Nat.reduceLeDiff, Nat.reduceEqDiff, Int.reduceAdd, Int.reduceBEq, Int.reduceBNe, reduceCtorEq, beq_self_eq_true, Bool.true_beq, Bool.false_beq]; repeat ((with_reducible refine leK_refl ?_); simp only [go_sem, vc_block_seq, vc_block_region, vc_block_cond, vc_block_block, Nat.reduceBEq, Nat.reduceAdd, Nat.reduceLeDiff, Nat.reduceEqDiff, Int.reduceAdd, Int.reduceBEq, Int.reduceBNe, reduceCtorEq, beq_self_eq_true, Bool.true_beq, Bool.false_beq]))
        refine ⟨?_, ?_⟩
        · refine eff_append0f hT g2 Ty.el31 h2 (ov.sl.mono hT) hV5o (by omega) (by omega) ?_
          intro p5 c5 w5 h5 g5 t5
          replace hT := hT.trans t5
          try replace h6 := h6.mono t5
          (simp only [go_sem, vc_block_seq, vc_block_region, vc_block_cond, vc_block_block, Nat.reduceBEq, Nat.reduceAdd, Nat.reduceLeDiff, Nat.reduceEqDiff, Int.reduceAdd, Int.reduceBEq, Int.reduceBNe, reduceCtorEq, beq_self_eq_true, Bool.true_beq, Bool.false_beq]; repeat ((with_reducible refine leK_refl ?_); simp only [go_sem, vc_block_seq, vc_block_region, vc_block_cond, vc_block_block, Nat.reduceBEq, Nat.reduceAdd, Nat.reduceLeDiff, Nat.reduceEqDiff, Int.reduceAdd, Int.reduceBEq, Int.reduceBNe, reduceCtorEq, beq_self_eq_true, Bool.true_beq, Bool.false_beq]))
          refine eff_lit (n := 0) (vs := []) Ty.el32 rfl rfl (by simp) (by omega) ?_
          intro p6 w6 h6 t6 f6
          have g6 := f6.anti hT
          replace hT := hT.trans t6
          try replace h5 := h5.mono t6
          try replace h2 := h2.mono t6
          (simp only [go_sem, vc_block_seq, vc_block_region, vc_block_cond, vc_block_block, Nat.reduceBEq, Nat.reduceAdd, Nat.reduceLeDiff, Nat.reduceEqDiff, Int.reduceAdd, Int.reduceBEq, Int.reduceBNe, reduceCtorEq, beq_self_eq_true, Bool.true_beq, Bool.false_beq]; repeat ((with_reducible refine leK_refl ?_); simp only [go_sem, vc_block_seq, vc_block_region, vc_block_cond, vc_block_block, Nat.reduceBEq, Nat.reduceAdd, Nat.reduceLeDiff, Nat.reduceEqDiff, Int.reduceAdd, Int.reduceBEq, Int.reduceBNe, reduceCtorEq, beq_self_eq_true, Bool.true_beq, Bool.false_beq]))
          refine eff_append0f hT g6 Ty.el32 h6 (od.sl.mono hT) hD5o (by omega) (by omega) ?_
          intro p9 c9 w9 h9 g9 t9
          replace hT := hT.trans t9
          try replace h5 := h5.mono t9
          (simp only [go_sem, vc_block_seq, vc_block_region, vc_block_cond, vc_block_block, Nat.reduceBEq, Nat.reduceAdd, Nat.reduceLeDiff, Nat.reduceEqDiff, Int.reduceAdd, Int.reduceBEq, Int.reduceBNe, reduceCtorEq, beq_self_eq_true, Bool.true_beq, Bool.false_beq]; repeat ((with_reducible refine leK_refl ?_); simp only [go_sem, vc_block_seq, vc_block_region, vc_block_cond, vc_block_block, Nat.reduceBEq, Nat.reduceAdd, Nat.reduceLeDiff, Nat.reduceEqDiff, Int.reduceAdd, Int.reduceBEq, Int.reduceBNe, reduceCtorEq, beq_self_eq_true, Bool.true_beq, Bool.false_beq]))
          exact ⟨((p5, c5), (p9, c9), b5), le_chk (by simp only [go_sem, vc_block_seq, vc_block_region, vc_block_cond, vc_block_block, Nat.reduceBEq, Nat.reduceAdd, Nat.reduceLeDiff, Nat.reduceEqDiff, Int.reduceAdd, Int.reduceBEq, Int.reduceBNe, reduceCtorEq, beq_self_eq_true, Bool.true_beq, Bool.false_beq]), hT, h5.base g5, h9.base g9⟩
        · refine eff_lit (n := 0) (vs := []) Ty.el32 rfl rfl (by simp) (by omega) ?_
          intro p6 w6 h6 t6 f6
          have g6 := f6.anti hT
          replace hT := hT.trans t6
          try replace h5 := h5.mono t6
          try replace h2 := h2.mono t6
          (simp only [go_sem, vc_block_seq, vc_block_region, vc_block_cond, vc_block_block, Nat.reduceBEq, Nat.reduceAdd, Nat.reduceLeDiff, Nat.reduceEqDiff, Int.reduceAdd, Int.reduceBEq, Int.reduceBNe, reduceCtorEq, beq_self_eq_true, Bool.true_beq, Bool.false_beq]; repeat ((with_reducible refine leK_refl ?_); simp only [go_sem, vc_block_seq, vc_block_region, vc_block_cond, vc_block_block, Nat.reduceBEq, Nat.reduceAdd, Nat.reduceLeDiff, Nat.reduceEqDiff, Int.reduceAdd, Int.reduceBEq, Int.reduceBNe, reduceCtorEq, beq_self_eq_true, Bool.true_beq, Bool.false_beq]))
          refine eff_append0f hT g2 Ty.el31 h2 (ov.sl.mono hT) hV5o (by omega) (by omega) ?_
          intro p5 c5 w5 h5 g5 t5
          replace hT := hT.trans t5
          try replace h6 := h6.mono t5
          (simp only [go_sem, vc_block_seq, vc_block_region, vc_block_cond, vc_block_block, Nat.reduceBEq, Nat.reduceAdd, Nat.reduceLeDiff, Nat.reduceEqDiff, Int.reduceAdd, Int.reduceBEq, Int.reduceBNe, reduceCtorEq, beq_self_eq_true, Bool.true_beq, Bool.false_beq]; repeat ((with_reducible refine leK_refl ?_); simp only [go_sem, vc_block_seq, vc_block_region, vc_block_cond, vc_block_block, Nat.reduceBEq, Nat.reduceAdd, Nat.reduceLeDiff, Nat.reduceEqDiff, Int.reduceAdd, Int.reduceBEq, Int.reduceBNe, reduceCtorEq, beq_self_eq_true, Bool.true_beq, Bool.false_beq]))
          refine eff_append0f hT g6 Ty.el32 h6 (od.sl.mono hT) hD5o (by omega) (by omega) ?_
          intro p9 c9 w9 h9 g9 t9
          replace hT := hT.trans t9
          try replace h5 := h5.mono t9
          (simp only [go_sem, vc_block_seq, vc_block_region, vc_block_cond, vc_block_block, Nat.reduceBEq, Nat.reduceAdd, Nat.reduceLeDiff, Nat.reduceEqDiff, Int.reduceAdd, Int.reduceBEq, Int.reduceBNe, reduceCtorEq, beq_self_eq_true, Bool.true_beq, Bool.false_beq]; repeat ((with_reducible refine leK_refl ?_); simp only [go_sem, vc_block_seq, vc_block_region, vc_block_cond, vc_block_block, Nat.reduceBEq, Nat.reduceAdd, Nat.reduceLeDiff, Nat.reduceEqDiff, Int.reduceAdd, Int.reduceBEq, Int.reduceBNe, reduceCtorEq, beq_self_eq_true, Bool.true_beq, Bool.false_beq]))
          exact ⟨((p5, c5), (p9, c9), b5), le_chk (by simp only [go_sem, vc_block_seq, vc_block_region, vc_block_cond, vc_block_block, Nat.reduceBEq, Nat.reduceAdd, Nat.reduceLeDiff, Nat.reduceEqDiff, Int.reduceAdd, Int.reduceBEq, Int.reduceBNe, reduceCtorEq, beq_self_eq_true, Bool.true_beq, Bool.false_beq]), hT, h5.base g5, h9.base g9⟩
      · refine eff_lit (n := 0) (vs := []) Ty.el32 rfl rfl (by simp) (by omega) ?_
        intro p6 w6 h6 t6 f6
        have g6 := f6.anti hT
        replace hT := hT.trans t6
        try replace h5 := h5.mono t6
        try replace h2 := h2.mono t6
        (simp only [go_sem, vc_block_seq, vc_block_region, vc_block_cond, vc_block_block, Nat.reduceBEq, Nat.reduceAdd, Nat.reduceLeDiff, Nat.reduceEqDiff, Int.reduceAdd, Int.reduceBEq, Int.reduceBNe, reduceCtorEq, beq_self_eq_true, Bool.true_beq, Bool.false_beq]; repeat ((with_reducible refine leK_refl ?_); simp only [go_sem, vc_block_seq, vc_block_region, vc_block_cond, vc_block_block, Nat.reduceBEq, Nat.reduceAdd, Nat.reduceLeDiff, Nat.reduceEqDiff, Int.reduceAdd, Int.reduceBEq, Int.reduceBNe, reduceCtorEq, beq_self_eq_true, Bool.true_beq, Bool.false_beq]))
        refine eff_lit (n := 0) (vs := []) Ty.el31 rfl rfl (by simp) (by omega) ?_
        intro p2 w2 h2 t2 f2
        have g2 := f2.anti hT
        replace hT := hT.trans t2
        try replace h6 := h6.mono t2
        (simp only [go_sem, vc_block_seq, vc_block_region, vc_block_cond, vc_block_block, Nat.reduceBEq, Nat.reduceAdd, Nat.reduceLeDiff, Nat.reduceEqDiff, Int.reduceAdd, Int.reduceBEq, Int.reduceBNe, reduceCtorEq, beq_self_eq_true, Bool.true_beq, Bool.false_beq]; repeat ((with_reducible refine leK_refl ?_); simp only [go_sem, vc_block_seq, vc_block_region, vc_block_cond, vc_block_block, Nat.reduceBEq, Nat.reduceAdd, Nat.reduceLeDiff, Nat.reduceEqDiff, Int.reduceAdd, Int.reduceBEq, Int.reduceBNe, reduceCtorEq, beq_self_eq_true, Bool.true_beq, Bool.false_beq]))
        refine eff_append0f hT g2 Ty.el31 h2 (ov.sl.mono hT) hV5o (by omega) (by omega) ?_
        intro p5 c5 w5 h5 g5 t5
        replace hT := hT.trans t5
        try replace h6 := h6.mono t5
        (simp only [go_sem, vc_block_seq, vc_block_region, vc_block_cond, vc_block_block, Nat.reduceBEq, Nat.reduceAdd, Nat.reduceLeDiff, Nat.reduceEqDiff, Int.reduceAdd, Int.reduceBEq, Int.reduceBNe, reduceCtorEq, beq_self_eq_true, Bool.true_beq, Bool.false_beq]; repeat ((with_reducible refine leK_refl ?_); simp only [go_sem, vc_block_seq, vc_block_region, vc_block_cond, vc_block_block, Nat.reduceBEq, Nat.reduceAdd, Nat.reduceLeDiff, Nat.reduceEqDiff, Int.reduceAdd, Int.reduceBEq, Int.reduceBNe, reduceCtorEq, beq_self_eq_true, Bool.true_beq, Bool.false_beq]))
        refine eff_append0f hT g6 Ty.el32 h6 (od.sl.mono hT) hD5o (by omega) (by omega) ?_
        intro p9 c9 w9 h9 g9 t9
        replace hT := hT.trans t9
        try replace h5 := h5.mono t9
        (simp only [go_sem, vc_block_seq, vc_block_region, vc_block_cond, vc_block_block, Nat.reduceBEq, Nat.reduceAdd, Nat.reduceLeDiff, Nat.reduceEqDiff, Int.reduceAdd, Int.reduceBEq, Int.reduceBNe, reduceCtorEq, beq_self_eq_true, Bool.true_beq, Bool.false_beq]; repeat ((with_reducible refine leK_refl ?_); simp only [go_sem, vc_block_seq, vc_block_region, vc_block_cond, vc_block_block, Nat.reduceBEq, Nat.reduceAdd, Nat.reduceLeDiff, Nat.reduceEqDiff, Int.reduceAdd, Int.reduceBEq, Int.reduceBNe, reduceCtorEq, beq_self_eq_true, Bool.true_beq, Bool.false_beq]))
        exact ⟨((p5, c5), (p9, c9), b5), le_chk (by simp only [go_sem, vc_block_seq, vc_block_region, vc_block_cond, vc_block_block, Nat.reduceBEq, Nat.reduceAdd, Nat.reduceLeDiff, Nat.reduceEqDiff, Int.reduceAdd, Int.reduceBEq, Int.reduceBNe, reduceCtorEq, beq_self_eq_true, Bool.true_beq, Bool.false_beq]), hT, h5.base g5, h9.base g9⟩
  rintro ⟨⟨pw, cw⟩, ⟨px, cx⟩, b5⟩ u5 ⟨hs5, ow, ox⟩
  simp only at ow ox ⊢
  have vl5 : V5 = (e.g.vals ++ [5]).map encI := by rw [hV5, ← hV, List.map_append]; rfl
  have dl5 : D5 = (e.g.data ++ [5]).map encB := by rw [hD5, ← hD, List.map_append]; rfl
  have vsl : (e.g.vals ++ [5]).length ≤ 1000 := by rw [vl5] at vlen; simp at vlen ⊢; omega
  have dsl : (e.g.data ++ [5]).length ≤ 1000 := by rw [dl5] at dlen; simp at dlen ⊢; omega
  clear hV5 hD5
  subst vl5 dl5
  generalize e.g.vals ++ [5] = vs at *
  generalize e.g.data ++ [5] = ds at *
  have su5 : Sub u u5 := hs4.trans hs5
  have hE5 : There u5 (EvK.parts ⟨⟨e.g.id, vs, ds⟩, pv, e.n + 1, cv, pd, e.m + 1, cd⟩) := ev_there (ov.sl.mono hs5) (od.sl.mono hs5)
  have hO5 := ho.mono su5
  have e5 : es (PB.mk 2 none 0 0 []).l = [] := rfl
  obtain ⟨po1, po2⟩ := put_one ⟨e.g.id, vs, ds⟩
  obtain ⟨pt1, pt2⟩ := put_two (g := ⟨e.g.id, vs, ds⟩) (h := o.g) hid
  generalize hL2 : bPut [⟨e.g.id, vs, ds⟩] 2 o.g = L2 at pt2
  obtain ⟨gt1, gt2⟩ := get_two (g := ⟨e.g.id, vs, ds⟩) (h := o.g) hid pt2
  obtain ⟨go1, go2⟩ := get_one ⟨e.g.id, vs, ds⟩
  have ov5 := ov.mono hs5
  have od5 := od.mono hs5
  have ov6 := ov5
  have od6 := od5
  have on8 := ev_nlen ho
  have om8 := ev_mlen ho
  (simp only [go_sem, vc_block_seq, vc_block_region, vc_block_cond, vc_block_block, Nat.reduceBEq, Nat.reduceAdd, Nat.reduceLeDiff, Nat.reduceEqDiff, Int.reduceAdd, Int.reduceBEq, Int.reduceBNe, reduceCtorEq, beq_self_eq_true, Bool.true_beq, Bool.false_beq]; repeat ((with_reducible refine leK_refl ?_); simp only [go_sem, vc_block_seq, vc_block_region, vc_block_cond, vc_block_block, Nat.reduceBEq, Nat.reduceAdd, Nat.reduceLeDiff, Nat.reduceEqDiff, Int.reduceAdd, Int.reduceBEq, Int.reduceBNe, reduceCtorEq, beq_self_eq_true, Bool.true_beq, Bool.false_beq]))
  have hS : Sub u5 u5 := Sub.refl _
  refine AtCall.of_spec (put_ok ⟨2, none, 0, 0, []⟩ ⟨⟨e.g.id, vs, ds⟩, pv, e.n + 1, cv, pd, e.m + 1, cd⟩ _ [] ⟨EL.nil_ _ _, Nat.zero_le _, by simp⟩ hE5 (by simp only []; omega) (by simp only []; omega) rfl rfl po1) ?_
  rintro r W4 H4 ⟨⟨room1, bp, bn, bc, bl⟩, rfl, hr1, ob, eb⟩
  replace hS := hS.trans H4
  replace hO5 := hO5.mono H4
  replace ov6 := ov6.mono H4
  replace od6 := od6.mono H4
  replace ow := ow.mono H4
  replace ox := ox.mono H4
  (simp only [go_sem, vc_block_seq, vc_block_region, vc_block_cond, vc_block_block, Nat.reduceBEq, Nat.reduceAdd, Nat.reduceLeDiff, Nat.reduceEqDiff, Int.reduceAdd, Int.reduceBEq, Int.reduceBNe, reduceCtorEq, beq_self_eq_true, Bool.true_beq, Bool.false_beq]; repeat ((with_reducible refine leK_refl ?_); simp only [go_sem, vc_block_seq, vc_block_region, vc_block_cond, vc_block_block, Nat.reduceBEq, Nat.reduceAdd, Nat.reduceLeDiff, Nat.reduceEqDiff, Int.reduceAdd, Int.reduceBEq, Int.reduceBNe, reduceCtorEq, beq_self_eq_true, Bool.true_beq, Bool.false_beq]))
  simp only at hr1 ob eb
  subst hr1
  rw [po2] at eb
  intro b6
  have hS6 := hS
  obtain ⟨u6, hu6⟩ : ∃ u6, u6 = W4 := ⟨_, rfl⟩
  have ov6' := ov6
  have od6' := od6
  have ow6 := ow
  have ox6 := ox
  have ob6 := ob
  rw [← hu6] at ov6' od6' ow6 ox6 ob6 hS6
  refine AtCall.of_spec (put_ok ⟨2, bp, bn, bc, bl⟩ o _ _ (bl_eo ob eb (by simp) (by simp; exact ⟨vsl, dsl⟩)) hO5 (by omega) (by omega) eb rfl pt1) ?_
  rintro r W5 H5 ⟨⟨room2, cp, cn, cc, cl⟩, rfl, hr2, oc, ec⟩
  replace hS := hS.trans H5
  replace hO5 := hO5.mono H5
  replace ov6 := ov6.mono H5
  replace od6 := od6.mono H5
  replace ow := ow.mono H5
  replace ox := ox.mono H5
  replace ob := ob.mono H5
  (simp only [go_sem, vc_block_seq, vc_block_region, vc_block_cond, vc_block_block, Nat.reduceBEq, Nat.reduceAdd, Nat.reduceLeDiff, Nat.reduceEqDiff, Int.reduceAdd, Int.reduceBEq, Int.reduceBNe, reduceCtorEq, beq_self_eq_true, Bool.true_beq, Bool.false_beq]; repeat ((with_reducible refine leK_refl ?_); simp only [go_sem, vc_block_seq, vc_block_region, vc_block_cond, vc_block_block, Nat.reduceBEq, Nat.reduceAdd, Nat.reduceLeDiff, Nat.reduceEqDiff, Int.reduceAdd, Int.reduceBEq, Int.reduceBNe, reduceCtorEq, beq_self_eq_true, Bool.true_beq, Bool.false_beq]))
  simp only at hr2 oc ec
  subst hr2
  rw [hL2] at ec
  rw [← hu6] at oc
  intro b8
  have s67 : Sub u6 W5 := by rw [hu6]; exact H5
  have s06 : Sub u u6 := su5.trans hS6
  obtain ⟨U7, hU7⟩ : ∃ U, U = forget (forget W5 pv) pd := ⟨_, rfl⟩
  obtain ⟨U6, hU6⟩ : ∃ U, U = forget (forget u6 pv) pd := ⟨_, rfl⟩
  have sU7 : Sub U7 W5 := by rw [hU7]; exact (forget_sub _ _).trans (forget_sub _ _)
  have sU6 : Sub U6 u6 := by rw [hU6]; exact (forget_sub _ _).trans (forget_sub _ _)
  have sUU : Sub U6 U7 := by rw [hU6, hU7]; exact forget_mono (forget_mono s67 _) _
  have h06 : Sub u U6 := by rw [hU6]; exact forget_of (forget_of s06 ov.fresh) od.fresh
  have h07 : Sub u U7 := h06.trans sUU
  have fv : FreshP U7 pv := by rw [hU7]; exact (forget_fresh _ pv).anti (forget_sub _ _)
  have fd : FreshP U7 pd := by rw [hU7]; exact forget_fresh _ pd
  have oc7 : EO EvK u6 U7 cp cn cc cl := by rw [hU7]; exact (oc.forget ov6' (Sub.refl _)).forget od6' (Sub.refl _)
  have ob7 : EO EvK u5 U6 bp bn bc bl := by rw [hU6]; exact (ob6.forget ov5 (Sub.refl _)).forget od5 (Sub.refl _)
  have ow7 : Eng.Own u4 U6 21 1 pw (e.n + 1) cw (vs.map encI) := by rw [hU6]; exact (ow6.forget ov (Sub.refl _)).forget od (Sub.refl _)
  have ox7 : Eng.Own u4 U6 5 1 px (e.m + 1) cx (ds.map encB) := by rw [hU6]; exact (ox6.forget ov (Sub.refl _)).forget od (Sub.refl _)
  generalize hR : RW 21 5 [(pv, e.n + 1, cv)] [(pd, e.m + 1, cd)] = R
  have A7 : AllW U7 W5 R := by
    rw [← hR]
    exact RW.all (fun t ht => by simp at ht; subst ht; exact ⟨_, ov6.base fv⟩) (fun t ht => by simp at ht; subst ht; exact ⟨_, od6.base fd⟩)
  have C7 : Coh R := by rw [← hR]; exact RW.coh (by decide)
  have rI : R ⟨kI 21, pv, e.n + 1, cv⟩ := by rw [← hR]; exact .inl ⟨rfl, by simp⟩
  have rB : R ⟨kB 5, pd, e.m + 1, cd⟩ := by rw [← hR]; exact .inr ⟨rfl, by simp⟩
  clear hR hU7 hU6 ov6 od6 ow ox ob oc ov6' od6' ow6 ox6 ob6 ov5 od5 ov od
  refine vc_range (e.n + 1) (fun (_ : Unit) => []) (fun _ => []) (fun j _ u' => AllW U7 u' R ∧ Sub U7 u') () (le_chk (by simp only [go_sem, vc_block_seq, vc_block_region, vc_block_cond, vc_block_block, Nat.reduceBEq, Nat.reduceAdd, Nat.reduceLeDiff, Nat.reduceEqDiff, Int.reduceAdd, Int.reduceBEq, Int.reduceBNe, reduceCtorEq, beq_self_eq_true, Bool.true_beq, Bool.false_beq])) ⟨A7, sU7⟩ (fun _ _ => rfl) (by omega) (fun _ => rfl) ?_ ?_
  · rintro j _ v1 hj ⟨hA1, hs1⟩
    obtain ⟨xs, x, hx1, hx2, a, rfl⟩ := (hA1 _ rI).at_ (i := j) hj
    (simp only [go_sem, vc_block_seq, vc_block_region, vc_block_cond, vc_block_block, Nat.reduceBEq, Nat.reduceAdd, Nat.reduceLeDiff, Nat.reduceEqDiff, Int.reduceAdd, Int.reduceBEq, Int.reduceBNe, reduceCtorEq, beq_self_eq_true, Bool.true_beq, Bool.false_beq]; repeat ((with_reducible refine leK_refl ?_); simp only [go_sem, vc_block_seq, vc_block_region, vc_block_cond, vc_block_block, Nat.reduceBEq, Nat.reduceAdd, Nat.reduceLeDiff, Nat.reduceEqDiff, Int.reduceAdd, Int.reduceBEq, Int.reduceBNe, reduceCtorEq, beq_self_eq_true, Bool.true_beq, Bool.false_beq]))
    refine ⟨⟨hx1.sl.some_ hj, by omega, by omega⟩, ?_⟩
    refine hx1.sl.load hx2 (.inl rfl) (Nat.le_of_ble_eq_true rfl) ?_
    (simp only [go_sem, vc_block_seq, vc_block_region, vc_block_cond, vc_block_block, Nat.reduceBEq, Nat.reduceAdd, Nat.reduceLeDiff, Nat.reduceEqDiff, Int.reduceAdd, Int.reduceBEq, Int.reduceBNe, reduceCtorEq, beq_self_eq_true, Bool.true_beq, Bool.false_beq]; repeat ((with_reducible refine leK_refl ?_); simp only [go_sem, vc_block_seq, vc_block_region, vc_block_cond, vc_block_block, Nat.reduceBEq, Nat.reduceAdd, Nat.reduceLeDiff, Nat.reduceEqDiff, Int.reduceAdd, Int.reduceBEq, Int.reduceBNe, reduceCtorEq, beq_self_eq_true, Bool.true_beq, Bool.false_beq]))
    rw [arith_any]
    (simp only [go_sem, vc_block_seq, vc_block_region, vc_block_cond, vc_block_block, Nat.reduceBEq, Nat.reduceAdd, Nat.reduceLeDiff, Nat.reduceEqDiff, Int.reduceAdd, Int.reduceBEq, Int.reduceBNe, reduceCtorEq, beq_self_eq_true, Bool.true_beq, Bool.false_beq]; repeat ((with_reducible refine leK_refl ?_); simp only [go_sem, vc_block_seq, vc_block_region, vc_block_cond, vc_block_block, Nat.reduceBEq, Nat.reduceAdd, Nat.reduceLeDiff, Nat.reduceEqDiff, Int.reduceAdd, Int.reduceBEq, Int.reduceBNe, reduceCtorEq, beq_self_eq_true, Bool.true_beq, Bool.false_beq]))
    refine ⟨⟨hx1.sl.some_ hj, by omega, by omega⟩, ?_⟩
    refine wr_store (r := ⟨kI 21, pv, e.n + 1, cv⟩) Ty.lay21 hA1 C7 rI hj rfl (Nat.le_of_ble_eq_true rfl) rfl ?_ h07 hs1 ?_
    · rintro z ⟨a, rfl⟩
      exact ⟨_, splice_1⟩
    intro v2 hA2 hs2 _
    (simp only [go_sem, vc_block_seq, vc_block_region, vc_block_cond, vc_block_block, Nat.reduceBEq, Nat.reduceAdd, Nat.reduceLeDiff, Nat.reduceEqDiff, Int.reduceAdd, Int.reduceBEq, Int.reduceBNe, reduceCtorEq, beq_self_eq_true, Bool.true_beq, Bool.false_beq]; repeat ((with_reducible refine leK_refl ?_); simp only [go_sem, vc_block_seq, vc_block_region, vc_block_cond, vc_block_block, Nat.reduceBEq, Nat.reduceAdd, Nat.reduceLeDiff, Nat.reduceEqDiff, Int.reduceAdd, Int.reduceBEq, Int.reduceBNe, reduceCtorEq, beq_self_eq_true, Bool.true_beq, Bool.false_beq]))
    exact ⟨(), le_chk (by simp only [go_sem, vc_block_seq, vc_block_region, vc_block_cond, vc_block_block, Nat.reduceBEq, Nat.reduceAdd, Nat.reduceLeDiff, Nat.reduceEqDiff, Int.reduceAdd, Int.reduceBEq, Int.reduceBNe, reduceCtorEq, beq_self_eq_true, Bool.true_beq, Bool.false_beq]), hA2, hs2⟩
  rintro _ v1 ⟨hA1, hs1⟩
  (simp only [go_sem, vc_block_seq, vc_block_region, vc_block_cond, vc_block_block, Nat.reduceBEq, Nat.reduceAdd, Nat.reduceLeDiff, Nat.reduceEqDiff, Int.reduceAdd, Int.reduceBEq, Int.reduceBNe, reduceCtorEq, beq_self_eq_true, Bool.true_beq, Bool.false_beq]; repeat ((with_reducible refine leK_refl ?_); simp only [go_sem, vc_block_seq, vc_block_region, vc_block_cond, vc_block_block, Nat.reduceBEq, Nat.reduceAdd, Nat.reduceLeDiff, Nat.reduceEqDiff, Int.reduceAdd, Int.reduceBEq, Int.reduceBNe, reduceCtorEq, beq_self_eq_true, Bool.true_beq, Bool.false_beq]))
  refine vc_range (e.m + 1) (fun (_ : Unit) => []) (fun _ => []) (fun j _ u' => AllW U7 u' R ∧ Sub U7 u') () (le_chk (by simp only [go_sem, vc_block_seq, vc_block_region, vc_block_cond, vc_block_block, Nat.reduceBEq, Nat.reduceAdd, Nat.reduceLeDiff, Nat.reduceEqDiff, Int.reduceAdd, Int.reduceBEq, Int.reduceBNe, reduceCtorEq, beq_self_eq_true, Bool.true_beq, Bool.false_beq])) ⟨hA1, hs1⟩ (fun _ _ => rfl) (by omega) (fun _ => rfl) ?_ ?_
  · rintro j _ v1 hj ⟨hA1, hs1⟩
    obtain ⟨xs, x, hx1, hx2, a, rfl⟩ := (hA1 _ rB).at_ (i := j) hj
    (simp only [go_sem, vc_block_seq, vc_block_region, vc_block_cond, vc_block_block, Nat.reduceBEq, Nat.reduceAdd, Nat.reduceLeDiff, Nat.reduceEqDiff, Int.reduceAdd, Int.reduceBEq, Int.reduceBNe, reduceCtorEq, beq_self_eq_true, Bool.true_beq, Bool.false_beq]; repeat ((with_reducible refine leK_refl ?_); simp only [go_sem, vc_block_seq, vc_block_region, vc_block_cond, vc_block_block, Nat.reduceBEq, Nat.reduceAdd, Nat.reduceLeDiff, Nat.reduceEqDiff, Int.reduceAdd, Int.reduceBEq, Int.reduceBNe, reduceCtorEq, beq_self_eq_true, Bool.true_beq, Bool.false_beq]))
    refine ⟨⟨hx1.sl.some_ hj, by omega, by omega⟩, ?_⟩
    refine hx1.sl.load hx2 (.inl rfl) (Nat.le_of_ble_eq_true rfl) ?_
    (simp only [go_sem, vc_block_seq, vc_block_region, vc_block_cond, vc_block_block, Nat.reduceBEq, Nat.reduceAdd, Nat.reduceLeDiff, Nat.reduceEqDiff, Int.reduceAdd, Int.reduceBEq, Int.reduceBNe, reduceCtorEq, beq_self_eq_true, Bool.true_beq, Bool.false_beq]; repeat ((with_reducible refine leK_refl ?_); simp only [go_sem, vc_block_seq, vc_block_region, vc_block_cond, vc_block_block, Nat.reduceBEq, Nat.reduceAdd, Nat.reduceLeDiff, Nat.reduceEqDiff, Int.reduceAdd, Int.reduceBEq, Int.reduceBNe, reduceCtorEq, beq_self_eq_true, Bool.true_beq, Bool.false_beq]))
    rw [arith_any]
    (simp only [go_sem, vc_block_seq, vc_block_region, vc_block_cond, vc_block_block, Nat.reduceBEq, Nat.reduceAdd, Nat.reduceLeDiff, Nat.reduceEqDiff, Int.reduceAdd, Int.reduceBEq, Int.reduceBNe, reduceCtorEq, beq_self_eq_true, Bool.true_beq, Bool.false_beq]; repeat ((with_reducible refine leK_refl ?_); simp only [go_sem, vc_block_seq, vc_block_region, vc_block_cond, vc_block_block, Nat.reduceBEq, Nat.reduceAdd, Nat.reduceLeDiff, Nat.reduceEqDiff, Int.reduceAdd, Int.reduceBEq, Int.reduceBNe, reduceCtorEq, beq_self_eq_true, Bool.true_beq, Bool.false_beq]))
    refine ⟨⟨hx1.sl.some_ hj, by omega, by omega⟩, ?_⟩
    refine wr_store (r := ⟨kB 5, pd, e.m + 1, cd⟩) Ty.lay5 hA1 C7 rB hj rfl (Nat.le_of_ble_eq_true rfl) rfl ?_ h07 hs1 ?_
    · rintro z ⟨a, rfl⟩
      exact ⟨_, splice_1⟩
    intro v2 hA2 hs2 _
    (simp only [go_sem, vc_block_seq, vc_block_region, vc_block_cond, vc_block_block, Nat.reduceBEq, Nat.reduceAdd, Nat.reduceLeDiff, Nat.reduceEqDiff, Int.reduceAdd, Int.reduceBEq, Int.reduceBNe, reduceCtorEq, beq_self_eq_true, Bool.true_beq, Bool.false_beq]; repeat ((with_reducible refine leK_refl ?_); simp only [go_sem, vc_block_seq, vc_block_region, vc_block_cond, vc_block_block, Nat.reduceBEq, Nat.reduceAdd, Nat.reduceLeDiff, Nat.reduceEqDiff, Int.reduceAdd, Int.reduceBEq, Int.reduceBNe, reduceCtorEq, beq_self_eq_true, Bool.true_beq, Bool.false_beq]))
    exact ⟨(), le_chk (by simp only [go_sem, vc_block_seq, vc_block_region, vc_block_cond, vc_block_block, Nat.reduceBEq, Nat.reduceAdd, Nat.reduceLeDiff, Nat.reduceEqDiff, Int.reduceAdd, Int.reduceBEq, Int.reduceBNe, reduceCtorEq, beq_self_eq_true, Bool.true_beq, Bool.false_beq]), hA2, hs2⟩
  rintro _ v2 ⟨hA9, hs2⟩
  clear hA9 hA1 hs1 A7 C7 rI rB
  clear R
  (simp only [go_sem, vc_block_seq, vc_block_region, vc_block_cond, vc_block_block, Nat.reduceBEq, Nat.reduceAdd, Nat.reduceLeDiff, Nat.reduceEqDiff, Int.reduceAdd, Int.reduceBEq, Int.reduceBNe, reduceCtorEq, beq_self_eq_true, Bool.true_beq, Bool.false_beq]; repeat ((with_reducible refine leK_refl ?_); simp only [go_sem, vc_block_seq, vc_block_region, vc_block_cond, vc_block_block, Nat.reduceBEq, Nat.reduceAdd, Nat.reduceLeDiff, Nat.reduceEqDiff, Int.reduceAdd, Int.reduceBEq, Int.reduceBNe, reduceCtorEq, beq_self_eq_true, Bool.true_beq, Bool.false_beq]))
  have hS : Sub v2 v2 := Sub.refl _
  have ec1 : bHas (es (PB.mk 2 cp cn cc cl).l) (GEv.mk e.g.id vs ds).id = true := by rw [show es (PB.mk 2 cp cn cc cl).l = L2 from ec]; exact gt1
  have ec2 : bGet (es (PB.mk 2 cp cn cc cl).l) (GEv.mk e.g.id vs ds).id = ⟨e.g.id, vs, ds⟩ := by rw [show es (PB.mk 2 cp cn cc cl).l = L2 from ec]; exact gt2
  have eb1 : bHas (es (PB.mk 2 bp bn bc bl).l) (GEv.mk e.g.id vs ds).id = true := by rw [show es (PB.mk 2 bp bn bc bl).l = _ from eb]; exact go1
  have eb2 : bGet (es (PB.mk 2 bp bn bc bl).l) (GEv.mk e.g.id vs ds).id = ⟨e.g.id, vs, ds⟩ := by rw [show es (PB.mk 2 bp bn bc bl).l = _ from eb]; exact go2
  have L2s : ∀ x ∈ L2, x.vals.length ≤ 1000 ∧ x.data.length ≤ 1000 := by
    intro x hx
    rcases pt2 with h | h <;> rw [h] at hx <;> simp only [List.mem_cons, List.not_mem_nil, or_false] at hx <;> rcases hx with rfl | rfl <;> first | exact ⟨vsl, dsl⟩ | (constructor <;> omega)
  have L2n : L2.length ≤ 100000 := by rcases pt2 with h | h <;> rw [h] <;> simp
  have cBL : BL v2 100000 ⟨2, cp, cn, cc, cl⟩ := (bl_eo oc7 ec L2n L2s).mono hs2
  have bBL : BL U6 100000 ⟨2, bp, bn, bc, bl⟩ := bl_eo ob7 eb (by simp) (by simp; exact ⟨vsl, dsl⟩)
  have hW : There U6 (EvK.parts ⟨⟨e.g.id, vs, ds⟩, pw, e.n + 1, cw, px, e.m + 1, cx⟩) := ev_there ow7.sl ox7.sl
  have s62 : Sub U6 v2 := sUU.trans hs2
  refine AtCall.of_spec (get_ok ⟨2, cp, cn, cc, cl⟩ ⟨e.g.id, vs, ds⟩ _ cBL ec1 ec2) ?_
  rintro r W6 H6 ⟨⟨yg, yp, yn, yc, yq, ym, yd⟩, rfl, hy, oy⟩
  replace hS := hS.trans H6
  (simp only [go_sem, vc_block_seq, vc_block_region, vc_block_cond, vc_block_block, Nat.reduceBEq, Nat.reduceAdd, Nat.reduceLeDiff, Nat.reduceEqDiff, Int.reduceAdd, Int.reduceBEq, Int.reduceBNe, reduceCtorEq, beq_self_eq_true, Bool.true_beq, Bool.false_beq]; repeat ((with_reducible refine leK_refl ?_); simp only [go_sem, vc_block_seq, vc_block_region, vc_block_cond, vc_block_block, Nat.reduceBEq, Nat.reduceAdd, Nat.reduceLeDiff, Nat.reduceEqDiff, Int.reduceAdd, Int.reduceBEq, Int.reduceBNe, reduceCtorEq, beq_self_eq_true, Bool.true_beq, Bool.false_beq]))
  simp only at hy
  subst hy
  have yl1 := (ev_ownv oy).len
  have yl2 := (ev_ownd oy).len
  simp only [List.length_map] at yl1 yl2 vlen dlen
  have y1 : 0 < yn := by omega
  have y2 : 0 < ym := by omega
  intro b12
  have hSy := hS
  (simp only [go_sem, vc_block_seq, vc_block_region, vc_block_cond, vc_block_block, Nat.reduceBEq, Nat.reduceAdd, Nat.reduceLeDiff, Nat.reduceEqDiff, Int.reduceAdd, Int.reduceBEq, Int.reduceBNe, reduceCtorEq, beq_self_eq_true, Bool.true_beq, Bool.false_beq]; repeat ((with_reducible refine leK_refl ?_); simp only [go_sem, vc_block_seq, vc_block_region, vc_block_cond, vc_block_block, Nat.reduceBEq, Nat.reduceAdd, Nat.reduceLeDiff, Nat.reduceEqDiff, Int.reduceAdd, Int.reduceBEq, Int.reduceBNe, reduceCtorEq, beq_self_eq_true, Bool.true_beq, Bool.false_beq]))
  rw [arith_any, show IntKind.wrap .i64 0 = 0 from rfl]
  (simp only [go_sem, vc_block_seq, vc_block_region, vc_block_cond, vc_block_block, Nat.reduceBEq, Nat.reduceAdd, Nat.reduceLeDiff, Nat.reduceEqDiff, Int.reduceAdd, Int.reduceBEq, Int.reduceBNe, reduceCtorEq, beq_self_eq_true, Bool.true_beq, Bool.false_beq]; repeat ((with_reducible refine leK_refl ?_); simp only [go_sem, vc_block_seq, vc_block_region, vc_block_cond, vc_block_block, Nat.reduceBEq, Nat.reduceAdd, Nat.reduceLeDiff, Nat.reduceEqDiff, Int.reduceAdd, Int.reduceBEq, Int.reduceBNe, reduceCtorEq, beq_self_eq_true, Bool.true_beq, Bool.false_beq]))
  rw [arith_any, show IntKind.wrap .i64 0 = 0 from rfl]
  (simp only [go_sem, vc_block_seq, vc_block_region, vc_block_cond, vc_block_block, Nat.reduceBEq, Nat.reduceAdd, Nat.reduceLeDiff, Nat.reduceEqDiff, Int.reduceAdd, Int.reduceBEq, Int.reduceBNe, reduceCtorEq, beq_self_eq_true, Bool.true_beq, Bool.false_beq]; repeat ((with_reducible refine leK_refl ?_); simp only [go_sem, vc_block_seq, vc_block_region, vc_block_cond, vc_block_block, Nat.reduceBEq, Nat.reduceAdd, Nat.reduceLeDiff, Nat.reduceEqDiff, Int.reduceAdd, Int.reduceBEq, Int.reduceBNe, reduceCtorEq, beq_self_eq_true, Bool.true_beq, Bool.false_beq]))
  refine AtCall.of_spec (lsame_con ⟨⟨e.g.id, vs, ds⟩, yp, yn, yc, yq, ym, yd⟩ ⟨⟨e.g.id, vs, ds⟩, pw, e.n + 1, cw, px, e.m + 1, cx⟩ _ oy.there (hW.mono (s62.trans hS)) (by simp only []; omega) (by simp only []; omega)) ?_
  rintro r W7 H7 rfl
  replace hS := hS.trans H7
  replace oy := oy.mono H7
  (simp only [go_sem, vc_block_seq, vc_block_region, vc_block_cond, vc_block_block, Nat.reduceBEq, Nat.reduceAdd, Nat.reduceLeDiff, Nat.reduceEqDiff, Int.reduceAdd, Int.reduceBEq, Int.reduceBNe, reduceCtorEq, beq_self_eq_true, Bool.true_beq, Bool.false_beq]; repeat ((with_reducible refine leK_refl ?_); simp only [go_sem, vc_block_seq, vc_block_region, vc_block_cond, vc_block_block, Nat.reduceBEq, Nat.reduceAdd, Nat.reduceLeDiff, Nat.reduceEqDiff, Int.reduceAdd, Int.reduceBEq, Int.reduceBNe, reduceCtorEq, beq_self_eq_true, Bool.true_beq, Bool.false_beq]))
  rw [show decide True = true from rfl]
  (simp only [go_sem, vc_block_seq, vc_block_region, vc_block_cond, vc_block_block, Nat.reduceBEq, Nat.reduceAdd, Nat.reduceLeDiff, Nat.reduceEqDiff, Int.reduceAdd, Int.reduceBEq, Int.reduceBNe, reduceCtorEq, beq_self_eq_true, Bool.true_beq, Bool.false_beq]; repeat ((with_reducible refine leK_refl ?_); simp only [go_sem, vc_block_seq, vc_block_region, vc_block_cond, vc_block_block, Nat.reduceBEq, Nat.reduceAdd, Nat.reduceLeDiff, Nat.reduceEqDiff, Int.reduceAdd, Int.reduceBEq, Int.reduceBNe, reduceCtorEq, beq_self_eq_true, Bool.true_beq, Bool.false_beq]))
  generalize hR : RW 21 5 [(yp, yn, yc)] ((yq, ym, yd) :: cl.map fun z => (z.q, z.m, z.d)) = R
  have A9 : AllW U6 W7 R := by
    rw [← hR]
    refine RW.all (fun t ht => ?_) (fun t ht => ?_)
    · simp only [List.mem_cons, List.not_mem_nil, or_false] at ht
      subst ht
      exact ⟨vs, (ev_ownv oy).anti s62⟩
    · rcases List.mem_cons.1 ht with rfl | ht
      · exact ⟨ds, (ev_ownd oy).anti s62⟩
      · obtain ⟨z, hz, rfl⟩ := List.mem_map.1 ht
        exact ⟨z.g.data, ((ev_ownd (oc7.fl z hz)).mono (hs2.trans hS)).anti sU6⟩
  have C9 : Coh R := by rw [← hR]; exact RW.coh (by decide)
  have rI : R ⟨kI 21, yp, yn, yc⟩ := by rw [← hR]; exact .inl ⟨rfl, by simp⟩
  have rB : R ⟨kB 5, yq, ym, yd⟩ := by rw [← hR]; exact .inr ⟨rfl, by simp⟩
  have rC : ∀ z ∈ cl, R ⟨kB 5, z.q, z.m, z.d⟩ := fun z hz => by rw [← hR]; exact .inr ⟨rfl, List.mem_cons_of_mem _ (List.mem_map_of_mem hz)⟩
  have oc9 : Eng.Own U6 W7 34 5 cp cn cc (cl.map PE.enc) := ((oc7.own).mono (hs2.trans hS)).anti sU6
  have s9 : Sub U6 W7 := s62.trans hS
  clear hR
  have hcn : cn ≤ 2 := by
    have h1 := oc7.len
    have h2 := congrArg List.length ec
    simp only [es, List.length_map] at h2
    rcases pt2 with h | h <;> rw [h] at h2 <;> simp at h2 <;> omega
  obtain ⟨xs, x, hx1, hx2, a, rfl⟩ := (A9 _ rI).at_ (i := 0) y1
  refine ⟨⟨hx1.sl.some_ y1, by omega, by omega⟩, ?_⟩
  refine hx1.sl.load hx2 (.inl rfl) (Nat.le_of_ble_eq_true rfl) ?_
  (simp only [go_sem, vc_block_seq, vc_block_region, vc_block_cond, vc_block_block, Nat.reduceBEq, Nat.reduceAdd, Nat.reduceLeDiff, Nat.reduceEqDiff, Int.reduceAdd, Int.reduceBEq, Int.reduceBNe, reduceCtorEq, beq_self_eq_true, Bool.true_beq, Bool.false_beq]; repeat ((with_reducible refine leK_refl ?_); simp only [go_sem, vc_block_seq, vc_block_region, vc_block_cond, vc_block_block, Nat.reduceBEq, Nat.reduceAdd, Nat.reduceLeDiff, Nat.reduceEqDiff, Int.reduceAdd, Int.reduceBEq, Int.reduceBNe, reduceCtorEq, beq_self_eq_true, Bool.true_beq, Bool.false_beq]))
  rw [arith_any]
  (simp only [go_sem, vc_block_seq, vc_block_region, vc_block_cond, vc_block_block, Nat.reduceBEq, Nat.reduceAdd, Nat.reduceLeDiff, Nat.reduceEqDiff, Int.reduceAdd, Int.reduceBEq, Int.reduceBNe, reduceCtorEq, beq_self_eq_true, Bool.true_beq, Bool.false_beq]; repeat ((with_reducible refine leK_refl ?_); simp only [go_sem, vc_block_seq, vc_block_region, vc_block_cond, vc_block_block, Nat.reduceBEq, Nat.reduceAdd, Nat.reduceLeDiff, Nat.reduceEqDiff, Int.reduceAdd, Int.reduceBEq, Int.reduceBNe, reduceCtorEq, beq_self_eq_true, Bool.true_beq, Bool.false_beq]))
  refine ⟨⟨hx1.sl.some_ y1, by omega, by omega⟩, ?_⟩
  refine wr_store (r := ⟨kI 21, yp, yn, yc⟩) Ty.lay21 A9 C9 rI y1 rfl (Nat.le_of_ble_eq_true rfl) rfl ?_ h06 s9 ?_
  · rintro z ⟨a, rfl⟩
    exact ⟨_, splice_1⟩
  intro w1 A10 s10 keep
  have oc10 := keep ⟨⟨34, 5, fun _ => True⟩, cp, cn, cc⟩ (show (34 : Nat) ≠ 21 from by decide) _ oc9
  clear keep hx1 hx2 oc9 A9 s9
  obtain ⟨xs, x, hx1, hx2, a, rfl⟩ := (A10 _ rB).at_ (i := 0) y2
  (simp only [go_sem, vc_block_seq, vc_block_region, vc_block_cond, vc_block_block, Nat.reduceBEq, Nat.reduceAdd, Nat.reduceLeDiff, Nat.reduceEqDiff, Int.reduceAdd, Int.reduceBEq, Int.reduceBNe, reduceCtorEq, beq_self_eq_true, Bool.true_beq, Bool.false_beq]; repeat ((with_reducible refine leK_refl ?_); simp only [go_sem, vc_block_seq, vc_block_region, vc_block_cond, vc_block_block, Nat.reduceBEq, Nat.reduceAdd, Nat.reduceLeDiff, Nat.reduceEqDiff, Int.reduceAdd, Int.reduceBEq, Int.reduceBNe, reduceCtorEq, beq_self_eq_true, Bool.true_beq, Bool.false_beq]))
  refine ⟨⟨hx1.sl.some_ y2, by omega, by omega⟩, ?_⟩
  refine hx1.sl.load hx2 (.inl rfl) (Nat.le_of_ble_eq_true rfl) ?_
  (simp only [go_sem, vc_block_seq, vc_block_region, vc_block_cond, vc_block_block, Nat.reduceBEq, Nat.reduceAdd, Nat.reduceLeDiff, Nat.reduceEqDiff, Int.reduceAdd, Int.reduceBEq, Int.reduceBNe, reduceCtorEq, beq_self_eq_true, Bool.true_beq, Bool.false_beq]; repeat ((with_reducible refine leK_refl ?_); simp only [go_sem, vc_block_seq, vc_block_region, vc_block_cond, vc_block_block, Nat.reduceBEq, Nat.reduceAdd, Nat.reduceLeDiff, Nat.reduceEqDiff, Int.reduceAdd, Int.reduceBEq, Int.reduceBNe, reduceCtorEq, beq_self_eq_true, Bool.true_beq, Bool.false_beq]))
  rw [arith_any]
  (simp only [go_sem, vc_block_seq, vc_block_region, vc_block_cond, vc_block_block, Nat.reduceBEq, Nat.reduceAdd, Nat.reduceLeDiff, Nat.reduceEqDiff, Int.reduceAdd, Int.reduceBEq, Int.reduceBNe, reduceCtorEq, beq_self_eq_true, Bool.true_beq, Bool.false_beq]; repeat ((with_reducible refine leK_refl ?_); simp only [go_sem, vc_block_seq, vc_block_region, vc_block_cond, vc_block_block, Nat.reduceBEq, Nat.reduceAdd, Nat.reduceLeDiff, Nat.reduceEqDiff, Int.reduceAdd, Int.reduceBEq, Int.reduceBNe, reduceCtorEq, beq_self_eq_true, Bool.true_beq, Bool.false_beq]))
  refine ⟨⟨hx1.sl.some_ y2, by omega, by omega⟩, ?_⟩
  refine wr_store (r := ⟨kB 5, yq, ym, yd⟩) Ty.lay5 A10 C9 rB y2 rfl (Nat.le_of_ble_eq_true rfl) rfl ?_ h06 s10 ?_
  · rintro z ⟨a, rfl⟩
    exact ⟨_, splice_1⟩
  intro w2 A11 s11 keep
  have oc11 := keep ⟨⟨34, 5, fun _ => True⟩, cp, cn, cc⟩ (show (34 : Nat) ≠ 5 from by decide) _ oc10
  clear keep hx1 hx2 oc10 A10 s10
  simp only at oc11
  (simp only [go_sem, vc_block_seq, vc_block_region, vc_block_cond, vc_block_block, Nat.reduceBEq, Nat.reduceAdd, Nat.reduceLeDiff, Nat.reduceEqDiff, Int.reduceAdd, Int.reduceBEq, Int.reduceBNe, reduceCtorEq, beq_self_eq_true, Bool.true_beq, Bool.false_beq]; repeat ((with_reducible refine leK_refl ?_); simp only [go_sem, vc_block_seq, vc_block_region, vc_block_cond, vc_block_block, Nat.reduceBEq, Nat.reduceAdd, Nat.reduceLeDiff, Nat.reduceEqDiff, Int.reduceAdd, Int.reduceBEq, Int.reduceBNe, reduceCtorEq, beq_self_eq_true, Bool.true_beq, Bool.false_beq]))
  refine vc_range cn (fun (_ : Unit) => []) (fun _ => []) (fun j _ u' => AllW U6 u' R ∧ Sub U6 u' ∧ Eng.Own U6 u' 34 5 cp cn cc (cl.map PE.enc)) () (le_chk (by simp only [go_sem, vc_block_seq, vc_block_region, vc_block_cond, vc_block_block, Nat.reduceBEq, Nat.reduceAdd, Nat.reduceLeDiff, Nat.reduceEqDiff, Int.reduceAdd, Int.reduceBEq, Int.reduceBNe, reduceCtorEq, beq_self_eq_true, Bool.true_beq, Bool.false_beq])) ⟨A11, s11, oc11⟩ (fun _ _ => rfl) (by omega) (fun _ => rfl) ?_ ?_
  · rintro j _ v3 hj ⟨hA, hs, ho3⟩
    obtain ⟨z, hz⟩ := exAt hj oc7.len
    have rz := rC z (List.mem_of_getElem? hz)
    have hcz := (hA _ rz).cap
    simp only [maxLen] at hcz
    (simp only [go_sem, vc_block_seq, vc_block_region, vc_block_cond, vc_block_block, Nat.reduceBEq, Nat.reduceAdd, Nat.reduceLeDiff, Nat.reduceEqDiff, Int.reduceAdd, Int.reduceBEq, Int.reduceBNe, reduceCtorEq, beq_self_eq_true, Bool.true_beq, Bool.false_beq]; repeat ((with_reducible refine leK_refl ?_); simp only [go_sem, vc_block_seq, vc_block_region, vc_block_cond, vc_block_block, Nat.reduceBEq, Nat.reduceAdd, Nat.reduceLeDiff, Nat.reduceEqDiff, Int.reduceAdd, Int.reduceBEq, Int.reduceBNe, reduceCtorEq, beq_self_eq_true, Bool.true_beq, Bool.false_beq]))
    refine ⟨⟨ho3.sl.some_ hj, by omega, by omega⟩, ?_⟩
    refine ho3.sl.load (getMap hz) (.inl rfl) (Nat.le_of_ble_eq_true rfl) ?_
    (simp only [go_sem, vc_block_seq, vc_block_region, vc_block_cond, vc_block_block, Nat.reduceBEq, Nat.reduceAdd, Nat.reduceLeDiff, Nat.reduceEqDiff, Int.reduceAdd, Int.reduceBEq, Int.reduceBNe, reduceCtorEq, beq_self_eq_true, Bool.true_beq, Bool.false_beq]; repeat ((with_reducible refine leK_refl ?_); simp only [go_sem, vc_block_seq, vc_block_region, vc_block_cond, vc_block_block, Nat.reduceBEq, Nat.reduceAdd, Nat.reduceLeDiff, Nat.reduceEqDiff, Int.reduceAdd, Int.reduceBEq, Int.reduceBNe, reduceCtorEq, beq_self_eq_true, Bool.true_beq, Bool.false_beq]))
    refine vc_range z.m (fun (_ : Unit) => []) (fun _ => []) (fun k _ u' => AllW U6 u' R ∧ Sub U6 u' ∧ Eng.Own U6 u' 34 5 cp cn cc (cl.map PE.enc)) () (le_chk (by simp only [go_sem, vc_block_seq, vc_block_region, vc_block_cond, vc_block_block, Nat.reduceBEq, Nat.reduceAdd, Nat.reduceLeDiff, Nat.reduceEqDiff, Int.reduceAdd, Int.reduceBEq, Int.reduceBNe, reduceCtorEq, beq_self_eq_true, Bool.true_beq, Bool.false_beq])) ⟨hA, hs, ho3⟩ (fun _ _ => rfl) (by omega) (fun _ => rfl) ?_ ?_
    · rintro k _ v4 hk ⟨hA4, hs4, ho4⟩
      obtain ⟨xs, x, hx1, hx2, a, rfl⟩ := (hA4 _ rz).at_ (i := k) hk
      (simp only [go_sem, vc_block_seq, vc_block_region, vc_block_cond, vc_block_block, Nat.reduceBEq, Nat.reduceAdd, Nat.reduceLeDiff, Nat.reduceEqDiff, Int.reduceAdd, Int.reduceBEq, Int.reduceBNe, reduceCtorEq, beq_self_eq_true, Bool.true_beq, Bool.false_beq]; repeat ((with_reducible refine leK_refl ?_); simp only [go_sem, vc_block_seq, vc_block_region, vc_block_cond, vc_block_block, Nat.reduceBEq, Nat.reduceAdd, Nat.reduceLeDiff, Nat.reduceEqDiff, Int.reduceAdd, Int.reduceBEq, Int.reduceBNe, reduceCtorEq, beq_self_eq_true, Bool.true_beq, Bool.false_beq]))
      refine ⟨⟨ho4.sl.some_ hj, by omega, by omega⟩, ?_⟩
      refine ho4.sl.load (getMap hz) (.inl rfl) (Nat.le_of_ble_eq_true rfl) ?_
      (simp only [go_sem, vc_block_seq, vc_block_region, vc_block_cond, vc_block_block, Nat.reduceBEq, Nat.reduceAdd, Nat.reduceLeDiff, Nat.reduceEqDiff, Int.reduceAdd, Int.reduceBEq, Int.reduceBNe, reduceCtorEq, beq_self_eq_true, Bool.true_beq, Bool.false_beq]; repeat ((with_reducible refine leK_refl ?_); simp only [go_sem, vc_block_seq, vc_block_region, vc_block_cond, vc_block_block, Nat.reduceBEq, Nat.reduceAdd, Nat.reduceLeDiff, Nat.reduceEqDiff, Int.reduceAdd, Int.reduceBEq, Int.reduceBNe, reduceCtorEq, beq_self_eq_true, Bool.true_beq, Bool.false_beq]))
      refine ⟨⟨hx1.sl.some_ hk, by omega, by omega⟩, ?_⟩
      refine hx1.sl.load hx2 (.inl rfl) (Nat.le_of_ble_eq_true rfl) ?_
      (simp only [go_sem, vc_block_seq, vc_block_region, vc_block_cond, vc_block_block, Nat.reduceBEq, Nat.reduceAdd, Nat.reduceLeDiff, Nat.reduceEqDiff, Int.reduceAdd, Int.reduceBEq, Int.reduceBNe, reduceCtorEq, beq_self_eq_true, Bool.true_beq, Bool.false_beq]; repeat ((with_reducible refine leK_refl ?_); simp only [go_sem, vc_block_seq, vc_block_region, vc_block_cond, vc_block_block, Nat.reduceBEq, Nat.reduceAdd, Nat.reduceLeDiff, Nat.reduceEqDiff, Int.reduceAdd, Int.reduceBEq, Int.reduceBNe, reduceCtorEq, beq_self_eq_true, Bool.true_beq, Bool.false_beq]))
      rw [arith_any]
      (simp only [go_sem, vc_block_seq, vc_block_region, vc_block_cond, vc_block_block, Nat.reduceBEq, Nat.reduceAdd, Nat.reduceLeDiff, Nat.reduceEqDiff, Int.reduceAdd, Int.reduceBEq, Int.reduceBNe, reduceCtorEq, beq_self_eq_true, Bool.true_beq, Bool.false_beq]; repeat ((with_reducible refine leK_refl ?_); simp only [go_sem, vc_block_seq, vc_block_region, vc_block_cond, vc_block_block, Nat.reduceBEq, Nat.reduceAdd, Nat.reduceLeDiff, Nat.reduceEqDiff, Int.reduceAdd, Int.reduceBEq, Int.reduceBNe, reduceCtorEq, beq_self_eq_true, Bool.true_beq, Bool.false_beq]))
      refine ⟨⟨hx1.sl.some_ hk, by omega, by omega⟩, ?_⟩
      refine wr_store (r := ⟨kB 5, z.q, z.m, z.d⟩) Ty.lay5 hA4 C9 rz hk rfl (Nat.le_of_ble_eq_true rfl) rfl ?_ h06 hs4 ?_
      · rintro z ⟨a, rfl⟩
        exact ⟨_, splice_1⟩
      intro v5 hA5 hs5 keep
      have ho5 := keep ⟨⟨34, 5, fun _ => True⟩, cp, cn, cc⟩ (show (34 : Nat) ≠ 5 from by decide) _ ho4
      (simp only [go_sem, vc_block_seq, vc_block_region, vc_block_cond, vc_block_block, Nat.reduceBEq, Nat.reduceAdd, Nat.reduceLeDiff, Nat.reduceEqDiff, Int.reduceAdd, Int.reduceBEq, Int.reduceBNe, reduceCtorEq, beq_self_eq_true, Bool.true_beq, Bool.false_beq]; repeat ((with_reducible refine leK_refl ?_); simp only [go_sem, vc_block_seq, vc_block_region, vc_block_cond, vc_block_block, Nat.reduceBEq, Nat.reduceAdd, Nat.reduceLeDiff, Nat.reduceEqDiff, Int.reduceAdd, Int.reduceBEq, Int.reduceBNe, reduceCtorEq, beq_self_eq_true, Bool.true_beq, Bool.false_beq]))
      exact ⟨(), le_chk (by simp only [go_sem, vc_block_seq, vc_block_region, vc_block_cond, vc_block_block, Nat.reduceBEq, Nat.reduceAdd, Nat.reduceLeDiff, Nat.reduceEqDiff, Int.reduceAdd, Int.reduceBEq, Int.reduceBNe, reduceCtorEq, beq_self_eq_true, Bool.true_beq, Bool.false_beq]), hA5, hs5, ho5⟩
    · rintro _ v4 ⟨hA4, hs4, ho4⟩
      (simp only [go_sem, vc_block_seq, vc_block_region, vc_block_cond, vc_block_block, Nat.reduceBEq, Nat.reduceAdd, Nat.reduceLeDiff, Nat.reduceEqDiff, Int.reduceAdd, Int.reduceBEq, Int.reduceBNe, reduceCtorEq, beq_self_eq_true, Bool.true_beq, Bool.false_beq]; repeat ((with_reducible refine leK_refl ?_); simp only [go_sem, vc_block_seq, vc_block_region, vc_block_cond, vc_block_block, Nat.reduceBEq, Nat.reduceAdd, Nat.reduceLeDiff, Nat.reduceEqDiff, Int.reduceAdd, Int.reduceBEq, Int.reduceBNe, reduceCtorEq, beq_self_eq_true, Bool.true_beq, Bool.false_beq]))
      exact ⟨(), le_chk (by simp only [go_sem, vc_block_seq, vc_block_region, vc_block_cond, vc_block_block, Nat.reduceBEq, Nat.reduceAdd, Nat.reduceLeDiff, Nat.reduceEqDiff, Int.reduceAdd, Int.reduceBEq, Int.reduceBNe, reduceCtorEq, beq_self_eq_true, Bool.true_beq, Bool.false_beq]), hA4, hs4, ho4⟩
  rintro _ w3 ⟨hA3, s3, ho3⟩
  clear hA3 ho3
  (simp only [go_sem, vc_block_seq, vc_block_region, vc_block_cond, vc_block_block, Nat.reduceBEq, Nat.reduceAdd, Nat.reduceLeDiff, Nat.reduceEqDiff, Int.reduceAdd, Int.reduceBEq, Int.reduceBNe, reduceCtorEq, beq_self_eq_true, Bool.true_beq, Bool.false_beq]; repeat ((with_reducible refine leK_refl ?_); simp only [go_sem, vc_block_seq, vc_block_region, vc_block_cond, vc_block_block, Nat.reduceBEq, Nat.reduceAdd, Nat.reduceLeDiff, Nat.reduceEqDiff, Int.reduceAdd, Int.reduceBEq, Int.reduceBNe, reduceCtorEq, beq_self_eq_true, Bool.true_beq, Bool.false_beq]))
  have hS : Sub w3 w3 := Sub.refl _
  refine AtCall.of_spec (get_ok ⟨2, bp, bn, bc, bl⟩ ⟨e.g.id, vs, ds⟩ _ (bBL.mono s3) eb1 eb2) ?_
  rintro r W8 H8 ⟨⟨zg, zp, zn, zc, zq, zm, zd⟩, rfl, hz, oz⟩
  replace hS := hS.trans H8
  (simp only [go_sem, vc_block_seq, vc_block_region, vc_block_cond, vc_block_block, Nat.reduceBEq, Nat.reduceAdd, Nat.reduceLeDiff, Nat.reduceEqDiff, Int.reduceAdd, Int.reduceBEq, Int.reduceBNe, reduceCtorEq, beq_self_eq_true, Bool.true_beq, Bool.false_beq]; repeat ((with_reducible refine leK_refl ?_); simp only [go_sem, vc_block_seq, vc_block_region, vc_block_cond, vc_block_block, Nat.reduceBEq, Nat.reduceAdd, Nat.reduceLeDiff, Nat.reduceEqDiff, Int.reduceAdd, Int.reduceBEq, Int.reduceBNe, reduceCtorEq, beq_self_eq_true, Bool.true_beq, Bool.false_beq]))
  simp only at hz
  subst hz
  have zl1 := (ev_ownv oz).len
  have zl2 := (ev_ownd oz).len
  simp only [List.length_map] at zl1 zl2
  intro b16
  (simp only [go_sem, vc_block_seq, vc_block_region, vc_block_cond, vc_block_block, Nat.reduceBEq, Nat.reduceAdd, Nat.reduceLeDiff, Nat.reduceEqDiff, Int.reduceAdd, Int.reduceBEq, Int.reduceBNe, reduceCtorEq, beq_self_eq_true, Bool.true_beq, Bool.false_beq]; repeat ((with_reducible refine leK_refl ?_); simp only [go_sem, vc_block_seq, vc_block_region, vc_block_cond, vc_block_block, Nat.reduceBEq, Nat.reduceAdd, Nat.reduceLeDiff, Nat.reduceEqDiff, Int.reduceAdd, Int.reduceBEq, Int.reduceBNe, reduceCtorEq, beq_self_eq_true, Bool.true_beq, Bool.false_beq]))
  refine AtCall.of_spec (lsame_con ⟨⟨e.g.id, vs, ds⟩, zp, zn, zc, zq, zm, zd⟩ ⟨⟨e.g.id, vs, ds⟩, pw, e.n + 1, cw, px, e.m + 1, cx⟩ _ oz.there (hW.mono (s3.trans hS)) (by simp only []; omega) (by simp only []; omega)) ?_
  rintro r W9 H9 rfl
  replace hS := hS.trans H9
  replace oz := oz.mono H9
  (simp only [go_sem, vc_block_seq, vc_block_region, vc_block_cond, vc_block_block, Nat.reduceBEq, Nat.reduceAdd, Nat.reduceLeDiff, Nat.reduceEqDiff, Int.reduceAdd, Int.reduceBEq, Int.reduceBNe, reduceCtorEq, beq_self_eq_true, Bool.true_beq, Bool.false_beq]; repeat ((with_reducible refine leK_refl ?_); simp only [go_sem, vc_block_seq, vc_block_region, vc_block_cond, vc_block_block, Nat.reduceBEq, Nat.reduceAdd, Nat.reduceLeDiff, Nat.reduceEqDiff, Int.reduceAdd, Int.reduceBEq, Int.reduceBNe, reduceCtorEq, beq_self_eq_true, Bool.true_beq, Bool.false_beq]))
  rw [show decide True = true from rfl]
  (simp only [go_sem, vc_block_seq, vc_block_region, vc_block_cond, vc_block_block, Nat.reduceBEq, Nat.reduceAdd, Nat.reduceLeDiff, Nat.reduceEqDiff, Int.reduceAdd, Int.reduceBEq, Int.reduceBNe, reduceCtorEq, beq_self_eq_true, Bool.true_beq, Bool.false_beq]; repeat ((with_reducible refine leK_refl ?_); simp only [go_sem, vc_block_seq, vc_block_region, vc_block_cond, vc_block_block, Nat.reduceBEq, Nat.reduceAdd, Nat.reduceLeDiff, Nat.reduceEqDiff, Int.reduceAdd, Int.reduceBEq, Int.reduceBNe, reduceCtorEq, beq_self_eq_true, Bool.true_beq, Bool.false_beq]))
  refine AtCall.of_spec (bawake_con _) ?_
  rintro r W10 H10 rfl
  replace hS := hS.trans H10
  replace oz := oz.mono H10
  (simp only [go_sem, vc_block_seq, vc_block_region, vc_block_cond, vc_block_block, Nat.reduceBEq, Nat.reduceAdd, Nat.reduceLeDiff, Nat.reduceEqDiff, Int.reduceAdd, Int.reduceBEq, Int.reduceBNe, reduceCtorEq, beq_self_eq_true, Bool.true_beq, Bool.false_beq]; repeat ((with_reducible refine leK_refl ?_); simp only [go_sem, vc_block_seq, vc_block_region, vc_block_cond, vc_block_block, Nat.reduceBEq, Nat.reduceAdd, Nat.reduceLeDiff, Nat.reduceEqDiff, Int.reduceAdd, Int.reduceBEq, Int.reduceBNe, reduceCtorEq, beq_self_eq_true, Bool.true_beq, Bool.false_beq]))
  exact ⟨(h06.trans s3).trans hS, rfl⟩
end Go.Proofs.Ytcaobkpfafcnjaa
