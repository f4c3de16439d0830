/-
  The walk of DescNewer.
-/
import Derived.Test.YtcfkcmalkbdphaaHh
import Derived.Test.YtcfkcmalkbdphaaDi
import Derived.Test.YtcfkcmalkbdphaaEp
set_option linter.unusedSimpArgs false
set_option linter.unusedVariables false
namespace Go.Proofs.Ytcfkcmalkbdphaa
open Go.Eng
attribute [local go_sem] GSpan.val GSpan.enc PD.val PD.enc

theorem newer1_con (l : List PD) (x y : PD) (self : UInt8) (p : Option Addr) (n c b1 b2 : Nat) (u : World) (hl : DL u p n c l) (hv : Vw self (ds l)) (hn : n ≤ 20) (h8 : ∀ d ∈ ds l, d.filter.length ≤ 8) (hx : Fl u x) (hy : Fl u y) (hx8 : x.n ≤ 8) (hy8 : y.n ≤ 8)
    (h1 : u.heap[b1]? = some (.cells [Value.slice p n c].toArray 22 (0, 0))) (h2 : u.heap[b2]? = some (.cells [Value.int .u8 self.toNat].toArray 5 (0, 0))) :
    Con Try.prog 34 [x.val, y.val, .pointer (some ⟨b1, 0, none⟩), .pointer (some ⟨b2, 0, none⟩)] u (fun r u' => Back u u' r (dPut (dPut (ds l) x.d self 30).1 y.d self 30).1) := by
  have ll := hl.len
  refine spec_of_vc Ty.mixed Try.func34 rfl (by kernel_rfl) (by kernel_rfl) rfl [.tmp 6] rfl ?_
  (simp only [go_sem, vc_block_seq, vc_block_region, vc_block_cond, vc_block_block, Nat.reduceBEq, Nat.reduceAdd, Nat.reduceLeDiff, Nat.reduceEqDiff, Int.reduceAdd, Int.reduceBEq, Int.reduceBNe, reduceCtorEq, beq_self_eq_true, Bool.true_beq, Bool.false_beq]; repeat ((with_reducible refine leK_refl ?_); simp only [go_sem, vc_block_seq, vc_block_region, vc_block_cond, vc_block_block, Nat.reduceBEq, Nat.reduceAdd, Nat.reduceLeDiff, Nat.reduceEqDiff, Int.reduceAdd, Int.reduceBEq, Int.reduceBNe, reduceCtorEq, beq_self_eq_true, Bool.true_beq, Bool.false_beq]))
  intro b3 b4
  refine ptr_load h1 (.inl rfl) (Nat.le_of_ble_eq_true rfl) ?_
  (simp only [go_sem, vc_block_seq, vc_block_region, vc_block_cond, vc_block_block, Nat.reduceBEq, Nat.reduceAdd, Nat.reduceLeDiff, Nat.reduceEqDiff, Int.reduceAdd, Int.reduceBEq, Int.reduceBNe, reduceCtorEq, beq_self_eq_true, Bool.true_beq, Bool.false_beq]; repeat ((with_reducible refine leK_refl ?_); simp only [go_sem, vc_block_seq, vc_block_region, vc_block_cond, vc_block_block, Nat.reduceBEq, Nat.reduceAdd, Nat.reduceLeDiff, Nat.reduceEqDiff, Int.reduceAdd, Int.reduceBEq, Int.reduceBNe, reduceCtorEq, beq_self_eq_true, Bool.true_beq, Bool.false_beq]))
  refine ptr_load h2 (.inl rfl) (Nat.le_of_ble_eq_true rfl) ?_
  (simp only [go_sem, vc_block_seq, vc_block_region, vc_block_cond, vc_block_block, Nat.reduceBEq, Nat.reduceAdd, Nat.reduceLeDiff, Nat.reduceEqDiff, Int.reduceAdd, Int.reduceBEq, Int.reduceBNe, reduceCtorEq, beq_self_eq_true, Bool.true_beq, Bool.false_beq]; repeat ((with_reducible refine leK_refl ?_); simp only [go_sem, vc_block_seq, vc_block_region, vc_block_cond, vc_block_block, Nat.reduceBEq, Nat.reduceAdd, Nat.reduceLeDiff, Nat.reduceEqDiff, Int.reduceAdd, Int.reduceBEq, Int.reduceBNe, reduceCtorEq, beq_self_eq_true, Bool.true_beq, Bool.false_beq]))
  refine AtCall.of_spec (put_con l hv.2 x self 30 p n c u hl hx (by omega) (fun z hz => by have e := (hl.fl z hz).len; have := h8 z.d (List.mem_map_of_mem hz); omega) (by omega)) ?_
  rintro r u1 hs1 ⟨v1, rfl, B1⟩
  obtain ⟨p1, n1, c1, l1, rfl, V1, e1⟩ := vl_of_back (self := self) (N := 30) B1 (vw_put hv x.d 30) (by have := put_len (self := self) (l := ds l) x.d 30; simp at this; omega) (fun d hd' => by
    rcases put_mem d hd' with h | h
    · exact h8 d h
    · rw [h, hx.len]; exact hx8)
  have hV1n := V1.len
  simp only at hV1n
  (simp only [go_sem, vc_block_seq, vc_block_region, vc_block_cond, vc_block_block, Nat.reduceBEq, Nat.reduceAdd, Nat.reduceLeDiff, Nat.reduceEqDiff, Int.reduceAdd, Int.reduceBEq, Int.reduceBNe, reduceCtorEq, beq_self_eq_true, Bool.true_beq, Bool.false_beq]; repeat ((with_reducible refine leK_refl ?_); simp only [go_sem, vc_block_seq, vc_block_region, vc_block_cond, vc_block_block, Nat.reduceBEq, Nat.reduceAdd, Nat.reduceLeDiff, Nat.reduceEqDiff, Int.reduceAdd, Int.reduceBEq, Int.reduceBNe, reduceCtorEq, beq_self_eq_true, Bool.true_beq, Bool.false_beq]))
  refine ptr_load (hs1 _ _ h2 cells_ne_junk) (.inl rfl) (Nat.le_of_ble_eq_true rfl) ?_
  (simp only [go_sem, vc_block_seq, vc_block_region, vc_block_cond, vc_block_block, Nat.reduceBEq, Nat.reduceAdd, Nat.reduceLeDiff, Nat.reduceEqDiff, Int.reduceAdd, Int.reduceBEq, Int.reduceBNe, reduceCtorEq, beq_self_eq_true, Bool.true_beq, Bool.false_beq]; repeat ((with_reducible refine leK_refl ?_); simp only [go_sem, vc_block_seq, vc_block_region, vc_block_cond, vc_block_block, Nat.reduceBEq, Nat.reduceAdd, Nat.reduceLeDiff, Nat.reduceEqDiff, Int.reduceAdd, Int.reduceBEq, Int.reduceBNe, reduceCtorEq, beq_self_eq_true, Bool.true_beq, Bool.false_beq]))
  rw [← e1]
  refine AtCall.of_spec (put_con l1 V1.vw.2 y self 30 p1 n1 c1 u1 V1.dl (hy.mono hs1) (by omega) (fun z hz => by have := V1.sm z hz; omega) (by omega)) ?_
  rintro r u2 hs2 ⟨v2, rfl, p2, n2, c2, l2, rfl, o2, e2⟩
  (simp only [go_sem, vc_block_seq, vc_block_region, vc_block_cond, vc_block_block, Nat.reduceBEq, Nat.reduceAdd, Nat.reduceLeDiff, Nat.reduceEqDiff, Int.reduceAdd, Int.reduceBEq, Int.reduceBNe, reduceCtorEq, beq_self_eq_true, Bool.true_beq, Bool.false_beq]; repeat ((with_reducible refine leK_refl ?_); simp only [go_sem, vc_block_seq, vc_block_region, vc_block_cond, vc_block_block, Nat.reduceBEq, Nat.reduceAdd, Nat.reduceLeDiff, Nat.reduceEqDiff, Int.reduceAdd, Int.reduceBEq, Int.reduceBNe, reduceCtorEq, beq_self_eq_true, Bool.true_beq, Bool.false_beq]))
  exact ⟨hs1.trans hs2, p2, n2, c2, l2, rfl, o2.anti hs1, e2⟩

theorem sm_of {u : World} {l m : List PD} {p : Option Addr} {n c : Nat} (hm : DL u p n c m) (e : ds m = ds l) (h : ∀ d ∈ ds l, d.filter.length ≤ 8) : n = l.length ∧ ∀ x ∈ m, x.n ≤ 8 := by
  refine ⟨?_, fun x hx => ?_⟩
  · have h1 := hm.len
    have h2 := congrArg List.length e
    simp at h2
    omega
  · rw [← (hm.fl x hx).len]
    exact h x.d (by rw [← e]; exact List.mem_map_of_mem hx)

theorem idx_drop (L : List GDesc) (node : UInt8) : dIdx (dDrop L node) node = none := by
  unfold dIdx
  rw [List.findIdx?_eq_none_iff]
  intro d hd
  have := (List.mem_filter.1 hd).2
  simpa using this

set_option maxRecDepth 4000 in
set_option maxHeartbeats 4000000 in
theorem dnewer_con (l : List PD) (a b : PD) (self : UInt8) (p : Option Addr) (n c : Nat) (u : World) (hl : DL u p n c l) (ha : Fl u a) (hb : Fl u b) (hn : n ≤ 9223372036854775807) :
    Con Try.prog 7 [.slice p n c, a.val, b.val, .int .u8 self.toNat] u (fun r _ => r = .bool true) := by
  refine spec_of_vc Ty.mixed Try.func7 rfl (by kernel_rfl) (by kernel_rfl) rfl [.tmp 8] rfl ?_
  (simp only [go_sem, vc_block_seq, vc_block_region, vc_block_cond, vc_block_block, Nat.reduceBEq, Nat.reduceAdd, Nat.reduceLeDiff, Nat.reduceEqDiff, Int.reduceAdd, Int.reduceBEq, Int.reduceBNe, reduceCtorEq, beq_self_eq_true, Bool.true_beq, Bool.false_beq]; repeat ((with_reducible refine leK_refl ?_); simp only [go_sem, vc_block_seq, vc_block_region, vc_block_cond, vc_block_block, Nat.reduceBEq, Nat.reduceAdd, Nat.reduceLeDiff, Nat.reduceEqDiff, Int.reduceAdd, Int.reduceBEq, Int.reduceBNe, reduceCtorEq, beq_self_eq_true, Bool.true_beq, Bool.false_beq]))
  intro b5 b6 b7
  have hS : Sub u u := Sub.refl _
  refine AtCall.of_spec (few_con l p n c _ hl hn) ?_
  rintro r W1 H1 ⟨B, rfl, hB⟩
  replace hS := hS.trans H1
  replace hl := hl.mono H1
  replace ha := ha.mono H1
  replace hb := hb.mono H1
  cases B with
  | false =>
    (simp only [go_sem, vc_block_seq, vc_block_region, vc_block_cond, vc_block_block, Nat.reduceBEq, Nat.reduceAdd, Nat.reduceLeDiff, Nat.reduceEqDiff, Int.reduceAdd, Int.reduceBEq, Int.reduceBNe, reduceCtorEq, beq_self_eq_true, Bool.true_beq, Bool.false_beq]; repeat ((with_reducible refine leK_refl ?_); simp only [go_sem, vc_block_seq, vc_block_region, vc_block_cond, vc_block_block, Nat.reduceBEq, Nat.reduceAdd, Nat.reduceLeDiff, Nat.reduceEqDiff, Int.reduceAdd, Int.reduceBEq, Int.reduceBNe, reduceCtorEq, beq_self_eq_true, Bool.true_beq, Bool.false_beq]))
    refine AtCall.of_spec (awake_con _) ?_
    rintro r W2 H2 rfl
    replace hS := hS.trans H2
    replace hl := hl.mono H2
    replace ha := ha.mono H2
    replace hb := hb.mono H2
    (simp only [go_sem, vc_block_seq, vc_block_region, vc_block_cond, vc_block_block, Nat.reduceBEq, Nat.reduceAdd, Nat.reduceLeDiff, Nat.reduceEqDiff, Int.reduceAdd, Int.reduceBEq, Int.reduceBNe, reduceCtorEq, beq_self_eq_true, Bool.true_beq, Bool.false_beq]; repeat ((with_reducible refine leK_refl ?_); simp only [go_sem, vc_block_seq, vc_block_region, vc_block_cond, vc_block_block, Nat.reduceBEq, Nat.reduceAdd, Nat.reduceLeDiff, Nat.reduceEqDiff, Int.reduceAdd, Int.reduceBEq, Int.reduceBNe, reduceCtorEq, beq_self_eq_true, Bool.true_beq, Bool.false_beq]))
    exact ⟨hS, rfl⟩
  | true =>
  have hf := hB rfl
  (simp only [go_sem, vc_block_seq, vc_block_region, vc_block_cond, vc_block_block, Nat.reduceBEq, Nat.reduceAdd, Nat.reduceLeDiff, Nat.reduceEqDiff, Int.reduceAdd, Int.reduceBEq, Int.reduceBNe, reduceCtorEq, beq_self_eq_true, Bool.true_beq, Bool.false_beq]; repeat ((with_reducible refine leK_refl ?_); simp only [go_sem, vc_block_seq, vc_block_region, vc_block_cond, vc_block_block, Nat.reduceBEq, Nat.reduceAdd, Nat.reduceLeDiff, Nat.reduceEqDiff, Int.reduceAdd, Int.reduceBEq, Int.reduceBNe, reduceCtorEq, beq_self_eq_true, Bool.true_beq, Bool.false_beq]))
  by_cases ha8 : 8 < (a.n : Int)
  · rw [decide_eq_true ha8]
    (simp only [go_sem, vc_block_seq, vc_block_region, vc_block_cond, vc_block_block, Nat.reduceBEq, Nat.reduceAdd, Nat.reduceLeDiff, Nat.reduceEqDiff, Int.reduceAdd, Int.reduceBEq, Int.reduceBNe, reduceCtorEq, beq_self_eq_true, Bool.true_beq, Bool.false_beq]; repeat ((with_reducible refine leK_refl ?_); simp only [go_sem, vc_block_seq, vc_block_region, vc_block_cond, vc_block_block, Nat.reduceBEq, Nat.reduceAdd, Nat.reduceLeDiff, Nat.reduceEqDiff, Int.reduceAdd, Int.reduceBEq, Int.reduceBNe, reduceCtorEq, beq_self_eq_true, Bool.true_beq, Bool.false_beq]))
    refine AtCall.of_spec (awake_con _) ?_
    rintro r W3 H3 rfl
    replace hS := hS.trans H3
    replace hl := hl.mono H3
    replace ha := ha.mono H3
    replace hb := hb.mono H3
    (simp only [go_sem, vc_block_seq, vc_block_region, vc_block_cond, vc_block_block, Nat.reduceBEq, Nat.reduceAdd, Nat.reduceLeDiff, Nat.reduceEqDiff, Int.reduceAdd, Int.reduceBEq, Int.reduceBNe, reduceCtorEq, beq_self_eq_true, Bool.true_beq, Bool.false_beq]; repeat ((with_reducible refine leK_refl ?_); simp only [go_sem, vc_block_seq, vc_block_region, vc_block_cond, vc_block_block, Nat.reduceBEq, Nat.reduceAdd, Nat.reduceLeDiff, Nat.reduceEqDiff, Int.reduceAdd, Int.reduceBEq, Int.reduceBNe, reduceCtorEq, beq_self_eq_true, Bool.true_beq, Bool.false_beq]))
    exact ⟨hS, rfl⟩
  rw [decide_eq_false ha8]
  (simp only [go_sem, vc_block_seq, vc_block_region, vc_block_cond, vc_block_block, Nat.reduceBEq, Nat.reduceAdd, Nat.reduceLeDiff, Nat.reduceEqDiff, Int.reduceAdd, Int.reduceBEq, Int.reduceBNe, reduceCtorEq, beq_self_eq_true, Bool.true_beq, Bool.false_beq]; repeat ((with_reducible refine leK_refl ?_); simp only [go_sem, vc_block_seq, vc_block_region, vc_block_cond, vc_block_block, Nat.reduceBEq, Nat.reduceAdd, Nat.reduceLeDiff, Nat.reduceEqDiff, Int.reduceAdd, Int.reduceBEq, Int.reduceBNe, reduceCtorEq, beq_self_eq_true, Bool.true_beq, Bool.false_beq]))
  refine cond_dec (fun hb8 => ?_) (fun hb8 => ?_)
  · (simp only [go_sem, vc_block_seq, vc_block_region, vc_block_cond, vc_block_block, Nat.reduceBEq, Nat.reduceAdd, Nat.reduceLeDiff, Nat.reduceEqDiff, Int.reduceAdd, Int.reduceBEq, Int.reduceBNe, reduceCtorEq, beq_self_eq_true, Bool.true_beq, Bool.false_beq]; repeat ((with_reducible refine leK_refl ?_); simp only [go_sem, vc_block_seq, vc_block_region, vc_block_cond, vc_block_block, Nat.reduceBEq, Nat.reduceAdd, Nat.reduceLeDiff, Nat.reduceEqDiff, Int.reduceAdd, Int.reduceBEq, Int.reduceBNe, reduceCtorEq, beq_self_eq_true, Bool.true_beq, Bool.false_beq]))
    refine AtCall.of_spec (awake_con _) ?_
    rintro r W4 H4 rfl
    replace hS := hS.trans H4
    replace hl := hl.mono H4
    replace ha := ha.mono H4
    replace hb := hb.mono H4
    (simp only [go_sem, vc_block_seq, vc_block_region, vc_block_cond, vc_block_block, Nat.reduceBEq, Nat.reduceAdd, Nat.reduceLeDiff, Nat.reduceEqDiff, Int.reduceAdd, Int.reduceBEq, Int.reduceBNe, reduceCtorEq, beq_self_eq_true, Bool.true_beq, Bool.false_beq]; repeat ((with_reducible refine leK_refl ?_); simp only [go_sem, vc_block_seq, vc_block_region, vc_block_cond, vc_block_block, Nat.reduceBEq, Nat.reduceAdd, Nat.reduceLeDiff, Nat.reduceEqDiff, Int.reduceAdd, Int.reduceBEq, Int.reduceBNe, reduceCtorEq, beq_self_eq_true, Bool.true_beq, Bool.false_beq]))
    exact ⟨hS, rfl⟩
  (simp only [go_sem, vc_block_seq, vc_block_region, vc_block_cond, vc_block_block, Nat.reduceBEq, Nat.reduceAdd, Nat.reduceLeDiff, Nat.reduceEqDiff, Int.reduceAdd, Int.reduceBEq, Int.reduceBNe, reduceCtorEq, beq_self_eq_true, Bool.true_beq, Bool.false_beq]; repeat ((with_reducible refine leK_refl ?_); simp only [go_sem, vc_block_seq, vc_block_region, vc_block_cond, vc_block_block, Nat.reduceBEq, Nat.reduceAdd, Nat.reduceLeDiff, Nat.reduceEqDiff, Int.reduceAdd, Int.reduceBEq, Int.reduceBNe, reduceCtorEq, beq_self_eq_true, Bool.true_beq, Bool.false_beq]))
  obtain ⟨A, hA⟩ : ∃ A : GDesc, A = ⟨a.d.node, inc1 a.d.inc, a.d.age, a.d.filter⟩ := ⟨_, rfl⟩
  obtain ⟨B, hBd⟩ : ∃ B : GDesc, B = ⟨a.d.node, inc1 b.d.inc, b.d.age, b.d.filter⟩ := ⟨_, rfl⟩
  have hAn : A.node = B.node := by rw [hA, hBd]
  have hAi : A.inc ≠ 0 := by rw [hA]; exact inc1_ne _
  have hBi : B.inc ≠ 0 := by rw [hBd]; exact inc1_ne _
  refine draw_treeL (.fl 0 (.fl 2 (.fl 5 (.fl 1 (.fl 6 (.fl 7 (.fl 8 (.eff 3 false (.fl 4 (.eff 9 false (.fl 10 (.eff 11 false (.fl 12 (.eff 13 false .done .no)) .no)) .no)) (.eff 9 false (.fl 3 (.fl 4 (.fl 10 (.eff 11 false (.fl 12 (.eff 13 false .done .no)) .no)))) .no))))))))) (by kernel_rfl) (fun (_ : Unit) => []) (fun _ => [(5, ⟨b5, PD.enc ⟨A, a.p, a.n, a.c⟩, 32⟩), (6, ⟨b6, PD.enc ⟨B, b.p, b.n, b.c⟩, 32⟩)]) (fun _ u' => u' = W1) ?_ ?_
  · subst hA hBd
    (simp only [go_sem, vc_block_seq, vc_block_region, vc_block_cond, vc_block_block, Nat.reduceBEq, Nat.reduceAdd, Nat.reduceLeDiff, Nat.reduceEqDiff, Int.reduceAdd, Int.reduceBEq, Int.reduceBNe, reduceCtorEq, beq_self_eq_true, Bool.true_beq, Bool.false_beq, inc1_int]; repeat ((with_reducible refine leK_refl ?_); simp only [go_sem, vc_block_seq, vc_block_region, vc_block_cond, vc_block_block, Nat.reduceBEq, Nat.reduceAdd, Nat.reduceLeDiff, Nat.reduceEqDiff, Int.reduceAdd, Int.reduceBEq, Int.reduceBNe, reduceCtorEq, beq_self_eq_true, Bool.true_beq, Bool.false_beq, inc1_int]))
    exact ⟨(), le_chk (by simp only [go_sem, vc_block_seq, vc_block_region, vc_block_cond, vc_block_block, Nat.reduceBEq, Nat.reduceAdd, Nat.reduceLeDiff, Nat.reduceEqDiff, Int.reduceAdd, Int.reduceBEq, Int.reduceBNe, reduceCtorEq, beq_self_eq_true, Bool.true_beq, Bool.false_beq])⟩
  rintro _ _ rfl
  rename_i u6
  replace ha : Fl u6 ⟨A, a.p, a.n, a.c⟩ := by rw [hA]; exact ha
  replace hb : Fl u6 ⟨B, b.p, b.n, b.c⟩ := by rw [hBd]; exact hb
  clear hA hBd
  (simp only [go_sem, vc_block_seq, vc_block_region, vc_block_cond, vc_block_block, Nat.reduceBEq, Nat.reduceAdd, Nat.reduceLeDiff, Nat.reduceEqDiff, Int.reduceAdd, Int.reduceBEq, Int.reduceBNe, reduceCtorEq, beq_self_eq_true, Bool.true_beq, Bool.false_beq]; repeat ((with_reducible refine leK_refl ?_); simp only [go_sem, vc_block_seq, vc_block_region, vc_block_cond, vc_block_block, Nat.reduceBEq, Nat.reduceAdd, Nat.reduceLeDiff, Nat.reduceEqDiff, Int.reduceAdd, Int.reduceBEq, Int.reduceBNe, reduceCtorEq, beq_self_eq_true, Bool.true_beq, Bool.false_beq]))
  rw [u8_beq]
  by_cases h1 : A.node = self
  · rw [decide_eq_true h1]
    (simp only [go_sem, vc_block_seq, vc_block_region, vc_block_cond, vc_block_block, Nat.reduceBEq, Nat.reduceAdd, Nat.reduceLeDiff, Nat.reduceEqDiff, Int.reduceAdd, Int.reduceBEq, Int.reduceBNe, reduceCtorEq, beq_self_eq_true, Bool.true_beq, Bool.false_beq]; repeat ((with_reducible refine leK_refl ?_); simp only [go_sem, vc_block_seq, vc_block_region, vc_block_cond, vc_block_block, Nat.reduceBEq, Nat.reduceAdd, Nat.reduceLeDiff, Nat.reduceEqDiff, Int.reduceAdd, Int.reduceBEq, Int.reduceBNe, reduceCtorEq, beq_self_eq_true, Bool.true_beq, Bool.false_beq]))
    refine AtCall.of_spec (awake_con _) ?_
    rintro r W5 H5 rfl
    replace hS := hS.trans H5
    replace hl := hl.mono H5
    replace ha := ha.mono H5
    replace hb := hb.mono H5
    (simp only [go_sem, vc_block_seq, vc_block_region, vc_block_cond, vc_block_block, Nat.reduceBEq, Nat.reduceAdd, Nat.reduceLeDiff, Nat.reduceEqDiff, Int.reduceAdd, Int.reduceBEq, Int.reduceBNe, reduceCtorEq, beq_self_eq_true, Bool.true_beq, Bool.false_beq]; repeat ((with_reducible refine leK_refl ?_); simp only [go_sem, vc_block_seq, vc_block_region, vc_block_cond, vc_block_block, Nat.reduceBEq, Nat.reduceAdd, Nat.reduceLeDiff, Nat.reduceEqDiff, Int.reduceAdd, Int.reduceBEq, Int.reduceBNe, reduceCtorEq, beq_self_eq_true, Bool.true_beq, Bool.false_beq]))
    exact ⟨hS, rfl⟩
  rw [decide_eq_false h1]
  (simp only [go_sem, vc_block_seq, vc_block_region, vc_block_cond, vc_block_block, Nat.reduceBEq, Nat.reduceAdd, Nat.reduceLeDiff, Nat.reduceEqDiff, Int.reduceAdd, Int.reduceBEq, Int.reduceBNe, reduceCtorEq, beq_self_eq_true, Bool.true_beq, Bool.false_beq]; repeat ((with_reducible refine leK_refl ?_); simp only [go_sem, vc_block_seq, vc_block_region, vc_block_cond, vc_block_block, Nat.reduceBEq, Nat.reduceAdd, Nat.reduceLeDiff, Nat.reduceEqDiff, Int.reduceAdd, Int.reduceBEq, Int.reduceBNe, reduceCtorEq, beq_self_eq_true, Bool.true_beq, Bool.false_beq]))
  rw [u16_beq]
  by_cases hd : A.inc = B.inc ∧ A.age = B.age
  · rw [decide_eq_true hd.1]
    (simp only [go_sem, vc_block_seq, vc_block_region, vc_block_cond, vc_block_block, Nat.reduceBEq, Nat.reduceAdd, Nat.reduceLeDiff, Nat.reduceEqDiff, Int.reduceAdd, Int.reduceBEq, Int.reduceBNe, reduceCtorEq, beq_self_eq_true, Bool.true_beq, Bool.false_beq]; repeat ((with_reducible refine leK_refl ?_); simp only [go_sem, vc_block_seq, vc_block_region, vc_block_cond, vc_block_block, Nat.reduceBEq, Nat.reduceAdd, Nat.reduceLeDiff, Nat.reduceEqDiff, Int.reduceAdd, Int.reduceBEq, Int.reduceBNe, reduceCtorEq, beq_self_eq_true, Bool.true_beq, Bool.false_beq]))
    rw [u8_beq, decide_eq_true hd.2]
    (simp only [go_sem, vc_block_seq, vc_block_region, vc_block_cond, vc_block_block, Nat.reduceBEq, Nat.reduceAdd, Nat.reduceLeDiff, Nat.reduceEqDiff, Int.reduceAdd, Int.reduceBEq, Int.reduceBNe, reduceCtorEq, beq_self_eq_true, Bool.true_beq, Bool.false_beq]; repeat ((with_reducible refine leK_refl ?_); simp only [go_sem, vc_block_seq, vc_block_region, vc_block_cond, vc_block_block, Nat.reduceBEq, Nat.reduceAdd, Nat.reduceLeDiff, Nat.reduceEqDiff, Int.reduceAdd, Int.reduceBEq, Int.reduceBNe, reduceCtorEq, beq_self_eq_true, Bool.true_beq, Bool.false_beq]))
    refine AtCall.of_spec (awake_con _) ?_
    rintro r W6 H6 rfl
    replace hS := hS.trans H6
    replace hl := hl.mono H6
    replace ha := ha.mono H6
    replace hb := hb.mono H6
    (simp only [go_sem, vc_block_seq, vc_block_region, vc_block_cond, vc_block_block, Nat.reduceBEq, Nat.reduceAdd, Nat.reduceLeDiff, Nat.reduceEqDiff, Int.reduceAdd, Int.reduceBEq, Int.reduceBNe, reduceCtorEq, beq_self_eq_true, Bool.true_beq, Bool.false_beq]; repeat ((with_reducible refine leK_refl ?_); simp only [go_sem, vc_block_seq, vc_block_region, vc_block_cond, vc_block_block, Nat.reduceBEq, Nat.reduceAdd, Nat.reduceLeDiff, Nat.reduceEqDiff, Int.reduceAdd, Int.reduceBEq, Int.reduceBNe, reduceCtorEq, beq_self_eq_true, Bool.true_beq, Bool.false_beq]))
    exact ⟨hS, rfl⟩
  by_cases hi : A.inc = B.inc
  · have hage : A.age ≠ B.age := fun e => hd ⟨hi, e⟩
    rw [decide_eq_true hi]
    (simp only [go_sem, vc_block_seq, vc_block_region, vc_block_cond, vc_block_block, Nat.reduceBEq, Nat.reduceAdd, Nat.reduceLeDiff, Nat.reduceEqDiff, Int.reduceAdd, Int.reduceBEq, Int.reduceBNe, reduceCtorEq, beq_self_eq_true, Bool.true_beq, Bool.false_beq]; repeat ((with_reducible refine leK_refl ?_); simp only [go_sem, vc_block_seq, vc_block_region, vc_block_cond, vc_block_block, Nat.reduceBEq, Nat.reduceAdd, Nat.reduceLeDiff, Nat.reduceEqDiff, Int.reduceAdd, Int.reduceBEq, Int.reduceBNe, reduceCtorEq, beq_self_eq_true, Bool.true_beq, Bool.false_beq]))
    rw [u8_beq, decide_eq_false hage]
    (simp only [go_sem, vc_block_seq, vc_block_region, vc_block_cond, vc_block_block, Nat.reduceBEq, Nat.reduceAdd, Nat.reduceLeDiff, Nat.reduceEqDiff, Int.reduceAdd, Int.reduceBEq, Int.reduceBNe, reduceCtorEq, beq_self_eq_true, Bool.true_beq, Bool.false_beq]; repeat ((with_reducible refine leK_refl ?_); simp only [go_sem, vc_block_seq, vc_block_region, vc_block_cond, vc_block_block, Nat.reduceBEq, Nat.reduceAdd, Nat.reduceLeDiff, Nat.reduceEqDiff, Int.reduceAdd, Int.reduceBEq, Int.reduceBNe, reduceCtorEq, beq_self_eq_true, Bool.true_beq, Bool.false_beq]))
    refine draw_treeL (.fl 0 (.fl 1 (.fl 3 (.fl 4 (.eff 2 true (.eff 5 false (.eff 6 true (.eff 7 false .done .no) .no) (.eff 6 true (.eff 5 false (.eff 7 false .done .no) .no) .no)) (.eff 6 true (.eff 2 true (.eff 5 false (.eff 7 false .done .no) .no) .no) .no)))))) (by kernel_rfl) (fun (g : Nat × Option Addr × Nat × Nat) => [(9, .loc 9 0)]) (fun g => [(9, ⟨g.1, [.slice g.2.1 g.2.2.1 g.2.2.2], 22⟩)]) (fun g u' => Sub u6 u' ∧ ∃ ld, VL u' self 20 g.2 ld ∧ dIdx (ds ld) A.node = none) ?_ ?_
    · (simp only [go_sem, vc_block_seq, vc_block_region, vc_block_cond, vc_block_block, Nat.reduceBEq, Nat.reduceAdd, Nat.reduceLeDiff, Nat.reduceEqDiff, Int.reduceAdd, Int.reduceBEq, Int.reduceBNe, reduceCtorEq, beq_self_eq_true, Bool.true_beq, Bool.false_beq]; repeat ((with_reducible refine leK_refl ?_); simp only [go_sem, vc_block_seq, vc_block_region, vc_block_cond, vc_block_block, Nat.reduceBEq, Nat.reduceAdd, Nat.reduceLeDiff, Nat.reduceEqDiff, Int.reduceAdd, Int.reduceBEq, Int.reduceBNe, reduceCtorEq, beq_self_eq_true, Bool.true_beq, Bool.false_beq]))
      refine ⟨?_, fun b9 => ?_⟩
      · refine AtCall.of_spec (view_con l self 20 p n c _ hl hf) ?_
        rintro r u7 hs7 ⟨pv, nv, cv, lv, rfl, ov, hv, hvm, hv256, hv8⟩
        replace ov := ov.dl
        (simp only [go_sem, vc_block_seq, vc_block_region, vc_block_cond, vc_block_block, Nat.reduceBEq, Nat.reduceAdd, Nat.reduceLeDiff, Nat.reduceEqDiff, Int.reduceAdd, Int.reduceBEq, Int.reduceBNe, reduceCtorEq, beq_self_eq_true, Bool.true_beq, Bool.false_beq]; repeat ((with_reducible refine leK_refl ?_); simp only [go_sem, vc_block_seq, vc_block_region, vc_block_cond, vc_block_block, Nat.reduceBEq, Nat.reduceAdd, Nat.reduceLeDiff, Nat.reduceEqDiff, Int.reduceAdd, Int.reduceBEq, Int.reduceBNe, reduceCtorEq, beq_self_eq_true, Bool.true_beq, Bool.false_beq]))
        refine ⟨?_, fun b9 => ?_⟩
        · refine AtCall.of_spec (drop_con lv hv.2 A.node pv nv cv _ ov (by omega) (fun x hx => by have := hv8 x hx; omega)) ?_
          rintro r u8 hs8 B8
          obtain ⟨pd, nd, cd, ld, rfl, VD, ed⟩ := vl_of_back (self := self) (N := 20) B8 (vw_drop hv _) (by have := drop_len_le (ds lv) A.node; have := ov.len; simp at *; omega) (fun d hd' => by obtain ⟨y, hy, e⟩ := List.mem_map.1 (List.mem_filter.1 hd').1; rw [← e, (ov.fl y hy).len]; exact hv8 y hy)
          (simp only [go_sem, vc_block_seq, vc_block_region, vc_block_cond, vc_block_block, Nat.reduceBEq, Nat.reduceAdd, Nat.reduceLeDiff, Nat.reduceEqDiff, Int.reduceAdd, Int.reduceBEq, Int.reduceBNe, reduceCtorEq, beq_self_eq_true, Bool.true_beq, Bool.false_beq]; repeat ((with_reducible refine leK_refl ?_); simp only [go_sem, vc_block_seq, vc_block_region, vc_block_cond, vc_block_block, Nat.reduceBEq, Nat.reduceAdd, Nat.reduceLeDiff, Nat.reduceEqDiff, Int.reduceAdd, Int.reduceBEq, Int.reduceBNe, reduceCtorEq, beq_self_eq_true, Bool.true_beq, Bool.false_beq]))
          intro b9
          exact ⟨(b9, pd, nd, cd), le_chk (by simp only [go_sem, vc_block_seq, vc_block_region, vc_block_cond, vc_block_block, Nat.reduceBEq, Nat.reduceAdd, Nat.reduceLeDiff, Nat.reduceEqDiff, Int.reduceAdd, Int.reduceBEq, Int.reduceBNe, reduceCtorEq, beq_self_eq_true, Bool.true_beq, Bool.false_beq]), hs7.trans hs8, ld, VD, by rw [ed]; exact idx_drop _ _⟩
        · refine AtCall.of_spec (drop_con lv hv.2 A.node pv nv cv _ ov (by omega) (fun x hx => by have := hv8 x hx; omega)) ?_
          rintro r u8 hs8 B8
          obtain ⟨pd, nd, cd, ld, rfl, VD, ed⟩ := vl_of_back (self := self) (N := 20) B8 (vw_drop hv _) (by have := drop_len_le (ds lv) A.node; have := ov.len; simp at *; omega) (fun d hd' => by obtain ⟨y, hy, e⟩ := List.mem_map.1 (List.mem_filter.1 hd').1; rw [← e, (ov.fl y hy).len]; exact hv8 y hy)
          (simp only [go_sem, vc_block_seq, vc_block_region, vc_block_cond, vc_block_block, Nat.reduceBEq, Nat.reduceAdd, Nat.reduceLeDiff, Nat.reduceEqDiff, Int.reduceAdd, Int.reduceBEq, Int.reduceBNe, reduceCtorEq, beq_self_eq_true, Bool.true_beq, Bool.false_beq]; repeat ((with_reducible refine leK_refl ?_); simp only [go_sem, vc_block_seq, vc_block_region, vc_block_cond, vc_block_block, Nat.reduceBEq, Nat.reduceAdd, Nat.reduceLeDiff, Nat.reduceEqDiff, Int.reduceAdd, Int.reduceBEq, Int.reduceBNe, reduceCtorEq, beq_self_eq_true, Bool.true_beq, Bool.false_beq]))
          exact ⟨(b9, pd, nd, cd), le_chk (by simp only [go_sem, vc_block_seq, vc_block_region, vc_block_cond, vc_block_block, Nat.reduceBEq, Nat.reduceAdd, Nat.reduceLeDiff, Nat.reduceEqDiff, Int.reduceAdd, Int.reduceBEq, Int.reduceBNe, reduceCtorEq, beq_self_eq_true, Bool.true_beq, Bool.false_beq]), hs7.trans hs8, ld, VD, by rw [ed]; exact idx_drop _ _⟩
      · refine AtCall.of_spec (view_con l self 20 p n c _ hl hf) ?_
        rintro r u7 hs7 ⟨pv, nv, cv, lv, rfl, ov, hv, hvm, hv256, hv8⟩
        replace ov := ov.dl
        (simp only [go_sem, vc_block_seq, vc_block_region, vc_block_cond, vc_block_block, Nat.reduceBEq, Nat.reduceAdd, Nat.reduceLeDiff, Nat.reduceEqDiff, Int.reduceAdd, Int.reduceBEq, Int.reduceBNe, reduceCtorEq, beq_self_eq_true, Bool.true_beq, Bool.false_beq]; repeat ((with_reducible refine leK_refl ?_); simp only [go_sem, vc_block_seq, vc_block_region, vc_block_cond, vc_block_block, Nat.reduceBEq, Nat.reduceAdd, Nat.reduceLeDiff, Nat.reduceEqDiff, Int.reduceAdd, Int.reduceBEq, Int.reduceBNe, reduceCtorEq, beq_self_eq_true, Bool.true_beq, Bool.false_beq]))
        refine AtCall.of_spec (drop_con lv hv.2 A.node pv nv cv _ ov (by omega) (fun x hx => by have := hv8 x hx; omega)) ?_
        rintro r u8 hs8 B8
        obtain ⟨pd, nd, cd, ld, rfl, VD, ed⟩ := vl_of_back (self := self) (N := 20) B8 (vw_drop hv _) (by have := drop_len_le (ds lv) A.node; have := ov.len; simp at *; omega) (fun d hd' => by obtain ⟨y, hy, e⟩ := List.mem_map.1 (List.mem_filter.1 hd').1; rw [← e, (ov.fl y hy).len]; exact hv8 y hy)
        (simp only [go_sem, vc_block_seq, vc_block_region, vc_block_cond, vc_block_block, Nat.reduceBEq, Nat.reduceAdd, Nat.reduceLeDiff, Nat.reduceEqDiff, Int.reduceAdd, Int.reduceBEq, Int.reduceBNe, reduceCtorEq, beq_self_eq_true, Bool.true_beq, Bool.false_beq]; repeat ((with_reducible refine leK_refl ?_); simp only [go_sem, vc_block_seq, vc_block_region, vc_block_cond, vc_block_block, Nat.reduceBEq, Nat.reduceAdd, Nat.reduceLeDiff, Nat.reduceEqDiff, Int.reduceAdd, Int.reduceBEq, Int.reduceBNe, reduceCtorEq, beq_self_eq_true, Bool.true_beq, Bool.false_beq]))
        exact ⟨(b9, pd, nd, cd), le_chk (by simp only [go_sem, vc_block_seq, vc_block_region, vc_block_cond, vc_block_block, Nat.reduceBEq, Nat.reduceAdd, Nat.reduceLeDiff, Nat.reduceEqDiff, Int.reduceAdd, Int.reduceBEq, Int.reduceBNe, reduceCtorEq, beq_self_eq_true, Bool.true_beq, Bool.false_beq]), hs7.trans hs8, ld, VD, by rw [ed]; exact idx_drop _ _⟩
    rintro ⟨b9, pd, nd, cd⟩ u9 ⟨hs9, ld, VD, hno⟩
    replace hS := hS.trans hs9
    replace ha := ha.mono hs9
    replace hb := hb.mono hs9
    (simp only [go_sem, vc_block_seq, vc_block_region, vc_block_cond, vc_block_block, Nat.reduceBEq, Nat.reduceAdd, Nat.reduceLeDiff, Nat.reduceEqDiff, Int.reduceAdd, Int.reduceBEq, Int.reduceBNe, reduceCtorEq, beq_self_eq_true, Bool.true_beq, Bool.false_beq]; repeat ((with_reducible refine leK_refl ?_); simp only [go_sem, vc_block_seq, vc_block_region, vc_block_cond, vc_block_block, Nat.reduceBEq, Nat.reduceAdd, Nat.reduceLeDiff, Nat.reduceEqDiff, Int.reduceAdd, Int.reduceBEq, Int.reduceBNe, reduceCtorEq, beq_self_eq_true, Bool.true_beq, Bool.false_beq]))
    intro u10 hs10 hf10 hg10 hb10 hk10 u11 hs11 hf11 hg11 hb11 hk11
    have hs1 := hs10.trans hs11
    replace hS := hS.trans hs1
    replace ha := ha.mono hs1
    replace hb := hb.mono hs1
    replace VD := VD.mono hs1
    replace hb10 := hs11 _ _ hb10 cells_ne_junk
    refine .inl ⟨[(0, false), (1, false), (2, false), (4, false), (5, false), (6, false), (3, true), (7, false), (8, false), (9, false)], by kernel_rfl, ?_⟩
    (simp only [go_sem, vc_block_seq, vc_block_region, vc_block_cond, vc_block_block, Nat.reduceBEq, Nat.reduceAdd, Nat.reduceLeDiff, Nat.reduceEqDiff, Int.reduceAdd, Int.reduceBEq, Int.reduceBNe, reduceCtorEq, beq_self_eq_true, Bool.true_beq, Bool.false_beq]; repeat ((with_reducible refine leK_refl ?_); simp only [go_sem, vc_block_seq, vc_block_region, vc_block_cond, vc_block_block, Nat.reduceBEq, Nat.reduceAdd, Nat.reduceLeDiff, Nat.reduceEqDiff, Int.reduceAdd, Int.reduceBEq, Int.reduceBNe, reduceCtorEq, beq_self_eq_true, Bool.true_beq, Bool.false_beq]))
    have hVD := VD.len
    simp only at hVD
    have hVDl : ((ds ld).length : Int) < 30 := by have := VD.dl.len; simp at *; omega
    obtain ⟨t1, t2, t3, t4, t5, t6⟩ := two_put VD.vw hno hAn h1 hAi hBi hd hVDl
    have hA8 : a.n ≤ 8 := by omega
    have hB8 : b.n ≤ 8 := by omega
    refine AtCall.of_spec (newer1_con ld ⟨A, a.p, a.n, a.c⟩ ⟨B, b.p, b.n, b.c⟩ self pd nd cd b9 b7 _ VD.dl VD.vw hVD VD.small ha hb hA8 hB8 hb10 hb11) ?_
    rintro r W7 H7 BP
    replace hS := hS.trans H7
    replace ha := ha.mono H7
    replace hb := hb.mono H7
    replace VD := VD.mono H7
    have hfA : A.filter.length ≤ 8 := by have e : A.filter.length = a.n := ha.len; omega
    have hfB : B.filter.length ≤ 8 := by have e : B.filter.length = b.n := hb.len; omega
    obtain ⟨pp, np, cp, lp, rfl, VP, ep⟩ := vl_of_back (self := self) (N := 22) BP (vw_put (vw_put VD.vw A 30) B 30)
      (by have e1 := put_len (self := self) (l := ds ld) A 30; have e2 := put_len (self := self) (l := (dPut (ds ld) A self 30).1) B 30; have := VD.dl.len; simp at *; omega)
      (fun d hd' => by
        rcases put_mem d hd' with h | h
        · rcases put_mem d h with h | h
          · exact VD.small d h
          · rw [h]; exact hfA
        · rw [h]; exact hfB)
    rw [t1] at ep
    have hb10' := H7 _ _ hb10 cells_ne_junk
    have hb11' := H7 _ _ hb11 cells_ne_junk
    have hc7 : Cel W7 b7 [Value.int .u8 self.toNat] 5 := hb11'
    (simp only [go_sem, vc_block_seq, vc_block_region, vc_block_cond, vc_block_block, Nat.reduceBEq, Nat.reduceAdd, Nat.reduceLeDiff, Nat.reduceEqDiff, Int.reduceAdd, Int.reduceBEq, Int.reduceBNe, reduceCtorEq, beq_self_eq_true, Bool.true_beq, Bool.false_beq]; repeat ((with_reducible refine leK_refl ?_); simp only [go_sem, vc_block_seq, vc_block_region, vc_block_cond, vc_block_block, Nat.reduceBEq, Nat.reduceAdd, Nat.reduceLeDiff, Nat.reduceEqDiff, Int.reduceAdd, Int.reduceBEq, Int.reduceBNe, reduceCtorEq, beq_self_eq_true, Bool.true_beq, Bool.false_beq]))
    refine AtCall.of_spec (newer1_con ld ⟨B, b.p, b.n, b.c⟩ ⟨A, a.p, a.n, a.c⟩ self pd nd cd b9 b7 _ VD.dl VD.vw hVD VD.small hb ha hB8 hA8 hb10' hb11') ?_
    rintro r W8 H8 ⟨pq, nq, cq, lq, rfl, oq, eq⟩
    replace hS := hS.trans H8
    replace ha := ha.mono H8
    replace hb := hb.mono H8
    replace VD := VD.mono H8
    replace VP := VP.mono H8
    replace hc7 := hc7.mono H8
    (simp only [go_sem, vc_block_seq, vc_block_region, vc_block_cond, vc_block_block, Nat.reduceBEq, Nat.reduceAdd, Nat.reduceLeDiff, Nat.reduceEqDiff, Int.reduceAdd, Int.reduceBEq, Int.reduceBNe, reduceCtorEq, beq_self_eq_true, Bool.true_beq, Bool.false_beq]; repeat ((with_reducible refine leK_refl ?_); simp only [go_sem, vc_block_seq, vc_block_region, vc_block_cond, vc_block_block, Nat.reduceBEq, Nat.reduceAdd, Nat.reduceLeDiff, Nat.reduceEqDiff, Int.reduceAdd, Int.reduceBEq, Int.reduceBNe, reduceCtorEq, beq_self_eq_true, Bool.true_beq, Bool.false_beq]))
    rw [t2] at eq
    replace oq := oq.dl
    have hVP := VP.len
    simp only at hVP
    refine AtCall.of_spec (find_con lp VP.vw.2 A.node pp np cp _ VP.dl (by omega)) ?_
    rintro r W9 H9 rfl
    replace hS := hS.trans H9
    replace ha := ha.mono H9
    replace hb := hb.mono H9
    replace VD := VD.mono H9
    replace VP := VP.mono H9
    replace hc7 := hc7.mono H9
    replace oq := oq.mono H9
    (simp only [go_sem, vc_block_seq, vc_block_region, vc_block_cond, vc_block_block, Nat.reduceBEq, Nat.reduceAdd, Nat.reduceLeDiff, Nat.reduceEqDiff, Int.reduceAdd, Int.reduceBEq, Int.reduceBNe, reduceCtorEq, beq_self_eq_true, Bool.true_beq, Bool.false_beq]; repeat ((with_reducible refine leK_refl ?_); simp only [go_sem, vc_block_seq, vc_block_region, vc_block_cond, vc_block_block, Nat.reduceBEq, Nat.reduceAdd, Nat.reduceLeDiff, Nat.reduceEqDiff, Int.reduceAdd, Int.reduceBEq, Int.reduceBNe, reduceCtorEq, beq_self_eq_true, Bool.true_beq, Bool.false_beq]))
    have hfi : dFind (ds lp) A.node = (kAt dKey (ds ld) A : Nat) := by rw [ep]; unfold dFind; rw [t5]
    rw [hfi]
    refine AtCall.of_spec (descs_con lp lq pp pq np cp nq cq _ VP.dl oq (by omega) (fun z hz => by have := VP.sm z hz; omega)) ?_
    rintro r W10 H10 rfl
    replace hS := hS.trans H10
    replace ha := ha.mono H10
    replace hb := hb.mono H10
    replace VD := VD.mono H10
    replace VP := VP.mono H10
    replace hc7 := hc7.mono H10
    replace oq := oq.mono H10
    rw [decide_eq_true (ep.trans eq.symm)]
    have hlp := VP.dl.len
    simp only at hlp
    have t6' : (ds lp)[kAt dKey (ds ld) A]? = some (dWin A B) := by rw [ep]; exact t6
    have hin : kAt dKey (ds ld) A < np := by obtain ⟨h, _⟩ := List.getElem?_eq_some_iff.1 t6'; simp at h; omega
    obtain ⟨y, hy⟩ := exAt hin hlp
    have hyW := (atDs hy t6').symm
    clear hfi t6' t6 t5 t1 t2
    generalize kAt dKey (ds ld) A = k at hin hy
    (simp only [go_sem, vc_block_seq, vc_block_region, vc_block_cond, vc_block_block, Nat.reduceBEq, Nat.reduceAdd, Nat.reduceLeDiff, Nat.reduceEqDiff, Int.reduceAdd, Int.reduceBEq, Int.reduceBNe, reduceCtorEq, beq_self_eq_true, Bool.true_beq, Bool.false_beq]; repeat ((with_reducible refine leK_refl ?_); simp only [go_sem, vc_block_seq, vc_block_region, vc_block_cond, vc_block_block, Nat.reduceBEq, Nat.reduceAdd, Nat.reduceLeDiff, Nat.reduceEqDiff, Int.reduceAdd, Int.reduceBEq, Int.reduceBNe, reduceCtorEq, beq_self_eq_true, Bool.true_beq, Bool.false_beq]))
    rw [decide_eq_false (show ¬ (k : Int) < 0 by omega)]
    (simp only [go_sem, vc_block_seq, vc_block_region, vc_block_cond, vc_block_block, Nat.reduceBEq, Nat.reduceAdd, Nat.reduceLeDiff, Nat.reduceEqDiff, Int.reduceAdd, Int.reduceBEq, Int.reduceBNe, reduceCtorEq, beq_self_eq_true, Bool.true_beq, Bool.false_beq]; repeat ((with_reducible refine leK_refl ?_); simp only [go_sem, vc_block_seq, vc_block_region, vc_block_cond, vc_block_block, Nat.reduceBEq, Nat.reduceAdd, Nat.reduceLeDiff, Nat.reduceEqDiff, Int.reduceAdd, Int.reduceBEq, Int.reduceBNe, reduceCtorEq, beq_self_eq_true, Bool.true_beq, Bool.false_beq]))
    rw [decide_eq_false (show ¬ (np : Int) ≤ (k : Int) by omega)]
    (simp only [go_sem, vc_block_seq, vc_block_region, vc_block_cond, vc_block_block, Nat.reduceBEq, Nat.reduceAdd, Nat.reduceLeDiff, Nat.reduceEqDiff, Int.reduceAdd, Int.reduceBEq, Int.reduceBNe, reduceCtorEq, beq_self_eq_true, Bool.true_beq, Bool.false_beq]; repeat ((with_reducible refine leK_refl ?_); simp only [go_sem, vc_block_seq, vc_block_region, vc_block_cond, vc_block_block, Nat.reduceBEq, Nat.reduceAdd, Nat.reduceLeDiff, Nat.reduceEqDiff, Int.reduceAdd, Int.reduceBEq, Int.reduceBNe, reduceCtorEq, beq_self_eq_true, Bool.true_beq, Bool.false_beq]))
    intro b14
    rw [decide_eq_false (show ¬ (A.inc.toNat : Int) < (B.inc.toNat : Int) by rw [hi]; omega)]
    (simp only [go_sem, vc_block_seq, vc_block_region, vc_block_cond, vc_block_block, Nat.reduceBEq, Nat.reduceAdd, Nat.reduceLeDiff, Nat.reduceEqDiff, Int.reduceAdd, Int.reduceBEq, Int.reduceBNe, reduceCtorEq, beq_self_eq_true, Bool.true_beq, Bool.false_beq]; repeat ((with_reducible refine leK_refl ?_); simp only [go_sem, vc_block_seq, vc_block_region, vc_block_cond, vc_block_block, Nat.reduceBEq, Nat.reduceAdd, Nat.reduceLeDiff, Nat.reduceEqDiff, Int.reduceAdd, Int.reduceBEq, Int.reduceBNe, reduceCtorEq, beq_self_eq_true, Bool.true_beq, Bool.false_beq]))
    rw [u16_beq, decide_eq_true hi.symm]
    (simp only [go_sem, vc_block_seq, vc_block_region, vc_block_cond, vc_block_block, Nat.reduceBEq, Nat.reduceAdd, Nat.reduceLeDiff, Nat.reduceEqDiff, Int.reduceAdd, Int.reduceBEq, Int.reduceBNe, reduceCtorEq, beq_self_eq_true, Bool.true_beq, Bool.false_beq]; repeat ((with_reducible refine leK_refl ?_); simp only [go_sem, vc_block_seq, vc_block_region, vc_block_cond, vc_block_block, Nat.reduceBEq, Nat.reduceAdd, Nat.reduceLeDiff, Nat.reduceEqDiff, Int.reduceAdd, Int.reduceBEq, Int.reduceBNe, reduceCtorEq, beq_self_eq_true, Bool.true_beq, Bool.false_beq]))
    by_cases hw : B.age < A.age
    · have hWB : dWin A B = B := if_pos (by unfold dNewer; rw [if_pos hi.symm]; exact decide_eq_true hw)
      rw [decide_eq_true (show (B.age.toNat : Int) < (A.age.toNat : Int) by rw [u8_lt]; exact hw)]
      (simp only [go_sem, vc_block_seq, vc_block_region, vc_block_cond, vc_block_block, Nat.reduceBEq, Nat.reduceAdd, Nat.reduceLeDiff, Nat.reduceEqDiff, Int.reduceAdd, Int.reduceBEq, Int.reduceBNe, reduceCtorEq, beq_self_eq_true, Bool.true_beq, Bool.false_beq]; repeat ((with_reducible refine leK_refl ?_); simp only [go_sem, vc_block_seq, vc_block_region, vc_block_cond, vc_block_block, Nat.reduceBEq, Nat.reduceAdd, Nat.reduceLeDiff, Nat.reduceEqDiff, Int.reduceAdd, Int.reduceBEq, Int.reduceBNe, reduceCtorEq, beq_self_eq_true, Bool.true_beq, Bool.false_beq]))
      have hyD : y.d = (PD.mk B b.p b.n b.c).d := hyW.trans hWB
      have hF := hb
      refine ptr_load hc7 (.inl rfl) (Nat.le_of_ble_eq_true rfl) ?_
      (simp only [go_sem, vc_block_seq, vc_block_region, vc_block_cond, vc_block_block, Nat.reduceBEq, Nat.reduceAdd, Nat.reduceLeDiff, Nat.reduceEqDiff, Int.reduceAdd, Int.reduceBEq, Int.reduceBNe, reduceCtorEq, beq_self_eq_true, Bool.true_beq, Bool.false_beq]; repeat ((with_reducible refine leK_refl ?_); simp only [go_sem, vc_block_seq, vc_block_region, vc_block_cond, vc_block_block, Nat.reduceBEq, Nat.reduceAdd, Nat.reduceLeDiff, Nat.reduceEqDiff, Int.reduceAdd, Int.reduceBEq, Int.reduceBNe, reduceCtorEq, beq_self_eq_true, Bool.true_beq, Bool.false_beq]))
      refine AtCall.of_spec (put_con lp VP.vw.2 ⟨A, a.p, a.n, a.c⟩ self 30 pp np cp _ VP.dl ha (by omega) (fun z hz => by have := VP.sm z hz; omega) (by simp only; omega)) ?_
      rintro r W11 H11 ⟨v1, rfl, p1, n1, c1, l1, rfl, o1, e1⟩
      replace hS := hS.trans H11
      replace ha := ha.mono H11
      replace hb := hb.mono H11
      replace VD := VD.mono H11
      replace VP := VP.mono H11
      replace hc7 := hc7.mono H11
      replace oq := oq.mono H11
      replace hF := hF.mono H11
      replace o1 := o1.dl
      rw [ep, t3] at e1 ⊢
      (simp only [go_sem, vc_block_seq, vc_block_region, vc_block_cond, vc_block_block, Nat.reduceBEq, Nat.reduceAdd, Nat.reduceLeDiff, Nat.reduceEqDiff, Int.reduceAdd, Int.reduceBEq, Int.reduceBNe, reduceCtorEq, beq_self_eq_true, Bool.true_beq, Bool.false_beq]; repeat ((with_reducible refine leK_refl ?_); simp only [go_sem, vc_block_seq, vc_block_region, vc_block_cond, vc_block_block, Nat.reduceBEq, Nat.reduceAdd, Nat.reduceLeDiff, Nat.reduceEqDiff, Int.reduceAdd, Int.reduceBEq, Int.reduceBNe, reduceCtorEq, beq_self_eq_true, Bool.true_beq, Bool.false_beq]))
      refine ptr_load hc7 (.inl rfl) (Nat.le_of_ble_eq_true rfl) ?_
      (simp only [go_sem, vc_block_seq, vc_block_region, vc_block_cond, vc_block_block, Nat.reduceBEq, Nat.reduceAdd, Nat.reduceLeDiff, Nat.reduceEqDiff, Int.reduceAdd, Int.reduceBEq, Int.reduceBNe, reduceCtorEq, beq_self_eq_true, Bool.true_beq, Bool.false_beq]; repeat ((with_reducible refine leK_refl ?_); simp only [go_sem, vc_block_seq, vc_block_region, vc_block_cond, vc_block_block, Nat.reduceBEq, Nat.reduceAdd, Nat.reduceLeDiff, Nat.reduceEqDiff, Int.reduceAdd, Int.reduceBEq, Int.reduceBNe, reduceCtorEq, beq_self_eq_true, Bool.true_beq, Bool.false_beq]))
      refine AtCall.of_spec (put_con lp VP.vw.2 ⟨B, b.p, b.n, b.c⟩ self 30 pp np cp _ VP.dl hb (by omega) (fun z hz => by have := VP.sm z hz; omega) (by simp only; omega)) ?_
      rintro r W12 H12 ⟨v2, rfl, p2, n2, c2, l2, rfl, o2, e2⟩
      replace hS := hS.trans H12
      replace ha := ha.mono H12
      replace hb := hb.mono H12
      replace VD := VD.mono H12
      replace VP := VP.mono H12
      replace hc7 := hc7.mono H12
      replace oq := oq.mono H12
      replace hF := hF.mono H12
      replace o1 := o1.mono H12
      replace o2 := o2.dl
      rw [ep, t4] at e2 ⊢
      (simp only [go_sem, vc_block_seq, vc_block_region, vc_block_cond, vc_block_block, Nat.reduceBEq, Nat.reduceAdd, Nat.reduceLeDiff, Nat.reduceEqDiff, Int.reduceAdd, Int.reduceBEq, Int.reduceBNe, reduceCtorEq, beq_self_eq_true, Bool.true_beq, Bool.false_beq]; repeat ((with_reducible refine leK_refl ?_); simp only [go_sem, vc_block_seq, vc_block_region, vc_block_cond, vc_block_block, Nat.reduceBEq, Nat.reduceAdd, Nat.reduceLeDiff, Nat.reduceEqDiff, Int.reduceAdd, Int.reduceBEq, Int.reduceBNe, reduceCtorEq, beq_self_eq_true, Bool.true_beq, Bool.false_beq]))
      refine .inl ⟨[(0, false), (1, false), (4, false), (2, false), (3, false), (5, false), (6, false), (7, false), (8, false), (9, false), (10, false), (11, false), (12, false), (13, false), (14, false), (15, false), (16, false), (17, false), (18, false), (19, false), (20, false), (21, false), (22, false), (23, false), (24, false), (25, false), (26, false), (27, false)], by kernel_rfl, ?_⟩
      (simp only [go_sem, vc_block_seq, vc_block_region, vc_block_cond, vc_block_block, Nat.reduceBEq, Nat.reduceAdd, Nat.reduceLeDiff, Nat.reduceEqDiff, Int.reduceAdd, Int.reduceBEq, Int.reduceBNe, reduceCtorEq, beq_self_eq_true, Bool.true_beq, Bool.false_beq]; repeat ((with_reducible refine leK_refl ?_); simp only [go_sem, vc_block_seq, vc_block_region, vc_block_cond, vc_block_block, Nat.reduceBEq, Nat.reduceAdd, Nat.reduceLeDiff, Nat.reduceEqDiff, Int.reduceAdd, Int.reduceBEq, Int.reduceBNe, reduceCtorEq, beq_self_eq_true, Bool.true_beq, Bool.false_beq]))
      refine ⟨⟨VP.dl.sl.some_ hin, by omega, by omega⟩, ?_⟩
      refine VP.dl.sl.load (getMap hy) (.inr rfl) (Nat.le_of_ble_eq_true rfl) ?_
      (simp only [go_sem, vc_block_seq, vc_block_region, vc_block_cond, vc_block_block, Nat.reduceBEq, Nat.reduceAdd, Nat.reduceLeDiff, Nat.reduceEqDiff, Int.reduceAdd, Int.reduceBEq, Int.reduceBNe, reduceCtorEq, beq_self_eq_true, Bool.true_beq, Bool.false_beq]; repeat ((with_reducible refine leK_refl ?_); simp only [go_sem, vc_block_seq, vc_block_region, vc_block_cond, vc_block_block, Nat.reduceBEq, Nat.reduceAdd, Nat.reduceLeDiff, Nat.reduceEqDiff, Int.reduceAdd, Int.reduceBEq, Int.reduceBNe, reduceCtorEq, beq_self_eq_true, Bool.true_beq, Bool.false_beq]))
      have hc := dsame_con y _ W12 (VP.dl.at_ hy) hF (by have := VP.sm y (List.mem_of_getElem? hy); omega)
      refine AtCall.of_spec (hc) ?_
      rintro r W13 H13 rfl
      replace hS := hS.trans H13
      replace ha := ha.mono H13
      replace hb := hb.mono H13
      replace VD := VD.mono H13
      replace VP := VP.mono H13
      replace hc7 := hc7.mono H13
      replace oq := oq.mono H13
      replace hF := hF.mono H13
      replace o1 := o1.mono H13
      replace o2 := o2.mono H13
      rw [decide_eq_true hyD]
      (simp only [go_sem, vc_block_seq, vc_block_region, vc_block_cond, vc_block_block, Nat.reduceBEq, Nat.reduceAdd, Nat.reduceLeDiff, Nat.reduceEqDiff, Int.reduceAdd, Int.reduceBEq, Int.reduceBNe, reduceCtorEq, beq_self_eq_true, Bool.true_beq, Bool.false_beq]; repeat ((with_reducible refine leK_refl ?_); simp only [go_sem, vc_block_seq, vc_block_region, vc_block_cond, vc_block_block, Nat.reduceBEq, Nat.reduceAdd, Nat.reduceLeDiff, Nat.reduceEqDiff, Int.reduceAdd, Int.reduceBEq, Int.reduceBNe, reduceCtorEq, beq_self_eq_true, Bool.true_beq, Bool.false_beq]))
      refine AtCall.of_spec (descs_con l1 lp _ _ _ _ _ _ _ o1 VP.dl (by have := (sm_of o1 (e1.trans ep.symm) VP.small).1; omega) (fun z hz => by have := (sm_of o1 (e1.trans ep.symm) VP.small).2 z hz; omega)) ?_
      rintro r W14 H14 rfl
      replace hS := hS.trans H14
      replace ha := ha.mono H14
      replace hb := hb.mono H14
      replace VD := VD.mono H14
      replace VP := VP.mono H14
      replace hc7 := hc7.mono H14
      replace oq := oq.mono H14
      replace hF := hF.mono H14
      replace o1 := o1.mono H14
      replace o2 := o2.mono H14
      rw [decide_eq_true (e1.trans ep.symm)]
      (simp only [go_sem, vc_block_seq, vc_block_region, vc_block_cond, vc_block_block, Nat.reduceBEq, Nat.reduceAdd, Nat.reduceLeDiff, Nat.reduceEqDiff, Int.reduceAdd, Int.reduceBEq, Int.reduceBNe, reduceCtorEq, beq_self_eq_true, Bool.true_beq, Bool.false_beq]; repeat ((with_reducible refine leK_refl ?_); simp only [go_sem, vc_block_seq, vc_block_region, vc_block_cond, vc_block_block, Nat.reduceBEq, Nat.reduceAdd, Nat.reduceLeDiff, Nat.reduceEqDiff, Int.reduceAdd, Int.reduceBEq, Int.reduceBNe, reduceCtorEq, beq_self_eq_true, Bool.true_beq, Bool.false_beq]))
      refine AtCall.of_spec (descs_con l2 lp _ _ _ _ _ _ _ o2 VP.dl (by have := (sm_of o2 (e2.trans ep.symm) VP.small).1; omega) (fun z hz => by have := (sm_of o2 (e2.trans ep.symm) VP.small).2 z hz; omega)) ?_
      rintro r W15 H15 rfl
      replace hS := hS.trans H15
      replace ha := ha.mono H15
      replace hb := hb.mono H15
      replace VD := VD.mono H15
      replace VP := VP.mono H15
      replace hc7 := hc7.mono H15
      replace oq := oq.mono H15
      replace hF := hF.mono H15
      replace o1 := o1.mono H15
      replace o2 := o2.mono H15
      rw [decide_eq_true (e2.trans ep.symm)]
      (simp only [go_sem, vc_block_seq, vc_block_region, vc_block_cond, vc_block_block, Nat.reduceBEq, Nat.reduceAdd, Nat.reduceLeDiff, Nat.reduceEqDiff, Int.reduceAdd, Int.reduceBEq, Int.reduceBNe, reduceCtorEq, beq_self_eq_true, Bool.true_beq, Bool.false_beq]; repeat ((with_reducible refine leK_refl ?_); simp only [go_sem, vc_block_seq, vc_block_region, vc_block_cond, vc_block_block, Nat.reduceBEq, Nat.reduceAdd, Nat.reduceLeDiff, Nat.reduceEqDiff, Int.reduceAdd, Int.reduceBEq, Int.reduceBNe, reduceCtorEq, beq_self_eq_true, Bool.true_beq, Bool.false_beq]))
      refine AtCall.of_spec (awake_con _) ?_
      rintro r W16 H16 rfl
      replace hS := hS.trans H16
      replace ha := ha.mono H16
      replace hb := hb.mono H16
      replace VD := VD.mono H16
      replace VP := VP.mono H16
      replace hc7 := hc7.mono H16
      replace oq := oq.mono H16
      replace hF := hF.mono H16
      replace o1 := o1.mono H16
      replace o2 := o2.mono H16
      (simp only [go_sem, vc_block_seq, vc_block_region, vc_block_cond, vc_block_block, Nat.reduceBEq, Nat.reduceAdd, Nat.reduceLeDiff, Nat.reduceEqDiff, Int.reduceAdd, Int.reduceBEq, Int.reduceBNe, reduceCtorEq, beq_self_eq_true, Bool.true_beq, Bool.false_beq]; repeat ((with_reducible refine leK_refl ?_); simp only [go_sem, vc_block_seq, vc_block_region, vc_block_cond, vc_block_block, Nat.reduceBEq, Nat.reduceAdd, Nat.reduceLeDiff, Nat.reduceEqDiff, Int.reduceAdd, Int.reduceBEq, Int.reduceBNe, reduceCtorEq, beq_self_eq_true, Bool.true_beq, Bool.false_beq]))
      exact ⟨hS, rfl⟩
    · have hWA : dWin A B = A := if_neg (by unfold dNewer; rw [if_pos hi.symm, decide_eq_false hw]; simp)
      rw [decide_eq_false (show ¬ (B.age.toNat : Int) < (A.age.toNat : Int) by rw [u8_lt]; exact hw)]
      (simp only [go_sem, vc_block_seq, vc_block_region, vc_block_cond, vc_block_block, Nat.reduceBEq, Nat.reduceAdd, Nat.reduceLeDiff, Nat.reduceEqDiff, Int.reduceAdd, Int.reduceBEq, Int.reduceBNe, reduceCtorEq, beq_self_eq_true, Bool.true_beq, Bool.false_beq]; repeat ((with_reducible refine leK_refl ?_); simp only [go_sem, vc_block_seq, vc_block_region, vc_block_cond, vc_block_block, Nat.reduceBEq, Nat.reduceAdd, Nat.reduceLeDiff, Nat.reduceEqDiff, Int.reduceAdd, Int.reduceBEq, Int.reduceBNe, reduceCtorEq, beq_self_eq_true, Bool.true_beq, Bool.false_beq]))
      have hyD : y.d = (PD.mk A a.p a.n a.c).d := hyW.trans hWA
      have hF := ha
      refine ptr_load hc7 (.inl rfl) (Nat.le_of_ble_eq_true rfl) ?_
      (simp only [go_sem, vc_block_seq, vc_block_region, vc_block_cond, vc_block_block, Nat.reduceBEq, Nat.reduceAdd, Nat.reduceLeDiff, Nat.reduceEqDiff, Int.reduceAdd, Int.reduceBEq, Int.reduceBNe, reduceCtorEq, beq_self_eq_true, Bool.true_beq, Bool.false_beq]; repeat ((with_reducible refine leK_refl ?_); simp only [go_sem, vc_block_seq, vc_block_region, vc_block_cond, vc_block_block, Nat.reduceBEq, Nat.reduceAdd, Nat.reduceLeDiff, Nat.reduceEqDiff, Int.reduceAdd, Int.reduceBEq, Int.reduceBNe, reduceCtorEq, beq_self_eq_true, Bool.true_beq, Bool.false_beq]))
      refine AtCall.of_spec (put_con lp VP.vw.2 ⟨A, a.p, a.n, a.c⟩ self 30 pp np cp _ VP.dl ha (by omega) (fun z hz => by have := VP.sm z hz; omega) (by simp only; omega)) ?_
      rintro r W17 H17 ⟨v1, rfl, p1, n1, c1, l1, rfl, o1, e1⟩
      replace hS := hS.trans H17
      replace ha := ha.mono H17
      replace hb := hb.mono H17
      replace VD := VD.mono H17
      replace VP := VP.mono H17
      replace hc7 := hc7.mono H17
      replace oq := oq.mono H17
      replace hF := hF.mono H17
      replace o1 := o1.dl
      rw [ep, t3] at e1 ⊢
      (simp only [go_sem, vc_block_seq, vc_block_region, vc_block_cond, vc_block_block, Nat.reduceBEq, Nat.reduceAdd, Nat.reduceLeDiff, Nat.reduceEqDiff, Int.reduceAdd, Int.reduceBEq, Int.reduceBNe, reduceCtorEq, beq_self_eq_true, Bool.true_beq, Bool.false_beq]; repeat ((with_reducible refine leK_refl ?_); simp only [go_sem, vc_block_seq, vc_block_region, vc_block_cond, vc_block_block, Nat.reduceBEq, Nat.reduceAdd, Nat.reduceLeDiff, Nat.reduceEqDiff, Int.reduceAdd, Int.reduceBEq, Int.reduceBNe, reduceCtorEq, beq_self_eq_true, Bool.true_beq, Bool.false_beq]))
      refine ptr_load hc7 (.inl rfl) (Nat.le_of_ble_eq_true rfl) ?_
      (simp only [go_sem, vc_block_seq, vc_block_region, vc_block_cond, vc_block_block, Nat.reduceBEq, Nat.reduceAdd, Nat.reduceLeDiff, Nat.reduceEqDiff, Int.reduceAdd, Int.reduceBEq, Int.reduceBNe, reduceCtorEq, beq_self_eq_true, Bool.true_beq, Bool.false_beq]; repeat ((with_reducible refine leK_refl ?_); simp only [go_sem, vc_block_seq, vc_block_region, vc_block_cond, vc_block_block, Nat.reduceBEq, Nat.reduceAdd, Nat.reduceLeDiff, Nat.reduceEqDiff, Int.reduceAdd, Int.reduceBEq, Int.reduceBNe, reduceCtorEq, beq_self_eq_true, Bool.true_beq, Bool.false_beq]))
      refine AtCall.of_spec (put_con lp VP.vw.2 ⟨B, b.p, b.n, b.c⟩ self 30 pp np cp _ VP.dl hb (by omega) (fun z hz => by have := VP.sm z hz; omega) (by simp only; omega)) ?_
      rintro r W18 H18 ⟨v2, rfl, p2, n2, c2, l2, rfl, o2, e2⟩
      replace hS := hS.trans H18
      replace ha := ha.mono H18
      replace hb := hb.mono H18
      replace VD := VD.mono H18
      replace VP := VP.mono H18
      replace hc7 := hc7.mono H18
      replace oq := oq.mono H18
      replace hF := hF.mono H18
      replace o1 := o1.mono H18
      replace o2 := o2.dl
      rw [ep, t4] at e2 ⊢
      (simp only [go_sem, vc_block_seq, vc_block_region, vc_block_cond, vc_block_block, Nat.reduceBEq, Nat.reduceAdd, Nat.reduceLeDiff, Nat.reduceEqDiff, Int.reduceAdd, Int.reduceBEq, Int.reduceBNe, reduceCtorEq, beq_self_eq_true, Bool.true_beq, Bool.false_beq]; repeat ((with_reducible refine leK_refl ?_); simp only [go_sem, vc_block_seq, vc_block_region, vc_block_cond, vc_block_block, Nat.reduceBEq, Nat.reduceAdd, Nat.reduceLeDiff, Nat.reduceEqDiff, Int.reduceAdd, Int.reduceBEq, Int.reduceBNe, reduceCtorEq, beq_self_eq_true, Bool.true_beq, Bool.false_beq]))
      refine .inl ⟨[(0, false), (1, false), (4, false), (2, false), (3, false), (5, false), (6, false), (7, false), (8, false), (9, false), (10, false), (11, false), (12, false), (13, false), (14, false), (15, false), (16, false), (17, false), (18, false), (19, false), (20, false), (21, false), (22, false), (23, false), (24, false), (25, false), (26, false), (27, false)], by kernel_rfl, ?_⟩
      (simp only [go_sem, vc_block_seq, vc_block_region, vc_block_cond, vc_block_block, Nat.reduceBEq, Nat.reduceAdd, Nat.reduceLeDiff, Nat.reduceEqDiff, Int.reduceAdd, Int.reduceBEq, Int.reduceBNe, reduceCtorEq, beq_self_eq_true, Bool.true_beq, Bool.false_beq]; repeat ((with_reducible refine leK_refl ?_); simp only [go_sem, vc_block_seq, vc_block_region, vc_block_cond, vc_block_block, Nat.reduceBEq, Nat.reduceAdd, Nat.reduceLeDiff, Nat.reduceEqDiff, Int.reduceAdd, Int.reduceBEq, Int.reduceBNe, reduceCtorEq, beq_self_eq_true, Bool.true_beq, Bool.false_beq]))
      refine ⟨⟨VP.dl.sl.some_ hin, by omega, by omega⟩, ?_⟩
      refine VP.dl.sl.load (getMap hy) (.inr rfl) (Nat.le_of_ble_eq_true rfl) ?_
      (simp only [go_sem, vc_block_seq, vc_block_region, vc_block_cond, vc_block_block, Nat.reduceBEq, Nat.reduceAdd, Nat.reduceLeDiff, Nat.reduceEqDiff, Int.reduceAdd, Int.reduceBEq, Int.reduceBNe, reduceCtorEq, beq_self_eq_true, Bool.true_beq, Bool.false_beq]; repeat ((with_reducible refine leK_refl ?_); simp only [go_sem, vc_block_seq, vc_block_region, vc_block_cond, vc_block_block, Nat.reduceBEq, Nat.reduceAdd, Nat.reduceLeDiff, Nat.reduceEqDiff, Int.reduceAdd, Int.reduceBEq, Int.reduceBNe, reduceCtorEq, beq_self_eq_true, Bool.true_beq, Bool.false_beq]))
      have hc := dsame_con y _ W18 (VP.dl.at_ hy) hF (by have := VP.sm y (List.mem_of_getElem? hy); omega)
      refine AtCall.of_spec (hc) ?_
      rintro r W19 H19 rfl
      replace hS := hS.trans H19
      replace ha := ha.mono H19
      replace hb := hb.mono H19
      replace VD := VD.mono H19
      replace VP := VP.mono H19
      replace hc7 := hc7.mono H19
      replace oq := oq.mono H19
      replace hF := hF.mono H19
      replace o1 := o1.mono H19
      replace o2 := o2.mono H19
      rw [decide_eq_true hyD]
      (simp only [go_sem, vc_block_seq, vc_block_region, vc_block_cond, vc_block_block, Nat.reduceBEq, Nat.reduceAdd, Nat.reduceLeDiff, Nat.reduceEqDiff, Int.reduceAdd, Int.reduceBEq, Int.reduceBNe, reduceCtorEq, beq_self_eq_true, Bool.true_beq, Bool.false_beq]; repeat ((with_reducible refine leK_refl ?_); simp only [go_sem, vc_block_seq, vc_block_region, vc_block_cond, vc_block_block, Nat.reduceBEq, Nat.reduceAdd, Nat.reduceLeDiff, Nat.reduceEqDiff, Int.reduceAdd, Int.reduceBEq, Int.reduceBNe, reduceCtorEq, beq_self_eq_true, Bool.true_beq, Bool.false_beq]))
      refine AtCall.of_spec (descs_con l1 lp _ _ _ _ _ _ _ o1 VP.dl (by have := (sm_of o1 (e1.trans ep.symm) VP.small).1; omega) (fun z hz => by have := (sm_of o1 (e1.trans ep.symm) VP.small).2 z hz; omega)) ?_
      rintro r W20 H20 rfl
      replace hS := hS.trans H20
      replace ha := ha.mono H20
      replace hb := hb.mono H20
      replace VD := VD.mono H20
      replace VP := VP.mono H20
      replace hc7 := hc7.mono H20
      replace oq := oq.mono H20
      replace hF := hF.mono H20
      replace o1 := o1.mono H20
      replace o2 := o2.mono H20
      rw [decide_eq_true (e1.trans ep.symm)]
      (simp only [go_sem, vc_block_seq, vc_block_region, vc_block_cond, vc_block_block, Nat.reduceBEq, Nat.reduceAdd, Nat.reduceLeDiff, Nat.reduceEqDiff, Int.reduceAdd, Int.reduceBEq, Int.reduceBNe, reduceCtorEq, beq_self_eq_true, Bool.true_beq, Bool.false_beq]; repeat ((with_reducible refine leK_refl ?_); simp only [go_sem, vc_block_seq, vc_block_region, vc_block_cond, vc_block_block, Nat.reduceBEq, Nat.reduceAdd, Nat.reduceLeDiff, Nat.reduceEqDiff, Int.reduceAdd, Int.reduceBEq, Int.reduceBNe, reduceCtorEq, beq_self_eq_true, Bool.true_beq, Bool.false_beq]))
      refine AtCall.of_spec (descs_con l2 lp _ _ _ _ _ _ _ o2 VP.dl (by have := (sm_of o2 (e2.trans ep.symm) VP.small).1; omega) (fun z hz => by have := (sm_of o2 (e2.trans ep.symm) VP.small).2 z hz; omega)) ?_
      rintro r W21 H21 rfl
      replace hS := hS.trans H21
      replace ha := ha.mono H21
      replace hb := hb.mono H21
      replace VD := VD.mono H21
      replace VP := VP.mono H21
      replace hc7 := hc7.mono H21
      replace oq := oq.mono H21
      replace hF := hF.mono H21
      replace o1 := o1.mono H21
      replace o2 := o2.mono H21
      rw [decide_eq_true (e2.trans ep.symm)]
      (simp only [go_sem, vc_block_seq, vc_block_region, vc_block_cond, vc_block_block, Nat.reduceBEq, Nat.reduceAdd, Nat.reduceLeDiff, Nat.reduceEqDiff, Int.reduceAdd, Int.reduceBEq, Int.reduceBNe, reduceCtorEq, beq_self_eq_true, Bool.true_beq, Bool.false_beq]; repeat ((with_reducible refine leK_refl ?_); simp only [go_sem, vc_block_seq, vc_block_region, vc_block_cond, vc_block_block, Nat.reduceBEq, Nat.reduceAdd, Nat.reduceLeDiff, Nat.reduceEqDiff, Int.reduceAdd, Int.reduceBEq, Int.reduceBNe, reduceCtorEq, beq_self_eq_true, Bool.true_beq, Bool.false_beq]))
      refine AtCall.of_spec (awake_con _) ?_
      rintro r W22 H22 rfl
      replace hS := hS.trans H22
      replace ha := ha.mono H22
      replace hb := hb.mono H22
      replace VD := VD.mono H22
      replace VP := VP.mono H22
      replace hc7 := hc7.mono H22
      replace oq := oq.mono H22
      replace hF := hF.mono H22
      replace o1 := o1.mono H22
      replace o2 := o2.mono H22
      (simp only [go_sem, vc_block_seq, vc_block_region, vc_block_cond, vc_block_block, Nat.reduceBEq, Nat.reduceAdd, Nat.reduceLeDiff, Nat.reduceEqDiff, Int.reduceAdd, Int.reduceBEq, Int.reduceBNe, reduceCtorEq, beq_self_eq_true, Bool.true_beq, Bool.false_beq]; repeat ((with_reducible refine leK_refl ?_); simp only [go_sem, vc_block_seq, vc_block_region, vc_block_cond, vc_block_block, Nat.reduceBEq, Nat.reduceAdd, Nat.reduceLeDiff, Nat.reduceEqDiff, Int.reduceAdd, Int.reduceBEq, Int.reduceBNe, reduceCtorEq, beq_self_eq_true, Bool.true_beq, Bool.false_beq]))
      exact ⟨hS, rfl⟩
  · rw [decide_eq_false hi]
    (simp only [go_sem, vc_block_seq, vc_block_region, vc_block_cond, vc_block_block, Nat.reduceBEq, Nat.reduceAdd, Nat.reduceLeDiff, Nat.reduceEqDiff, Int.reduceAdd, Int.reduceBEq, Int.reduceBNe, reduceCtorEq, beq_self_eq_true, Bool.true_beq, Bool.false_beq]; repeat ((with_reducible refine leK_refl ?_); simp only [go_sem, vc_block_seq, vc_block_region, vc_block_cond, vc_block_block, Nat.reduceBEq, Nat.reduceAdd, Nat.reduceLeDiff, Nat.reduceEqDiff, Int.reduceAdd, Int.reduceBEq, Int.reduceBNe, reduceCtorEq, beq_self_eq_true, Bool.true_beq, Bool.false_beq]))
    refine draw_treeL (.fl 0 (.fl 1 (.fl 3 (.fl 4 (.eff 2 true (.eff 5 false (.eff 6 true (.eff 7 false .done .no) .no) (.eff 6 true (.eff 5 false (.eff 7 false .done .no) .no) .no)) (.eff 6 true (.eff 2 true (.eff 5 false (.eff 7 false .done .no) .no) .no) .no)))))) (by kernel_rfl) (fun (g : Nat × Option Addr × Nat × Nat) => [(9, .loc 9 0)]) (fun g => [(9, ⟨g.1, [.slice g.2.1 g.2.2.1 g.2.2.2], 22⟩)]) (fun g u' => Sub u6 u' ∧ ∃ ld, VL u' self 20 g.2 ld ∧ dIdx (ds ld) A.node = none) ?_ ?_
    · (simp only [go_sem, vc_block_seq, vc_block_region, vc_block_cond, vc_block_block, Nat.reduceBEq, Nat.reduceAdd, Nat.reduceLeDiff, Nat.reduceEqDiff, Int.reduceAdd, Int.reduceBEq, Int.reduceBNe, reduceCtorEq, beq_self_eq_true, Bool.true_beq, Bool.false_beq]; repeat ((with_reducible refine leK_refl ?_); simp only [go_sem, vc_block_seq, vc_block_region, vc_block_cond, vc_block_block, Nat.reduceBEq, Nat.reduceAdd, Nat.reduceLeDiff, Nat.reduceEqDiff, Int.reduceAdd, Int.reduceBEq, Int.reduceBNe, reduceCtorEq, beq_self_eq_true, Bool.true_beq, Bool.false_beq]))
      refine ⟨?_, fun b9 => ?_⟩
      · refine AtCall.of_spec (view_con l self 20 p n c _ hl hf) ?_
        rintro r u7 hs7 ⟨pv, nv, cv, lv, rfl, ov, hv, hvm, hv256, hv8⟩
        replace ov := ov.dl
        (simp only [go_sem, vc_block_seq, vc_block_region, vc_block_cond, vc_block_block, Nat.reduceBEq, Nat.reduceAdd, Nat.reduceLeDiff, Nat.reduceEqDiff, Int.reduceAdd, Int.reduceBEq, Int.reduceBNe, reduceCtorEq, beq_self_eq_true, Bool.true_beq, Bool.false_beq]; repeat ((with_reducible refine leK_refl ?_); simp only [go_sem, vc_block_seq, vc_block_region, vc_block_cond, vc_block_block, Nat.reduceBEq, Nat.reduceAdd, Nat.reduceLeDiff, Nat.reduceEqDiff, Int.reduceAdd, Int.reduceBEq, Int.reduceBNe, reduceCtorEq, beq_self_eq_true, Bool.true_beq, Bool.false_beq]))
        refine ⟨?_, fun b9 => ?_⟩
        · refine AtCall.of_spec (drop_con lv hv.2 A.node pv nv cv _ ov (by omega) (fun x hx => by have := hv8 x hx; omega)) ?_
          rintro r u8 hs8 B8
          obtain ⟨pd, nd, cd, ld, rfl, VD, ed⟩ := vl_of_back (self := self) (N := 20) B8 (vw_drop hv _) (by have := drop_len_le (ds lv) A.node; have := ov.len; simp at *; omega) (fun d hd' => by obtain ⟨y, hy, e⟩ := List.mem_map.1 (List.mem_filter.1 hd').1; rw [← e, (ov.fl y hy).len]; exact hv8 y hy)
          (simp only [go_sem, vc_block_seq, vc_block_region, vc_block_cond, vc_block_block, Nat.reduceBEq, Nat.reduceAdd, Nat.reduceLeDiff, Nat.reduceEqDiff, Int.reduceAdd, Int.reduceBEq, Int.reduceBNe, reduceCtorEq, beq_self_eq_true, Bool.true_beq, Bool.false_beq]; repeat ((with_reducible refine leK_refl ?_); simp only [go_sem, vc_block_seq, vc_block_region, vc_block_cond, vc_block_block, Nat.reduceBEq, Nat.reduceAdd, Nat.reduceLeDiff, Nat.reduceEqDiff, Int.reduceAdd, Int.reduceBEq, Int.reduceBNe, reduceCtorEq, beq_self_eq_true, Bool.true_beq, Bool.false_beq]))
          intro b9
          exact ⟨(b9, pd, nd, cd), le_chk (by simp only [go_sem, vc_block_seq, vc_block_region, vc_block_cond, vc_block_block, Nat.reduceBEq, Nat.reduceAdd, Nat.reduceLeDiff, Nat.reduceEqDiff, Int.reduceAdd, Int.reduceBEq, Int.reduceBNe, reduceCtorEq, beq_self_eq_true, Bool.true_beq, Bool.false_beq]), hs7.trans hs8, ld, VD, by rw [ed]; exact idx_drop _ _⟩
        · refine AtCall.of_spec (drop_con lv hv.2 A.node pv nv cv _ ov (by omega) (fun x hx => by have := hv8 x hx; omega)) ?_
          rintro r u8 hs8 B8
          obtain ⟨pd, nd, cd, ld, rfl, VD, ed⟩ := vl_of_back (self := self) (N := 20) B8 (vw_drop hv _) (by have := drop_len_le (ds lv) A.node; have := ov.len; simp at *; omega) (fun d hd' => by obtain ⟨y, hy, e⟩ := List.mem_map.1 (List.mem_filter.1 hd').1; rw [← e, (ov.fl y hy).len]; exact hv8 y hy)
          (simp only [go_sem, vc_block_seq, vc_block_region, vc_block_cond, vc_block_block, Nat.reduceBEq, Nat.reduceAdd, Nat.reduceLeDiff, Nat.reduceEqDiff, Int.reduceAdd, Int.reduceBEq, Int.reduceBNe, reduceCtorEq, beq_self_eq_true, Bool.true_beq, Bool.false_beq]; repeat ((with_reducible refine leK_refl ?_); simp only [go_sem, vc_block_seq, vc_block_region, vc_block_cond, vc_block_block, Nat.reduceBEq, Nat.reduceAdd, Nat.reduceLeDiff, Nat.reduceEqDiff, Int.reduceAdd, Int.reduceBEq, Int.reduceBNe, reduceCtorEq, beq_self_eq_true, Bool.true_beq, Bool.false_beq]))
          exact ⟨(b9, pd, nd, cd), le_chk (by simp only [go_sem, vc_block_seq, vc_block_region, vc_block_cond, vc_block_block, Nat.reduceBEq, Nat.reduceAdd, Nat.reduceLeDiff, Nat.reduceEqDiff, Int.reduceAdd, Int.reduceBEq, Int.reduceBNe, reduceCtorEq, beq_self_eq_true, Bool.true_beq, Bool.false_beq]), hs7.trans hs8, ld, VD, by rw [ed]; exact idx_drop _ _⟩
      · refine AtCall.of_spec (view_con l self 20 p n c _ hl hf) ?_
        rintro r u7 hs7 ⟨pv, nv, cv, lv, rfl, ov, hv, hvm, hv256, hv8⟩
        replace ov := ov.dl
        (simp only [go_sem, vc_block_seq, vc_block_region, vc_block_cond, vc_block_block, Nat.reduceBEq, Nat.reduceAdd, Nat.reduceLeDiff, Nat.reduceEqDiff, Int.reduceAdd, Int.reduceBEq, Int.reduceBNe, reduceCtorEq, beq_self_eq_true, Bool.true_beq, Bool.false_beq]; repeat ((with_reducible refine leK_refl ?_); simp only [go_sem, vc_block_seq, vc_block_region, vc_block_cond, vc_block_block, Nat.reduceBEq, Nat.reduceAdd, Nat.reduceLeDiff, Nat.reduceEqDiff, Int.reduceAdd, Int.reduceBEq, Int.reduceBNe, reduceCtorEq, beq_self_eq_true, Bool.true_beq, Bool.false_beq]))
        refine AtCall.of_spec (drop_con lv hv.2 A.node pv nv cv _ ov (by omega) (fun x hx => by have := hv8 x hx; omega)) ?_
        rintro r u8 hs8 B8
        obtain ⟨pd, nd, cd, ld, rfl, VD, ed⟩ := vl_of_back (self := self) (N := 20) B8 (vw_drop hv _) (by have := drop_len_le (ds lv) A.node; have := ov.len; simp at *; omega) (fun d hd' => by obtain ⟨y, hy, e⟩ := List.mem_map.1 (List.mem_filter.1 hd').1; rw [← e, (ov.fl y hy).len]; exact hv8 y hy)
        (simp only [go_sem, vc_block_seq, vc_block_region, vc_block_cond, vc_block_block, Nat.reduceBEq, Nat.reduceAdd, Nat.reduceLeDiff, Nat.reduceEqDiff, Int.reduceAdd, Int.reduceBEq, Int.reduceBNe, reduceCtorEq, beq_self_eq_true, Bool.true_beq, Bool.false_beq]; repeat ((with_reducible refine leK_refl ?_); simp only [go_sem, vc_block_seq, vc_block_region, vc_block_cond, vc_block_block, Nat.reduceBEq, Nat.reduceAdd, Nat.reduceLeDiff, Nat.reduceEqDiff, Int.reduceAdd, Int.reduceBEq, Int.reduceBNe, reduceCtorEq, beq_self_eq_true, Bool.true_beq, Bool.false_beq]))
        exact ⟨(b9, pd, nd, cd), le_chk (by simp only [go_sem, vc_block_seq, vc_block_region, vc_block_cond, vc_block_block, Nat.reduceBEq, Nat.reduceAdd, Nat.reduceLeDiff, Nat.reduceEqDiff, Int.reduceAdd, Int.reduceBEq, Int.reduceBNe, reduceCtorEq, beq_self_eq_true, Bool.true_beq, Bool.false_beq]), hs7.trans hs8, ld, VD, by rw [ed]; exact idx_drop _ _⟩
    rintro ⟨b9, pd, nd, cd⟩ u9 ⟨hs9, ld, VD, hno⟩
    replace hS := hS.trans hs9
    replace ha := ha.mono hs9
    replace hb := hb.mono hs9
    (simp only [go_sem, vc_block_seq, vc_block_region, vc_block_cond, vc_block_block, Nat.reduceBEq, Nat.reduceAdd, Nat.reduceLeDiff, Nat.reduceEqDiff, Int.reduceAdd, Int.reduceBEq, Int.reduceBNe, reduceCtorEq, beq_self_eq_true, Bool.true_beq, Bool.false_beq]; repeat ((with_reducible refine leK_refl ?_); simp only [go_sem, vc_block_seq, vc_block_region, vc_block_cond, vc_block_block, Nat.reduceBEq, Nat.reduceAdd, Nat.reduceLeDiff, Nat.reduceEqDiff, Int.reduceAdd, Int.reduceBEq, Int.reduceBNe, reduceCtorEq, beq_self_eq_true, Bool.true_beq, Bool.false_beq]))
    intro u10 hs10 hf10 hg10 hb10 hk10 u11 hs11 hf11 hg11 hb11 hk11
    have hs1 := hs10.trans hs11
    replace hS := hS.trans hs1
    replace ha := ha.mono hs1
    replace hb := hb.mono hs1
    replace VD := VD.mono hs1
    replace hb10 := hs11 _ _ hb10 cells_ne_junk
    refine .inl ⟨[(0, false), (1, false), (2, false), (4, false), (5, false), (6, false), (3, true), (7, false), (8, false), (9, false)], by kernel_rfl, ?_⟩
    (simp only [go_sem, vc_block_seq, vc_block_region, vc_block_cond, vc_block_block, Nat.reduceBEq, Nat.reduceAdd, Nat.reduceLeDiff, Nat.reduceEqDiff, Int.reduceAdd, Int.reduceBEq, Int.reduceBNe, reduceCtorEq, beq_self_eq_true, Bool.true_beq, Bool.false_beq]; repeat ((with_reducible refine leK_refl ?_); simp only [go_sem, vc_block_seq, vc_block_region, vc_block_cond, vc_block_block, Nat.reduceBEq, Nat.reduceAdd, Nat.reduceLeDiff, Nat.reduceEqDiff, Int.reduceAdd, Int.reduceBEq, Int.reduceBNe, reduceCtorEq, beq_self_eq_true, Bool.true_beq, Bool.false_beq]))
    have hVD := VD.len
    simp only at hVD
    have hVDl : ((ds ld).length : Int) < 30 := by have := VD.dl.len; simp at *; omega
    obtain ⟨t1, t2, t3, t4, t5, t6⟩ := two_put VD.vw hno hAn h1 hAi hBi hd hVDl
    have hA8 : a.n ≤ 8 := by omega
    have hB8 : b.n ≤ 8 := by omega
    refine AtCall.of_spec (newer1_con ld ⟨A, a.p, a.n, a.c⟩ ⟨B, b.p, b.n, b.c⟩ self pd nd cd b9 b7 _ VD.dl VD.vw hVD VD.small ha hb hA8 hB8 hb10 hb11) ?_
    rintro r W23 H23 BP
    replace hS := hS.trans H23
    replace ha := ha.mono H23
    replace hb := hb.mono H23
    replace VD := VD.mono H23
    have hfA : A.filter.length ≤ 8 := by have e : A.filter.length = a.n := ha.len; omega
    have hfB : B.filter.length ≤ 8 := by have e : B.filter.length = b.n := hb.len; omega
    obtain ⟨pp, np, cp, lp, rfl, VP, ep⟩ := vl_of_back (self := self) (N := 22) BP (vw_put (vw_put VD.vw A 30) B 30)
      (by have e1 := put_len (self := self) (l := ds ld) A 30; have e2 := put_len (self := self) (l := (dPut (ds ld) A self 30).1) B 30; have := VD.dl.len; simp at *; omega)
      (fun d hd' => by
        rcases put_mem d hd' with h | h
        · rcases put_mem d h with h | h
          · exact VD.small d h
          · rw [h]; exact hfA
        · rw [h]; exact hfB)
    rw [t1] at ep
    have hb10' := H23 _ _ hb10 cells_ne_junk
    have hb11' := H23 _ _ hb11 cells_ne_junk
    have hc7 : Cel W23 b7 [Value.int .u8 self.toNat] 5 := hb11'
    (simp only [go_sem, vc_block_seq, vc_block_region, vc_block_cond, vc_block_block, Nat.reduceBEq, Nat.reduceAdd, Nat.reduceLeDiff, Nat.reduceEqDiff, Int.reduceAdd, Int.reduceBEq, Int.reduceBNe, reduceCtorEq, beq_self_eq_true, Bool.true_beq, Bool.false_beq]; repeat ((with_reducible refine leK_refl ?_); simp only [go_sem, vc_block_seq, vc_block_region, vc_block_cond, vc_block_block, Nat.reduceBEq, Nat.reduceAdd, Nat.reduceLeDiff, Nat.reduceEqDiff, Int.reduceAdd, Int.reduceBEq, Int.reduceBNe, reduceCtorEq, beq_self_eq_true, Bool.true_beq, Bool.false_beq]))
    refine AtCall.of_spec (newer1_con ld ⟨B, b.p, b.n, b.c⟩ ⟨A, a.p, a.n, a.c⟩ self pd nd cd b9 b7 _ VD.dl VD.vw hVD VD.small hb ha hB8 hA8 hb10' hb11') ?_
    rintro r W24 H24 ⟨pq, nq, cq, lq, rfl, oq, eq⟩
    replace hS := hS.trans H24
    replace ha := ha.mono H24
    replace hb := hb.mono H24
    replace VD := VD.mono H24
    replace VP := VP.mono H24
    replace hc7 := hc7.mono H24
    (simp only [go_sem, vc_block_seq, vc_block_region, vc_block_cond, vc_block_block, Nat.reduceBEq, Nat.reduceAdd, Nat.reduceLeDiff, Nat.reduceEqDiff, Int.reduceAdd, Int.reduceBEq, Int.reduceBNe, reduceCtorEq, beq_self_eq_true, Bool.true_beq, Bool.false_beq]; repeat ((with_reducible refine leK_refl ?_); simp only [go_sem, vc_block_seq, vc_block_region, vc_block_cond, vc_block_block, Nat.reduceBEq, Nat.reduceAdd, Nat.reduceLeDiff, Nat.reduceEqDiff, Int.reduceAdd, Int.reduceBEq, Int.reduceBNe, reduceCtorEq, beq_self_eq_true, Bool.true_beq, Bool.false_beq]))
    rw [t2] at eq
    replace oq := oq.dl
    have hVP := VP.len
    simp only at hVP
    refine AtCall.of_spec (find_con lp VP.vw.2 A.node pp np cp _ VP.dl (by omega)) ?_
    rintro r W25 H25 rfl
    replace hS := hS.trans H25
    replace ha := ha.mono H25
    replace hb := hb.mono H25
    replace VD := VD.mono H25
    replace VP := VP.mono H25
    replace hc7 := hc7.mono H25
    replace oq := oq.mono H25
    (simp only [go_sem, vc_block_seq, vc_block_region, vc_block_cond, vc_block_block, Nat.reduceBEq, Nat.reduceAdd, Nat.reduceLeDiff, Nat.reduceEqDiff, Int.reduceAdd, Int.reduceBEq, Int.reduceBNe, reduceCtorEq, beq_self_eq_true, Bool.true_beq, Bool.false_beq]; repeat ((with_reducible refine leK_refl ?_); simp only [go_sem, vc_block_seq, vc_block_region, vc_block_cond, vc_block_block, Nat.reduceBEq, Nat.reduceAdd, Nat.reduceLeDiff, Nat.reduceEqDiff, Int.reduceAdd, Int.reduceBEq, Int.reduceBNe, reduceCtorEq, beq_self_eq_true, Bool.true_beq, Bool.false_beq]))
    have hfi : dFind (ds lp) A.node = (kAt dKey (ds ld) A : Nat) := by rw [ep]; unfold dFind; rw [t5]
    rw [hfi]
    refine AtCall.of_spec (descs_con lp lq pp pq np cp nq cq _ VP.dl oq (by omega) (fun z hz => by have := VP.sm z hz; omega)) ?_
    rintro r W26 H26 rfl
    replace hS := hS.trans H26
    replace ha := ha.mono H26
    replace hb := hb.mono H26
    replace VD := VD.mono H26
    replace VP := VP.mono H26
    replace hc7 := hc7.mono H26
    replace oq := oq.mono H26
    rw [decide_eq_true (ep.trans eq.symm)]
    have hlp := VP.dl.len
    simp only at hlp
    have t6' : (ds lp)[kAt dKey (ds ld) A]? = some (dWin A B) := by rw [ep]; exact t6
    have hin : kAt dKey (ds ld) A < np := by obtain ⟨h, _⟩ := List.getElem?_eq_some_iff.1 t6'; simp at h; omega
    obtain ⟨y, hy⟩ := exAt hin hlp
    have hyW := (atDs hy t6').symm
    clear hfi t6' t6 t5 t1 t2
    generalize kAt dKey (ds ld) A = k at hin hy
    (simp only [go_sem, vc_block_seq, vc_block_region, vc_block_cond, vc_block_block, Nat.reduceBEq, Nat.reduceAdd, Nat.reduceLeDiff, Nat.reduceEqDiff, Int.reduceAdd, Int.reduceBEq, Int.reduceBNe, reduceCtorEq, beq_self_eq_true, Bool.true_beq, Bool.false_beq]; repeat ((with_reducible refine leK_refl ?_); simp only [go_sem, vc_block_seq, vc_block_region, vc_block_cond, vc_block_block, Nat.reduceBEq, Nat.reduceAdd, Nat.reduceLeDiff, Nat.reduceEqDiff, Int.reduceAdd, Int.reduceBEq, Int.reduceBNe, reduceCtorEq, beq_self_eq_true, Bool.true_beq, Bool.false_beq]))
    rw [decide_eq_false (show ¬ (k : Int) < 0 by omega)]
    (simp only [go_sem, vc_block_seq, vc_block_region, vc_block_cond, vc_block_block, Nat.reduceBEq, Nat.reduceAdd, Nat.reduceLeDiff, Nat.reduceEqDiff, Int.reduceAdd, Int.reduceBEq, Int.reduceBNe, reduceCtorEq, beq_self_eq_true, Bool.true_beq, Bool.false_beq]; repeat ((with_reducible refine leK_refl ?_); simp only [go_sem, vc_block_seq, vc_block_region, vc_block_cond, vc_block_block, Nat.reduceBEq, Nat.reduceAdd, Nat.reduceLeDiff, Nat.reduceEqDiff, Int.reduceAdd, Int.reduceBEq, Int.reduceBNe, reduceCtorEq, beq_self_eq_true, Bool.true_beq, Bool.false_beq]))
    rw [decide_eq_false (show ¬ (np : Int) ≤ (k : Int) by omega)]
    (simp only [go_sem, vc_block_seq, vc_block_region, vc_block_cond, vc_block_block, Nat.reduceBEq, Nat.reduceAdd, Nat.reduceLeDiff, Nat.reduceEqDiff, Int.reduceAdd, Int.reduceBEq, Int.reduceBNe, reduceCtorEq, beq_self_eq_true, Bool.true_beq, Bool.false_beq]; repeat ((with_reducible refine leK_refl ?_); simp only [go_sem, vc_block_seq, vc_block_region, vc_block_cond, vc_block_block, Nat.reduceBEq, Nat.reduceAdd, Nat.reduceLeDiff, Nat.reduceEqDiff, Int.reduceAdd, Int.reduceBEq, Int.reduceBNe, reduceCtorEq, beq_self_eq_true, Bool.true_beq, Bool.false_beq]))
    intro b14
    by_cases hw : A.inc < B.inc
    · have hWB : dWin A B = B := if_pos (by unfold dNewer; rw [if_neg (fun e => hi e.symm)]; exact decide_eq_true hw)
      rw [decide_eq_true (show (A.inc.toNat : Int) < (B.inc.toNat : Int) by rw [u16_lt]; exact hw)]
      (simp only [go_sem, vc_block_seq, vc_block_region, vc_block_cond, vc_block_block, Nat.reduceBEq, Nat.reduceAdd, Nat.reduceLeDiff, Nat.reduceEqDiff, Int.reduceAdd, Int.reduceBEq, Int.reduceBNe, reduceCtorEq, beq_self_eq_true, Bool.true_beq, Bool.false_beq]; repeat ((with_reducible refine leK_refl ?_); simp only [go_sem, vc_block_seq, vc_block_region, vc_block_cond, vc_block_block, Nat.reduceBEq, Nat.reduceAdd, Nat.reduceLeDiff, Nat.reduceEqDiff, Int.reduceAdd, Int.reduceBEq, Int.reduceBNe, reduceCtorEq, beq_self_eq_true, Bool.true_beq, Bool.false_beq]))
      have hyD : y.d = (PD.mk B b.p b.n b.c).d := hyW.trans hWB
      have hF := hb
      refine ptr_load hc7 (.inl rfl) (Nat.le_of_ble_eq_true rfl) ?_
      (simp only [go_sem, vc_block_seq, vc_block_region, vc_block_cond, vc_block_block, Nat.reduceBEq, Nat.reduceAdd, Nat.reduceLeDiff, Nat.reduceEqDiff, Int.reduceAdd, Int.reduceBEq, Int.reduceBNe, reduceCtorEq, beq_self_eq_true, Bool.true_beq, Bool.false_beq]; repeat ((with_reducible refine leK_refl ?_); simp only [go_sem, vc_block_seq, vc_block_region, vc_block_cond, vc_block_block, Nat.reduceBEq, Nat.reduceAdd, Nat.reduceLeDiff, Nat.reduceEqDiff, Int.reduceAdd, Int.reduceBEq, Int.reduceBNe, reduceCtorEq, beq_self_eq_true, Bool.true_beq, Bool.false_beq]))
      refine AtCall.of_spec (put_con lp VP.vw.2 ⟨A, a.p, a.n, a.c⟩ self 30 pp np cp _ VP.dl ha (by omega) (fun z hz => by have := VP.sm z hz; omega) (by simp only; omega)) ?_
      rintro r W27 H27 ⟨v1, rfl, p1, n1, c1, l1, rfl, o1, e1⟩
      replace hS := hS.trans H27
      replace ha := ha.mono H27
      replace hb := hb.mono H27
      replace VD := VD.mono H27
      replace VP := VP.mono H27
      replace hc7 := hc7.mono H27
      replace oq := oq.mono H27
      replace hF := hF.mono H27
      replace o1 := o1.dl
      rw [ep, t3] at e1 ⊢
      (simp only [go_sem, vc_block_seq, vc_block_region, vc_block_cond, vc_block_block, Nat.reduceBEq, Nat.reduceAdd, Nat.reduceLeDiff, Nat.reduceEqDiff, Int.reduceAdd, Int.reduceBEq, Int.reduceBNe, reduceCtorEq, beq_self_eq_true, Bool.true_beq, Bool.false_beq]; repeat ((with_reducible refine leK_refl ?_); simp only [go_sem, vc_block_seq, vc_block_region, vc_block_cond, vc_block_block, Nat.reduceBEq, Nat.reduceAdd, Nat.reduceLeDiff, Nat.reduceEqDiff, Int.reduceAdd, Int.reduceBEq, Int.reduceBNe, reduceCtorEq, beq_self_eq_true, Bool.true_beq, Bool.false_beq]))
      refine ptr_load hc7 (.inl rfl) (Nat.le_of_ble_eq_true rfl) ?_
      (simp only [go_sem, vc_block_seq, vc_block_region, vc_block_cond, vc_block_block, Nat.reduceBEq, Nat.reduceAdd, Nat.reduceLeDiff, Nat.reduceEqDiff, Int.reduceAdd, Int.reduceBEq, Int.reduceBNe, reduceCtorEq, beq_self_eq_true, Bool.true_beq, Bool.false_beq]; repeat ((with_reducible refine leK_refl ?_); simp only [go_sem, vc_block_seq, vc_block_region, vc_block_cond, vc_block_block, Nat.reduceBEq, Nat.reduceAdd, Nat.reduceLeDiff, Nat.reduceEqDiff, Int.reduceAdd, Int.reduceBEq, Int.reduceBNe, reduceCtorEq, beq_self_eq_true, Bool.true_beq, Bool.false_beq]))
      refine AtCall.of_spec (put_con lp VP.vw.2 ⟨B, b.p, b.n, b.c⟩ self 30 pp np cp _ VP.dl hb (by omega) (fun z hz => by have := VP.sm z hz; omega) (by simp only; omega)) ?_
      rintro r W28 H28 ⟨v2, rfl, p2, n2, c2, l2, rfl, o2, e2⟩
      replace hS := hS.trans H28
      replace ha := ha.mono H28
      replace hb := hb.mono H28
      replace VD := VD.mono H28
      replace VP := VP.mono H28
      replace hc7 := hc7.mono H28
      replace oq := oq.mono H28
      replace hF := hF.mono H28
      replace o1 := o1.mono H28
      replace o2 := o2.dl
      rw [ep, t4] at e2 ⊢
      (simp only [go_sem, vc_block_seq, vc_block_region, vc_block_cond, vc_block_block, Nat.reduceBEq, Nat.reduceAdd, Nat.reduceLeDiff, Nat.reduceEqDiff, Int.reduceAdd, Int.reduceBEq, Int.reduceBNe, reduceCtorEq, beq_self_eq_true, Bool.true_beq, Bool.false_beq]; repeat ((with_reducible refine leK_refl ?_); simp only [go_sem, vc_block_seq, vc_block_region, vc_block_cond, vc_block_block, Nat.reduceBEq, Nat.reduceAdd, Nat.reduceLeDiff, Nat.reduceEqDiff, Int.reduceAdd, Int.reduceBEq, Int.reduceBNe, reduceCtorEq, beq_self_eq_true, Bool.true_beq, Bool.false_beq]))
      refine .inl ⟨[(0, false), (1, false), (4, false), (2, false), (3, false), (5, false), (6, false), (7, false), (8, false), (9, false), (10, false), (11, false), (12, false), (13, false), (14, false), (15, false), (16, false), (17, false), (18, false), (19, false), (20, false), (21, false), (22, false), (23, false), (24, false), (25, false), (26, false), (27, false)], by kernel_rfl, ?_⟩
      (simp only [go_sem, vc_block_seq, vc_block_region, vc_block_cond, vc_block_block, Nat.reduceBEq, Nat.reduceAdd, Nat.reduceLeDiff, Nat.reduceEqDiff, Int.reduceAdd, Int.reduceBEq, Int.reduceBNe, reduceCtorEq, beq_self_eq_true, Bool.true_beq, Bool.false_beq]; repeat ((with_reducible refine leK_refl ?_); simp only [go_sem, vc_block_seq, vc_block_region, vc_block_cond, vc_block_block, Nat.reduceBEq, Nat.reduceAdd, Nat.reduceLeDiff, Nat.reduceEqDiff, Int.reduceAdd, Int.reduceBEq, Int.reduceBNe, reduceCtorEq, beq_self_eq_true, Bool.true_beq, Bool.false_beq]))
      refine ⟨⟨VP.dl.sl.some_ hin, by omega, by omega⟩, ?_⟩
      refine VP.dl.sl.load (getMap hy) (.inr rfl) (Nat.le_of_ble_eq_true rfl) ?_
      (simp only [go_sem, vc_block_seq, vc_block_region, vc_block_cond, vc_block_block, Nat.reduceBEq, Nat.reduceAdd, Nat.reduceLeDiff, Nat.reduceEqDiff, Int.reduceAdd, Int.reduceBEq, Int.reduceBNe, reduceCtorEq, beq_self_eq_true, Bool.true_beq, Bool.false_beq]; repeat ((with_reducible refine leK_refl ?_); simp only [go_sem, vc_block_seq, vc_block_region, vc_block_cond, vc_block_block, Nat.reduceBEq, Nat.reduceAdd, Nat.reduceLeDiff, Nat.reduceEqDiff, Int.reduceAdd, Int.reduceBEq, Int.reduceBNe, reduceCtorEq, beq_self_eq_true, Bool.true_beq, Bool.false_beq]))
      have hc := dsame_con y _ W28 (VP.dl.at_ hy) hF (by have := VP.sm y (List.mem_of_getElem? hy); omega)
      refine AtCall.of_spec (hc) ?_
      rintro r W29 H29 rfl
      replace hS := hS.trans H29
      replace ha := ha.mono H29
      replace hb := hb.mono H29
      replace VD := VD.mono H29
      replace VP := VP.mono H29
      replace hc7 := hc7.mono H29
      replace oq := oq.mono H29
      replace hF := hF.mono H29
      replace o1 := o1.mono H29
      replace o2 := o2.mono H29
      rw [decide_eq_true hyD]
      (simp only [go_sem, vc_block_seq, vc_block_region, vc_block_cond, vc_block_block, Nat.reduceBEq, Nat.reduceAdd, Nat.reduceLeDiff, Nat.reduceEqDiff, Int.reduceAdd, Int.reduceBEq, Int.reduceBNe, reduceCtorEq, beq_self_eq_true, Bool.true_beq, Bool.false_beq]; repeat ((with_reducible refine leK_refl ?_); simp only [go_sem, vc_block_seq, vc_block_region, vc_block_cond, vc_block_block, Nat.reduceBEq, Nat.reduceAdd, Nat.reduceLeDiff, Nat.reduceEqDiff, Int.reduceAdd, Int.reduceBEq, Int.reduceBNe, reduceCtorEq, beq_self_eq_true, Bool.true_beq, Bool.false_beq]))
      refine AtCall.of_spec (descs_con l1 lp _ _ _ _ _ _ _ o1 VP.dl (by have := (sm_of o1 (e1.trans ep.symm) VP.small).1; omega) (fun z hz => by have := (sm_of o1 (e1.trans ep.symm) VP.small).2 z hz; omega)) ?_
      rintro r W30 H30 rfl
      replace hS := hS.trans H30
      replace ha := ha.mono H30
      replace hb := hb.mono H30
      replace VD := VD.mono H30
      replace VP := VP.mono H30
      replace hc7 := hc7.mono H30
      replace oq := oq.mono H30
      replace hF := hF.mono H30
      replace o1 := o1.mono H30
      replace o2 := o2.mono H30
      rw [decide_eq_true (e1.trans ep.symm)]
      (simp only [go_sem, vc_block_seq, vc_block_region, vc_block_cond, vc_block_block, Nat.reduceBEq, Nat.reduceAdd, Nat.reduceLeDiff, Nat.reduceEqDiff, Int.reduceAdd, Int.reduceBEq, Int.reduceBNe, reduceCtorEq, beq_self_eq_true, Bool.true_beq, Bool.false_beq]; repeat ((with_reducible refine leK_refl ?_); simp only [go_sem, vc_block_seq, vc_block_region, vc_block_cond, vc_block_block, Nat.reduceBEq, Nat.reduceAdd, Nat.reduceLeDiff, Nat.reduceEqDiff, Int.reduceAdd, Int.reduceBEq, Int.reduceBNe, reduceCtorEq, beq_self_eq_true, Bool.true_beq, Bool.false_beq]))
      refine AtCall.of_spec (descs_con l2 lp _ _ _ _ _ _ _ o2 VP.dl (by have := (sm_of o2 (e2.trans ep.symm) VP.small).1; omega) (fun z hz => by have := (sm_of o2 (e2.trans ep.symm) VP.small).2 z hz; omega)) ?_
      rintro r W31 H31 rfl
      replace hS := hS.trans H31
      replace ha := ha.mono H31
      replace hb := hb.mono H31
      replace VD := VD.mono H31
      replace VP := VP.mono H31
      replace hc7 := hc7.mono H31
      replace oq := oq.mono H31
      replace hF := hF.mono H31
      replace o1 := o1.mono H31
      replace o2 := o2.mono H31
      rw [decide_eq_true (e2.trans ep.symm)]
      (simp only [go_sem, vc_block_seq, vc_block_region, vc_block_cond, vc_block_block, Nat.reduceBEq, Nat.reduceAdd, Nat.reduceLeDiff, Nat.reduceEqDiff, Int.reduceAdd, Int.reduceBEq, Int.reduceBNe, reduceCtorEq, beq_self_eq_true, Bool.true_beq, Bool.false_beq]; repeat ((with_reducible refine leK_refl ?_); simp only [go_sem, vc_block_seq, vc_block_region, vc_block_cond, vc_block_block, Nat.reduceBEq, Nat.reduceAdd, Nat.reduceLeDiff, Nat.reduceEqDiff, Int.reduceAdd, Int.reduceBEq, Int.reduceBNe, reduceCtorEq, beq_self_eq_true, Bool.true_beq, Bool.false_beq]))
      refine AtCall.of_spec (awake_con _) ?_
      rintro r W32 H32 rfl
      replace hS := hS.trans H32
      replace ha := ha.mono H32
      replace hb := hb.mono H32
      replace VD := VD.mono H32
      replace VP := VP.mono H32
      replace hc7 := hc7.mono H32
      replace oq := oq.mono H32
      replace hF := hF.mono H32
      replace o1 := o1.mono H32
      replace o2 := o2.mono H32
      (simp only [go_sem, vc_block_seq, vc_block_region, vc_block_cond, vc_block_block, Nat.reduceBEq, Nat.reduceAdd, Nat.reduceLeDiff, Nat.reduceEqDiff, Int.reduceAdd, Int.reduceBEq, Int.reduceBNe, reduceCtorEq, beq_self_eq_true, Bool.true_beq, Bool.false_beq]; repeat ((with_reducible refine leK_refl ?_); simp only [go_sem, vc_block_seq, vc_block_region, vc_block_cond, vc_block_block, Nat.reduceBEq, Nat.reduceAdd, Nat.reduceLeDiff, Nat.reduceEqDiff, Int.reduceAdd, Int.reduceBEq, Int.reduceBNe, reduceCtorEq, beq_self_eq_true, Bool.true_beq, Bool.false_beq]))
      exact ⟨hS, rfl⟩
    · have hWA : dWin A B = A := if_neg (by unfold dNewer; rw [if_neg (fun e => hi e.symm), decide_eq_false hw]; simp)
      rw [decide_eq_false (show ¬ (A.inc.toNat : Int) < (B.inc.toNat : Int) by rw [u16_lt]; exact hw)]
      (simp only [go_sem, vc_block_seq, vc_block_region, vc_block_cond, vc_block_block, Nat.reduceBEq, Nat.reduceAdd, Nat.reduceLeDiff, Nat.reduceEqDiff, Int.reduceAdd, Int.reduceBEq, Int.reduceBNe, reduceCtorEq, beq_self_eq_true, Bool.true_beq, Bool.false_beq]; repeat ((with_reducible refine leK_refl ?_); simp only [go_sem, vc_block_seq, vc_block_region, vc_block_cond, vc_block_block, Nat.reduceBEq, Nat.reduceAdd, Nat.reduceLeDiff, Nat.reduceEqDiff, Int.reduceAdd, Int.reduceBEq, Int.reduceBNe, reduceCtorEq, beq_self_eq_true, Bool.true_beq, Bool.false_beq]))
      rw [u16_beq, decide_eq_false (fun e => hi e.symm)]
      (simp only [go_sem, vc_block_seq, vc_block_region, vc_block_cond, vc_block_block, Nat.reduceBEq, Nat.reduceAdd, Nat.reduceLeDiff, Nat.reduceEqDiff, Int.reduceAdd, Int.reduceBEq, Int.reduceBNe, reduceCtorEq, beq_self_eq_true, Bool.true_beq, Bool.false_beq]; repeat ((with_reducible refine leK_refl ?_); simp only [go_sem, vc_block_seq, vc_block_region, vc_block_cond, vc_block_block, Nat.reduceBEq, Nat.reduceAdd, Nat.reduceLeDiff, Nat.reduceEqDiff, Int.reduceAdd, Int.reduceBEq, Int.reduceBNe, reduceCtorEq, beq_self_eq_true, Bool.true_beq, Bool.false_beq]))
      have hyD : y.d = (PD.mk A a.p a.n a.c).d := hyW.trans hWA
      have hF := ha
      refine ptr_load hc7 (.inl rfl) (Nat.le_of_ble_eq_true rfl) ?_
      (simp only [go_sem, vc_block_seq, vc_block_region, vc_block_cond, vc_block_block, Nat.reduceBEq, Nat.reduceAdd, Nat.reduceLeDiff, Nat.reduceEqDiff, Int.reduceAdd, Int.reduceBEq, Int.reduceBNe, reduceCtorEq, beq_self_eq_true, Bool.true_beq, Bool.false_beq]; repeat ((with_reducible refine leK_refl ?_); simp only [go_sem, vc_block_seq, vc_block_region, vc_block_cond, vc_block_block, Nat.reduceBEq, Nat.reduceAdd, Nat.reduceLeDiff, Nat.reduceEqDiff, Int.reduceAdd, Int.reduceBEq, Int.reduceBNe, reduceCtorEq, beq_self_eq_true, Bool.true_beq, Bool.false_beq]))
      refine AtCall.of_spec (put_con lp VP.vw.2 ⟨A, a.p, a.n, a.c⟩ self 30 pp np cp _ VP.dl ha (by omega) (fun z hz => by have := VP.sm z hz; omega) (by simp only; omega)) ?_
      rintro r W33 H33 ⟨v1, rfl, p1, n1, c1, l1, rfl, o1, e1⟩
      replace hS := hS.trans H33
      replace ha := ha.mono H33
      replace hb := hb.mono H33
      replace VD := VD.mono H33
      replace VP := VP.mono H33
      replace hc7 := hc7.mono H33
      replace oq := oq.mono H33
      replace hF := hF.mono H33
      replace o1 := o1.dl
      rw [ep, t3] at e1 ⊢
      (simp only [go_sem, vc_block_seq, vc_block_region, vc_block_cond, vc_block_block, Nat.reduceBEq, Nat.reduceAdd, Nat.reduceLeDiff, Nat.reduceEqDiff, Int.reduceAdd, Int.reduceBEq, Int.reduceBNe, reduceCtorEq, beq_self_eq_true, Bool.true_beq, Bool.false_beq]; repeat ((with_reducible refine leK_refl ?_); simp only [go_sem, vc_block_seq, vc_block_region, vc_block_cond, vc_block_block, Nat.reduceBEq, Nat.reduceAdd, Nat.reduceLeDiff, Nat.reduceEqDiff, Int.reduceAdd, Int.reduceBEq, Int.reduceBNe, reduceCtorEq, beq_self_eq_true, Bool.true_beq, Bool.false_beq]))
      refine ptr_load hc7 (.inl rfl) (Nat.le_of_ble_eq_true rfl) ?_
      (simp only [go_sem, vc_block_seq, vc_block_region, vc_block_cond, vc_block_block, Nat.reduceBEq, Nat.reduceAdd, Nat.reduceLeDiff, Nat.reduceEqDiff, Int.reduceAdd, Int.reduceBEq, Int.reduceBNe, reduceCtorEq, beq_self_eq_true, Bool.true_beq, Bool.false_beq]; repeat ((with_reducible refine leK_refl ?_); simp only [go_sem, vc_block_seq, vc_block_region, vc_block_cond, vc_block_block, Nat.reduceBEq, Nat.reduceAdd, Nat.reduceLeDiff, Nat.reduceEqDiff, Int.reduceAdd, Int.reduceBEq, Int.reduceBNe, reduceCtorEq, beq_self_eq_true, Bool.true_beq, Bool.false_beq]))
      refine AtCall.of_spec (put_con lp VP.vw.2 ⟨B, b.p, b.n, b.c⟩ self 30 pp np cp _ VP.dl hb (by omega) (fun z hz => by have := VP.sm z hz; omega) (by simp only; omega)) ?_
      rintro r W34 H34 ⟨v2, rfl, p2, n2, c2, l2, rfl, o2, e2⟩
      replace hS := hS.trans H34
      replace ha := ha.mono H34
      replace hb := hb.mono H34
      replace VD := VD.mono H34
      replace VP := VP.mono H34
      replace hc7 := hc7.mono H34
      replace oq := oq.mono H34
      replace hF := hF.mono H34
      replace o1 := o1.mono H34
      replace o2 := o2.dl
      rw [ep, t4] at e2 ⊢
      (simp only [go_sem, vc_block_seq, vc_block_region, vc_block_cond, vc_block_block, Nat.reduceBEq, Nat.reduceAdd, Nat.reduceLeDiff, Nat.reduceEqDiff, Int.reduceAdd, Int.reduceBEq, Int.reduceBNe, reduceCtorEq, beq_self_eq_true, Bool.true_beq, Bool.false_beq]; repeat ((with_reducible refine leK_refl ?_); simp only [go_sem, vc_block_seq, vc_block_region, vc_block_cond, vc_block_block, Nat.reduceBEq, Nat.reduceAdd, Nat.reduceLeDiff, Nat.reduceEqDiff, Int.reduceAdd, Int.reduceBEq, Int.reduceBNe, reduceCtorEq, beq_self_eq_true, Bool.true_beq, Bool.false_beq]))
      refine .inl ⟨[(0, false), (1, false), (4, false), (2, false), (3, false), (5, false), (6, false), (7, false), (8, false), (9, false), (10, false), (11, false), (12, false), (13, false), (14, false), (15, false), (16, false), (17, false), (18, false), (19, false), (20, false), (21, false), (22, false), (23, false), (24, false), (25, false), (26, false), (27, false)], by kernel_rfl, ?_⟩
      (simp only [go_sem, vc_block_seq, vc_block_region, vc_block_cond, vc_block_block, Nat.reduceBEq, Nat.reduceAdd, Nat.reduceLeDiff, Nat.reduceEqDiff, Int.reduceAdd, Int.reduceBEq, Int.reduceBNe, reduceCtorEq, beq_self_eq_true, Bool.true_beq, Bool.false_beq]; repeat ((with_reducible refine leK_refl ?_); simp only [go_sem, vc_block_seq, vc_block_region, vc_block_cond, vc_block_block, Nat.reduceBEq, Nat.reduceAdd, Nat.reduceLeDiff, Nat.reduceEqDiff, Int.reduceAdd, Int.reduceBEq, Int.reduceBNe, reduceCtorEq, beq_self_eq_true, Bool.true_beq, Bool.false_beq]))
      refine ⟨⟨VP.dl.sl.some_ hin, by omega, by omega⟩, ?_⟩
      refine VP.dl.sl.load (getMap hy) (.inr rfl) (Nat.le_of_ble_eq_true rfl) ?_
      (simp only [go_sem, vc_block_seq, vc_block_region, vc_block_cond, vc_block_block, Nat.reduceBEq, Nat.reduceAdd, Nat.reduceLeDiff, Nat.reduceEqDiff, Int.reduceAdd, Int.reduceBEq, Int.reduceBNe, reduceCtorEq, beq_self_eq_true, Bool.true_beq, Bool.false_beq]; repeat ((with_reducible refine leK_refl ?_); simp only [go_sem, vc_block_seq, vc_block_region, vc_block_cond, vc_block_block, Nat.reduceBEq, Nat.reduceAdd, Nat.reduceLeDiff, Nat.reduceEqDiff, Int.reduceAdd, Int.reduceBEq, Int.reduceBNe, reduceCtorEq, beq_self_eq_true, Bool.true_beq, Bool.false_beq]))
      have hc := dsame_con y _ W34 (VP.dl.at_ hy) hF (by have := VP.sm y (List.mem_of_getElem? hy); omega)
      refine AtCall.of_spec (hc) ?_
      rintro r W35 H35 rfl
      replace hS := hS.trans H35
      replace ha := ha.mono H35
      replace hb := hb.mono H35
      replace VD := VD.mono H35
      replace VP := VP.mono H35
      replace hc7 := hc7.mono H35
      replace oq := oq.mono H35
      replace hF := hF.mono H35
      replace o1 := o1.mono H35
      replace o2 := o2.mono H35
      rw [decide_eq_true hyD]
      (simp only [go_sem, vc_block_seq, vc_block_region, vc_block_cond, vc_block_block, Nat.reduceBEq, Nat.reduceAdd, Nat.reduceLeDiff, Nat.reduceEqDiff, Int.reduceAdd, Int.reduceBEq, Int.reduceBNe, reduceCtorEq, beq_self_eq_true, Bool.true_beq, Bool.false_beq]; repeat ((with_reducible refine leK_refl ?_); simp only [go_sem, vc_block_seq, vc_block_region, vc_block_cond, vc_block_block, Nat.reduceBEq, Nat.reduceAdd, Nat.reduceLeDiff, Nat.reduceEqDiff, Int.reduceAdd, Int.reduceBEq, Int.reduceBNe, reduceCtorEq, beq_self_eq_true, Bool.true_beq, Bool.false_beq]))
      refine AtCall.of_spec (descs_con l1 lp _ _ _ _ _ _ _ o1 VP.dl (by have := (sm_of o1 (e1.trans ep.symm) VP.small).1; omega) (fun z hz => by have := (sm_of o1 (e1.trans ep.symm) VP.small).2 z hz; omega)) ?_
      rintro r W36 H36 rfl
      replace hS := hS.trans H36
      replace ha := ha.mono H36
      replace hb := hb.mono H36
      replace VD := VD.mono H36
      replace VP := VP.mono H36
      replace hc7 := hc7.mono H36
      replace oq := oq.mono H36
      replace hF := hF.mono H36
      replace o1 := o1.mono H36
      replace o2 := o2.mono H36
      rw [decide_eq_true (e1.trans ep.symm)]
      (simp only [go_sem, vc_block_seq, vc_block_region, vc_block_cond, vc_block_block, Nat.reduceBEq, Nat.reduceAdd, Nat.reduceLeDiff, Nat.reduceEqDiff, Int.reduceAdd, Int.reduceBEq, Int.reduceBNe, reduceCtorEq, beq_self_eq_true, Bool.true_beq, Bool.false_beq]; repeat ((with_reducible refine leK_refl ?_); simp only [go_sem, vc_block_seq, vc_block_region, vc_block_cond, vc_block_block, Nat.reduceBEq, Nat.reduceAdd, Nat.reduceLeDiff, Nat.reduceEqDiff, Int.reduceAdd, Int.reduceBEq, Int.reduceBNe, reduceCtorEq, beq_self_eq_true, Bool.true_beq, Bool.false_beq]))
      refine AtCall.of_spec (descs_con l2 lp _ _ _ _ _ _ _ o2 VP.dl (by have := (sm_of o2 (e2.trans ep.symm) VP.small).1; omega) (fun z hz => by have := (sm_of o2 (e2.trans ep.symm) VP.small).2 z hz; omega)) ?_
      rintro r W37 H37 rfl
      replace hS := hS.trans H37
      replace ha := ha.mono H37
      replace hb := hb.mono H37
      replace VD := VD.mono H37
      replace VP := VP.mono H37
      replace hc7 := hc7.mono H37
      replace oq := oq.mono H37
      replace hF := hF.mono H37
      replace o1 := o1.mono H37
      replace o2 := o2.mono H37
      rw [decide_eq_true (e2.trans ep.symm)]
      (simp only [go_sem, vc_block_seq, vc_block_region, vc_block_cond, vc_block_block, Nat.reduceBEq, Nat.reduceAdd, Nat.reduceLeDiff, Nat.reduceEqDiff, Int.reduceAdd, Int.reduceBEq, Int.reduceBNe, reduceCtorEq, beq_self_eq_true, Bool.true_beq, Bool.false_beq]; repeat ((with_reducible refine leK_refl ?_); simp only [go_sem, vc_block_seq, vc_block_region, vc_block_cond, vc_block_block, Nat.reduceBEq, Nat.reduceAdd, Nat.reduceLeDiff, Nat.reduceEqDiff, Int.reduceAdd, Int.reduceBEq, Int.reduceBNe, reduceCtorEq, beq_self_eq_true, Bool.true_beq, Bool.false_beq]))
      refine AtCall.of_spec (awake_con _) ?_
      rintro r W38 H38 rfl
      replace hS := hS.trans H38
      replace ha := ha.mono H38
      replace hb := hb.mono H38
      replace VD := VD.mono H38
      replace VP := VP.mono H38
      replace hc7 := hc7.mono H38
      replace oq := oq.mono H38
      replace hF := hF.mono H38
      replace o1 := o1.mono H38
      replace o2 := o2.mono H38
      (simp only [go_sem, vc_block_seq, vc_block_region, vc_block_cond, vc_block_block, Nat.reduceBEq, Nat.reduceAdd, Nat.reduceLeDiff, Nat.reduceEqDiff, Int.reduceAdd, Int.reduceBEq, Int.reduceBNe, reduceCtorEq, beq_self_eq_true, Bool.true_beq, Bool.false_beq]; repeat ((with_reducible refine leK_refl ?_); simp only [go_sem, vc_block_seq, vc_block_region, vc_block_cond, vc_block_block, Nat.reduceBEq, Nat.reduceAdd, Nat.reduceLeDiff, Nat.reduceEqDiff, Int.reduceAdd, Int.reduceBEq, Int.reduceBNe, reduceCtorEq, beq_self_eq_true, Bool.true_beq, Bool.false_beq]))
      exact ⟨hS, rfl⟩
end Go.Proofs.Ytcfkcmalkbdphaa
