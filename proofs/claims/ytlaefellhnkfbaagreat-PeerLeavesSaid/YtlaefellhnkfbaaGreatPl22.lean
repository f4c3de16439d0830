/-
  Part 22 of the proof of Pl: the engine and the walks, in their order.
-/
import Derived.Test.YtlaefellhnkfbaaGreatPl9
import Derived.Test.YtlaefellhnkfbaaGreatPl11
import Derived.Test.YtlaefellhnkfbaaGreatPl18
import Derived.Test.YtlaefellhnkfbaaGreatPl21
set_option linter.unusedSimpArgs false
set_option linter.unusedVariables false
set_option maxRecDepth 10000
namespace Go.Proofs.YtlaefellhnkfbaaGreat
open Go.Eng
attribute [local go_sem] GSpan.val GSpan.enc PD.val PD.enc
theorem own_con (x : PD) (u : World) (hx : Fl u x) (hn : x.n ≤ 1000000) : Con Tryz.prog 158 [x.val] u (fun r u' => ∃ y : PD, r = y.val ∧ y.d = x.d ∧ Fo u u' 145 y) := by
  refine spec_of_vc Ty.mixed Tryz.func158 rfl (by kernel_rfl) (by kernel_rfl) rfl [.cell 2 34] rfl ?_
  refine vs_ ?_
  intro b1 b2
  refine eff_append Ty.el31 (Eng.Own.nil_ _ _ _ _) hx (GSpan.ones _) (by omega) (by omega) ?_
  intro q1 d1 w1 ho1 hsw1 hqw1
  simp only [Nat.zero_add, List.nil_append] at ho1 ⊢
  refine vs_ ?_
  exact ⟨hsw1.sub_none, ⟨x.d, q1, x.n, d1⟩, rfl, rfl, ho1⟩
theorem copy_con (l : List PD) (p : Option Addr) (n c : Nat) (u : World) (hl : DL u p n c l) (hn : n ≤ 1000000) (hs : ∀ x ∈ l, x.n ≤ 1000000) :
    Con Tryz.prog 92 [.slice p n c] u (fun r u' => ∃ p' c' l', r = .slice p' n c' ∧ DO u u' 34 145 p' n c' l' ∧ ds l' = ds l ∧ p'.isSome = true) := by
  have ll := hl.len
  refine spec_of_vc Ty.mixed Tryz.func92 rfl (by kernel_rfl) (by kernel_rfl) rfl [.tmp 2] rfl ?_
  refine vs_ ?_
  refine eff_make (ln := n) (cn := n) Ty.el32 Ty.zero34 rfl rfl (by omega) (by omega) (by omega) ?_
  intro p1 u1 ho1 hs1 hf1 hp1
  refine vs_ ?_
  refine vc_range n (fun (_ : Unit) => []) (fun _ => [])
    (fun j _ u' => Sub u u' ∧ ∃ l' : List PD, ds l' = (ds l).take j ∧ (∀ x ∈ l', Fo u u' 145 x ∧ (∀ a b, x.p = some a → p1 = some b → a.block ≠ b.block)) ∧ Eng.Own u u' 34 4 p1 n n (l'.map PD.enc ++ List.replicate (n - j) [.int .u8 0, .int .u16 0, .int .u8 0, .slice none 0 0]))
    () (le_chk (by simp only [go_sem, vc_block_seq, vc_block_region, vc_block_cond, vc_block_block, Nat.reduceBEq, Nat.reduceAdd, Nat.reduceLeDiff, Nat.reduceEqDiff, Int.reduceAdd, Int.reduceBEq, Int.reduceBNe, reduceCtorEq, beq_self_eq_true, Bool.true_beq, Bool.false_beq])) ⟨hs1, [], by simp, by simp, by simpa using ho1⟩ (fun _ _ => rfl) (by omega) (fun _ => rfl) ?_ ?_
  · rintro j _ u2 hj ⟨hs2, l', e1, e2, o2⟩
    obtain ⟨x, hx⟩ := exAt hj ll
    have hl' : l'.length = j := by have := congrArg List.length e1; simp at this; omega
    refine vs_ ?_
    refine ⟨⟨hl.sl.some_ hj, by omega, by omega⟩, ?_⟩
    refine (hl.sl.mono hs2).load (getMap hx) (.inr rfl) (Nat.le_of_ble_eq_true rfl) ?_
    refine vs_ ?_
    intro b1
    refine AtCall.of_spec (own_con x u2 ((hl.at_ hx).mono hs2) (hs x (List.mem_of_getElem? hx))) ?_
    rintro r u3 hs3 ⟨y, rfl, hyd, hyo⟩
    have o3 := o2.mono hs3
    have hrep : List.replicate (n - j) [Value.int .u8 0, .int .u16 0, .int .u8 0, .slice none 0 0] = [Value.int .u8 0, .int .u16 0, .int .u8 0, .slice none 0 0] :: List.replicate (n - (j + 1)) [Value.int .u8 0, .int .u16 0, .int .u8 0, .slice none 0 0] := by
      rw [show n - j = (n - (j + 1)) + 1 by omega, List.replicate_succ]
    rw [hrep] at o3
    have hat : (l'.map PD.enc ++ [Value.int .u8 0, .int .u16 0, .int .u8 0, .slice none 0 0] :: List.replicate (n - (j + 1)) [Value.int .u8 0, .int .u16 0, .int .u8 0, .slice none 0 0])[j]? = some [Value.int .u8 0, .int .u16 0, .int .u8 0, .slice none 0 0] := by
      rw [List.getElem?_append_right (by simp; omega)]; simp [hl']
    refine vs_ ?_
    refine ⟨⟨o3.sl.some_ hj, by omega, by omega⟩, ?_⟩
    refine own_store Ty.lay34 o3 hat rfl (by omega) rfl ?_
    intro u4 o4 x4
    refine vs_ ?_
    have hne : ∀ a b, y.p = some a → p1 = some b → a.block ≠ b.block := fun a b ha hb e => (ne_of_fresh o2 (Eng.Own.fresh hyo)) b a hb ha e.symm
    refine ⟨(), le_chk (by simp only [go_sem, vc_block_seq, vc_block_region, vc_block_cond, vc_block_block, Nat.reduceBEq, Nat.reduceAdd, Nat.reduceLeDiff, Nat.reduceEqDiff, Int.reduceAdd, Int.reduceBEq, Int.reduceBNe, reduceCtorEq, beq_self_eq_true, Bool.true_beq, Bool.false_beq]), x4.sub (hs2.trans hs3) o2.fresh, l' ++ [y], ?_, ?_, ?_⟩
    · rw [ds, List.map_append, take_succ (by simp [hx] : (ds l)[j]? = some x.d), ← hyd]
      congr 1
    · intro z hz
      rcases List.mem_append.1 hz with hz | hz
      · exact ⟨((e2 z hz).1.mono hs3).subX x4 (e2 z hz).2, (e2 z hz).2⟩
      · simp at hz
        subst hz
        exact ⟨(hyo.anti hs2).subX x4 hne, hne⟩
    · have e5 : (l' ++ [y]).map PD.enc ++ List.replicate (n - (j + 1)) [Value.int .u8 0, .int .u16 0, .int .u8 0, .slice none 0 0] = (l'.map PD.enc ++ [Value.int .u8 0, .int .u16 0, .int .u8 0, .slice none 0 0] :: List.replicate (n - (j + 1)) [Value.int .u8 0, .int .u16 0, .int .u8 0, .slice none 0 0]).set j y.enc := by
        rw [List.set_append, if_neg (by simp; omega)]
        simp [hl']
      rw [e5]
      exact o4
  · rintro _ u2 ⟨hs2, l', e1, e2, o2⟩
    rw [take_all (by simpa using ll)] at e1
    simp only [Nat.sub_self, List.replicate_zero, List.append_nil] at o2
    refine vs_ ?_
    exact ⟨hs2, p1, n, l', rfl, ⟨o2, fun x hx => (e2 x hx).1, fun x hx => (e2 x hx).2⟩, e1, hp1⟩
end Go.Proofs.YtlaefellhnkfbaaGreat

namespace Go.Eng
def dPlace (l : List GDesc) (node : UInt8) : Nat := l.findIdx fun d => decide (node ≤ d.node)
def dThere (l : List GDesc) (node : UInt8) : Bool := (dIdx l node).isSome
section
variable {l : List GDesc} {node : UInt8}
theorem place_le (l : List GDesc) (node : UInt8) : dPlace l node ≤ l.length := List.findIdx_le_length
theorem place_iff (hu : Up dKey l) {h : Nat} {o : GDesc} (ho : l[h]? = some o) : node ≤ o.node ↔ dPlace l node ≤ h := by
  obtain ⟨hh, rfl⟩ := List.getElem?_eq_some_iff.1 ho
  constructor
  · intro hle
    rcases Nat.lt_or_ge h (dPlace l node) with h1 | h1
    · have := List.not_of_lt_findIdx h1
      exact absurd hle (by simpa using this)
    · exact h1
  · intro hle
    have hlt : dPlace l node < l.length := by omega
    have h1 := List.findIdx_getElem (w := hlt)
    simp only [decide_eq_true_eq] at h1
    rw [UInt8.le_iff_toNat_le] at h1 ⊢
    rcases Nat.eq_or_lt_of_le hle with e | h2
    · have : l[List.findIdx (fun d => decide (node ≤ d.node)) l] = l[h] := by congr 1
      rw [this] at h1
      exact h1
    · have := List.pairwise_iff_getElem.1 hu _ _ hlt hh h2
      unfold dKey dPlace at this
      omega
theorem place_some (hu : Up dKey l) {i : Nat} (h : dIdx l node = some i) : dPlace l node = i := by
  obtain ⟨o, ho, hn⟩ := dIdx_some h
  have h1 := (place_iff hu (node := node) ho).1 (by rw [hn]; exact UInt8.le_refl _)
  obtain ⟨hi, rfl⟩ := List.getElem?_eq_some_iff.1 ho
  rcases Nat.eq_or_lt_of_le h1 with e | h2
  · exact e
  · exfalso
    have h3 : l[dPlace l node]? = some l[dPlace l node] := List.getElem?_eq_getElem (by omega)
    have h4 := (place_iff hu (node := node) h3).2 (Nat.le_refl _)
    have h5 := List.pairwise_iff_getElem.1 hu _ _ (by omega) hi h2
    rw [UInt8.le_iff_toNat_le] at h4
    have h6 : node.toNat = l[i].node.toNat := by rw [hn]
    unfold dKey at h5
    omega
theorem place_there (hu : Up dKey l) {o : GDesc} (ho : l[dPlace l node]? = some o) : decide (o.node = node) = dThere l node := by
  unfold dThere
  cases hi : dIdx l node with
  | some i =>
    have := place_some hu hi
    obtain ⟨o', ho', hn⟩ := dIdx_some hi
    rw [this, ho'] at ho
    cases ho
    simp [hn]
  | none =>
    have := dIdx_none hi o (List.mem_of_getElem? ho)
    simp [this]
theorem place_end (hu : Up dKey l) (h : dPlace l node = l.length) : dThere l node = false := by
  unfold dThere
  cases hi : dIdx l node with
  | none => rfl
  | some i =>
    have := place_some hu hi
    obtain ⟨o', ho', hn⟩ := dIdx_some hi
    obtain ⟨hlt, _⟩ := List.getElem?_eq_some_iff.1 ho'
    omega
theorem place_kAt {d : GDesc} (h : dIdx l d.node = none) : kAt dKey l d = dPlace l d.node := by
  rw [kAt_eq]
  unfold dPlace
  have hn := dIdx_none h
  clear h
  induction l with
  | nil => rfl
  | cons a r ih =>
    have h1 := hn a List.mem_cons_self
    have h2 : decide (dKey d < dKey a) = decide (d.node ≤ a.node) := by
      rw [decide_eq_decide, UInt8.le_iff_toNat_le]
      unfold dKey
      have : a.node.toNat ≠ d.node.toNat := fun e => h1 (UInt8.toNat_inj.1 e)
      omega
    rw [List.findIdx_cons, List.findIdx_cons, h2, ih (fun e he => hn e (List.mem_cons_of_mem _ he))]
theorem drop_idx (hu : Up dKey l) {i : Nat} (h : dIdx l node = some i) : dDrop l node = l.take i ++ l.drop (i + 1) := by
  obtain ⟨o, ho, hn⟩ := dIdx_some h
  obtain ⟨hi, rfl⟩ := List.getElem?_eq_some_iff.1 ho
  have hne : ∀ j (hj : j < l.length), j ≠ i → l[j].node ≠ node := by
    intro j hj hji e
    have h1 : dIdx l l[j].node = some j := dIdx_at (self := 0) hu (List.getElem?_eq_getElem hj)
    rw [e, h] at h1
    cases h1
    exact hji rfl
  unfold dDrop
  conv => lhs; rw [← List.take_append_drop i l, List.filter_append]
  rw [List.filter_eq_self.2, ← List.getElem_cons_drop hi, List.filter_cons]
  · simp only [hn, decide_true, Bool.not_true, Bool.false_eq_true, if_false]
    rw [List.filter_eq_self.2]
    intro d hd
    obtain ⟨j, hj, rfl⟩ := List.mem_drop_iff_getElem.1 hd
    have := hne (j + (i + 1)) hj (by omega)
    simp only [Nat.add_comm] at this ⊢
    simpa using this
  · intro d hd
    obtain ⟨j, hj, rfl⟩ := List.mem_take_iff_getElem.1 hd
    simpa using hne j (by omega) (by omega)
theorem drop_none (h : dIdx l node = none) : dDrop l node = l := by
  unfold dDrop
  exact List.filter_eq_self.2 (fun d hd => by simpa using dIdx_none h d hd)
end
end Go.Eng

set_option maxRecDepth 10000
namespace Go.Proofs.YtlaefellhnkfbaaGreat
open Go.Eng
attribute [local go_sem] GSpan.val GSpan.enc PD.val PD.enc
theorem newer_con (x y : PD) (u : World) : Con Tryz.prog 233 [x.val, y.val] u (fun r _ => r = .bool (dNewer x.d y.d)) := by
  refine spec_of_vc Ty.mixed Tryz.func233 rfl (by kernel_rfl) (by kernel_rfl) rfl [.tmp 4] rfl ?_
  refine vs_ ?_
  intro b1 b2
  rw [u16_bne]
  refine cond_split (fun h => ?_) (fun h => ?_)
  · have h1 : x.d.inc ≠ y.d.inc := by simpa using h
    refine vs_ ?_
    refine ⟨Sub.refl _, ?_⟩
    simp [dNewer, h1, ← u16_lt]
  · have h1 : x.d.inc = y.d.inc := by simpa using h
    refine vs_ ?_
    refine ⟨Sub.refl _, ?_⟩
    simp [dNewer, h1, ← u8_lt]
theorem half (i j : Nat) : Int.fdiv ((i : Int) + j) (2 ^ min (Int.toNat 1) IntKind.u64.bits) = (((i + j) / 2 : Nat) : Int) := by
  rw [show min (Int.toNat 1) IntKind.u64.bits = 1 from rfl, Int.fdiv_eq_ediv_of_nonneg _ (by decide)]
  omega
theorem search_con (n k : Nat) (hk : k ≤ n) (f : FuncId) (first captured : List Value) (u : World) (hn : n ≤ 1000000000)
    (hf : ∀ (h : Nat) u', h < n → Sub u u' → Con Tryz.prog f (first ++ [.int .i64 h] ++ captured) u' (fun r _ => r = .bool (decide (k ≤ h)))) :
    Con Tryz.prog 119 [.int .i64 n, .func (.func f) first.toArray captured.toArray] u (fun r _ => r = .int .i64 k) := by
  refine spec_of_vc Ty.mixed Tryz.func119 rfl (by kernel_rfl) (by kernel_rfl) rfl [.tmp 4] rfl ?_
  refine vs_ ?_
  refine vc_for (fun (g : Nat × Nat) => [(5, .v (.int .i64 g.1)), (6, .v (.int .i64 g.2))]) (fun _ => [])
    (fun g u' => Sub u u' ∧ g.1 ≤ k ∧ k ≤ g.2 ∧ g.2 ≤ n) (fun g => g.2 - g.1) (0, n) (le_chk (by simp only [go_sem, vc_block_seq, vc_block_region, vc_block_cond, vc_block_block, Nat.reduceBEq, Nat.reduceAdd, Nat.reduceLeDiff, Nat.reduceEqDiff, Int.reduceAdd, Int.reduceBEq, Int.reduceBNe, reduceCtorEq, beq_self_eq_true, Bool.true_beq, Bool.false_beq]; simp)) ⟨Sub.refl _, Nat.zero_le _, hk, Nat.le_refl _⟩ ?_
  rintro ⟨i, j⟩ u1 ⟨hs, h1, h2, h3⟩
  simp only at h1 h2 h3
  refine vs_ ?_
  refine cond_dec (fun h => ?_) (fun h => ?_)
  · have hij : i < j := by omega
    refine vs_ ?_
    rw [arith_i64 (by omega)]
    refine vs_ ?_
    rw [arith_u64 (by omega)]
    refine vs_ ?_
    rw [bin_shr (by omega), half]
    generalize hm : (i + j) / 2 = m
    have hm1 : i ≤ m := by omega
    have hm2 : m < j := by omega
    refine vs_ ?_
    rw [arith_i64 (by omega)]
    refine vs_ ?_
    refine AtCall.of_spec (hf m u1 (by omega) hs) ?_
    rintro r u2 hs2 rfl
    refine vs_ ?_
    refine cond_dec (fun h4 => ?_) (fun h4 => ?_)
    · refine vs_ ?_
      exact ⟨(i, m), le_chk (by simp only [go_sem, vc_block_seq, vc_block_region, vc_block_cond, vc_block_block, Nat.reduceBEq, Nat.reduceAdd, Nat.reduceLeDiff, Nat.reduceEqDiff, Int.reduceAdd, Int.reduceBEq, Int.reduceBNe, reduceCtorEq, beq_self_eq_true, Bool.true_beq, Bool.false_beq]), ⟨hs.trans hs2, h1, h4, by simp only; omega⟩, by simp only; omega⟩
    · refine vs_ ?_
      rw [arith_i64 (by omega)]
      refine vs_ ?_
      exact ⟨(m + 1, j), le_chk (by simp only [go_sem, vc_block_seq, vc_block_region, vc_block_cond, vc_block_block, Nat.reduceBEq, Nat.reduceAdd, Nat.reduceLeDiff, Nat.reduceEqDiff, Int.reduceAdd, Int.reduceBEq, Int.reduceBNe, reduceCtorEq, beq_self_eq_true, Bool.true_beq, Bool.false_beq]; simp), ⟨hs.trans hs2, by simp only; omega, h2, h3⟩, by simp only; omega⟩
  · refine vs_ ?_
    refine ⟨hs, ?_⟩
    congr 1
    omega
theorem place1_con (l : List PD) (hu : Up dKey (ds l)) (node : UInt8) (p : Option Addr) (n c b1 b2 h : Nat) (u : World) (hl : DL u p n c l) (hh : h < n) (h1 : u.heap[b1]? = some (.cells [Value.slice p n c].toArray 32 (0, 0)))
    (h2 : u.heap[b2]? = some (.cells [Value.int .u8 node.toNat].toArray 5 (0, 0))) :
    Con Tryz.prog 120 [.int .i64 h, .pointer (some ⟨b1, 0, none⟩), .pointer (some ⟨b2, 0, none⟩)] u (fun r _ => r = .bool (decide (dPlace (ds l) node ≤ h))) := by
  obtain ⟨x, hx⟩ := exAt hh hl.len
  refine spec_of_vc Ty.mixed Tryz.func120 rfl (by kernel_rfl) (by kernel_rfl) rfl [.tmp 4] rfl ?_
  refine vs_ ?_
  refine .inl ⟨[(0, false), (1, false), (5, false), (2, false), (3, false), (4, false), (6, false), (7, false)], by kernel_rfl, ?_⟩
  refine vs_ ?_
  refine ptr_load h1 (.inl rfl) (Nat.le_of_ble_eq_true rfl) ?_
  refine vs_ ?_
  refine ptr_load h2 (.inl rfl) (Nat.le_of_ble_eq_true rfl) ?_
  refine vs_ ?_
  refine ⟨⟨hl.sl.some_ hh, by omega, by omega⟩, ?_⟩
  refine hl.sl.load (getMap hx) (.inl rfl) (Nat.le_of_ble_eq_true rfl) ?_
  refine vs_ ?_
  refine ⟨Sub.refl _, ?_⟩
  congr 1
  rw [decide_eq_decide, u8_le, place_iff hu (by simp [hx] : (ds l)[h]? = some x.d)]
theorem place_con (l : List PD) (hu : Up dKey (ds l)) (node : UInt8) (p : Option Addr) (n c : Nat) (u : World) (hl : DL u p n c l) (hn : n ≤ 1000000) :
    Con Tryz.prog 54 [.slice p n c, .int .u8 node.toNat] u (fun r _ => r = .tuple #[.int .i64 (dPlace (ds l) node), .bool (dThere (ds l) node)]) := by
  have ll := hl.len
  have hple := place_le (ds l) node
  simp only [List.length_map] at hple
  refine spec_of_vc Ty.mixed Tryz.func54 rfl (by kernel_rfl) (by kernel_rfl) rfl [.tmp 4, .tmp 5] rfl ?_
  refine vs_ ?_
  intro b1 b2 u1 hs1 hf1 hf1' hb1 hg1 u2 hs2 hf2 hf2' hb2 hg2
  have hs := hs1.trans hs2
  have hb1' := hs2 _ _ hb1 cells_ne_junk
  refine AtCall.of_spec (search_con n (dPlace (ds l) node) (by omega) 120 [] [_, _] u2 (by omega) (fun h u' hh hs' => place1_con l hu node p n c b1 b2 h u' (hl.mono (hs.trans hs')) hh (hs' _ _ hb1' cells_ne_junk) (hs' _ _ hb2 cells_ne_junk))) ?_
  rintro r u3 hs3 rfl
  have hc1 := hs3 _ _ hb1' cells_ne_junk
  have hc2 := hs3 _ _ hb2 cells_ne_junk
  replace hl := hl.mono (hs.trans hs3)
  generalize hk : dPlace (ds l) node = k at hple
  refine vs_ ?_
  refine .inl ⟨[(0, false), (1, false), (2, false), (3, false), (4, false), (5, false), (6, false), (7, false), (11, false), (14, false), (8, false), (9, false), (10, false), (12, false), (13, false), (15, false)], by kernel_rfl, ?_⟩
  refine vs_ ?_
  refine ptr_load hc1 (.inl rfl) (Nat.le_of_ble_eq_true rfl) ?_
  refine vs_ ?_
  by_cases h : k < n
  · have e1 : decide ((k : Int) < (n : Int)) = true := by simpa using h
    obtain ⟨x, hx⟩ := exAt h ll
    rw [e1]
    refine vs_ ?_
    refine ptr_load hc1 (.inl rfl) (Nat.le_of_ble_eq_true rfl) ?_
    refine vs_ ?_
    refine ptr_load hc2 (.inl rfl) (Nat.le_of_ble_eq_true rfl) ?_
    refine vs_ ?_
    refine ⟨⟨hl.sl.some_ h, by omega, by omega⟩, ?_⟩
    refine hl.sl.load (getMap hx) (.inl rfl) (Nat.le_of_ble_eq_true rfl) ?_
    refine vs_ ?_
    refine ⟨hs.trans hs3, ?_⟩
    rw [u8_beq, ← place_there hu (by rw [hk]; simp [hx] : (ds l)[dPlace (ds l) node]? = some x.d)]
  · have e1 : decide ((k : Int) < (n : Int)) = false := by simpa using h
    rw [e1]
    refine vs_ ?_
    refine ⟨hs.trans hs3, ?_⟩
    rw [place_end hu (by rw [hk]; simp; omega)]
theorem find_con (l : List PD) (hu : Up dKey (ds l)) (node : UInt8) (p : Option Addr) (n c : Nat) (u : World) (hl : DL u p n c l) (hn : n ≤ 1000000) :
    Con Tryz.prog 18 [.slice p n c, .int .u8 node.toNat] u (fun r _ => r = .int .i64 (dFind (ds l) node)) := by
  refine spec_of_vc Ty.mixed Tryz.func18 rfl (by kernel_rfl) (by kernel_rfl) rfl [.tmp 4] rfl ?_
  refine vs_ ?_
  refine AtCall.of_spec (place_con l hu node p n c u hl hn) ?_
  rintro r u1 hs rfl
  generalize hT : dThere (ds l) node = T
  (simp -implicitDefEqProofs only [go_sem, vc_block_seq, vc_block_region, vc_block_cond, vc_block_block, Nat.reduceBEq, Nat.reduceAdd, Nat.reduceLeDiff, Nat.reduceEqDiff, Int.reduceAdd, Int.reduceBEq, Int.reduceBNe, reduceCtorEq, beq_self_eq_true, Bool.true_beq, Bool.false_beq]; repeat ((with_reducible refine leK_refl ?_); simp -implicitDefEqProofs only [go_sem, vc_block_seq, vc_block_region, vc_block_cond, vc_block_block, Nat.reduceBEq, Nat.reduceAdd, Nat.reduceLeDiff, Nat.reduceEqDiff, Int.reduceAdd, Int.reduceBEq, Int.reduceBNe, reduceCtorEq, beq_self_eq_true, Bool.true_beq, Bool.false_beq]))
  unfold dThere at hT
  unfold dFind
  cases hi : dIdx (ds l) node with
  | none =>
    rw [hi] at hT
    simp only [Option.isSome_none] at hT
    subst hT
    refine vs_ ?_
    exact ⟨hs, rfl⟩
  | some i =>
    rw [hi] at hT
    simp only [Option.isSome_some] at hT
    subst hT
    rw [place_some hu hi]
    refine vs_ ?_
    exact ⟨hs, rfl⟩
theorem delete_call (xs : List (List Value)) (p : Option Addr) (n c i : Nat) (u0 u : World) (ho : Eng.Own u0 u 34 4 p n c xs) (h1 : allOnes xs) (hi : i < n) (hn : n ≤ 1000000) {K : Value → World → Prop}
    (hK : ∀ u', Eng.Own u0 u' 34 4 p (n - 1) c (xs.take i ++ xs.drop (i + 1)) → SubX p u u' → K (.slice p (n - 1) c) u') :
    AtCall false Tryz.prog 124 [.slice p n c, .int .i64 i, .int .i64 ((i : Int) + 1)] u0 u K := by
  have hcap := ho.sl.cap
  refine .inl (call_of_vc Ty.mixed Tryz.func124 rfl (by kernel_rfl) (by kernel_rfl) rfl [.tmp 6] rfl ?_)
  refine vs_ ?_
  rw [slice_3 (l := i) (h := i + 1) (m := n) Ty.el32 rfl (by omega) rfl (by omega) (by omega) (by omega)]
  refine vs_ ?_
  rw [show ((i : Int) == (i : Int) + 1) = false from by simp; omega]
  refine vs_ ?_
  refine .inl ⟨[(0, false), (1, false), (3, false), (4, false), (2, false), (5, false), (6, false), (7, false)], by kernel_rfl, ?_⟩
  refine vs_ ?_
  rw [slice_toN (k0 := i) Ty.el32 rfl (by omega)]
  refine vs_ ?_
  rw [slice_fromN (k0 := i + 1) Ty.el32 (by omega) (by omega)]
  refine vs_ ?_
  refine eff_append_room Ty.el32 (ho.take (k := i) (by omega)) (ho.sl.drop (l := i + 1) (by omega)) (fun y hy => h1 y (List.mem_of_mem_drop hy)) (by omega) ?_
  intro u1 o1 x1
  rw [show i + (n - (i + 1)) = n - 1 by omega] at o1 ⊢
  refine vs_ ?_
  rw [slice_loHi (l := n - 1) (h := n) Ty.el32 (by omega) rfl (by omega) (by omega)]
  refine vs_ ?_
  refine own_clear Ty.el32 Ty.zero34 rfl o1 (by omega) (by omega) ?_
  intro u2 o2 x2
  refine vs_ ?_
  refine hK u2 o2 (fun b o hb h hn => x2 b o hb (x1 b o hb h hn) hn)
end Go.Proofs.YtlaefellhnkfbaaGreat

set_option maxRecDepth 10000
namespace Go.Proofs.YtlaefellhnkfbaaGreat
open Go.Eng
attribute [local go_sem] GSpan.val GSpan.enc PD.val PD.enc
set_option maxHeartbeats 1000000 in
theorem insertDesc_call (xs : List (List Value)) (x : List Value) (i n c : Nat) (p : Option Addr) (gv : Nat) (u0 u : World) (ho : Eng.Own u0 u 34 4 p n c xs) (hi : i ≤ n)
    (hv : u.heap[gv]? = some (.cells x.toArray 34 (0, 0))) (hx : x.length = 4) (hx1 : allOne x = true) (hxs : allOnes xs) (hne : ∀ a, p = some a → gv ≠ a.block) (hb : (n + 1) * 32 ≤ 140737488355328) {K : Value → World → Prop}
    (hK : ∀ p' c' u', Eng.Own u0 u' 34 4 p' (n + 1) c' (xs.take i ++ [x] ++ xs.drop i) → SubX p u u' → (p' = p ∨ FreshP u p') → K (.slice p' (n + 1) c') u') :
    AtCall false Tryz.prog 194 [.slice p n c, .int .i64 i, .slice (some ⟨gv, 0, none⟩) 1 1] u0 u K := by
  have hvs : Sl u 4 (some ⟨gv, 0, none⟩) 1 1 [x] := ⟨rfl, Nat.le_refl _, by simpa using hx, (fun h => by cases h), fun a ha => by
    cases ha
    refine ⟨fun _ => rfl, fun i y hy j v hvj => ?_⟩
    cases i with
    | zero => simp at hy; subst hy; exact cell?_of hv (by simpa using hvj)
    | succ i => simp at hy⟩
  have hsl := ho.sl
  have hcap := hsl.cap
  have hlen := ho.len
  have hlA : (xs.take i).flatten.length = i * 4 := by rw [flatten_length (sz := 4) _ (fun y hy => ho.each y (List.mem_of_mem_take hy))]; simp [hlen]; omega
  have hlB : (xs.drop i).flatten.length = (n - i) * 4 := by rw [flatten_length (sz := 4) _ (fun y hy => ho.each y (List.mem_of_mem_drop hy))]; simp [hlen]
  have hfin : (xs.take i ++ [x] ++ xs.drop i).flatten = (xs.take i).flatten ++ x ++ (xs.drop i).flatten := by simp
  have hfl : (xs.take i ++ [x] ++ xs.drop i).length = n + 1 := by simp [hlen]; omega
  have hfe : ∀ y ∈ xs.take i ++ [x] ++ xs.drop i, y.length = 4 := by
    intro y hy
    simp only [List.append_assoc, List.mem_append, List.mem_singleton] at hy
    rcases hy with hy | rfl | hy
    · exact ho.each y (List.mem_of_mem_take hy)
    · exact hx
    · exact ho.each y (List.mem_of_mem_drop hy)
  have hxs2 : xs.flatten = (xs.take i).flatten ++ (xs.drop i).flatten := by rw [← List.flatten_append, List.take_append_drop]
  refine .inl (call_of_vc Ty.mixed Tryz.func194 rfl (by kernel_rfl) (by kernel_rfl) rfl [.tmp 6] rfl ?_)
  refine vs_ ?_
  rw [slice_fromE Ty.el32 (by omega) (by omega)]
  refine vs_ ?_
  refine cond_eq (fun h => absurd h (by omega)) (fun _ => ?_)
  refine vs_ ?_
  refine cond_eq (fun h => ?_) (fun h => ?_)
  · -- at the end
    have hin : i = n := by omega
    subst hin
    refine vs_ ?_
    refine eff_append Ty.el32 ho hvs (by intro y hy; simp at hy; subst hy; exact hx1) hb (by omega) ?_
    intro p' c' u' ho' hs' hq'
    refine vs_ ?_
    refine hK p' c' u' ?_ hs' hq'
    have : xs.take i ++ [x] ++ xs.drop i = xs ++ [x] := by rw [List.take_of_length_le (by omega), List.drop_eq_nil_of_le (by omega)]; simp
    rw [this]; exact ho'
  have hlt : i < n := by omega
  obtain ⟨a, hp⟩ : ∃ a, p = some a := by cases p with | none => have := hsl.some_ hlt; cases this | some a => exact ⟨a, rfl⟩
  subst hp
  rcases ho.at_ with ⟨hh, _⟩ | ⟨g, cur, hg0, hg, h1, h2, h3, h4, h5⟩
  · cases hh
  cases hg0
  have hgne : gv ≠ g := hne _ rfl
  have hB1 : ∀ v ∈ (xs.drop i).flatten, v.oneCell' = true := fun v hv => allOnes_flatten hxs v (by rw [hxs2]; exact List.mem_append_right _ hv)
  refine vs_ ?_
  rw [arith_i64 (by omega)]
  refine vs_ ?_
  refine cond_dec (fun h => ?_) (fun h => ?_)
  · -- a new block
    refine vs_ ?_
    rw [slice_toE Ty.el32 (by omega) (by omega)]
    refine vs_ ?_
    rw [arith_i64 (by omega)]
    refine vs_ ?_
    rw [arith_i64 (by omega)]
    refine vs_ ?_
    have e0 : ((i : Int).toNat) = i := by omega
    have e1 : ((n : Int) + (1 : Nat) - (i : Int)).toNat = n + 1 - i := by omega
    rw [e0]
    have e3 : i + ((n : Int) + (1 : Nat) - (i : Int)).toNat = n + 1 := by omega
    refine eff_append_zeros Ty.el32 Ty.intK3 Ty.zero34 (hsl.take hi) (by omega) (by omega) (by rw [e3]; exact hb) (by omega) ?_
    rw [e3]
    intro p2 c2 u2 ho2 hs2 hf2
    rcases ho2.at_ with ⟨_, hh, _⟩ | ⟨g2, cur2, hg20, hg2, k1, k2, k3, k4, k5⟩
    · omega
    subst hg20
    have hg2f : Fresh u g2 := hf2 _ rfl
    have hg2g : g2 ≠ g := fun e => cells_ne_junk (hg2f _ (e ▸ hg))
    have hg2v : g2 ≠ gv := fun e => cells_ne_junk (hg2f _ (e ▸ hv))
    refine vs_ ?_
    rw [slice_fromE Ty.el32 (by omega) (by omega)]
    refine vs_ ?_
    rw [e0, cutP_lt (by omega)]
    have hcc : (n + 1) * 4 ≤ c2 * 4 := Nat.mul_le_mul_right _ k1
    have hv2 : ∀ j v, x[j]? = some v → u2.cell? ((⟨gv, 0, none⟩ : Addr).add j) = some v := fun j v hj => by rw [Addr.add_lit]; exact cell?_of (hs2 _ _ hv cells_ne_junk) (by simpa using hj)
    refine eff_copy (news := x) Ty.el32 hg2 k5 (by rw [hx, show Nat.min 1 (n + 1 - i) = 1 from by simp only [Nat.min_def]; split <;> omega]) hv2 (allOne_mem hx1) (by rw [k3, hx]; omega) ?_
    intro u3 hg3 hs3
    refine vs_ ?_
    refine .inl ⟨[(0, false), (1, false), (2, false), (5, false), (6, false), (3, false), (7, false), (4, false), (8, false)], by kernel_rfl, ?_⟩
    refine vs_ ?_
    rw [arith_i64 (by omega)]
    refine vs_ ?_
    have e2 : ((i : Int) + ((1 : Nat) : Int)).toNat = i + 1 := by omega
    rw [slice_fromE Ty.el32 (by omega) (by omega)]
    refine vs_ ?_
    rw [slice_fromE Ty.el32 (by omega) (by omega)]
    refine vs_ ?_
    rw [e0, e2, cutP_lt (by omega), cutP_lt (by omega)]
    have hold : ∀ j v, (xs.drop i).flatten[j]? = some v → u3.cell? ((⟨g, 0 + i * 4, none⟩ : Addr).add j) = some v := by
      intro j v hj
      have hsl3 : Sl u3 4 (some ⟨g, 0, none⟩) n c xs := (hsl.mono hs2).subX hs3 (by intro a b ha hb; cases ha; cases hb; exact fun e => hg2g e.symm)
      have hd := hsl3.drop hi
      rw [cutP_lt (by omega)] at hd
      exact hd.cells j v hj
    have hmin : Nat.min (n - i) (n + 1 - (i + 1)) = n - i := by simp only [Nat.min_def]; split <;> omega
    refine eff_copy (news := (xs.drop i).flatten) Ty.el32 hg3 k5 (by rw [hlB, hmin]) hold hB1 ?_ ?_
    · simp only [List.size_toArray, List.length_append, List.length_take, List.length_drop, Array.length_toList, k3, hx, hlB]
      omega
    intro u4 hg4 hs4
    refine vs_ ?_
    refine hK _ c2 u4 ⟨hfl, hfe, .inr ⟨g2, _, rfl, hg4, k1, k2, ?_, ?_, k5⟩⟩ ?_ (.inr (fun a ha => by cases ha; exact hg2f))
    · simp only [List.size_toArray, List.length_append, List.length_take, List.length_drop, Array.length_toList, k3, hx, hlB]
      omega
    · have hk : (cur2.toList.take (i * 4)) = (xs.take i).flatten := by
        have := congrArg (List.take (i * 4)) k4
        rw [List.take_take, Nat.min_eq_left (by omega), List.flatten_append] at this
        rw [this]
        apply List.take_left' hlA
      have := ins_new (s := 4) (b := (n - i) * 4) hk hlA hx hlB (by simp only [Array.length_toList, k3]; omega)
      simp only [hx, hlB, hfin]
      rw [show 0 + i * 4 = i * 4 from by omega, show 0 + (i + 1) * 4 = i * 4 + 4 from by omega, show (n + 1) * 4 = i * 4 + 4 + (n - i) * 4 from by omega]
      exact this
    · intro b o hbn hbo hoj
      have hb2 : b ≠ g2 := fun e => hoj (hg2f o (e ▸ hbo))
      exact hs4 b o (fun a ha => by cases ha; exact hb2) (hs3 b o (fun a ha => by cases ha; exact hb2) (hs2 b o hbo hoj) hoj) hoj
  · -- in place
    refine vs_ ?_
    rw [arith_i64 (by omega)]
    refine vs_ ?_
    rw [slice_toE Ty.el32 (by omega) (by omega)]
    refine vs_ ?_
    rw [arith_i64 (by omega)]
    refine vs_ ?_
    have e0 : ((i : Int).toNat) = i := by omega
    have e1 : ((n : Int) + ((1 : Nat) : Int)).toNat = n + 1 := by omega
    have e2 : ((i : Int) + ((1 : Nat) : Int)).toNat = i + 1 := by omega
    rw [e1, slice_fromE Ty.el32 (by omega) (by omega)]
    refine vs_ ?_
    rw [e2, cutP_lt (by omega)]
    refine ext_overlaps (R := 4) Ty.el32 (by kernel_rfl) hgne hv hg (by rw [h3]; intro h0; rcases Nat.mul_eq_zero.1 h0 with h0 | h0 <;> omega) ?_
    refine vs_ ?_
    refine .inl ⟨[(0, false), (1, false), (2, false), (5, false), (6, false), (3, false), (7, false), (4, false), (8, false)], by kernel_rfl, ?_⟩
    refine vs_ ?_
    rw [arith_i64 (by omega)]
    refine vs_ ?_
    rw [slice_fromE Ty.el32 (by omega) (by omega)]
    refine vs_ ?_
    rw [slice_fromE Ty.el32 (by omega) (by omega)]
    refine vs_ ?_
    rw [e0, e2, cutP_lt (by omega), cutP_lt (by omega)]
    have hold : ∀ j v, (xs.drop i).flatten[j]? = some v → u.cell? ((⟨g, 0 + i * 4, none⟩ : Addr).add j) = some v := by
      intro j v hj
      have hd := hsl.drop hi
      rw [cutP_lt (by omega)] at hd
      exact hd.cells j v hj
    have hmin : Nat.min (n + 1 - i) (n + 1 - (i + 1)) = n - i := by simp only [Nat.min_def]; split <;> omega
    have hcc : (n + 1) * 4 ≤ c * 4 := Nat.mul_le_mul_right _ (by omega)
    refine eff_copy (news := (xs.drop i).flatten) Ty.el32 hg h5 (by rw [hlB, hmin]) hold hB1 (by rw [h3, hlB]; omega) ?_
    intro u3 hg3 hs3
    refine vs_ ?_
    rw [slice_fromE Ty.el32 (by omega) (by omega)]
    refine vs_ ?_
    rw [e0, cutP_lt (by omega)]
    have hv3 : u3.heap[gv]? = some (.cells x.toArray 34 (0, 0)) := hs3 _ _ (fun a ha => by cases ha; exact hgne) hv cells_ne_junk
    have hv2 : ∀ j v, x[j]? = some v → u3.cell? ((⟨gv, 0, none⟩ : Addr).add j) = some v := fun j v hj => by rw [Addr.add_lit]; exact cell?_of hv3 (by simpa using hj)
    refine eff_copy (news := x) Ty.el32 hg3 h5 (by rw [hx, show Nat.min 1 (n + 1 - i) = 1 from by simp only [Nat.min_def]; split <;> omega]) hv2 (allOne_mem hx1) ?_ ?_
    · simp only [List.size_toArray, List.length_append, List.length_take, List.length_drop, Array.length_toList, h3, hx, hlB]
      omega
    intro u4 hg4 hs4
    refine vs_ ?_
    refine hK _ c u4 ⟨hfl, hfe, .inr ⟨g, _, rfl, hg4, by omega, h2, ?_, ?_, h5⟩⟩ ?_ (.inl rfl)
    · simp only [List.size_toArray, List.length_append, List.length_take, List.length_drop, Array.length_toList, h3, hx, hlB]
      omega
    · have hk : (cur.toList.take (i * 4)) = (xs.take i).flatten := by
        have := congrArg (List.take (i * 4)) h4
        rw [List.take_take, Nat.min_eq_left (by omega), hxs2] at this
        rw [this]
        apply List.take_left' hlA
      have := ins_in (s := 4) (b := (n - i) * 4) hk hlA hx hlB (by simp only [Array.length_toList, h3]; omega)
      simp only [hx, hlB, hfin]
      rw [show 0 + i * 4 = i * 4 from by omega, show 0 + (i + 1) * 4 = i * 4 + 4 from by omega, show (n + 1) * 4 = i * 4 + 4 + (n - i) * 4 from by omega]
      exact this
    · intro b o hbn hbo hoj
      have hb2 := hbn _ rfl
      exact hs4 b o (fun a ha => by cases ha; exact hb2) (hs3 b o (fun a ha => by cases ha; exact hb2) hbo hoj) hoj
def Back (u u' : World) (r : Value) (L : List GDesc) : Prop := ∃ p n c l, r = .slice p n c ∧ DO u u' 34 145 p n c l ∧ ds l = L
theorem take_ds (l : List PD) (k : Nat) : (ds l).take k = ds (l.take k) := by simp [ds, List.map_take]
theorem drop_ds (l : List PD) (k : Nat) : (ds l).drop k = ds (l.drop k) := by simp [ds, List.map_drop]
theorem drop_con (l : List PD) (hu : Up dKey (ds l)) (node : UInt8) (p : Option Addr) (n c : Nat) (u : World) (hl : DL u p n c l) (hn : n ≤ 100000) (hs : ∀ x ∈ l, x.n ≤ 100000) :
    Con Tryz.prog 60 [.slice p n c, .int .u8 node.toNat] u (fun r u' => Back u u' r (dDrop (ds l) node)) := by
  have ll := hl.len
  refine spec_of_vc Ty.mixed Tryz.func60 rfl (by kernel_rfl) (by kernel_rfl) rfl [.tmp 4] rfl ?_
  refine vs_ ?_
  refine AtCall.of_spec (copy_con l p n c u hl (by omega) (fun x hx => by have := hs x hx; omega)) ?_
  rintro r u1 hs1 ⟨p1, c1, l1, rfl, o1, e1, _⟩
  refine vs_ ?_
  rw [← e1] at hu
  refine AtCall.of_spec (place_con l1 hu node p1 n c1 u1 o1.dl (by omega)) ?_
  rintro r u2 hs2 rfl
  replace o1 := o1.mono hs2
  have l1l := o1.len
  generalize hT : dThere (ds l1) node = T
  (simp -implicitDefEqProofs only [go_sem, vc_block_seq, vc_block_region, vc_block_cond, vc_block_block, Nat.reduceBEq, Nat.reduceAdd, Nat.reduceLeDiff, Nat.reduceEqDiff, Int.reduceAdd, Int.reduceBEq, Int.reduceBNe, reduceCtorEq, beq_self_eq_true, Bool.true_beq, Bool.false_beq]; repeat ((with_reducible refine leK_refl ?_); simp -implicitDefEqProofs only [go_sem, vc_block_seq, vc_block_region, vc_block_cond, vc_block_block, Nat.reduceBEq, Nat.reduceAdd, Nat.reduceLeDiff, Nat.reduceEqDiff, Int.reduceAdd, Int.reduceBEq, Int.reduceBNe, reduceCtorEq, beq_self_eq_true, Bool.true_beq, Bool.false_beq]))
  unfold dThere at hT
  cases hi : dIdx (ds l1) node with
  | none =>
    rw [hi] at hT
    simp only [Option.isSome_none] at hT
    subst hT
    refine vs_ ?_
    exact ⟨hs1.trans hs2, p1, n, c1, l1, rfl, o1, by rw [← e1, drop_none hi]⟩
  | some i =>
    rw [hi] at hT
    simp only [Option.isSome_some] at hT
    subst hT
    have hin : i < n := by
      obtain ⟨o, ho, _⟩ := dIdx_some hi
      obtain ⟨h, _⟩ := List.getElem?_eq_some_iff.1 ho
      simp at h; omega
    rw [place_some hu hi]
    refine vs_ ?_
    rw [arith_i64 (by omega)]
    refine vs_ ?_
    refine delete_call _ p1 n c1 i u u2 o1.own (PD.ones l1) hin (by omega) ?_
    intro u3 o3 x3
    rw [← List.map_take, ← List.map_drop, ← List.map_append] at o3
    refine vs_ ?_
    refine ⟨x3.sub (hs1.trans hs2) o1.own.fresh, p1, n - 1, c1, l1.take i ++ l1.drop (i + 1), rfl, o1.write x3 o3 ?_, ?_⟩
    · intro y hy
      rcases List.mem_append.1 hy with hy | hy
      · exact ⟨y, List.mem_of_mem_take hy, rfl, rfl, rfl, rfl⟩
      · exact ⟨y, List.mem_of_mem_drop hy, rfl, rfl, rfl, rfl⟩
    · rw [← e1, drop_idx hu hi, take_ds, drop_ds, ds, ds, ds, List.map_append]
theorem put_con (l : List PD) (hu : Up dKey (ds l)) (x : PD) (self : UInt8) (room : Int) (p : Option Addr) (n c : Nat) (u : World) (hl : DL u p n c l) (hx : Fl u x) (hn : n ≤ 100000) (hs : ∀ x ∈ l, x.n ≤ 100000) (hxn : x.n ≤ 100000) :
    Con Tryz.prog 210 [.slice p n c, x.val, .int .u8 self.toNat, .int .i64 room] u (fun r u' => ∃ v, r = .tuple #[v, .bool (dPut (ds l) x.d self room).2] ∧ Back u u' v (dPut (ds l) x.d self room).1) := by
  have ll := hl.len
  refine spec_of_vc Ty.mixed Tryz.func210 rfl (by kernel_rfl) (by kernel_rfl) rfl [.tmp 8, .tmp 9] rfl ?_
  refine vs_ ?_
  intro b1
  refine AtCall.of_spec (copy_con l p n c u hl (by omega) (fun x hx => by have := hs x hx; omega)) ?_
  rintro r u1 hs1 ⟨p1, c1, l1, rfl, o1, e1, hp1⟩
  rw [← e1] at hu ⊢
  have l1l := o1.len
  replace hx := hx.mono hs1
  refine vs_ ?_
  rw [u8_beq]
  by_cases h1 : x.d.node = self
  · have hP : dPut (ds l1) x.d self room = (ds l1, false) := by simp [dPut, h1]
    rw [decide_eq_true h1, hP]
    refine vs_ ?_
    exact ⟨hs1, _, rfl, p1, n, c1, l1, rfl, o1, rfl⟩
  rw [decide_eq_false h1]
  refine vs_ ?_
  rw [u16_eq0]
  by_cases h2 : x.d.inc = 0
  · have hP : dPut (ds l1) x.d self room = (ds l1, false) := by simp [dPut, h2]
    rw [decide_eq_true h2, hP]
    refine vs_ ?_
    exact ⟨hs1, _, rfl, p1, n, c1, l1, rfl, o1, rfl⟩
  rw [decide_eq_false h2]
  refine vs_ ?_
  refine AtCall.of_spec (place_con l1 hu x.d.node p1 n c1 u1 o1.dl (by omega)) ?_
  rintro r u2 hs2 rfl
  replace o1 := o1.mono hs2
  replace hx := hx.mono hs2
  generalize hT : dThere (ds l1) x.d.node = T
  (simp -implicitDefEqProofs only [go_sem, vc_block_seq, vc_block_region, vc_block_cond, vc_block_block, Nat.reduceBEq, Nat.reduceAdd, Nat.reduceLeDiff, Nat.reduceEqDiff, Int.reduceAdd, Int.reduceBEq, Int.reduceBNe, reduceCtorEq, beq_self_eq_true, Bool.true_beq, Bool.false_beq]; repeat ((with_reducible refine leK_refl ?_); simp -implicitDefEqProofs only [go_sem, vc_block_seq, vc_block_region, vc_block_cond, vc_block_block, Nat.reduceBEq, Nat.reduceAdd, Nat.reduceLeDiff, Nat.reduceEqDiff, Int.reduceAdd, Int.reduceBEq, Int.reduceBNe, reduceCtorEq, beq_self_eq_true, Bool.true_beq, Bool.false_beq]))
  unfold dThere at hT
  cases hi : dIdx (ds l1) x.d.node with
  | some i =>
    rw [hi] at hT
    simp only [Option.isSome_some] at hT
    subst hT
    obtain ⟨o, ho, hon⟩ := dIdx_some hi
    have hin : i < n := by
      obtain ⟨h, _⟩ := List.getElem?_eq_some_iff.1 ho
      simp at h; omega
    obtain ⟨y, hy⟩ := exAt hin l1l
    have hyo : y.d = o := by
      have : (ds l1)[i]? = some y.d := by simp [hy]
      rw [ho] at this
      exact (Option.some.inj this).symm
    rw [place_some hu hi]
    refine vs_ ?_
    refine .inl ⟨[(0, false), (1, false), (2, false), (3, false), (4, false), (5, false), (6, false)], by kernel_rfl, ?_⟩
    refine vs_ ?_
    refine ⟨⟨o1.own.sl.some_ hin, by omega, by omega⟩, ?_⟩
    refine o1.own.sl.load (getMap hy) (.inr rfl) (Nat.le_of_ble_eq_true rfl) ?_
    refine vs_ ?_
    refine AtCall.of_spec (newer_con x y u2) ?_
    rintro r u3 hs3 rfl
    replace o1 := o1.mono hs3
    replace hx := hx.mono hs3
    rw [hyo]
    generalize hN : dNewer x.d o = N
    (simp -implicitDefEqProofs only [go_sem, vc_block_seq, vc_block_region, vc_block_cond, vc_block_block, Nat.reduceBEq, Nat.reduceAdd, Nat.reduceLeDiff, Nat.reduceEqDiff, Int.reduceAdd, Int.reduceBEq, Int.reduceBNe, reduceCtorEq, beq_self_eq_true, Bool.true_beq, Bool.false_beq]; repeat ((with_reducible refine leK_refl ?_); simp -implicitDefEqProofs only [go_sem, vc_block_seq, vc_block_region, vc_block_cond, vc_block_block, Nat.reduceBEq, Nat.reduceAdd, Nat.reduceLeDiff, Nat.reduceEqDiff, Int.reduceAdd, Int.reduceBEq, Int.reduceBNe, reduceCtorEq, beq_self_eq_true, Bool.true_beq, Bool.false_beq]))
    refine cond_split (fun h => ?_) (fun h => ?_)
    · subst h
      have hP : dPut (ds l1) x.d self room = ((ds l1).set i x.d, true) := by simp [dPut, h1, h2, hi, ho, hN]
      rw [hP]
      refine vs_ ?_
      refine AtCall.of_spec (own_con x u3 hx (by omega)) ?_
      rintro r u4 hs4 ⟨z, rfl, hzd, hzo⟩
      have hne : ∀ a b, z.p = some a → p1 = some b → a.block ≠ b.block := fun a b ha hb e => (ne_of_fresh o1.own (Eng.Own.fresh hzo)) b a hb ha e.symm
      replace o1 := o1.mono hs4
      refine vs_ ?_
      refine ⟨⟨o1.own.sl.some_ hin, by omega, by omega⟩, ?_⟩
      refine own_store Ty.lay34 o1.own (getMap hy) rfl (by omega) rfl ?_
      intro u5 o5 x5
      have e5 : (l1.map PD.enc).set i (splice y.enc 0 z.val.cells.toList) = (l1.set i z).map PD.enc := by rw [List.map_set]; rfl
      have e5' : (l1.map PD.enc).set i (splice y.enc 0 [Value.int .u8 z.d.node.toNat, .int .u16 z.d.inc.toNat, .int .u8 z.d.age.toNat, .slice z.p z.n z.c]) = (l1.set i z).map PD.enc := e5
      refine vs_ ?_
      refine ⟨x5.sub (hs1.trans (hs2.trans (hs3.trans hs4))) o1.own.fresh, _, rfl, p1, n, c1, l1.set i z, rfl, ⟨?_, ?_, ?_⟩, ?_⟩
      · rw [← e5]; exact o5
      · intro w hw
        rcases List.mem_or_eq_of_mem_set hw with hw | rfl
        · exact (o1.fl w hw).subX x5 (o1.ne w hw)
        · exact (hzo.anti (hs1.trans (hs2.trans hs3))).subX x5 hne
      · intro w hw
        rcases List.mem_or_eq_of_mem_set hw with hw | rfl
        · exact o1.ne w hw
        · exact hne
      · rw [ds, List.map_set, hzd]
    · subst h
      have hP : dPut (ds l1) x.d self room = (ds l1, false) := by simp [dPut, h1, h2, hi, ho, hN]
      rw [hP]
      refine vs_ ?_
      exact ⟨hs1.trans (hs2.trans hs3), _, rfl, p1, n, c1, l1, rfl, o1, rfl⟩
  | none =>
    rw [hi] at hT
    simp only [Option.isSome_none] at hT
    subst hT
    refine vs_ ?_
    refine cond_dec (fun h => ?_) (fun h => ?_)
    · have hP : dPut (ds l1) x.d self room = (ds l1, false) := by simp [dPut, h1, h2, hi]; omega
      rw [hP]
      refine vs_ ?_
      exact ⟨hs1.trans hs2, _, rfl, p1, n, c1, l1, rfl, o1, rfl⟩
    have hP : dPut (ds l1) x.d self room = (kIns dKey (ds l1) x.d, true) := by simp [dPut, h1, h2, hi]; omega
    have hk := place_kAt hi
    have hple := place_le (ds l1) x.d.node
    rw [hP]
    simp only [List.length_map] at hple
    unfold kIns
    rw [hk]
    generalize dPlace (ds l1) x.d.node = k at hple
    refine vs_ ?_
    refine AtCall.of_spec (own_con x u2 hx (by omega)) ?_
    rintro r u3 hs3 ⟨z, rfl, hzd, hzo⟩
    have hne : ∀ a b, z.p = some a → p1 = some b → a.block ≠ b.block := fun a b ha hb e => (ne_of_fresh o1.own (Eng.Own.fresh hzo)) b a hb ha e.symm
    replace o1 := o1.mono hs3
    refine vs_ ?_
    refine eff_lit (n := 1) (vs := [z.val]) Ty.el32 rfl rfl (by intro v hv; simp at hv; subst hv; rfl) (by omega) ?_
    intro q u5 hq hs5 hfq
    obtain ⟨gv, rfl, hgv⟩ := hq.one
    have o5 := o1.mono hs5
    refine vs_ ?_
    refine insertDesc_call (l1.map PD.enc) z.enc k n c1 p1 gv u u5 o5.own (by omega) hgv rfl rfl (PD.ones l1) ?_ (by omega) ?_
    · intro a ha e
      have hk := o1.own.known ha
      rw [← e] at hk
      exact hk (hfq _ rfl)
    · intro p' c' u' ho' hs' hq'
      have hzo5 : Fo u u5 145 z := (hzo.anti (hs1.trans hs2)).mono hs5
      have hnew : ∀ w : PD, Fo u u5 145 w → (∀ a b, w.p = some a → p1 = some b → a.block ≠ b.block) → ∀ a b, w.p = some a → p' = some b → a.block ≠ b.block := by
        intro w hw hn a b ha hb
        rcases hq' with rfl | hf
        · exact hn a b ha hb
        · exact ne_of_fresh hw hf a b ha hb
      have hall : ∀ w ∈ l1.take k ++ [z] ++ l1.drop k, Fo u u5 145 w ∧ ∀ a b, w.p = some a → p1 = some b → a.block ≠ b.block := by
        intro w hw
        simp only [List.append_assoc, List.mem_append, List.mem_singleton] at hw
        rcases hw with hw | rfl | hw
        · exact ⟨o5.fl w (List.mem_of_mem_take hw), o5.ne w (List.mem_of_mem_take hw)⟩
        · exact ⟨hzo5, hne⟩
        · exact ⟨o5.fl w (List.mem_of_mem_drop hw), o5.ne w (List.mem_of_mem_drop hw)⟩
      refine vs_ ?_
      refine ⟨hs'.sub (hs1.trans (hs2.trans (hs3.trans hs5))) o1.own.fresh, _, rfl, p', n + 1, c', l1.take k ++ [z] ++ l1.drop k, rfl, ⟨?_, fun w hw => (hall w hw).1.subX hs' (hall w hw).2, fun w hw => hnew w (hall w hw).1 (hall w hw).2⟩, ?_⟩
      · simpa [List.map_take, List.map_drop] using ho'
      · rw [take_ds, drop_ds]
        simp [ds, hzd]
end Go.Proofs.YtlaefellhnkfbaaGreat

namespace Go.Eng
section
variable {l : List GDesc} {self : UInt8}
theorem old_mk {i : Nat} {x : GDesc} (hx : l[i]? = some x) (h1 : ∀ e ∈ l, e.age ≤ x.age) (h2 : ∀ j y, j < i → l[j]? = some y → y.age < x.age) : dOld l = some i := by
  obtain ⟨hi, rfl⟩ := List.getElem?_eq_some_iff.1 hx
  unfold dOld
  rw [List.findIdx?_eq_some_iff_getElem]
  refine ⟨hi, by simpa using h1, fun j hj => ?_⟩
  have h3 := h2 j l[j] hj (List.getElem?_eq_getElem (by omega))
  simp only [decide_eq_true_eq]
  intro h4
  have h5 := h4 l[i] (List.getElem_mem hi)
  rw [UInt8.lt_iff_toNat_lt] at h3
  rw [UInt8.le_iff_toNat_le] at h5
  omega
theorem old_some (h : l ≠ []) : ∃ i, dOld l = some i := by
  cases hd : dOld l with
  | some i => exact ⟨i, rfl⟩
  | none =>
    exfalso
    unfold dOld at hd
    rw [List.findIdx?_eq_none_iff] at hd
    have key : ∀ m : List GDesc, m ≠ [] → ∃ d ∈ m, ∀ e ∈ m, e.age ≤ d.age := by
      intro m
      induction m with
      | nil => intro h; exact absurd rfl h
      | cons a r ih =>
        intro _
        by_cases hr : r = []
        · exact ⟨a, List.mem_cons_self, by intro e he; rw [hr] at he; simp at he; subst he; exact UInt8.le_refl _⟩
        · obtain ⟨d, hd1, hd2⟩ := ih hr
          by_cases hle : a.age ≤ d.age
          · refine ⟨d, List.mem_cons_of_mem _ hd1, fun e he => ?_⟩
            rcases List.mem_cons.1 he with rfl | he
            · exact hle
            · exact hd2 e he
          · refine ⟨a, List.mem_cons_self, fun e he => ?_⟩
            rcases List.mem_cons.1 he with rfl | he
            · exact UInt8.le_refl _
            · have := hd2 e he
              rw [UInt8.le_iff_toNat_le] at *
              omega
    obtain ⟨d, h1, h2⟩ := key l h
    have := hd d h1
    simp at this
    obtain ⟨e, he, hlt⟩ := this
    have := h2 e he
    rw [UInt8.le_iff_toNat_le] at this
    rw [UInt8.lt_iff_toNat_lt] at hlt
    omega
theorem old_spec {i : Nat} (h : dOld l = some i) : ∃ x, l[i]? = some x ∧ (∀ e ∈ l, e.age ≤ x.age) ∧ ∀ j y, j < i → l[j]? = some y → y.age < x.age := by
  obtain ⟨hi, h1, h2⟩ := List.findIdx?_eq_some_iff_getElem.1 h
  simp only [decide_eq_true_eq] at h1
  refine ⟨l[i], List.getElem?_eq_getElem hi, h1, fun j y hj hy => ?_⟩
  obtain ⟨hj', rfl⟩ := List.getElem?_eq_some_iff.1 hy
  have h3 := h2 j hj
  rw [UInt8.lt_iff_toNat_lt]
  rcases Nat.lt_or_ge l[j].age.toNat l[i].age.toNat with h4 | h4
  · exact h4
  · exfalso
    apply h3
    simp only [decide_eq_true_eq]
    intro e he
    have := h1 e he
    rw [UInt8.le_iff_toNat_le] at *
    omega
end
end Go.Eng

set_option maxRecDepth 10000
namespace Go.Proofs.YtlaefellhnkfbaaGreat
open Go.Eng
attribute [local go_sem] GSpan.val GSpan.enc PD.val PD.enc
theorem getDs {l : List PD} {k : Nat} {x : PD} (h : l[k]? = some x) : (ds l)[k]? = some x.d := by simp [h]
theorem atDs {l : List PD} {k : Nat} {x : PD} {d : GDesc} (h : l[k]? = some x) (hd : (ds l)[k]? = some d) : d = x.d := by
  rw [getDs h] at hd; exact (Option.some.inj hd).symm
end Go.Proofs.YtlaefellhnkfbaaGreat

set_option maxRecDepth 10000
namespace Go.Proofs.YtlaefellhnkfbaaGreat
open Go.Eng
attribute [local go_sem] GSpan.val GSpan.enc PD.val PD.enc
theorem oldest_con (l : List PD) (p : Option Addr) (n c : Nat) (u : World) (hl : DL u p n c l) (hn : n ≤ 9223372036854775807) :
    Con Tryz.prog 193 [.slice p n c] u (fun r _ => r = .int .i64 (dOldest (ds l))) := by
  have ll := hl.len
  have lds : (ds l).length = n := by simpa using ll
  refine spec_of_vc Ty.mixed Tryz.func193 rfl (by kernel_rfl) (by kernel_rfl) rfl [.tmp 2] rfl ?_
  refine vs_ ?_
  refine vc_range n (fun (at_ : Int) => [(3, .v (.int .i64 at_))]) (fun _ => [])
    (fun k at_ u' => Sub u u' ∧ ((k = 0 ∧ at_ = -1) ∨ ∃ i x, at_ = (i : Nat) ∧ i < k ∧ l[i]? = some x ∧ (∀ j y, j < k → l[j]? = some y → y.d.age ≤ x.d.age) ∧ ∀ j y, j < i → l[j]? = some y → y.d.age < x.d.age))
    (-1) (le_chk (by simp only [go_sem, vc_block_seq, vc_block_region, vc_block_cond, vc_block_block, Nat.reduceBEq, Nat.reduceAdd, Nat.reduceLeDiff, Nat.reduceEqDiff, Int.reduceAdd, Int.reduceBEq, Int.reduceBNe, reduceCtorEq, beq_self_eq_true, Bool.true_beq, Bool.false_beq])) ⟨Sub.refl _, .inl ⟨rfl, rfl⟩⟩ (fun _ _ => rfl) hn (fun _ => rfl) ?_ ?_
  · rintro k at_ u1 hk ⟨hs, hF⟩
    obtain ⟨y, hy⟩ := exAt hk ll
    refine vs_ ?_
    refine ⟨⟨hl.sl.some_ hk, by omega, by omega⟩, ?_⟩
    refine (hl.sl.mono hs).load (getMap hy) (.inr rfl) (Nat.le_of_ble_eq_true rfl) ?_
    refine vs_ ?_
    intro b1
    rcases hF with ⟨rfl, rfl⟩ | ⟨i, x, rfl, hik, hx, hall, hbef⟩
    · refine .inl ⟨[(0, false), (1, false), (2, false), (3, false), (5, false), (6, false), (4, false), (7, false), (8, false), (9, false), (10, false), (11, false)], by kernel_rfl, ?_⟩
      refine vs_ ?_
      rw [show decide ((-1 : Int) < 0) = true from rfl]
      refine vs_ ?_
      refine ⟨((0 : Nat) : Int), le_chk (by simp only [go_sem, vc_block_seq, vc_block_region, vc_block_cond, vc_block_block, Nat.reduceBEq, Nat.reduceAdd, Nat.reduceLeDiff, Nat.reduceEqDiff, Int.reduceAdd, Int.reduceBEq, Int.reduceBNe, reduceCtorEq, beq_self_eq_true, Bool.true_beq, Bool.false_beq]), hs, .inr ⟨0, y, rfl, by omega, hy, fun j z hj hz => ?_, fun j z hj => by omega⟩⟩
      obtain rfl : j = 0 := by omega
      rw [hy] at hz
      cases hz
      exact UInt8.le_refl _
    · refine .inl ⟨[(0, false), (1, false), (2, false), (3, false), (5, false), (6, false), (4, false), (7, false), (8, false), (9, false), (10, false), (11, false)], by kernel_rfl, ?_⟩
      refine vs_ ?_
      rw [decide_eq_false (show ¬ (i : Int) < 0 by omega)]
      refine vs_ ?_
      refine ⟨⟨hl.sl.some_ hk, by omega, by omega⟩, ?_⟩
      refine (hl.sl.mono hs).load (getMap hx) (.inl rfl) (Nat.le_of_ble_eq_true rfl) ?_
      refine vs_ ?_
      refine cond_dec (fun h => ?_) (fun h => ?_)
      · rw [u8_lt] at h
        refine vs_ ?_
        refine ⟨(k : Int), le_chk (by simp only [go_sem, vc_block_seq, vc_block_region, vc_block_cond, vc_block_block, Nat.reduceBEq, Nat.reduceAdd, Nat.reduceLeDiff, Nat.reduceEqDiff, Int.reduceAdd, Int.reduceBEq, Int.reduceBNe, reduceCtorEq, beq_self_eq_true, Bool.true_beq, Bool.false_beq]), hs, .inr ⟨k, y, rfl, by omega, hy, fun j z hj hz => ?_, fun j z hj hz => ?_⟩⟩
        · by_cases hjk : j = k
          · subst hjk; rw [hy] at hz; cases hz; exact UInt8.le_refl _
          · have := hall j z (by omega) hz
            rw [UInt8.le_iff_toNat_le] at *
            rw [UInt8.lt_iff_toNat_lt] at h
            omega
        · have := hall j z hj hz
          rw [UInt8.le_iff_toNat_le] at this
          rw [UInt8.lt_iff_toNat_lt] at *
          omega
      · rw [u8_lt] at h
        refine vs_ ?_
        refine ⟨(i : Int), le_chk (by simp only [go_sem, vc_block_seq, vc_block_region, vc_block_cond, vc_block_block, Nat.reduceBEq, Nat.reduceAdd, Nat.reduceLeDiff, Nat.reduceEqDiff, Int.reduceAdd, Int.reduceBEq, Int.reduceBNe, reduceCtorEq, beq_self_eq_true, Bool.true_beq, Bool.false_beq]), hs, .inr ⟨i, x, rfl, by omega, hx, fun j z hj hz => ?_, hbef⟩⟩
        by_cases hjk : j = k
        · subst hjk
          rw [hy] at hz
          cases hz
          rw [UInt8.lt_iff_toNat_lt] at h
          rw [UInt8.le_iff_toNat_le]
          omega
        · exact hall j z (by omega) hz
  · rintro at_ u1 ⟨hs, hF⟩
    refine vs_ ?_
    refine ⟨hs, ?_⟩
    rcases hF with ⟨rfl, rfl⟩ | ⟨i, x, rfl, hik, hx, hall, hbef⟩
    · have : l = [] := List.eq_nil_of_length_eq_zero ll
      subst this
      rfl
    · have := old_mk (getDs hx) (fun e he => ?_) (fun j z hj hz => ?_)
      · rw [dOldest, this]
      · obtain ⟨z, hz, rfl⟩ := List.mem_map.1 he
        obtain ⟨j, hj, rfl⟩ := List.getElem_of_mem hz
        exact hall j _ (by omega) (List.getElem?_eq_getElem hj)
      · obtain ⟨w, hw⟩ := exAt (show j < n by omega) ll
        rw [atDs hw hz]
        exact hbef j w hj hw
end Go.Proofs.YtlaefellhnkfbaaGreat
