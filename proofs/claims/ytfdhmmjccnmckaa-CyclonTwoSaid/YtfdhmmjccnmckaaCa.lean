/-
  Walks: cyclon: of, Pick, Ask; slices.IndexFunc, ContainsFunc, DeleteFunc.
-/
import Derived.Test.YtfdhmmjccnmckaaRa
import Derived.Test.YtfdhmmjccnmckaaEp
import Derived.Test.YtfdhmmjccnmckaaHh
set_option linter.unusedSimpArgs false
set_option linter.unusedVariables false
namespace Go.Eng
def enc32 (b : UInt32) : List Value := [.int .u32 b.toNat]
abbrev NE (p q : Option Addr) : Prop := ∀ a b, p = some a → q = some b → a.block ≠ b.block
theorem NE.symm {p q : Option Addr} (h : NE p q) : NE q p := fun a b ha hb e => h b a hb ha e.symm
theorem SubX.trans {p : Option Addr} {u v w : World} (h1 : SubX p u v) (h2 : SubX p v w) : SubX p u w := fun b o hb h hn => h2 b o hb (h1 b o hb h hn) hn
theorem SubX.then {p : Option Addr} {u v w : World} (h1 : SubX p u v) (h2 : Sub v w) : SubX p u w := fun b o hb h hn => h2 b o (h1 b o hb h hn) hn
theorem Cel.subX {u u' : World} {b : Nat} {cs : List Value} {T : TypeId} {p : Option Addr} (h : Cel u b cs T) (hs : SubX p u u') (hne : ∀ a, p = some a → b ≠ a.block) : Cel u' b cs T := hs _ _ hne h cells_ne_junk
theorem Cel.ne {u : World} {b : Nat} {cs : List Value} {T : TypeId} {p : Option Addr} (h : Cel u b cs T) (hf : FreshP u p) : ∀ a, p = some a → b ≠ a.block := fun a ha e => by
  have := hf a ha
  subst e
  exact cells_ne_junk (this _ h)
theorem DO.subX {u0 u u' : World} {TD TS : TypeId} {p q : Option Addr} {n c : Nat} {l : List PD} (h : DO u0 u TD TS p n c l) (hs : SubX q u u') (h1 : NE p q) (h2 : ∀ x ∈ l, NE x.p q) : DO u0 u' TD TS p n c l :=
  ⟨h.own.subX hs h1, fun x hx => (h.fl x hx).subX hs (h2 x hx), h.ne⟩

/-- What is picked by draws. -/
def cPick (many : Int) : List GDesc → List GDesc → List UInt32 → List GDesc
  | _, out, [] => out
  | left, out, d :: r => if many ≤ (out.length : Int) then out else match left[d.toNat % left.length]? with
    | some x => cPick many (left.take (d.toNat % left.length) ++ left.drop (d.toNat % left.length + 1)) (out ++ [x]) r
    | none => out
theorem pick_nil (many : Int) (out : List GDesc) (r : List UInt32) : cPick many [] out r = out := by
  cases r with
  | nil => rfl
  | cons d r => simp [cPick]
theorem pick_full {many : Int} {left out : List GDesc} {r : List UInt32} (h : many ≤ (out.length : Int)) : cPick many left out r = out := by
  cases r with
  | nil => rfl
  | cons d r => simp [cPick, h]
theorem pick_step {many : Int} {left out : List GDesc} {d : UInt32} {r : List UInt32} {x : GDesc} {k : Nat} (h : ¬ many ≤ (out.length : Int)) (hk : d.toNat % left.length = k) (hx : left[k]? = some x) :
    cPick many left out (d :: r) = cPick many (left.take k ++ left.drop (k + 1)) (out ++ [x]) r := by
  rw [cPick, if_neg h]
  subst hk
  rw [hx]
def cAsk (l : List GDesc) (self : GDesc) (many : Int) (draws : List UInt32) (node : UInt8) : List GDesc := ⟨self.node, self.inc, 0, self.filter⟩ :: cPick (many - 1) (dDrop l node) [] draws
theorem drop_atU {L : List UInt32} {k : Nat} {x : UInt32} (hx : L[k]? = some x) : L.drop k = x :: L.drop (k + 1) := by
  obtain ⟨h, rfl⟩ := List.getElem?_eq_some_iff.1 hx
  exact (List.getElem_cons_drop h).symm
end Go.Eng
namespace Go.Proofs.Ytfdhmmjccnmckaa
open Go.Eng
attribute [local go_sem] GSpan.val GSpan.enc PD.val PD.enc enc32

theorem find_neg {L : List GDesc} {node : UInt8} : dFind L node < 0 ↔ dIdx L node = none := by
  unfold dFind
  cases h : dIdx L node with
  | none => simp
  | some i => simp only; constructor; intro h; omega; intro h; cases h

theorem of1_con (x : PD) (node : UInt8) (b : Nat) (u : World) (h : Cel u b [.int .u8 node.toNat] 5) : Con Try.prog 43 [x.val, .pointer (some ⟨b, 0, none⟩)] u (fun r _ => r = .bool (decide (x.d.node = node))) := by
  refine spec_of_vc Ty.mixed Try.func43 rfl (by kernel_rfl) (by kernel_rfl) rfl [.tmp 3] rfl ?_
  (simp only [go_sem, vc_block_seq, vc_block_region, vc_block_cond, vc_block_block, Nat.reduceBEq, Nat.reduceAdd, Nat.reduceLeDiff, Nat.reduceEqDiff, Int.reduceAdd, Int.reduceBEq, Int.reduceBNe, reduceCtorEq, beq_self_eq_true, Bool.true_beq, Bool.false_beq]; repeat ((with_reducible refine leK_refl ?_); simp only [go_sem, vc_block_seq, vc_block_region, vc_block_cond, vc_block_block, Nat.reduceBEq, Nat.reduceAdd, Nat.reduceLeDiff, Nat.reduceEqDiff, Int.reduceAdd, Int.reduceBEq, Int.reduceBNe, reduceCtorEq, beq_self_eq_true, Bool.true_beq, Bool.false_beq]))
  intro b2
  refine ptr_load h (.inl rfl) (Nat.le_of_ble_eq_true rfl) ?_
  (simp only [go_sem, vc_block_seq, vc_block_region, vc_block_cond, vc_block_block, Nat.reduceBEq, Nat.reduceAdd, Nat.reduceLeDiff, Nat.reduceEqDiff, Int.reduceAdd, Int.reduceBEq, Int.reduceBNe, reduceCtorEq, beq_self_eq_true, Bool.true_beq, Bool.false_beq]; repeat ((with_reducible refine leK_refl ?_); simp only [go_sem, vc_block_seq, vc_block_region, vc_block_cond, vc_block_block, Nat.reduceBEq, Nat.reduceAdd, Nat.reduceLeDiff, Nat.reduceEqDiff, Int.reduceAdd, Int.reduceBEq, Int.reduceBNe, reduceCtorEq, beq_self_eq_true, Bool.true_beq, Bool.false_beq]))
  exact ⟨Sub.refl _, by rw [u8_beq]⟩

theorem of_con (node : UInt8) (u : World) : Con Try.prog 31 [.int .u8 node.toNat] u (fun r u' => ∃ b, r = .func (.func 43) #[] #[.pointer (some ⟨b, 0, none⟩)] ∧ Cel u' b [.int .u8 node.toNat] 5 ∧ Fresh u b) := by
  refine spec_of_vc Ty.mixed Try.func31 rfl (by kernel_rfl) (by kernel_rfl) rfl [.tmp 2] rfl ?_
  (simp only [go_sem, vc_block_seq, vc_block_region, vc_block_cond, vc_block_block, Nat.reduceBEq, Nat.reduceAdd, Nat.reduceLeDiff, Nat.reduceEqDiff, Int.reduceAdd, Int.reduceBEq, Int.reduceBNe, reduceCtorEq, beq_self_eq_true, Bool.true_beq, Bool.false_beq]; repeat ((with_reducible refine leK_refl ?_); simp only [go_sem, vc_block_seq, vc_block_region, vc_block_cond, vc_block_block, Nat.reduceBEq, Nat.reduceAdd, Nat.reduceLeDiff, Nat.reduceEqDiff, Int.reduceAdd, Int.reduceBEq, Int.reduceBNe, reduceCtorEq, beq_self_eq_true, Bool.true_beq, Bool.false_beq]))
  intro b1 u1 hs1 hf1 hf1' hb1 hg1
  exact ⟨hs1, b1, rfl, hb1, hf1⟩

theorem indexf_con (l : List PD) (node : UInt8) (p : Option Addr) (n c : Nat) (u : World) (hl : DL u p n c l) (hn : n ≤ 1000000) (f : FuncId) (first captured : List Value)
    (hf : ∀ (x : PD) u', Sub u u' → Con Try.prog f (first ++ [x.val] ++ captured) u' (fun r _ => r = .bool (decide (x.d.node = node)))) :
    Con Try.prog 42 [.slice p n c, .func (.func f) first.toArray captured.toArray] u (fun r _ => r = .int .i64 (dFind (ds l) node)) := by
  have ll := hl.len
  have lds : (ds l).length = n := by simpa using ll
  refine spec_of_vc Ty.mixed Try.func42 rfl (by kernel_rfl) (by kernel_rfl) rfl [.tmp 4] rfl ?_
  (simp only [go_sem, vc_block_seq, vc_block_region, vc_block_cond, vc_block_block, Nat.reduceBEq, Nat.reduceAdd, Nat.reduceLeDiff, Nat.reduceEqDiff, Int.reduceAdd, Int.reduceBEq, Int.reduceBNe, reduceCtorEq, beq_self_eq_true, Bool.true_beq, Bool.false_beq]; repeat ((with_reducible refine leK_refl ?_); simp only [go_sem, vc_block_seq, vc_block_region, vc_block_cond, vc_block_block, Nat.reduceBEq, Nat.reduceAdd, Nat.reduceLeDiff, Nat.reduceEqDiff, Int.reduceAdd, Int.reduceBEq, Int.reduceBNe, reduceCtorEq, beq_self_eq_true, Bool.true_beq, Bool.false_beq]))
  refine vc_range n (fun (_ : Unit) => []) (fun _ => []) (fun k _ u' => Sub u u' ∧ ∀ i d, i < k → (ds l)[i]? = some d → d.node ≠ node) () (le_chk (by simp only [go_sem, vc_block_seq, vc_block_region, vc_block_cond, vc_block_block, Nat.reduceBEq, Nat.reduceAdd, Nat.reduceLeDiff, Nat.reduceEqDiff, Int.reduceAdd, Int.reduceBEq, Int.reduceBNe, reduceCtorEq, beq_self_eq_true, Bool.true_beq, Bool.false_beq])) ⟨Sub.refl _, fun i d hi => by omega⟩ (fun _ _ => rfl) (by omega) (fun _ => rfl) ?_ ?_
  · rintro k _ u1 hk ⟨hs, hF⟩
    obtain ⟨x, hx⟩ := exAt hk ll
    (simp only [go_sem, vc_block_seq, vc_block_region, vc_block_cond, vc_block_block, Nat.reduceBEq, Nat.reduceAdd, Nat.reduceLeDiff, Nat.reduceEqDiff, Int.reduceAdd, Int.reduceBEq, Int.reduceBNe, reduceCtorEq, beq_self_eq_true, Bool.true_beq, Bool.false_beq]; repeat ((with_reducible refine leK_refl ?_); simp only [go_sem, vc_block_seq, vc_block_region, vc_block_cond, vc_block_block, Nat.reduceBEq, Nat.reduceAdd, Nat.reduceLeDiff, Nat.reduceEqDiff, Int.reduceAdd, Int.reduceBEq, Int.reduceBNe, reduceCtorEq, beq_self_eq_true, Bool.true_beq, Bool.false_beq]))
    refine ⟨⟨hl.sl.some_ hk, by omega, by omega⟩, ?_⟩
    refine (hl.sl.mono hs).load (getMap hx) (.inr rfl) (Nat.le_of_ble_eq_true rfl) ?_
    (simp only [go_sem, vc_block_seq, vc_block_region, vc_block_cond, vc_block_block, Nat.reduceBEq, Nat.reduceAdd, Nat.reduceLeDiff, Nat.reduceEqDiff, Int.reduceAdd, Int.reduceBEq, Int.reduceBNe, reduceCtorEq, beq_self_eq_true, Bool.true_beq, Bool.false_beq]; repeat ((with_reducible refine leK_refl ?_); simp only [go_sem, vc_block_seq, vc_block_region, vc_block_cond, vc_block_block, Nat.reduceBEq, Nat.reduceAdd, Nat.reduceLeDiff, Nat.reduceEqDiff, Int.reduceAdd, Int.reduceBEq, Int.reduceBNe, reduceCtorEq, beq_self_eq_true, Bool.true_beq, Bool.false_beq]))
    refine AtCall.of_spec (hf x u1 hs) ?_
    rintro r u2 hs2 rfl
    (simp only [go_sem, vc_block_seq, vc_block_region, vc_block_cond, vc_block_block, Nat.reduceBEq, Nat.reduceAdd, Nat.reduceLeDiff, Nat.reduceEqDiff, Int.reduceAdd, Int.reduceBEq, Int.reduceBNe, reduceCtorEq, beq_self_eq_true, Bool.true_beq, Bool.false_beq]; repeat ((with_reducible refine leK_refl ?_); simp only [go_sem, vc_block_seq, vc_block_region, vc_block_cond, vc_block_block, Nat.reduceBEq, Nat.reduceAdd, Nat.reduceLeDiff, Nat.reduceEqDiff, Int.reduceAdd, Int.reduceBEq, Int.reduceBNe, reduceCtorEq, beq_self_eq_true, Bool.true_beq, Bool.false_beq]))
    refine cond_dec (fun h => ?_) (fun h => ?_)
    · (simp only [go_sem, vc_block_seq, vc_block_region, vc_block_cond, vc_block_block, Nat.reduceBEq, Nat.reduceAdd, Nat.reduceLeDiff, Nat.reduceEqDiff, Int.reduceAdd, Int.reduceBEq, Int.reduceBNe, reduceCtorEq, beq_self_eq_true, Bool.true_beq, Bool.false_beq]; repeat ((with_reducible refine leK_refl ?_); simp only [go_sem, vc_block_seq, vc_block_region, vc_block_cond, vc_block_block, Nat.reduceBEq, Nat.reduceAdd, Nat.reduceLeDiff, Nat.reduceEqDiff, Int.reduceAdd, Int.reduceBEq, Int.reduceBNe, reduceCtorEq, beq_self_eq_true, Bool.true_beq, Bool.false_beq]))
      refine ⟨hs.trans hs2, ?_⟩
      rw [dFind, idx_mk (getDs hx) h hF]
    · (simp only [go_sem, vc_block_seq, vc_block_region, vc_block_cond, vc_block_block, Nat.reduceBEq, Nat.reduceAdd, Nat.reduceLeDiff, Nat.reduceEqDiff, Int.reduceAdd, Int.reduceBEq, Int.reduceBNe, reduceCtorEq, beq_self_eq_true, Bool.true_beq, Bool.false_beq]; repeat ((with_reducible refine leK_refl ?_); simp only [go_sem, vc_block_seq, vc_block_region, vc_block_cond, vc_block_block, Nat.reduceBEq, Nat.reduceAdd, Nat.reduceLeDiff, Nat.reduceEqDiff, Int.reduceAdd, Int.reduceBEq, Int.reduceBNe, reduceCtorEq, beq_self_eq_true, Bool.true_beq, Bool.false_beq]))
      exact ⟨(), le_chk (by simp only [go_sem, vc_block_seq, vc_block_region, vc_block_cond, vc_block_block, Nat.reduceBEq, Nat.reduceAdd, Nat.reduceLeDiff, Nat.reduceEqDiff, Int.reduceAdd, Int.reduceBEq, Int.reduceBNe, reduceCtorEq, beq_self_eq_true, Bool.true_beq, Bool.false_beq]), hs.trans hs2, all_succ hF (getDs hx) h⟩
  · rintro _ u1 ⟨hs, hF⟩
    (simp only [go_sem, vc_block_seq, vc_block_region, vc_block_cond, vc_block_block, Nat.reduceBEq, Nat.reduceAdd, Nat.reduceLeDiff, Nat.reduceEqDiff, Int.reduceAdd, Int.reduceBEq, Int.reduceBNe, reduceCtorEq, beq_self_eq_true, Bool.true_beq, Bool.false_beq]; repeat ((with_reducible refine leK_refl ?_); simp only [go_sem, vc_block_seq, vc_block_region, vc_block_cond, vc_block_block, Nat.reduceBEq, Nat.reduceAdd, Nat.reduceLeDiff, Nat.reduceEqDiff, Int.reduceAdd, Int.reduceBEq, Int.reduceBNe, reduceCtorEq, beq_self_eq_true, Bool.true_beq, Bool.false_beq]))
    refine ⟨hs, ?_⟩
    rw [dFind, idx_mkn hF (by omega)]

theorem containsf_con (l : List PD) (node : UInt8) (p : Option Addr) (n c : Nat) (u : World) (hl : DL u p n c l) (hn : n ≤ 1000000) (f : FuncId) (first captured : List Value)
    (hf : ∀ (x : PD) u', Sub u u' → Con Try.prog f (first ++ [x.val] ++ captured) u' (fun r _ => r = .bool (decide (x.d.node = node)))) :
    Con Try.prog 45 [.slice p n c, .func (.func f) first.toArray captured.toArray] u (fun r _ => r = .bool (decide (0 ≤ dFind (ds l) node))) := by
  refine spec_of_vc Ty.mixed Try.func45 rfl (by kernel_rfl) (by kernel_rfl) rfl [.tmp 4] rfl ?_
  (simp only [go_sem, vc_block_seq, vc_block_region, vc_block_cond, vc_block_block, Nat.reduceBEq, Nat.reduceAdd, Nat.reduceLeDiff, Nat.reduceEqDiff, Int.reduceAdd, Int.reduceBEq, Int.reduceBNe, reduceCtorEq, beq_self_eq_true, Bool.true_beq, Bool.false_beq]; repeat ((with_reducible refine leK_refl ?_); simp only [go_sem, vc_block_seq, vc_block_region, vc_block_cond, vc_block_block, Nat.reduceBEq, Nat.reduceAdd, Nat.reduceLeDiff, Nat.reduceEqDiff, Int.reduceAdd, Int.reduceBEq, Int.reduceBNe, reduceCtorEq, beq_self_eq_true, Bool.true_beq, Bool.false_beq]))
  refine AtCall.of_spec (indexf_con l node p n c u hl hn f first captured hf) ?_
  rintro r u1 hs1 rfl
  (simp only [go_sem, vc_block_seq, vc_block_region, vc_block_cond, vc_block_block, Nat.reduceBEq, Nat.reduceAdd, Nat.reduceLeDiff, Nat.reduceEqDiff, Int.reduceAdd, Int.reduceBEq, Int.reduceBNe, reduceCtorEq, beq_self_eq_true, Bool.true_beq, Bool.false_beq]; repeat ((with_reducible refine leK_refl ?_); simp only [go_sem, vc_block_seq, vc_block_region, vc_block_cond, vc_block_block, Nat.reduceBEq, Nat.reduceAdd, Nat.reduceLeDiff, Nat.reduceEqDiff, Int.reduceAdd, Int.reduceBEq, Int.reduceBNe, reduceCtorEq, beq_self_eq_true, Bool.true_beq, Bool.false_beq]))
  exact ⟨hs1, rfl⟩

/-- All but those of a node. -/
def pDrop (node : UInt8) (l : List PD) : List PD := l.filter fun x => !decide (x.d.node = node)
theorem ds_pDrop (node : UInt8) (l : List PD) : ds (pDrop node l) = dDrop (ds l) node := by
  unfold pDrop dDrop ds
  rw [List.filter_map]
  rfl
set_option maxHeartbeats 1000000 in
theorem deletef_call (l : List PD) (node : UInt8) (p : Option Addr) (n c : Nat) (u0 u : World) (ho : DO u0 u 34 30 p n c l) (hn : n ≤ 100000) (f : FuncId) (first captured : List Value)
    (hf : ∀ (x : PD) u', SubX p u u' → Con Try.prog f (first ++ [x.val] ++ captured) u' (fun r _ => r = .bool (decide (x.d.node = node)))) {K : Value → World → Prop}
    (hK : ∀ m u', DO u0 u' 34 30 p m c (pDrop node l) → SubX p u u' → K (.slice p m c) u') :
    AtCall false Try.prog 30 [.slice p n c, .func (.func f) first.toArray captured.toArray] u0 u K := by
  have ll := ho.len
  have hcap := ho.own.sl.cap
  refine .inl (call_of_vc Ty.mixed Try.func30 rfl (by kernel_rfl) (by kernel_rfl) rfl [.tmp 4] rfl ?_)
  (simp only [go_sem, vc_block_seq, vc_block_region, vc_block_cond, vc_block_block, Nat.reduceBEq, Nat.reduceAdd, Nat.reduceLeDiff, Nat.reduceEqDiff, Int.reduceAdd, Int.reduceBEq, Int.reduceBNe, reduceCtorEq, beq_self_eq_true, Bool.true_beq, Bool.false_beq]; repeat ((with_reducible refine leK_refl ?_); simp only [go_sem, vc_block_seq, vc_block_region, vc_block_cond, vc_block_block, Nat.reduceBEq, Nat.reduceAdd, Nat.reduceLeDiff, Nat.reduceEqDiff, Int.reduceAdd, Int.reduceBEq, Int.reduceBNe, reduceCtorEq, beq_self_eq_true, Bool.true_beq, Bool.false_beq]))
  refine AtCall.of_spec (indexf_con l node p n c u ho.dl (by omega) f first captured (fun x u' hs => hf x u' (SubX.of_sub hs))) ?_
  rintro r u1 hs1 rfl
  replace ho := ho.mono hs1
  have hx1 : SubX p u u1 := SubX.of_sub hs1
  (simp only [go_sem, vc_block_seq, vc_block_region, vc_block_cond, vc_block_block, Nat.reduceBEq, Nat.reduceAdd, Nat.reduceLeDiff, Nat.reduceEqDiff, Int.reduceAdd, Int.reduceBEq, Int.reduceBNe, reduceCtorEq, beq_self_eq_true, Bool.true_beq, Bool.false_beq]; repeat ((with_reducible refine leK_refl ?_); simp only [go_sem, vc_block_seq, vc_block_region, vc_block_cond, vc_block_block, Nat.reduceBEq, Nat.reduceAdd, Nat.reduceLeDiff, Nat.reduceEqDiff, Int.reduceAdd, Int.reduceBEq, Int.reduceBNe, reduceCtorEq, beq_self_eq_true, Bool.true_beq, Bool.false_beq]))
  cases hi : dIdx (ds l) node with
  | none =>
    have hall : pDrop node l = l := List.filter_eq_self.2 (fun x hx => by simpa using dIdx_none hi x.d (List.mem_map_of_mem hx))
    rw [hall] at hK
    rw [show dFind (ds l) node = -1 by rw [dFind, hi]]
    (simp only [go_sem, vc_block_seq, vc_block_region, vc_block_cond, vc_block_block, Nat.reduceBEq, Nat.reduceAdd, Nat.reduceLeDiff, Nat.reduceEqDiff, Int.reduceAdd, Int.reduceBEq, Int.reduceBNe, reduceCtorEq, beq_self_eq_true, Bool.true_beq, Bool.false_beq]; repeat ((with_reducible refine leK_refl ?_); simp only [go_sem, vc_block_seq, vc_block_region, vc_block_cond, vc_block_block, Nat.reduceBEq, Nat.reduceAdd, Nat.reduceLeDiff, Nat.reduceEqDiff, Int.reduceAdd, Int.reduceBEq, Int.reduceBNe, reduceCtorEq, beq_self_eq_true, Bool.true_beq, Bool.false_beq]))
    exact hK n u1 ho hx1
  | some i =>
  obtain ⟨o, hoi, hon⟩ := dIdx_some hi
  have hin : i < n := by obtain ⟨h, _⟩ := List.getElem?_eq_some_iff.1 hoi; simp at h; omega
  rw [show dFind (ds l) node = (i : Int) by rw [dFind, hi]]
  rw [show ((i : Int) == -1) = false by simp]
  (simp only [go_sem, vc_block_seq, vc_block_region, vc_block_cond, vc_block_block, Nat.reduceBEq, Nat.reduceAdd, Nat.reduceLeDiff, Nat.reduceEqDiff, Int.reduceAdd, Int.reduceBEq, Int.reduceBNe, reduceCtorEq, beq_self_eq_true, Bool.true_beq, Bool.false_beq]; repeat ((with_reducible refine leK_refl ?_); simp only [go_sem, vc_block_seq, vc_block_region, vc_block_cond, vc_block_block, Nat.reduceBEq, Nat.reduceAdd, Nat.reduceLeDiff, Nat.reduceEqDiff, Int.reduceAdd, Int.reduceBEq, Int.reduceBNe, reduceCtorEq, beq_self_eq_true, Bool.true_beq, Bool.false_beq]))
  rw [arith_i64 (by omega)]
  (simp only [go_sem, vc_block_seq, vc_block_region, vc_block_cond, vc_block_block, Nat.reduceBEq, Nat.reduceAdd, Nat.reduceLeDiff, Nat.reduceEqDiff, Int.reduceAdd, Int.reduceBEq, Int.reduceBNe, reduceCtorEq, beq_self_eq_true, Bool.true_beq, Bool.false_beq]; repeat ((with_reducible refine leK_refl ?_); simp only [go_sem, vc_block_seq, vc_block_region, vc_block_cond, vc_block_block, Nat.reduceBEq, Nat.reduceAdd, Nat.reduceLeDiff, Nat.reduceEqDiff, Int.reduceAdd, Int.reduceBEq, Int.reduceBNe, reduceCtorEq, beq_self_eq_true, Bool.true_beq, Bool.false_beq]))
  have hfirst : (l.take i) = pDrop node (l.take (i + 1)) := by
    obtain ⟨y, hy⟩ := exAt hin ll
    have hyo := atDs hy hoi
    rw [take_succ hy, pDrop, List.filter_append]
    rw [List.filter_eq_self.2 (fun x hx => ?_)]
    · simp [← hyo, hon]
    · obtain ⟨j, hj, rfl⟩ := List.mem_take_iff_getElem.1 hx
      have h2 := (List.findIdx?_eq_some_iff_getElem.1 hi).2.2 j (by omega)
      simpa using h2
  refine vc_for (fun (g : Nat × Nat) => [(5, .v (.int .i64 g.1)), (6, .v (.int .i64 g.2))]) (fun _ => [])
    (fun g u' => SubX p u u' ∧ g.1 < g.2 ∧ g.2 ≤ n ∧ ∃ l2, DO u0 u' 34 30 p n c l2 ∧ l2.take g.1 = pDrop node (l.take g.2) ∧ l2.drop g.2 = l.drop g.2) (fun g => n - g.2)
    (i, i + 1) (le_chk (by simp only [go_sem, vc_block_seq, vc_block_region, vc_block_cond, vc_block_block, Nat.reduceBEq, Nat.reduceAdd, Nat.reduceLeDiff, Nat.reduceEqDiff, Int.reduceAdd, Int.reduceBEq, Int.reduceBNe, reduceCtorEq, beq_self_eq_true, Bool.true_beq, Bool.false_beq]; try simp)) ⟨hx1, by simp only; omega, by simp only; omega, l, ho, hfirst, rfl⟩ ?_
  rintro ⟨a, j⟩ u2 ⟨hx2, haj, hjn, l2, o2, e2, e3⟩
  simp only at haj hjn e2 e3
  have l2l := o2.len
  (simp only [go_sem, vc_block_seq, vc_block_region, vc_block_cond, vc_block_block, Nat.reduceBEq, Nat.reduceAdd, Nat.reduceLeDiff, Nat.reduceEqDiff, Int.reduceAdd, Int.reduceBEq, Int.reduceBNe, reduceCtorEq, beq_self_eq_true, Bool.true_beq, Bool.false_beq]; repeat ((with_reducible refine leK_refl ?_); simp only [go_sem, vc_block_seq, vc_block_region, vc_block_cond, vc_block_block, Nat.reduceBEq, Nat.reduceAdd, Nat.reduceLeDiff, Nat.reduceEqDiff, Int.reduceAdd, Int.reduceBEq, Int.reduceBNe, reduceCtorEq, beq_self_eq_true, Bool.true_beq, Bool.false_beq]))
  refine cond_dec (fun h => ?_) (fun h => ?_)
  · have hj : j < n := by omega
    obtain ⟨x, hx⟩ := exAt hj l2l
    have hxl : l[j]? = some x := by
      have h1 : (l2.drop j)[0]? = some x := by simpa using hx
      rw [e3] at h1
      simpa using h1
    obtain ⟨y, hy⟩ := exAt (show a < n by omega) l2l
    (simp only [go_sem, vc_block_seq, vc_block_region, vc_block_cond, vc_block_block, Nat.reduceBEq, Nat.reduceAdd, Nat.reduceLeDiff, Nat.reduceEqDiff, Int.reduceAdd, Int.reduceBEq, Int.reduceBNe, reduceCtorEq, beq_self_eq_true, Bool.true_beq, Bool.false_beq]; repeat ((with_reducible refine leK_refl ?_); simp only [go_sem, vc_block_seq, vc_block_region, vc_block_cond, vc_block_block, Nat.reduceBEq, Nat.reduceAdd, Nat.reduceLeDiff, Nat.reduceEqDiff, Int.reduceAdd, Int.reduceBEq, Int.reduceBNe, reduceCtorEq, beq_self_eq_true, Bool.true_beq, Bool.false_beq]))
    refine ⟨⟨o2.own.sl.some_ hj, by omega, by omega⟩, ?_⟩
    refine o2.own.sl.load (getMap hx) (.inr rfl) (Nat.le_of_ble_eq_true rfl) ?_
    (simp only [go_sem, vc_block_seq, vc_block_region, vc_block_cond, vc_block_block, Nat.reduceBEq, Nat.reduceAdd, Nat.reduceLeDiff, Nat.reduceEqDiff, Int.reduceAdd, Int.reduceBEq, Int.reduceBNe, reduceCtorEq, beq_self_eq_true, Bool.true_beq, Bool.false_beq]; repeat ((with_reducible refine leK_refl ?_); simp only [go_sem, vc_block_seq, vc_block_region, vc_block_cond, vc_block_block, Nat.reduceBEq, Nat.reduceAdd, Nat.reduceLeDiff, Nat.reduceEqDiff, Int.reduceAdd, Int.reduceBEq, Int.reduceBNe, reduceCtorEq, beq_self_eq_true, Bool.true_beq, Bool.false_beq]))
    intro b7
    refine AtCall.of_spec (hf x u2 hx2) ?_
    rintro r u3 hs3 rfl
    replace o2 := o2.mono hs3
    replace hx2 := hx2.then hs3
    (simp only [go_sem, vc_block_seq, vc_block_region, vc_block_cond, vc_block_block, Nat.reduceBEq, Nat.reduceAdd, Nat.reduceLeDiff, Nat.reduceEqDiff, Int.reduceAdd, Int.reduceBEq, Int.reduceBNe, reduceCtorEq, beq_self_eq_true, Bool.true_beq, Bool.false_beq]; repeat ((with_reducible refine leK_refl ?_); simp only [go_sem, vc_block_seq, vc_block_region, vc_block_cond, vc_block_block, Nat.reduceBEq, Nat.reduceAdd, Nat.reduceLeDiff, Nat.reduceEqDiff, Int.reduceAdd, Int.reduceBEq, Int.reduceBNe, reduceCtorEq, beq_self_eq_true, Bool.true_beq, Bool.false_beq]))
    by_cases hnode : x.d.node = node
    · rw [decide_eq_true hnode]
      (simp only [go_sem, vc_block_seq, vc_block_region, vc_block_cond, vc_block_block, Nat.reduceBEq, Nat.reduceAdd, Nat.reduceLeDiff, Nat.reduceEqDiff, Int.reduceAdd, Int.reduceBEq, Int.reduceBNe, reduceCtorEq, beq_self_eq_true, Bool.true_beq, Bool.false_beq]; repeat ((with_reducible refine leK_refl ?_); simp only [go_sem, vc_block_seq, vc_block_region, vc_block_cond, vc_block_block, Nat.reduceBEq, Nat.reduceAdd, Nat.reduceLeDiff, Nat.reduceEqDiff, Int.reduceAdd, Int.reduceBEq, Int.reduceBNe, reduceCtorEq, beq_self_eq_true, Bool.true_beq, Bool.false_beq]))
      rw [arith_i64 (by omega)]
      (simp only [go_sem, vc_block_seq, vc_block_region, vc_block_cond, vc_block_block, Nat.reduceBEq, Nat.reduceAdd, Nat.reduceLeDiff, Nat.reduceEqDiff, Int.reduceAdd, Int.reduceBEq, Int.reduceBNe, reduceCtorEq, beq_self_eq_true, Bool.true_beq, Bool.false_beq]; repeat ((with_reducible refine leK_refl ?_); simp only [go_sem, vc_block_seq, vc_block_region, vc_block_cond, vc_block_block, Nat.reduceBEq, Nat.reduceAdd, Nat.reduceLeDiff, Nat.reduceEqDiff, Int.reduceAdd, Int.reduceBEq, Int.reduceBNe, reduceCtorEq, beq_self_eq_true, Bool.true_beq, Bool.false_beq]))
      refine ⟨(a, j + 1), le_chk (by simp only [go_sem, vc_block_seq, vc_block_region, vc_block_cond, vc_block_block, Nat.reduceBEq, Nat.reduceAdd, Nat.reduceLeDiff, Nat.reduceEqDiff, Int.reduceAdd, Int.reduceBEq, Int.reduceBNe, reduceCtorEq, beq_self_eq_true, Bool.true_beq, Bool.false_beq]; try simp), ⟨hx2, by simp only; omega, by simp only; omega, l2, o2, ?_, ?_⟩, by simp only; omega⟩
      · simp only
        rw [e2, take_succ hxl, pDrop, pDrop, List.filter_append]
        simp [hnode]
      · simp only
        rw [← List.drop_drop, ← List.drop_drop, e3]
    · rw [decide_eq_false hnode]
      (simp only [go_sem, vc_block_seq, vc_block_region, vc_block_cond, vc_block_block, Nat.reduceBEq, Nat.reduceAdd, Nat.reduceLeDiff, Nat.reduceEqDiff, Int.reduceAdd, Int.reduceBEq, Int.reduceBNe, reduceCtorEq, beq_self_eq_true, Bool.true_beq, Bool.false_beq]; repeat ((with_reducible refine leK_refl ?_); simp only [go_sem, vc_block_seq, vc_block_region, vc_block_cond, vc_block_block, Nat.reduceBEq, Nat.reduceAdd, Nat.reduceLeDiff, Nat.reduceEqDiff, Int.reduceAdd, Int.reduceBEq, Int.reduceBNe, reduceCtorEq, beq_self_eq_true, Bool.true_beq, Bool.false_beq]))
      refine ⟨⟨o2.own.sl.some_ hj, by omega, by omega⟩, ?_⟩
      refine own_store Ty.lay34 o2.own (getMap hy) rfl (by omega) rfl ?_
      intro u4 o4 x4
      have e5 : (l2.map PD.enc).set a (splice y.enc 0 x.val.cells.toList) = (l2.set a x).map PD.enc := by rw [List.map_set]; rfl
      (simp only [go_sem, vc_block_seq, vc_block_region, vc_block_cond, vc_block_block, Nat.reduceBEq, Nat.reduceAdd, Nat.reduceLeDiff, Nat.reduceEqDiff, Int.reduceAdd, Int.reduceBEq, Int.reduceBNe, reduceCtorEq, beq_self_eq_true, Bool.true_beq, Bool.false_beq]; repeat ((with_reducible refine leK_refl ?_); simp only [go_sem, vc_block_seq, vc_block_region, vc_block_cond, vc_block_block, Nat.reduceBEq, Nat.reduceAdd, Nat.reduceLeDiff, Nat.reduceEqDiff, Int.reduceAdd, Int.reduceBEq, Int.reduceBNe, reduceCtorEq, beq_self_eq_true, Bool.true_beq, Bool.false_beq]))
      rw [arith_i64 (by omega)]
      (simp only [go_sem, vc_block_seq, vc_block_region, vc_block_cond, vc_block_block, Nat.reduceBEq, Nat.reduceAdd, Nat.reduceLeDiff, Nat.reduceEqDiff, Int.reduceAdd, Int.reduceBEq, Int.reduceBNe, reduceCtorEq, beq_self_eq_true, Bool.true_beq, Bool.false_beq]; repeat ((with_reducible refine leK_refl ?_); simp only [go_sem, vc_block_seq, vc_block_region, vc_block_cond, vc_block_block, Nat.reduceBEq, Nat.reduceAdd, Nat.reduceLeDiff, Nat.reduceEqDiff, Int.reduceAdd, Int.reduceBEq, Int.reduceBNe, reduceCtorEq, beq_self_eq_true, Bool.true_beq, Bool.false_beq]))
      rw [arith_i64 (by omega)]
      (simp only [go_sem, vc_block_seq, vc_block_region, vc_block_cond, vc_block_block, Nat.reduceBEq, Nat.reduceAdd, Nat.reduceLeDiff, Nat.reduceEqDiff, Int.reduceAdd, Int.reduceBEq, Int.reduceBNe, reduceCtorEq, beq_self_eq_true, Bool.true_beq, Bool.false_beq]; repeat ((with_reducible refine leK_refl ?_); simp only [go_sem, vc_block_seq, vc_block_region, vc_block_cond, vc_block_block, Nat.reduceBEq, Nat.reduceAdd, Nat.reduceLeDiff, Nat.reduceEqDiff, Int.reduceAdd, Int.reduceBEq, Int.reduceBNe, reduceCtorEq, beq_self_eq_true, Bool.true_beq, Bool.false_beq]))
      refine ⟨(a + 1, j + 1), le_chk (by simp only [go_sem, vc_block_seq, vc_block_region, vc_block_cond, vc_block_block, Nat.reduceBEq, Nat.reduceAdd, Nat.reduceLeDiff, Nat.reduceEqDiff, Int.reduceAdd, Int.reduceBEq, Int.reduceBNe, reduceCtorEq, beq_self_eq_true, Bool.true_beq, Bool.false_beq]; try simp), ⟨hx2.trans x4, by simp only; omega, by simp only; omega, l2.set a x, o2.write x4 (by rw [← e5]; exact o4) ?_, ?_, ?_⟩, by simp only; omega⟩
      · intro z hz
        rcases List.mem_or_eq_of_mem_set hz with hz | rfl
        · exact ⟨z, hz, rfl, rfl, rfl, rfl⟩
        · exact ⟨z, List.mem_of_getElem? hx, rfl, rfl, rfl, rfl⟩
      · simp only
        rw [take_succ (show (l2.set a x)[a]? = some x by rw [List.getElem?_set_self (by omega)]), List.take_set_of_le (by omega), e2, take_succ hxl, pDrop, pDrop, List.filter_append]
        simp [hnode]
      · simp only
        rw [List.drop_set_of_lt (by omega), ← List.drop_drop, ← List.drop_drop, e3]
  · obtain rfl : j = n := by omega
    rw [take_all ll] at e2
    (simp only [go_sem, vc_block_seq, vc_block_region, vc_block_cond, vc_block_block, Nat.reduceBEq, Nat.reduceAdd, Nat.reduceLeDiff, Nat.reduceEqDiff, Int.reduceAdd, Int.reduceBEq, Int.reduceBNe, reduceCtorEq, beq_self_eq_true, Bool.true_beq, Bool.false_beq]; repeat ((with_reducible refine leK_refl ?_); simp only [go_sem, vc_block_seq, vc_block_region, vc_block_cond, vc_block_block, Nat.reduceBEq, Nat.reduceAdd, Nat.reduceLeDiff, Nat.reduceEqDiff, Int.reduceAdd, Int.reduceBEq, Int.reduceBNe, reduceCtorEq, beq_self_eq_true, Bool.true_beq, Bool.false_beq]))
    rw [slice_fromN (k0 := a) Ty.el22 rfl (by omega)]
    (simp only [go_sem, vc_block_seq, vc_block_region, vc_block_cond, vc_block_block, Nat.reduceBEq, Nat.reduceAdd, Nat.reduceLeDiff, Nat.reduceEqDiff, Int.reduceAdd, Int.reduceBEq, Int.reduceBNe, reduceCtorEq, beq_self_eq_true, Bool.true_beq, Bool.false_beq]; repeat ((with_reducible refine leK_refl ?_); simp only [go_sem, vc_block_seq, vc_block_region, vc_block_cond, vc_block_block, Nat.reduceBEq, Nat.reduceAdd, Nat.reduceLeDiff, Nat.reduceEqDiff, Int.reduceAdd, Int.reduceBEq, Int.reduceBNe, reduceCtorEq, beq_self_eq_true, Bool.true_beq, Bool.false_beq]))
    refine own_clear Ty.el22 Ty.zero34 rfl (o2.own.take (k := a) (by omega)) (by omega) (by omega) ?_
    intro u3 o3 x3
    (simp only [go_sem, vc_block_seq, vc_block_region, vc_block_cond, vc_block_block, Nat.reduceBEq, Nat.reduceAdd, Nat.reduceLeDiff, Nat.reduceEqDiff, Int.reduceAdd, Int.reduceBEq, Int.reduceBNe, reduceCtorEq, beq_self_eq_true, Bool.true_beq, Bool.false_beq]; repeat ((with_reducible refine leK_refl ?_); simp only [go_sem, vc_block_seq, vc_block_region, vc_block_cond, vc_block_block, Nat.reduceBEq, Nat.reduceAdd, Nat.reduceLeDiff, Nat.reduceEqDiff, Int.reduceAdd, Int.reduceBEq, Int.reduceBNe, reduceCtorEq, beq_self_eq_true, Bool.true_beq, Bool.false_beq]))
    rw [slice_toN (k0 := a) Ty.el22 rfl (by omega)]
    (simp only [go_sem, vc_block_seq, vc_block_region, vc_block_cond, vc_block_block, Nat.reduceBEq, Nat.reduceAdd, Nat.reduceLeDiff, Nat.reduceEqDiff, Int.reduceAdd, Int.reduceBEq, Int.reduceBNe, reduceCtorEq, beq_self_eq_true, Bool.true_beq, Bool.false_beq]; repeat ((with_reducible refine leK_refl ?_); simp only [go_sem, vc_block_seq, vc_block_region, vc_block_cond, vc_block_block, Nat.reduceBEq, Nat.reduceAdd, Nat.reduceLeDiff, Nat.reduceEqDiff, Int.reduceAdd, Int.reduceBEq, Int.reduceBNe, reduceCtorEq, beq_self_eq_true, Bool.true_beq, Bool.false_beq]))
    refine hK a u3 ?_ (hx2.trans x3)
    rw [← List.map_take, e2] at o3
    refine o2.write x3 o3 ?_
    rw [← e2]
    intro z hz
    exact ⟨z, List.mem_of_mem_take hz, rfl, rfl, rfl, rfl⟩

end Go.Proofs.Ytfdhmmjccnmckaa
