/-
  Part 31 of the proof of Pl: the engine and the walks, in their order.
-/
import Derived.Test.YtlaefellhnkfbaaGreatPl11
import Derived.Test.YtlaefellhnkfbaaGreatPl24
import Derived.Test.YtlaefellhnkfbaaGreatPl30
set_option linter.unusedSimpArgs false
set_option linter.unusedVariables false
set_option maxRecDepth 10000
namespace Go.Eng
def enc32 (b : UInt32) : List Value := [.int .u32 b.toNat]
abbrev NE (p q : Option Addr) : Prop := ∀ a b, p = some a → q = some b → a.block ≠ b.block
theorem NE.symm {p q : Option Addr} (h : NE p q) : NE q p := fun a b ha hb e => h b a hb ha e.symm
theorem SubX.trans {p : Option Addr} {u v w : World} (h1 : SubX p u v) (h2 : SubX p v w) : SubX p u w := fun b o hb h hn => h2 b o hb (h1 b o hb h hn) hn
theorem SubX.then {p : Option Addr} {u v w : World} (h1 : SubX p u v) (h2 : Sub v w) : SubX p u w := fun b o hb h hn => h2 b o (h1 b o hb h hn) hn
theorem Cel.subX {u u' : World} {b : Nat} {cs : List Value} {T : TypeId} {p : Option Addr} (h : Cel u b cs T) (hs : SubX p u u') (hne : ∀ a, p = some a → b ≠ a.block) : Cel u' b cs T := hs _ _ hne h cells_ne_junk
theorem Cel.ne {u : World} {b : Nat} {cs : List Value} {T : TypeId} {p : Option Addr} (h : Cel u b cs T) (hf : FreshP u p) : ∀ a, p = some a → b ≠ a.block := fun a ha e => by
  have := hf a ha
  subst e
  exact cells_ne_junk (this _ h)
theorem DO.subX {u0 u u' : World} {TD TS : TypeId} {p q : Option Addr} {n c : Nat} {l : List PD} (h : DO u0 u TD TS p n c l) (hs : SubX q u u') (h1 : NE p q) (h2 : ∀ x ∈ l, NE x.p q) : DO u0 u' TD TS p n c l :=
  ⟨h.own.subX hs h1, fun x hx => (h.fl x hx).subX hs (h2 x hx), h.ne⟩
def cPick (many : Int) : List GDesc → List GDesc → List UInt32 → List GDesc
  | _, out, [] => out
  | left, out, d :: r => if many ≤ (out.length : Int) then out else match left[d.toNat % left.length]? with
    | some x => cPick many (left.take (d.toNat % left.length) ++ left.drop (d.toNat % left.length + 1)) (out ++ [x]) r
    | none => out
theorem pick_nil (many : Int) (out : List GDesc) (r : List UInt32) : cPick many [] out r = out := by
  cases r with
  | nil => rfl
  | cons d r => simp [cPick]
theorem pick_full {many : Int} {left out : List GDesc} {r : List UInt32} (h : many ≤ (out.length : Int)) : cPick many left out r = out := by
  cases r with
  | nil => rfl
  | cons d r => simp [cPick, h]
theorem pick_step {many : Int} {left out : List GDesc} {d : UInt32} {r : List UInt32} {x : GDesc} {k : Nat} (h : ¬ many ≤ (out.length : Int)) (hk : d.toNat % left.length = k) (hx : left[k]? = some x) :
    cPick many left out (d :: r) = cPick many (left.take k ++ left.drop (k + 1)) (out ++ [x]) r := by
  rw [cPick, if_neg h]
  subst hk
  rw [hx]
def cAsk (l : List GDesc) (self : GDesc) (many : Int) (draws : List UInt32) (node : UInt8) : List GDesc := ⟨self.node, self.inc, 0, self.filter⟩ :: cPick (many - 1) (dDrop l node) [] draws
theorem drop_atU {L : List UInt32} {k : Nat} {x : UInt32} (hx : L[k]? = some x) : L.drop k = x :: L.drop (k + 1) := by
  obtain ⟨h, rfl⟩ := List.getElem?_eq_some_iff.1 hx
  exact (List.getElem_cons_drop h).symm
end Go.Eng
namespace Go.Proofs.YtlaefellhnkfbaaGreat
open Go.Eng
attribute [local go_sem] GSpan.val GSpan.enc PD.val PD.enc enc32
theorem find_neg {L : List GDesc} {node : UInt8} : dFind L node < 0 ↔ dIdx L node = none := by
  unfold dFind
  cases h : dIdx L node with
  | none => simp
  | some i => simp only; constructor; intro h; omega; intro h; cases h
theorem of1_con (x : PD) (node : UInt8) (b : Nat) (u : World) (h : Cel u b [.int .u8 node.toNat] 5) : Con Tryz.prog 236 [x.val, .pointer (some ⟨b, 0, none⟩)] u (fun r _ => r = .bool (decide (x.d.node = node))) := by
  refine spec_of_vc Ty.mixed Tryz.func236 rfl (by kernel_rfl) (by kernel_rfl) rfl [.tmp 3] rfl ?_
  refine vs_ ?_
  intro b2
  refine ptr_load h (.inl rfl) (Nat.le_of_ble_eq_true rfl) ?_
  refine vs_ ?_
  exact ⟨Sub.refl _, by rw [u8_beq]⟩
theorem of_con (node : UInt8) (u : World) : Con Tryz.prog 213 [.int .u8 node.toNat] u (fun r u' => ∃ b, r = .func (.func 236) #[] #[.pointer (some ⟨b, 0, none⟩)] ∧ Cel u' b [.int .u8 node.toNat] 5 ∧ Fresh u b) := by
  refine spec_of_vc Ty.mixed Tryz.func213 rfl (by kernel_rfl) (by kernel_rfl) rfl [.tmp 2] rfl ?_
  refine vs_ ?_
  intro b1 u1 hs1 hf1 hf1' hb1 hg1
  exact ⟨hs1, b1, rfl, hb1, hf1⟩
theorem indexf_con (l : List PD) (node : UInt8) (p : Option Addr) (n c : Nat) (u : World) (hl : DL u p n c l) (hn : n ≤ 1000000) (f : FuncId) (first captured : List Value)
    (hf : ∀ (x : PD) u', Sub u u' → Con Tryz.prog f (first ++ [x.val] ++ captured) u' (fun r _ => r = .bool (decide (x.d.node = node)))) :
    Con Tryz.prog 235 [.slice p n c, .func (.func f) first.toArray captured.toArray] u (fun r _ => r = .int .i64 (dFind (ds l) node)) := by
  have ll := hl.len
  have lds : (ds l).length = n := by simpa using ll
  refine spec_of_vc Ty.mixed Tryz.func235 rfl (by kernel_rfl) (by kernel_rfl) rfl [.tmp 4] rfl ?_
  refine vs_ ?_
  refine vc_range n (fun (_ : Unit) => []) (fun _ => []) (fun k _ u' => Sub u u' ∧ ∀ i d, i < k → (ds l)[i]? = some d → d.node ≠ node) () (le_chk (by simp only [go_sem, vc_block_seq, vc_block_region, vc_block_cond, vc_block_block, Nat.reduceBEq, Nat.reduceAdd, Nat.reduceLeDiff, Nat.reduceEqDiff, Int.reduceAdd, Int.reduceBEq, Int.reduceBNe, reduceCtorEq, beq_self_eq_true, Bool.true_beq, Bool.false_beq])) ⟨Sub.refl _, fun i d hi => by omega⟩ (fun _ _ => rfl) (by omega) (fun _ => rfl) ?_ ?_
  · rintro k _ u1 hk ⟨hs, hF⟩
    obtain ⟨x, hx⟩ := exAt hk ll
    refine vs_ ?_
    refine ⟨⟨hl.sl.some_ hk, by omega, by omega⟩, ?_⟩
    refine (hl.sl.mono hs).load (getMap hx) (.inr rfl) (Nat.le_of_ble_eq_true rfl) ?_
    refine vs_ ?_
    refine AtCall.of_spec (hf x u1 hs) ?_
    rintro r u2 hs2 rfl
    refine vs_ ?_
    refine cond_dec (fun h => ?_) (fun h => ?_)
    · refine vs_ ?_
      refine ⟨hs.trans hs2, ?_⟩
      rw [dFind, idx_mk (getDs hx) h hF]
    · refine vs_ ?_
      exact ⟨(), le_chk (by simp only [go_sem, vc_block_seq, vc_block_region, vc_block_cond, vc_block_block, Nat.reduceBEq, Nat.reduceAdd, Nat.reduceLeDiff, Nat.reduceEqDiff, Int.reduceAdd, Int.reduceBEq, Int.reduceBNe, reduceCtorEq, beq_self_eq_true, Bool.true_beq, Bool.false_beq]), hs.trans hs2, all_succ hF (getDs hx) h⟩
  · rintro _ u1 ⟨hs, hF⟩
    refine vs_ ?_
    refine ⟨hs, ?_⟩
    rw [dFind, idx_mkn hF (by omega)]
def pDrop (node : UInt8) (l : List PD) : List PD := l.filter fun x => !decide (x.d.node = node)
theorem ds_pDrop (node : UInt8) (l : List PD) : ds (pDrop node l) = dDrop (ds l) node := by
  unfold pDrop dDrop ds
  rw [List.filter_map]
  rfl
set_option maxHeartbeats 1000000 in
theorem deletef_call (l : List PD) (node : UInt8) (p : Option Addr) (n c : Nat) (u0 u : World) (ho : DO u0 u 34 145 p n c l) (hn : n ≤ 100000) (f : FuncId) (first captured : List Value)
    (hf : ∀ (x : PD) u', SubX p u u' → Con Tryz.prog f (first ++ [x.val] ++ captured) u' (fun r _ => r = .bool (decide (x.d.node = node)))) {K : Value → World → Prop}
    (hK : ∀ m u', DO u0 u' 34 145 p m c (pDrop node l) → SubX p u u' → K (.slice p m c) u') :
    AtCall false Tryz.prog 212 [.slice p n c, .func (.func f) first.toArray captured.toArray] u0 u K := by
  have ll := ho.len
  have hcap := ho.own.sl.cap
  refine .inl (call_of_vc Ty.mixed Tryz.func212 rfl (by kernel_rfl) (by kernel_rfl) rfl [.tmp 4] rfl ?_)
  refine vs_ ?_
  refine AtCall.of_spec (indexf_con l node p n c u ho.dl (by omega) f first captured (fun x u' hs => hf x u' (SubX.of_sub hs))) ?_
  rintro r u1 hs1 rfl
  replace ho := ho.mono hs1
  have hx1 : SubX p u u1 := SubX.of_sub hs1
  refine vs_ ?_
  cases hi : dIdx (ds l) node with
  | none =>
    have hall : pDrop node l = l := List.filter_eq_self.2 (fun x hx => by simpa using dIdx_none hi x.d (List.mem_map_of_mem hx))
    rw [hall] at hK
    rw [show dFind (ds l) node = -1 by rw [dFind, hi]]
    refine vs_ ?_
    exact hK n u1 ho hx1
  | some i =>
  obtain ⟨o, hoi, hon⟩ := dIdx_some hi
  have hin : i < n := by obtain ⟨h, _⟩ := List.getElem?_eq_some_iff.1 hoi; simp at h; omega
  rw [show dFind (ds l) node = (i : Int) by rw [dFind, hi]]
  rw [show ((i : Int) == -1) = false by simp]
  refine vs_ ?_
  rw [arith_i64 (by omega)]
  refine vs_ ?_
  have hfirst : (l.take i) = pDrop node (l.take (i + 1)) := by
    obtain ⟨y, hy⟩ := exAt hin ll
    have hyo := atDs hy hoi
    rw [take_succ hy, pDrop, List.filter_append]
    rw [List.filter_eq_self.2 (fun x hx => ?_)]
    · simp [← hyo, hon]
    · obtain ⟨j, hj, rfl⟩ := List.mem_take_iff_getElem.1 hx
      have h2 := (List.findIdx?_eq_some_iff_getElem.1 hi).2.2 j (by omega)
      simpa using h2
  refine vc_for (fun (g : Nat × Nat) => [(5, .v (.int .i64 g.1)), (6, .v (.int .i64 g.2))]) (fun _ => [])
    (fun g u' => SubX p u u' ∧ g.1 < g.2 ∧ g.2 ≤ n ∧ ∃ l2, DO u0 u' 34 145 p n c l2 ∧ l2.take g.1 = pDrop node (l.take g.2) ∧ l2.drop g.2 = l.drop g.2) (fun g => n - g.2)
    (i, i + 1) (le_chk (by simp only [go_sem, vc_block_seq, vc_block_region, vc_block_cond, vc_block_block, Nat.reduceBEq, Nat.reduceAdd, Nat.reduceLeDiff, Nat.reduceEqDiff, Int.reduceAdd, Int.reduceBEq, Int.reduceBNe, reduceCtorEq, beq_self_eq_true, Bool.true_beq, Bool.false_beq]; try simp)) ⟨hx1, by simp only; omega, by simp only; omega, l, ho, hfirst, rfl⟩ ?_
  rintro ⟨a, j⟩ u2 ⟨hx2, haj, hjn, l2, o2, e2, e3⟩
  simp only at haj hjn e2 e3
  have l2l := o2.len
  refine vs_ ?_
  refine cond_dec (fun h => ?_) (fun h => ?_)
  · have hj : j < n := by omega
    obtain ⟨x, hx⟩ := exAt hj l2l
    have hxl : l[j]? = some x := by
      have h1 : (l2.drop j)[0]? = some x := by simpa using hx
      rw [e3] at h1
      simpa using h1
    obtain ⟨y, hy⟩ := exAt (show a < n by omega) l2l
    refine vs_ ?_
    refine ⟨⟨o2.own.sl.some_ hj, by omega, by omega⟩, ?_⟩
    refine o2.own.sl.load (getMap hx) (.inr rfl) (Nat.le_of_ble_eq_true rfl) ?_
    refine vs_ ?_
    intro b7
    refine AtCall.of_spec (hf x u2 hx2) ?_
    rintro r u3 hs3 rfl
    replace o2 := o2.mono hs3
    replace hx2 := hx2.then hs3
    refine vs_ ?_
    by_cases hnode : x.d.node = node
    · rw [decide_eq_true hnode]
      refine vs_ ?_
      rw [arith_i64 (by omega)]
      refine vs_ ?_
      refine ⟨(a, j + 1), le_chk (by simp only [go_sem, vc_block_seq, vc_block_region, vc_block_cond, vc_block_block, Nat.reduceBEq, Nat.reduceAdd, Nat.reduceLeDiff, Nat.reduceEqDiff, Int.reduceAdd, Int.reduceBEq, Int.reduceBNe, reduceCtorEq, beq_self_eq_true, Bool.true_beq, Bool.false_beq]; try simp), ⟨hx2, by simp only; omega, by simp only; omega, l2, o2, ?_, ?_⟩, by simp only; omega⟩
      · simp only
        rw [e2, take_succ hxl, pDrop, pDrop, List.filter_append]
        simp [hnode]
      · simp only
        rw [← List.drop_drop, ← List.drop_drop, e3]
    · rw [decide_eq_false hnode]
      refine vs_ ?_
      refine ⟨⟨o2.own.sl.some_ hj, by omega, by omega⟩, ?_⟩
      refine own_store Ty.lay34 o2.own (getMap hy) rfl (by omega) rfl ?_
      intro u4 o4 x4
      have e5 : (l2.map PD.enc).set a (splice y.enc 0 x.val.cells.toList) = (l2.set a x).map PD.enc := by rw [List.map_set]; rfl
      refine vs_ ?_
      rw [arith_i64 (by omega)]
      refine vs_ ?_
      rw [arith_i64 (by omega)]
      refine vs_ ?_
      refine ⟨(a + 1, j + 1), le_chk (by simp only [go_sem, vc_block_seq, vc_block_region, vc_block_cond, vc_block_block, Nat.reduceBEq, Nat.reduceAdd, Nat.reduceLeDiff, Nat.reduceEqDiff, Int.reduceAdd, Int.reduceBEq, Int.reduceBNe, reduceCtorEq, beq_self_eq_true, Bool.true_beq, Bool.false_beq]; try simp), ⟨hx2.trans x4, by simp only; omega, by simp only; omega, l2.set a x, o2.write x4 (by rw [← e5]; exact o4) ?_, ?_, ?_⟩, by simp only; omega⟩
      · intro z hz
        rcases List.mem_or_eq_of_mem_set hz with hz | rfl
        · exact ⟨z, hz, rfl, rfl, rfl, rfl⟩
        · exact ⟨z, List.mem_of_getElem? hx, rfl, rfl, rfl, rfl⟩
      · simp only
        rw [take_succ (show (l2.set a x)[a]? = some x by rw [List.getElem?_set_self (by omega)]), List.take_set_of_le (by omega), e2, take_succ hxl, pDrop, pDrop, List.filter_append]
        simp [hnode]
      · simp only
        rw [List.drop_set_of_lt (by omega), ← List.drop_drop, ← List.drop_drop, e3]
  · obtain rfl : j = n := by omega
    rw [take_all ll] at e2
    refine vs_ ?_
    rw [slice_fromN (k0 := a) Ty.el32 rfl (by omega)]
    refine vs_ ?_
    refine own_clear Ty.el32 Ty.zero34 rfl (o2.own.take (k := a) (by omega)) (by omega) (by omega) ?_
    intro u3 o3 x3
    refine vs_ ?_
    rw [slice_toN (k0 := a) Ty.el32 rfl (by omega)]
    refine vs_ ?_
    refine hK a u3 ?_ (hx2.trans x3)
    rw [← List.map_take, e2] at o3
    refine o2.write x3 o3 ?_
    rw [← e2]
    intro z hz
    exact ⟨z, List.mem_of_mem_take hz, rfl, rfl, rfl, rfl⟩
end Go.Proofs.YtlaefellhnkfbaaGreat

set_option maxRecDepth 10000
namespace Go.Eng
theorem pick_len (many : Int) : ∀ (r : List UInt32) (left out : List GDesc), (cPick many left out r).length ≤ out.length + r.length := by
  intro r
  induction r with
  | nil => intro left out; simp [cPick]
  | cons d r ih =>
    intro left out
    rw [cPick]
    split
    · simp
    · split
      · refine Nat.le_trans (ih _ _) ?_
        simp; omega
      · simp
end Go.Eng
namespace Go.Proofs.YtlaefellhnkfbaaGreat
open Go.Eng
attribute [local go_sem] GSpan.val GSpan.enc PD.val PD.enc enc32
set_option maxHeartbeats 1000000 in
theorem pick_con (l : List PD) (many : Int) (not : UInt8) (dr : List UInt32) (p pd : Option Addr) (n c nd cd : Nat) (u : World) (hl : DL u p n c l) (hd : Sl u 1 pd nd cd (dr.map enc32)) (hn : n ≤ 1000) (hs8 : ∀ x ∈ l, x.n ≤ 8) (hnd : nd ≤ 1000) :
    Con Tryz.prog 165 [.slice p n c, .int .i64 many, .int .u8 not.toNat, .slice pd nd cd] u (fun r u' => Back u u' r (cPick many (dDrop (ds l) not) [] dr)) := by
  have ldr : dr.length = nd := by simpa using hd.len
  refine spec_of_vc Ty.mixed Tryz.func165 rfl (by kernel_rfl) (by kernel_rfl) rfl [.tmp 8] rfl ?_
  refine vs_ ?_
  refine AtCall.of_spec (copy_con l p n c u hl (by omega) (fun x hx => by have := hs8 x hx; omega)) ?_
  rintro r u1 hs1 ⟨p1, c1, l1, rfl, o1, e1, _⟩
  refine vs_ ?_
  refine AtCall.of_spec (of_con not u1) ?_
  rintro r u2 hs2 ⟨b, rfl, hb, hfb⟩
  have hbne : ∀ a, p1 = some a → b ≠ a.block := fun a ha e => o1.own.known ha (e ▸ hfb)
  replace o1 := o1.mono hs2
  refine vs_ ?_
  refine deletef_call l1 not p1 n c1 u u2 o1 (by omega) 236 [] [_] (fun x u' hx => of1_con x not b u' (hb.subX hx hbne)) ?_
  intro m u3 o3 x3
  have hs3 : Sub u u3 := x3.sub (hs1.trans hs2) o1.own.fresh
  have hmn : m ≤ n := by
    have h1 := o3.len
    have h2 := o1.len
    have h3 := List.length_filter_le (fun x : PD => !decide (x.d.node = not)) l1
    unfold pDrop at h1
    omega
  have hR : cPick many (ds (pDrop not l1)) (ds []) (dr.drop 0) = cPick many (dDrop (ds l) not) [] dr := by rw [ds_pDrop, e1]; rfl
  generalize cPick many (dDrop (ds l) not) [] dr = R at hR
  refine vs_ ?_
  refine vc_range nd (fun (g : Nat × Option Addr × Nat × Nat) => [(9, .v (.slice p1 g.1 c1)), (10, .v (.slice g.2.1 g.2.2.1 g.2.2.2))]) (fun _ => [])
    (fun j g u' => Sub u u' ∧ ∃ ll lo, DO u u' 34 145 p1 g.1 c1 ll ∧ DO u u' 34 145 g.2.1 g.2.2.1 g.2.2.2 lo ∧ NE p1 g.2.1 ∧ (∀ x ∈ ll, NE x.p g.2.1) ∧ (∀ x ∈ lo, NE x.p p1) ∧ cPick many (ds ll) (ds lo) (dr.drop j) = R ∧ g.2.2.1 ≤ j ∧ g.1 ≤ n)
    (m, none, 0, 0) (le_chk (by simp only [go_sem, vc_block_seq, vc_block_region, vc_block_cond, vc_block_block, Nat.reduceBEq, Nat.reduceAdd, Nat.reduceLeDiff, Nat.reduceEqDiff, Int.reduceAdd, Int.reduceBEq, Int.reduceBNe, reduceCtorEq, beq_self_eq_true, Bool.true_beq, Bool.false_beq])) ⟨hs3, pDrop not l1, [], o3, DO.nil_ _ _ _ _, (fun a b _ h => by cases h), (fun x _ a b _ h => by cases h), by simp, hR, Nat.le_refl _, hmn⟩ (fun _ _ => rfl) (by omega) (fun _ => rfl) ?_ ?_
  · rintro j ⟨m, q, k, d⟩ v2 hj ⟨hs, ll, lo, oll, olo, n1, n2, n3, hR, hkj, hmn⟩
    simp only at oll olo n1 n2 hkj hmn
    obtain ⟨x, hx⟩ := exAt hj ldr
    have hxb := x.toNat_lt
    have hll := oll.len
    have hlo := olo.len
    rw [drop_atU hx] at hR
    refine vs_ ?_
    refine ⟨⟨hd.some_ hj, by omega, by omega⟩, ?_⟩
    refine (hd.mono hs).load (getMap hx) (.inl rfl) (Nat.le_of_ble_eq_true rfl) ?_
    refine vs_ ?_
    by_cases h1 : many ≤ (k : Int)
    · rw [decide_eq_true h1]
      refine vs_ ?_
      exact ⟨hs, q, k, d, lo, rfl, olo, by rw [← hR, pick_full (by simp; omega)]⟩
    rw [decide_eq_false h1]
    refine vs_ ?_
    by_cases h2 : m = 0
    · rw [show ((m : Int) == 0) = true by simp; omega]
      refine vs_ ?_
      have : ll = [] := List.eq_nil_of_length_eq_zero (by omega)
      subst this
      exact ⟨hs, q, k, d, lo, rfl, olo, by rw [← hR]; exact (pick_nil _ _ _).symm⟩
    rw [show ((m : Int) == 0) = false by simp; omega]
    refine vs_ ?_
    rw [arith_u64 (by omega)]
    refine vs_ ?_
    rw [arith_u64 (by omega)]
    refine vs_ ?_
    rw [bin_remN (a := x.toNat) (b := m) rfl rfl (by omega)]
    generalize hk0 : x.toNat % m = k0
    have hk0m : k0 < m := by rw [← hk0]; exact Nat.mod_lt _ (by omega)
    obtain ⟨y, hy⟩ := exAt hk0m hll
    refine vs_ ?_
    rw [arith_i64 (by omega)]
    refine vs_ ?_
    refine ⟨⟨oll.own.sl.some_ hk0m, by omega, by omega⟩, ?_⟩
    refine oll.own.sl.load (getMap hy) (.inr rfl) (Nat.le_of_ble_eq_true rfl) ?_
    refine vs_ ?_
    refine eff_lit (n := 1) (vs := [y.val]) Ty.el32 rfl rfl (by intro v hv; simp at hv; subst hv; rfl) (by omega) ?_
    intro pv v3 hov hs3 hfv
    refine vs_ ?_
    refine eff_append Ty.el32 (olo.own.mono hs3) hov.sl (by intro y hy; simp at hy; subst hy; rfl) (by omega) (by omega) ?_
    intro p4 c4 v4 o4 x4 y4
    have oll3 := oll.mono hs3
    have olo3 := olo.mono hs3
    have oll4 := oll3.subX x4 n1 n2
    have hy2 := List.mem_of_getElem? hy
    have hmem : ∀ z ∈ lo ++ [y], Fo u v3 145 z ∧ NE z.p q ∧ NE z.p p1 := fun z hz => by
      rcases List.mem_append.1 hz with hz | hz
      · exact ⟨olo3.fl z hz, olo3.ne z hz, n3 z hz⟩
      · simp at hz; subst hz; exact ⟨oll3.fl z hy2, n2 z hy2, oll3.ne z hy2⟩
    have hnew : ∀ z : PD, Fo u v3 145 z → NE z.p q → NE z.p p4 := fun z h1 h2 => by
      rcases y4 with rfl | hf
      · exact h2
      · exact ne_of_fresh h1 hf
    have olo4 : DO u v4 34 145 p4 (k + 1) c4 (lo ++ [y]) := ⟨by simpa [PD.cells] using o4, fun z hz => (hmem z hz).1.subX x4 (hmem z hz).2.1, fun z hz => hnew z (hmem z hz).1 (hmem z hz).2.1⟩
    have n14 : NE p1 p4 := by
      rcases y4 with rfl | hf
      · exact n1
      · exact ne_of_fresh oll3.own hf
    refine vs_ ?_
    rw [arith_i64 (by omega)]
    refine vs_ ?_
    refine delete_call _ p1 m c1 k0 u v4 oll4.own (PD.ones ll) hk0m (by omega) ?_
    intro v5 o5 x5
    rw [← List.map_take, ← List.map_drop, ← List.map_append] at o5
    refine vs_ ?_
    refine ⟨(m - 1, p4, k + 1, c4), le_chk (by simp only [go_sem, vc_block_seq, vc_block_region, vc_block_cond, vc_block_block, Nat.reduceBEq, Nat.reduceAdd, Nat.reduceLeDiff, Nat.reduceEqDiff, Int.reduceAdd, Int.reduceBEq, Int.reduceBNe, reduceCtorEq, beq_self_eq_true, Bool.true_beq, Bool.false_beq]), x5.sub (x4.sub (hs.trans hs3) olo.own.fresh) oll.own.fresh, ll.take k0 ++ ll.drop (k0 + 1), lo ++ [y], oll4.write x5 o5 ?_, olo4.subX x5 n14.symm (fun z hz => (hmem z hz).2.2), n14, ?_, fun z hz => (hmem z hz).2.2, ?_, by simp only; omega, by simp only; omega⟩
    · intro z hz
      rcases List.mem_append.1 hz with hz | hz
      · exact ⟨z, List.mem_of_mem_take hz, rfl, rfl, rfl, rfl⟩
      · exact ⟨z, List.mem_of_mem_drop hz, rfl, rfl, rfl, rfl⟩
    · intro z hz
      have hz2 : z ∈ ll := by
        rcases List.mem_append.1 hz with hz | hz
        · exact List.mem_of_mem_take hz
        · exact List.mem_of_mem_drop hz
      exact hnew z (oll3.fl z hz2) (n2 z hz2)
    · rw [← hR, pick_step (by simp; omega) (by simp; rw [hll]; exact hk0) (getDs hy), take_ds, drop_ds]
      simp [ds]
  · rintro ⟨m, q, k, d⟩ v2 ⟨hs, ll, lo, oll, olo, n1, n2, n3, hR, hkj, hmn⟩
    refine vs_ ?_
    refine ⟨hs, q, k, d, lo, rfl, olo, ?_⟩
    rw [← hR, List.drop_eq_nil_of_le (by omega)]
    rfl
set_option maxHeartbeats 1000000 in
theorem ask_con (l : List PD) (self : PD) (many : Int) (dr : List UInt32) (p pd : Option Addr) (n c nd cd : Nat) (u : World) (hl : DL u p n c l) (hself : Fl u self) (hsn : self.n ≤ 8) (hd : Sl u 1 pd nd cd (dr.map enc32)) (hn : n ≤ 1000) (hs8 : ∀ x ∈ l, x.n ≤ 8) (hnd : nd ≤ 1000) (hmany : many ≤ 9223372036854775807) :
    Con Tryz.prog 125 [.slice p n c, self.val, .int .i64 many, .slice pd nd cd] u (fun r u' =>
      (∃ i o v, dOld (ds l) = some i ∧ (ds l)[i]? = some o ∧ 1 ≤ many ∧ r = .tuple #[.int .u8 o.node.toNat, v, .bool true] ∧ BackL u' v (cAsk (ds l) self.d many dr o.node)) ∨ ((l = [] ∨ many < 1) ∧ r = .tuple #[.int .u8 0, .slice none 0 0, .bool false])) := by
  have ll := hl.len
  have ldr : dr.length = nd := by simpa using hd.len
  refine spec_of_vc Ty.mixed Tryz.func125 rfl (by kernel_rfl) (by kernel_rfl) rfl [.tmp 8, .tmp 9, .tmp 10] rfl ?_
  refine vs_ ?_
  intro b5
  refine AtCall.of_spec (oldest_con l p n c u hl (by omega)) ?_
  rintro r u1 hs1 rfl
  refine vs_ ?_
  by_cases h0 : l = []
  · rw [show dOldest (ds l) = -1 by rw [h0]; rfl, show decide ((-1 : Int) < 0) = true from rfl]
    refine vs_ ?_
    exact ⟨hs1, .inr ⟨.inl h0, rfl⟩⟩
  obtain ⟨i, hi⟩ := old_some (l := ds l) (by simpa using h0)
  obtain ⟨o, ho, _, _⟩ := old_spec hi
  have hin : i < n := by obtain ⟨h, _⟩ := List.getElem?_eq_some_iff.1 ho; simp at h; omega
  obtain ⟨y, hy⟩ := exAt hin ll
  have hyo := atDs hy ho
  rw [show dOldest (ds l) = (i : Int) by unfold dOldest; rw [hi]]
  rw [decide_eq_false (show ¬ (i : Int) < 0 by omega)]
  refine vs_ ?_
  refine cond_dec (fun h1 => ?_) (fun h1 => ?_)
  · refine vs_ ?_
    exact ⟨hs1, .inr ⟨.inr h1, rfl⟩⟩
  refine vs_ ?_
  refine ⟨⟨hl.sl.some_ hin, by omega, by omega⟩, ?_⟩
  refine (hl.sl.mono hs1).load (getMap hy) (.inl rfl) (Nat.le_of_ble_eq_true rfl) ?_
  refine vs_ ?_
  refine eff_lit (n := 1) (vs := [self.val]) Ty.el32 rfl rfl (by intro v hv; simp at hv; subst hv; rfl) (by omega) ?_
  intro pl ul hol sl fl
  have L : DL ul pl 1 1 [self] := ⟨hol.sl, by intro x hx; simp at hx; subst hx; exact hself.mono (hs1.trans sl)⟩
  refine vs_ ?_
  refine AtCall.of_spec (copy_con [self] pl 1 1 ul L (by omega) (by intro x hx; simp at hx; subst hx; omega)) ?_
  rintro r u2 hs2 ⟨p2, c2, l2, rfl, o2, e2, hp2⟩
  have l2l := o2.len
  obtain ⟨z, rfl⟩ : ∃ z, l2 = [z] := by
    match l2, l2l with
    | [z], _ => exact ⟨z, rfl⟩
  have hzd : z.d = self.d := by simpa using e2
  have hsA := hs1.trans (sl.trans hs2)
  replace o2 := o2.anti (hs1.trans sl)
  refine vs_ ?_
  refine ⟨⟨o2.own.sl.some_ (show 0 < 1 by omega), by omega, by omega⟩, ?_⟩
  refine own_store (i := 0) Ty.lay5 o2.own (x := z.enc) rfl rfl (by omega) rfl ?_
  intro u3 o3 x3
  have e3 : ([z].map PD.enc).set 0 (splice z.enc 2 (Value.int .u8 0).cells.toList) = [PD.mk ⟨self.d.node, self.d.inc, 0, self.d.filter⟩ z.p z.n z.c].map PD.enc := by
    rw [← hzd]; rfl
  have o3' : DO u u3 34 145 p2 1 c2 [PD.mk ⟨self.d.node, self.d.inc, 0, self.d.filter⟩ z.p z.n z.c] := o2.write x3 (by rw [← e3]; exact o3) (by
    intro w hw; simp at hw; subst hw; exact ⟨z, by simp, rfl, rfl, rfl, by rw [hzd]⟩)
  have hsB : Sub u u3 := x3.sub hsA o2.own.fresh
  clear o3 e3
  refine vs_ ?_
  rw [arith_i64 (by omega)]
  refine vs_ ?_
  refine AtCall.of_spec (pick_con l (many - 1) y.d.node dr p pd n c nd cd u3 (hl.mono hsB) (hd.mono hsB) hn hs8 hnd) ?_
  rintro r u4 hs4 ⟨p4, n4, c4, l4, rfl, o4, e4⟩
  have hl4 := o4.len
  have hb4 : n4 ≤ nd := by
    have h2 := congrArg List.length e4
    have h3 := pick_len (many - 1) dr (dDrop (ds l) y.d.node) []
    simp at h2 h3
    omega
  have hfr : ∀ w ∈ l4, NE w.p p2 := fun w hw => NE.symm (ne_of_fresh o3'.own (Eng.Own.fresh (o4.fl w hw)))
  replace o3' := o3'.mono hs4
  refine vs_ ?_
  refine eff_append Ty.el32 o3'.own o4.own.sl (PD.ones l4) (by omega) (by omega) ?_
  intro p5 c5 u5 o5 x5 y5
  have hsC : Sub u u5 := x5.sub (hsB.trans hs4) o3'.own.fresh
  refine vs_ ?_
  refine ⟨hsC, .inl ⟨i, o, _, hi, ho, by omega, by rw [hyo], p5, 1 + n4, c5, PD.mk ⟨self.d.node, self.d.inc, 0, self.d.filter⟩ z.p z.n z.c :: l4, rfl, ⟨by simpa using o5.sl, ?_⟩, ?_⟩⟩
  · intro w hw
    rcases List.mem_cons.1 hw with rfl | hw
    · exact Eng.Own.sl (Eng.Own.subX x5 (o3'.ne _ (List.mem_singleton_self _)) (o3'.fl _ (List.mem_singleton_self _)))
    · exact Eng.Own.sl (Eng.Own.subX x5 (hfr w hw) ((o4.fl w hw).anti hsB))
  · rw [cAsk, hyo, ← e4]; rfl
end Go.Proofs.YtlaefellhnkfbaaGreat

set_option maxRecDepth 10000
namespace Go.Eng
end Go.Eng
namespace Go.Proofs.YtlaefellhnkfbaaGreat
open Go.Eng
attribute [local go_sem] GSpan.val GSpan.enc PD.val PD.enc enc32
end Go.Proofs.YtlaefellhnkfbaaGreat

set_option maxRecDepth 10000
namespace Go.Eng
end Go.Eng
namespace Go.Proofs.YtlaefellhnkfbaaGreat
open Go.Eng
attribute [local go_sem] GSpan.val GSpan.enc PD.val PD.enc enc32
theorem small_put {L : List GDesc} {d : GDesc} {self : UInt8} {room : Int} (hL : ∀ x ∈ L, x.filter.length ≤ 8) (hd : d.filter.length ≤ 8) : ∀ x ∈ (dPut L d self room).1, x.filter.length ≤ 8 := fun x hx => by
  rcases put_mem x hx with h | h
  · exact hL x h
  · rw [h]; exact hd
end Go.Proofs.YtlaefellhnkfbaaGreat
