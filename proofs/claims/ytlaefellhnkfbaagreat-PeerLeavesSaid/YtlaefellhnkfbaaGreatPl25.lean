/-
  Part 25 of the proof of Pl: the engine and the walks, in their order.
-/
import Derived.Test.YtlaefellhnkfbaaGreatPl11
import Derived.Test.YtlaefellhnkfbaaGreatPl22
import Derived.Test.YtlaefellhnkfbaaGreatPl24
set_option linter.unusedSimpArgs false
set_option linter.unusedVariables false
set_option maxRecDepth 10000
namespace Go.Eng
structure GW where
  some : Bool
  node : UInt8
  left : UInt8
  sent : List GDesc
deriving DecidableEq
structure PW where
  some : Bool
  node : UInt8
  left : UInt8
  p : Option Addr
  n : Nat
  c : Nat
  l : List PD
def PW.enc (w : PW) : List Value := [.bool w.some, .int .u8 w.node.toNat, .int .u8 w.left.toNat, .slice w.p w.n w.c]
def PW.val (w : PW) : Value := .agg #[.bool w.some, .int .u8 w.node.toNat, .int .u8 w.left.toNat, .slice w.p w.n w.c]
def PW.g (w : PW) : GW := ⟨w.some, w.node, w.left, ds w.l⟩
def u1 (x : UInt8) : UInt8 := if x = 0 then 1 else x
theorem u1_int (i : UInt8) : (if (i.toNat : Int) < 1 then 1 else (i.toNat : Int)) = ((u1 i).toNat : Int) := by
  unfold u1
  by_cases h : i = 0
  · subst h; simp
  · rw [if_neg h, if_neg]
    have : i.toNat ≠ 0 := fun e => h (UInt8.toNat_inj.1 (by simpa using e))
    omega
def wZero : GW := ⟨false, 0, 0, []⟩
def wStart (node left : UInt8) (sent : List GDesc) : GW := ⟨true, node, u1 left, sent⟩
def wTick (w : GW) : GW × UInt8 × Bool := if w.some = true then (if w.left ≤ 1 then (wZero, w.node, true) else (⟨true, w.node, w.left - 1, w.sent⟩, 0, false)) else (wZero, 0, false)
def sFill (self : UInt8) (room : Int) : List GDesc → List GDesc → List GDesc
  | v, [] => v
  | v, d :: r => sFill self room (dPut v d self room).1 r
def sAdmit (l : List GDesc) (d : GDesc) (self : UInt8) (room : Int) : List GDesc :=
  if (dPut l d self room).2 = true then (dPut l d self room).1
  else if d.node = self ∨ d.inc = 0 ∨ dIdx l d.node ≠ none then l
  else match dOld l with
    | none => l
    | some i => match l[i]? with
      | some o => (dPut (dDrop l o.node) d self l.length).1
      | none => l
end Go.Eng
namespace Go.Proofs.YtlaefellhnkfbaaGreat
open Go.Eng
attribute [local go_sem] GSpan.val GSpan.enc PD.val PD.enc PW.val PW.enc
structure WL (u : World) (w : PW) : Prop where
  dl : DL u w.p w.n w.c w.l
  len : w.n ≤ 100
  small : ∀ x ∈ w.l, x.n ≤ 8
theorem WL.mono {u u' : World} {w : PW} (hs : Sub u u') (h : WL u w) : WL u' w := ⟨h.dl.mono hs, h.len, h.small⟩
def BackW (u u' : World) (r : Value) (g : GW) : Prop := ∃ w : PW, r = w.val ∧ w.g = g ∧ DO u u' 34 145 w.p w.n w.c w.l
theorem start_con (node left : UInt8) (l : List PD) (p : Option Addr) (n c : Nat) (u : World) (hl : DL u p n c l) (hn : n ≤ 100000) (hs : ∀ x ∈ l, x.n ≤ 100000) :
    Con Tryz.prog 126 [.int .u8 node.toNat, .int .u8 left.toNat, .slice p n c] u (fun r u' => BackW u u' r (wStart node left (ds l))) := by
  refine spec_of_vc Ty.mixed Tryz.func126 rfl (by kernel_rfl) (by kernel_rfl) rfl [.cell 6 38] rfl ?_
  refine vs_ ?_
  intro b1
  (simp only [go_sem, vc_block_seq, vc_block_region, vc_block_cond, vc_block_block, Nat.reduceBEq, Nat.reduceAdd, Nat.reduceLeDiff, Nat.reduceEqDiff, Int.reduceAdd, Int.reduceBEq, Int.reduceBNe, reduceCtorEq, beq_self_eq_true, Bool.true_beq, Bool.false_beq, u1_int]; repeat ((with_reducible refine leK_refl ?_); simp only [go_sem, vc_block_seq, vc_block_region, vc_block_cond, vc_block_block, Nat.reduceBEq, Nat.reduceAdd, Nat.reduceLeDiff, Nat.reduceEqDiff, Int.reduceAdd, Int.reduceBEq, Int.reduceBNe, reduceCtorEq, beq_self_eq_true, Bool.true_beq, Bool.false_beq, u1_int]))
  refine AtCall.of_spec (copy_con l p n c u hl (by omega) (fun x hx => by have := hs x hx; omega)) ?_
  rintro r u1 hs1 ⟨p1, c1, l1, rfl, o1, e1, _⟩
  refine vs_ ?_
  exact ⟨hs1, ⟨true, node, Eng.u1 left, p1, n, c1, l1⟩, rfl, by simp [PW.g, wStart, e1], o1⟩
theorem tick_con (w : PW) (u : World) (hw : WL u w) :
    Con Tryz.prog 59 [w.val] u (fun r u' => ∃ v, r = .tuple #[v, .int .u8 (wTick w.g).2.1.toNat, .bool (wTick w.g).2.2] ∧ BackW u u' v (wTick w.g).1) := by
  have hlt := w.left.toNat_lt
  have hn := hw.len
  refine spec_of_vc Ty.mixed Tryz.func59 rfl (by kernel_rfl) (by kernel_rfl) rfl [.cell 2 38, .tmp 3, .tmp 4] rfl ?_
  refine vs_ ?_
  intro b1 b2
  cases hsome : w.some with
  | false =>
    have e : wTick w.g = (wZero, 0, false) := by simp [wTick, PW.g, hsome]
    rw [e]
    refine vs_ ?_
    exact ⟨Sub.refl _, _, rfl, ⟨false, 0, 0, none, 0, 0, []⟩, rfl, rfl, DO.nil_ _ _ _ _⟩
  | true =>
  refine vs_ ?_
  refine cond_dec (fun h => ?_) (fun h => ?_)
  · have h' : w.left ≤ 1 := by rw [UInt8.le_iff_toNat_le]; show w.left.toNat ≤ 1; omega
    have e : wTick w.g = (wZero, w.node, true) := by simp [wTick, PW.g, hsome, h']
    rw [e]
    refine vs_ ?_
    refine draw_treeL (.fl 0 (.fl 1 (.eff 2 false (.eff 3 false (.fl 4 (.fl 5 .done)) .no) (.eff 3 false (.fl 2 (.fl 4 (.fl 5 .done))) .no)))) (by kernel_rfl) (fun (_ : Unit) => [(3, .v (.int .u8 w.node.toNat)), (4, .v (.bool true))]) (fun _ => [(2, ⟨b2, [.bool false, .int .u8 0, .int .u8 0, .slice none 0 0], 38⟩)]) (fun _ u' => u' = u) ?_ ?_
    · refine vs_ ?_
      exact ⟨(), le_chk (by simp only [go_sem, vc_block_seq, vc_block_region, vc_block_cond, vc_block_block, Nat.reduceBEq, Nat.reduceAdd, Nat.reduceLeDiff, Nat.reduceEqDiff, Int.reduceAdd, Int.reduceBEq, Int.reduceBNe, reduceCtorEq, beq_self_eq_true, Bool.true_beq, Bool.false_beq])⟩
    rintro _ _ rfl
    refine vs_ ?_
    exact ⟨Sub.refl _, _, rfl, ⟨false, 0, 0, none, 0, 0, []⟩, rfl, rfl, DO.nil_ _ _ _ _⟩
  · have h' : ¬ w.left ≤ 1 := by rw [UInt8.le_iff_toNat_le]; show ¬ w.left.toNat ≤ 1; omega
    have e : wTick w.g = (⟨true, w.node, w.left - 1, ds w.l⟩, 0, false) := by simp [wTick, PW.g, hsome, h']
    have e2 : (w.left.toNat : Int) - 1 = ((w.left - 1).toNat : Int) := by
      rw [UInt8.toNat_sub_of_le _ _ (by rw [UInt8.le_iff_toNat_le]; simp; omega)]
      simp
      omega
    rw [e]
    refine vs_ ?_
    rw [arith_u8 (by omega), e2]
    refine vs_ ?_
    refine AtCall.of_spec (copy_con w.l w.p w.n w.c u hw.dl (by omega) (fun x hx => by have := hw.small x hx; omega)) ?_
    rintro r u1 hs1 ⟨p1, c1, l1, rfl, o1, e1, _⟩
    refine vs_ ?_
    exact ⟨hs1, _, rfl, ⟨true, w.node, w.left - 1, p1, w.n, c1, l1⟩, rfl, by simp [PW.g, e1], o1⟩
theorem small_put {L : List GDesc} {d : GDesc} {self : UInt8} {room : Int} (hL : ∀ x ∈ L, x.filter.length ≤ 8) (hd : d.filter.length ≤ 8) : ∀ x ∈ (dPut L d self room).1, x.filter.length ≤ 8 := fun x hx => by
  rcases put_mem x hx with h | h
  · exact hL x h
  · rw [h]; exact hd
theorem fill_snoc (self : UInt8) (room : Int) : ∀ (r : List GDesc) (v : List GDesc) (d : GDesc), sFill self room v (r ++ [d]) = (dPut (sFill self room v r) d self room).1 := by
  intro r
  induction r with
  | nil => intro v d; rfl
  | cons x r ih => intro v d; simp only [List.cons_append, sFill]; exact ih _ d
theorem fill_con (l got : List PD) (self : UInt8) (room : Int) (p q : Option Addr) (n c m e : Nat) (u : World) (hl : DL u p n c l) (hv : Vw self (ds l)) (h8 : ∀ d ∈ ds l, d.filter.length ≤ 8) (hg : DL u q m e got) (hn : n ≤ 1000) (hm : m ≤ 1000) (hg8 : ∀ x ∈ got, x.n ≤ 8) :
    Con Tryz.prog 164 [.slice p n c, .slice q m e, .int .u8 self.toNat, .int .i64 room] u (fun r u' => Back u u' r (sFill self room (ds l) (ds got))) := by
  have ll := hl.len
  have lg := hg.len
  refine spec_of_vc Ty.mixed Tryz.func164 rfl (by kernel_rfl) (by kernel_rfl) rfl [.tmp 8] rfl ?_
  refine vs_ ?_
  refine AtCall.of_spec (copy_con l p n c u hl (by omega) (fun x hx => by rw [← (hl.fl x hx).len]; have := h8 x.d (List.mem_map_of_mem hx); omega)) ?_
  rintro r u1 hs1 ⟨p1, c1, l1, rfl, o1, e1, _⟩
  refine vs_ ?_
  refine vc_range m (fun (g : Option Addr × Nat × Nat) => [(9, .v (.slice g.1 g.2.1 g.2.2))]) (fun _ => [])
    (fun j g u' => Sub u u' ∧ ∃ lv, DO u u' 34 145 g.1 g.2.1 g.2.2 lv ∧ ds lv = sFill self room (ds l) ((ds got).take j) ∧ Vw self (ds lv) ∧ g.2.1 ≤ n + j ∧ ∀ d ∈ ds lv, d.filter.length ≤ 8)
    (p1, n, c1) (le_chk (by simp only [go_sem, vc_block_seq, vc_block_region, vc_block_cond, vc_block_block, Nat.reduceBEq, Nat.reduceAdd, Nat.reduceLeDiff, Nat.reduceEqDiff, Int.reduceAdd, Int.reduceBEq, Int.reduceBNe, reduceCtorEq, beq_self_eq_true, Bool.true_beq, Bool.false_beq])) ⟨hs1, l1, o1, by rw [e1]; rfl, by rw [e1]; exact hv, by simp only; omega, by rw [e1]; exact h8⟩ (fun _ _ => rfl) (by omega) (fun _ => rfl) ?_ ?_
  · rintro j ⟨pv, nv, cv⟩ u2 hj ⟨hs2, lv, ov, ev, hvv, hnv, hv8⟩
    simp only at ov hnv
    obtain ⟨x, hx⟩ := exAt hj lg
    have hx8 := hg8 x (List.mem_of_getElem? hx)
    have hxf : x.d.filter.length ≤ 8 := by rw [(hg.at_ hx).len]; exact hx8
    have dx : (ds got)[j]? = some x.d := by simp [hx]
    refine vs_ ?_
    refine ⟨⟨hg.sl.some_ hj, by omega, by omega⟩, ?_⟩
    refine (hg.sl.mono hs2).load (getMap hx) (.inr rfl) (Nat.le_of_ble_eq_true rfl) ?_
    refine vs_ ?_
    intro b1
    refine AtCall.of_spec (put_con lv hvv.2 x self room pv nv cv u2 ov.dl ((hg.at_ hx).mono hs2) (by omega) (fun y hy => by rw [← (ov.dl.fl y hy).len]; have := hv8 y.d (List.mem_map_of_mem hy); omega) (by omega)) ?_
    rintro r u3 hs3 ⟨v3, rfl, p3, n3, c3, l3, rfl, o3, e3⟩
    generalize hP : (dPut (ds lv) x.d self room).2 = P
    (simp -implicitDefEqProofs only [go_sem, vc_block_seq, vc_block_region, vc_block_cond, vc_block_block, Nat.reduceBEq, Nat.reduceAdd, Nat.reduceLeDiff, Nat.reduceEqDiff, Int.reduceAdd, Int.reduceBEq, Int.reduceBNe, reduceCtorEq, beq_self_eq_true, Bool.true_beq, Bool.false_beq]; repeat ((with_reducible refine leK_refl ?_); simp -implicitDefEqProofs only [go_sem, vc_block_seq, vc_block_region, vc_block_cond, vc_block_block, Nat.reduceBEq, Nat.reduceAdd, Nat.reduceLeDiff, Nat.reduceEqDiff, Int.reduceAdd, Int.reduceBEq, Int.reduceBNe, reduceCtorEq, beq_self_eq_true, Bool.true_beq, Bool.false_beq]))
    refine cond_split (fun h => ?_) (fun h => ?_)
    · subst h
      refine vs_ ?_
      refine ⟨(p3, n3, c3), le_chk (by simp only [go_sem, vc_block_seq, vc_block_region, vc_block_cond, vc_block_block, Nat.reduceBEq, Nat.reduceAdd, Nat.reduceLeDiff, Nat.reduceEqDiff, Int.reduceAdd, Int.reduceBEq, Int.reduceBNe, reduceCtorEq, beq_self_eq_true, Bool.true_beq, Bool.false_beq]), hs2.trans hs3, l3, o3.anti hs2, ?_, ?_, ?_, ?_⟩
      · rw [take_succ dx, fill_snoc, ← ev, e3]
      · rw [e3]; exact vw_put hvv _ _
      · have h1 := o3.len
        have h2 := put_len (self := self) (l := ds lv) x.d room
        rw [← e3] at h2
        have h3 := ov.len
        simp only [List.length_map] at h2
        simp only
        omega
      · rw [e3]; exact small_put hv8 hxf
    · subst h
      refine vs_ ?_
      exact ⟨(pv, nv, cv), le_chk (by simp only [go_sem, vc_block_seq, vc_block_region, vc_block_cond, vc_block_block, Nat.reduceBEq, Nat.reduceAdd, Nat.reduceLeDiff, Nat.reduceEqDiff, Int.reduceAdd, Int.reduceBEq, Int.reduceBNe, reduceCtorEq, beq_self_eq_true, Bool.true_beq, Bool.false_beq]), hs2.trans hs3, lv, ov.mono hs3, by rw [take_succ dx, fill_snoc, ← ev, put_false hP], hvv, by simp only; omega, hv8⟩
  · rintro ⟨pv, nv, cv⟩ u2 ⟨hs2, lv, ov, ev, hvv, hnv, hv8⟩
    refine vs_ ?_
    exact ⟨hs2, pv, nv, cv, lv, rfl, ov, by rw [ev, take_all (by simpa using lg)]⟩
theorem admit1_con (l : List PD) (hu : Up dKey (ds l)) (x : PD) (self : UInt8) (room : Int) (p : Option Addr) (n c b1 b2 : Nat) (u : World) (hl : DL u p n c l) (hx : Fl u x) (hn : n ≤ 100000) (hs : ∀ x ∈ l, x.n ≤ 100000) (hxn : x.n ≤ 100000)
    (h1 : Cel u b1 x.enc 34) (h2 : Cel u b2 [Value.int .u8 self.toNat] 5) :
    Con Tryz.prog 209 [.slice p n c, .int .i64 room, .pointer (some ⟨b1, 0, none⟩), .pointer (some ⟨b2, 0, none⟩)] u (fun r u' => ∃ v, r = .tuple #[v, .bool (dPut (ds l) x.d self room).2] ∧ Back u u' v (dPut (ds l) x.d self room).1) := by
  refine spec_of_vc Ty.mixed Tryz.func209 rfl (by kernel_rfl) (by kernel_rfl) rfl [.tmp 6, .tmp 7] rfl ?_
  refine vs_ ?_
  refine ptr_load h1 (.inr rfl) (Nat.le_of_ble_eq_true rfl) ?_
  refine vs_ ?_
  refine ptr_load h2 (.inl rfl) (Nat.le_of_ble_eq_true rfl) ?_
  refine vs_ ?_
  refine AtCall.of_spec (put_con l hu x self room p n c u hl hx hn hs hxn) ?_
  rintro r u1 hs1 ⟨v, rfl, hb⟩
  generalize (dPut (ds l) x.d self room).2 = P
  (simp -implicitDefEqProofs only [go_sem, vc_block_seq, vc_block_region, vc_block_cond, vc_block_block, Nat.reduceBEq, Nat.reduceAdd, Nat.reduceLeDiff, Nat.reduceEqDiff, Int.reduceAdd, Int.reduceBEq, Int.reduceBNe, reduceCtorEq, beq_self_eq_true, Bool.true_beq, Bool.false_beq]; repeat ((with_reducible refine leK_refl ?_); simp -implicitDefEqProofs only [go_sem, vc_block_seq, vc_block_region, vc_block_cond, vc_block_block, Nat.reduceBEq, Nat.reduceAdd, Nat.reduceLeDiff, Nat.reduceEqDiff, Int.reduceAdd, Int.reduceBEq, Int.reduceBNe, reduceCtorEq, beq_self_eq_true, Bool.true_beq, Bool.false_beq]))
  exact ⟨hs1, v, rfl, hb⟩
theorem admit_keep {L : List GDesc} {d : GDesc} {self : UInt8} {room : Int} (hP : (dPut L d self room).2 = false) (h : L = [] ∨ d.node = self ∨ d.inc = 0 ∨ dIdx L d.node ≠ none) : sAdmit L d self room = L := by
  unfold sAdmit
  rw [if_neg (by rw [hP]; simp)]
  split
  · rfl
  · rename_i hn
    rcases h with rfl | h | h | h
    · rfl
    · exact absurd (.inl h) hn
    · exact absurd (.inr (.inl h)) hn
    · exact absurd (.inr (.inr h)) hn
theorem admit_old {L : List GDesc} {d o : GDesc} {self : UInt8} {room : Int} {i : Nat} (hP : (dPut L d self room).2 = false) (h1 : d.node ≠ self) (h2 : d.inc ≠ 0) (h3 : dIdx L d.node = none) (hi : dOld L = some i) (ho : L[i]? = some o) :
    sAdmit L d self room = (dPut (dDrop L o.node) d self L.length).1 := by
  unfold sAdmit
  rw [if_neg (by rw [hP]; simp), if_neg (by rintro (h | h | h); exact h1 h; exact h2 h; exact h h3), hi]
  simp only [ho]
theorem find_neg {L : List GDesc} {node : UInt8} : dFind L node < 0 ↔ dIdx L node = none := by
  unfold dFind
  cases h : dIdx L node with
  | none => simp
  | some i => simp only; constructor; intro h; omega; intro h; cases h
theorem admit_con (l : List PD) (x : PD) (self : UInt8) (room : Int) (p : Option Addr) (n c : Nat) (u : World) (hl : DL u p n c l) (hv : Vw self (ds l)) (hx : Fl u x) (hn : n ≤ 1000) (hs : ∀ x ∈ l, x.n ≤ 8) (hxn : x.n ≤ 8) :
    Con Tryz.prog 162 [.slice p n c, x.val, .int .u8 self.toNat, .int .i64 room] u (fun r u' => Back u u' r (sAdmit (ds l) x.d self room)) := by
  have ll := hl.len
  refine spec_of_vc Ty.mixed Tryz.func162 rfl (by kernel_rfl) (by kernel_rfl) rfl [.tmp 8] rfl ?_
  refine vs_ ?_
  intro b1 b2 u1 hs1 hf1 hf1' hb1 hg1 u2 hs2 hf2 hf2' hb2 hg2
  have hS := hs1.trans hs2
  have hc1 : Cel u2 b1 x.enc 34 := hs2 _ _ hb1 cells_ne_junk
  have hc2 : Cel u2 b2 [Value.int .u8 self.toNat] 5 := hb2
  replace hl := hl.mono hS
  replace hx := hx.mono hS
  refine AtCall.of_spec (admit1_con l hv.2 x self room p n c b1 b2 _ hl hx (by omega) (fun y hy => by have := hs y hy; omega) (by omega) hc1 hc2) ?_
  rintro r W1 H1 ⟨v3, rfl, p3, n3, c3, l3, rfl, o3, e3⟩
  replace hl := hl.mono H1
  replace hx := hx.mono H1
  replace hS := hS.trans H1
  replace hc1 := hc1.mono H1
  replace hc2 := hc2.mono H1
  generalize hP : (dPut (ds l) x.d self room).2 = P
  (simp -implicitDefEqProofs only [go_sem, vc_block_seq, vc_block_region, vc_block_cond, vc_block_block, Nat.reduceBEq, Nat.reduceAdd, Nat.reduceLeDiff, Nat.reduceEqDiff, Int.reduceAdd, Int.reduceBEq, Int.reduceBNe, reduceCtorEq, beq_self_eq_true, Bool.true_beq, Bool.false_beq]; repeat ((with_reducible refine leK_refl ?_); simp -implicitDefEqProofs only [go_sem, vc_block_seq, vc_block_region, vc_block_cond, vc_block_block, Nat.reduceBEq, Nat.reduceAdd, Nat.reduceLeDiff, Nat.reduceEqDiff, Int.reduceAdd, Int.reduceBEq, Int.reduceBNe, reduceCtorEq, beq_self_eq_true, Bool.true_beq, Bool.false_beq]))
  refine cond_split (fun h => ?_) (fun h => ?_)
  · subst h
    refine vs_ ?_
    exact ⟨hS, p3, n3, c3, l3, rfl, o3.anti (hs1.trans hs2), by unfold sAdmit; rw [if_pos hP]; exact e3⟩
  subst h
  have hs0 : ∀ y ∈ l, y.n ≤ 1000000 := fun y hy => by have := hs y hy; omega
  refine vs_ ?_
  have hS0 := hS
  by_cases h0 : n = 0
  · have hkeep := admit_keep hP (.inl (by have : l = [] := List.eq_nil_of_length_eq_zero (by omega); rw [this]; rfl))
    rw [show ((n : Int) == 0) = true by simp; omega]
    refine vs_ ?_
    refine AtCall.of_spec (copy_con l p n c _ hl (by omega) hs0) ?_
    rintro r W2 H2 ⟨p4, c4, l4, rfl, o4, e4, _⟩
    replace hl := hl.mono H2
    replace hx := hx.mono H2
    replace hS := hS.trans H2
    replace hc1 := hc1.mono H2
    replace hc2 := hc2.mono H2
    refine vs_ ?_
    exact ⟨hS, p4, n, c4, l4, rfl, o4.anti hS0, by rw [e4, hkeep]⟩
  rw [show ((n : Int) == 0) = false by simp; omega]
  refine vs_ ?_
  refine ptr_load hc1 (.inl rfl) (Nat.le_of_ble_eq_true rfl) ?_
  refine vs_ ?_
  refine ptr_load hc2 (.inl rfl) (Nat.le_of_ble_eq_true rfl) ?_
  refine vs_ ?_
  rw [u8_beq]
  by_cases h1 : x.d.node = self
  · have hkeep := admit_keep hP (.inr (.inl h1))
    rw [decide_eq_true h1]
    refine vs_ ?_
    refine AtCall.of_spec (copy_con l p n c _ hl (by omega) hs0) ?_
    rintro r W3 H3 ⟨p4, c4, l4, rfl, o4, e4, _⟩
    replace hl := hl.mono H3
    replace hx := hx.mono H3
    replace hS := hS.trans H3
    replace hc1 := hc1.mono H3
    replace hc2 := hc2.mono H3
    refine vs_ ?_
    exact ⟨hS, p4, n, c4, l4, rfl, o4.anti hS0, by rw [e4, hkeep]⟩
  rw [decide_eq_false h1]
  refine vs_ ?_
  refine ptr_load hc1 (.inl rfl) (Nat.le_of_ble_eq_true rfl) ?_
  refine vs_ ?_
  rw [u16_eq0]
  by_cases h2 : x.d.inc = 0
  · have hkeep := admit_keep hP (.inr (.inr (.inl h2)))
    rw [decide_eq_true h2]
    refine vs_ ?_
    refine AtCall.of_spec (copy_con l p n c _ hl (by omega) hs0) ?_
    rintro r W4 H4 ⟨p4, c4, l4, rfl, o4, e4, _⟩
    replace hl := hl.mono H4
    replace hx := hx.mono H4
    replace hS := hS.trans H4
    replace hc1 := hc1.mono H4
    replace hc2 := hc2.mono H4
    refine vs_ ?_
    exact ⟨hS, p4, n, c4, l4, rfl, o4.anti hS0, by rw [e4, hkeep]⟩
  rw [decide_eq_false h2]
  refine vs_ ?_
  refine ptr_load hc1 (.inl rfl) (Nat.le_of_ble_eq_true rfl) ?_
  refine vs_ ?_
  refine AtCall.of_spec (find_con l hv.2 x.d.node p n c _ hl (by omega)) ?_
  rintro r W5 H5 rfl
  replace hl := hl.mono H5
  replace hx := hx.mono H5
  replace hS := hS.trans H5
  replace hc1 := hc1.mono H5
  replace hc2 := hc2.mono H5
  refine vs_ ?_
  replace hS0 := hS0.trans H5
  by_cases h3 : dIdx (ds l) x.d.node = none
  case neg =>
    have hkeep := admit_keep hP (.inr (.inr (.inr h3)))
    rw [decide_eq_true (show 0 ≤ dFind (ds l) x.d.node from Int.not_lt.1 (mt find_neg.1 h3))]
    refine vs_ ?_
    refine AtCall.of_spec (copy_con l p n c _ hl (by omega) hs0) ?_
    rintro r W6 H6 ⟨p4, c4, l4, rfl, o4, e4, _⟩
    replace hl := hl.mono H6
    replace hx := hx.mono H6
    replace hS := hS.trans H6
    replace hc1 := hc1.mono H6
    replace hc2 := hc2.mono H6
    refine vs_ ?_
    exact ⟨hS, p4, n, c4, l4, rfl, o4.anti hS0, by rw [e4, hkeep]⟩
  rw [decide_eq_false (show ¬ 0 ≤ dFind (ds l) x.d.node from Int.not_le.2 (find_neg.2 h3))]
  refine vs_ ?_
  refine AtCall.of_spec (oldest_con l p n c _ hl (by omega)) ?_
  rintro r W7 H7 rfl
  replace hl := hl.mono H7
  replace hx := hx.mono H7
  replace hS := hS.trans H7
  replace hc1 := hc1.mono H7
  replace hc2 := hc2.mono H7
  refine vs_ ?_
  replace hS0 := hS0.trans H7
  obtain ⟨i, hi⟩ := old_some (l := ds l) (fun e => h0 (by rw [← ll]; simpa using e))
  obtain ⟨o, ho, _, _⟩ := old_spec hi
  have hin : i < n := by obtain ⟨h, _⟩ := List.getElem?_eq_some_iff.1 ho; simp at h; omega
  obtain ⟨y, hy⟩ := exAt hin ll
  have hyo := atDs hy ho
  rw [show dOldest (ds l) = (i : Int) by unfold dOldest; rw [hi]]
  rw [decide_eq_false (show ¬ (i : Int) < 0 by omega)]
  refine vs_ ?_
  refine ⟨⟨hl.sl.some_ hin, by omega, by omega⟩, ?_⟩
  refine hl.sl.load (getMap hy) (.inl rfl) (Nat.le_of_ble_eq_true rfl) ?_
  refine vs_ ?_
  refine AtCall.of_spec (drop_con l hv.2 y.d.node p n c _ hl (by omega) (fun z hz => by have := hs z hz; omega)) ?_
  rintro r W8 H8 ⟨p5, n5, c5, l5, rfl, o5, e5⟩
  replace hl := hl.mono H8
  replace hx := hx.mono H8
  replace hS := hS.trans H8
  replace hc1 := hc1.mono H8
  replace hc2 := hc2.mono H8
  refine vs_ ?_
  replace hS0 := hS0.trans H8
  have hl5 := o5.len
  have h5n : n5 ≤ n := by have h6 := congrArg List.length e5; have h7 := drop_len_le (ds l) y.d.node; simp at h6 h7; omega
  have hsm5 : ∀ z ∈ l5, z.n ≤ 100000 := fun z hz => by
    rw [← (o5.dl.fl z hz).len]
    have hm : z.d ∈ dDrop (ds l) y.d.node := by rw [← e5]; exact List.mem_map_of_mem hz
    obtain ⟨z2, hz2, e6⟩ := List.mem_map.1 (List.mem_filter.1 hm).1
    rw [← e6, (hl.fl z2 hz2).len]
    have := hs z2 hz2
    omega
  refine AtCall.of_spec (admit1_con l5 (by rw [e5]; exact (vw_drop hv _).2) x self n p5 n5 c5 b1 b2 _ o5.dl hx (by omega) hsm5 (by omega) hc1 hc2) ?_
  rintro r W9 H9 ⟨v6, rfl, p6, n6, c6, l6, rfl, o6, e6⟩
  replace hl := hl.mono H9
  replace hx := hx.mono H9
  replace hS := hS.trans H9
  replace hc1 := hc1.mono H9
  replace hc2 := hc2.mono H9
  generalize hP6 : (dPut (ds l5) x.d self n).2 = P6
  (simp -implicitDefEqProofs only [go_sem, vc_block_seq, vc_block_region, vc_block_cond, vc_block_block, Nat.reduceBEq, Nat.reduceAdd, Nat.reduceLeDiff, Nat.reduceEqDiff, Int.reduceAdd, Int.reduceBEq, Int.reduceBNe, reduceCtorEq, beq_self_eq_true, Bool.true_beq, Bool.false_beq]; repeat ((with_reducible refine leK_refl ?_); simp -implicitDefEqProofs only [go_sem, vc_block_seq, vc_block_region, vc_block_cond, vc_block_block, Nat.reduceBEq, Nat.reduceAdd, Nat.reduceLeDiff, Nat.reduceEqDiff, Int.reduceAdd, Int.reduceBEq, Int.reduceBNe, reduceCtorEq, beq_self_eq_true, Bool.true_beq, Bool.false_beq]))
  refine ⟨hS, p6, n6, c6, l6, rfl, o6.anti hS0, ?_⟩
  rw [e6, admit_old hP h1 h2 h3 hi ho, hyo, e5]
  simp [ll]
end Go.Proofs.YtlaefellhnkfbaaGreat
