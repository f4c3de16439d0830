/-
  Part 32 of the proof of Pl: the engine and the walks, in their order.
-/
import Derived.Test.YtlaefellhnkfbaaGreatPl7
import Derived.Test.YtlaefellhnkfbaaGreatPl9
import Derived.Test.YtlaefellhnkfbaaGreatPl13
import Derived.Test.YtlaefellhnkfbaaGreatPl15
import Derived.Test.YtlaefellhnkfbaaGreatPl20
import Derived.Test.YtlaefellhnkfbaaGreatPl29
import Derived.Test.YtlaefellhnkfbaaGreatPl31
set_option linter.unusedSimpArgs false
set_option linter.unusedVariables false
set_option maxRecDepth 10000
namespace Go.Eng
def ok8 (l : List GDesc) : Prop := l.length ≤ 100 ∧ ∀ d ∈ l, d.filter.length ≤ 8
theorem ok8.toDs {l : List GDesc} (h : ok8 l) : okDs l := ⟨by have := h.1; omega, fun d hd => by have := h.2 d hd; omega⟩
theorem hv_desc {us : World} {d : GDesc} {β : Nat → PB} {V : List Value} (h : HVs us (encDD d) β V) : ∃ x : PD, V = x.enc ∧ x.d = d ∧ Fl us x := by
  obtain ⟨v1, _, rfl, ⟨rfl, _⟩, v2, _, rfl, ⟨rfl, _⟩, v3, _, rfl, ⟨rfl, _⟩, v4, _, rfl, h4, rfl⟩ := h
  obtain ⟨p, c, rfl, h5⟩ := hv_spans h4
  exact ⟨⟨d, p, d.filter.length, c⟩, rfl, rfl, h5⟩
theorem desc_hv {us : World} {x : PD} {β : Nat → PB} (h : Fl us x) : HVs us (encDD x.d) β x.enc := by
  refine ⟨_, _, rfl, ⟨rfl, rfl⟩, _, _, rfl, ⟨rfl, rfl⟩, _, _, rfl, ⟨rfl, rfl⟩, _, _, rfl, ⟨x.p, x.n, x.c, _, rfl, h, ones_span _, (hvss_span _ _).2 rfl⟩, rfl⟩
theorem hvss_descs {us : World} : ∀ (l : List GDesc) (V : List (List Value)), HVss us (l.map encDD) V → ∃ P : List PD, V = P.map PD.enc ∧ ds P = l ∧ ∀ x ∈ P, Fl us x
  | [], V, h => ⟨[], h, rfl, by simp⟩
  | d :: l, V, ⟨v, V', e, h1, h2⟩ => by
    obtain ⟨x, rfl, rfl, h3⟩ := hv_desc h1
    obtain ⟨P, rfl, rfl, h4⟩ := hvss_descs l V' h2
    refine ⟨x :: P, e, rfl, fun y hy => ?_⟩
    rcases List.mem_cons.1 hy with rfl | hy
    · exact h3
    · exact h4 y hy
theorem descs_hvss {us : World} : ∀ (P : List PD), (∀ x ∈ P, Fl us x) → HVss us ((ds P).map encDD) (P.map PD.enc)
  | [], _ => rfl
  | x :: P, h => ⟨_, _, rfl, desc_hv (h x List.mem_cons_self), descs_hvss P fun y hy => h y (List.mem_cons_of_mem _ hy)⟩
theorem hv_descs {us : World} {l : List GDesc} {β : Nat → PB} {w : Value} (h : HV us (fzD l) β w) : ∃ p c P, w = .slice p l.length c ∧ DL us p l.length c P ∧ ds P = l := by
  obtain ⟨p, n, c, V, rfl, h1, _, h2⟩ := h
  obtain ⟨P, rfl, rfl, h3⟩ := hvss_descs l V h2
  obtain rfl : (ds P).length = n := by simpa using h1.len
  exact ⟨p, c, P, rfl, ⟨h1, h3⟩, rfl⟩
theorem descs_hv {us : World} {p : Option Addr} {n c : Nat} {P : List PD} {β : Nat → PB} (h : DL us p n c P) : HV us (fzD (ds P)) β (.slice p n c) := ⟨p, n, c, _, rfl, h.sl, PD.ones P, descs_hvss P h.fl⟩
theorem ok8.pd {P : List PD} {u : World} {p : Option Addr} {n c : Nat} (hd : DL u p n c P) (h : ok8 (ds P)) : ∀ x ∈ P, x.n ≤ 8 := fun x hx => by
  rw [← (hd.fl x hx).len]
  exact h.2 x.d (List.mem_map.2 ⟨x, hx, rfl⟩)
end Go.Eng
namespace Go.Proofs.YtlaefellhnkfbaaGreat.V
open Go.Eng
theorem back_hv {u u' : World} {r : Value} {L : List GDesc} (h : Back u u' r L) : HV u' (fzD L) noB r := by
  obtain ⟨p, n, c, P, rfl, h1, rfl⟩ := h
  exact descs_hv h1.dl
theorem sfill2 (l got : List GDesc) (self : UInt8) (room : Int) (hl : ok8 l) (hg : ok8 got) (hv : Vw self l) : Con2 Tryz.prog 164 [fzD l, fzD got, .v (.int .u8 self.toNat), .v (.int .i64 room)] (· = plR (fzD (sFill self room l got))) := by
  rintro u vs ⟨v1, _, rfl, h1, v2, _, rfl, h2, v3, _, rfl, ⟨rfl, _⟩, v4, _, rfl, ⟨rfl, _⟩, rfl⟩
  obtain ⟨p, c, P, rfl, d1, rfl⟩ := hv_descs h1
  obtain ⟨q, e, G, rfl, d2, rfl⟩ := hv_descs h2
  exact (fill_con P G self room p q _ c _ e u d1 hv hl.2 d2 (by have := hl.1; omega) (by have := hg.1; omega) (hg.pd d2)).to2 fun r u' h => back_hv h
theorem sadmit2 (l : List GDesc) (d : GDesc) (self : UInt8) (room : Int) (hl : ok8 l) (hd : d.filter.length ≤ 8) (hv : Vw self l) : Con2 Tryz.prog 162 [fzD l, .agg (encDD d), .v (.int .u8 self.toNat), .v (.int .i64 room)] (· = plR (fzD (sAdmit l d self room))) := by
  rintro u vs ⟨v1, _, rfl, h1, v2, _, rfl, ⟨V, rfl, h2⟩, v3, _, rfl, ⟨rfl, _⟩, v4, _, rfl, ⟨rfl, _⟩, rfl⟩
  obtain ⟨p, c, P, rfl, d1, rfl⟩ := hv_descs h1
  obtain ⟨x, rfl, rfl, d2⟩ := hv_desc h2
  exact (admit_con P x self room p _ c u d1 hv d2 (by have := hl.1; omega) (hl.pd d1) (by rw [← d2.len]; exact hd)).to2 fun r u' h => back_hv h
theorem hv_wait {us : World} {w : GW} {β : Nat → PB} {V : List Value} (h : HVs us (encW w) β V) (h8 : ok8 w.sent) : ∃ x : PW, V = x.enc ∧ x.g = w ∧ WL us x := by
  obtain ⟨v1, _, rfl, ⟨rfl, _⟩, v2, _, rfl, ⟨rfl, _⟩, v3, _, rfl, ⟨rfl, _⟩, v4, _, rfl, h4, rfl⟩ := h
  obtain ⟨p, c, P, rfl, d1, h5⟩ := hv_descs h4
  refine ⟨⟨w.some, w.node, w.left, p, _, c, P⟩, rfl, ?_, ⟨d1, h8.1, ?_⟩⟩
  · simp [PW.g, h5]
  · exact ok8.pd d1 (by rw [h5]; exact h8)
theorem backW_hv {u u' : World} {r : Value} {g : GW} (h : BackW u u' r g) : HV u' (.agg (encW g)) noB r := by
  obtain ⟨w, rfl, rfl, h1⟩ := h
  exact ⟨_, rfl, _, _, rfl, ⟨rfl, rfl⟩, _, _, rfl, ⟨rfl, rfl⟩, _, _, rfl, ⟨rfl, rfl⟩, _, _, rfl, descs_hv h1.dl, rfl⟩
theorem sstart2 (node left : UInt8) (l : List GDesc) (hl : ok8 l) : Con2 Tryz.prog 126 [.v (.int .u8 node.toNat), .v (.int .u8 left.toNat), fzD l] (· = plR (.agg (encW (wStart node left l)))) := by
  rintro u vs ⟨v1, _, rfl, ⟨rfl, _⟩, v2, _, rfl, ⟨rfl, _⟩, v3, _, rfl, h3, rfl⟩
  obtain ⟨p, c, P, rfl, d1, rfl⟩ := hv_descs h3
  exact (start_con node left P p _ c u d1 (by have := hl.1; omega) (fun x hx => by have := hl.pd d1 x hx; omega)).to2 fun r u' h => backW_hv h
theorem stick2 (w : GW) (hw : ok8 w.sent) : Con2 Tryz.prog 59 [.agg (encW w)] (· = plR (.tup [.agg (encW (wTick w).1), .v (.int .u8 (wTick w).2.1.toNat), .v (.bool (wTick w).2.2)])) := by
  rintro u vs ⟨v1, _, rfl, ⟨V, rfl, h1⟩, rfl⟩
  obtain ⟨x, rfl, rfl, h2⟩ := hv_wait h1 hw
  refine (tick_con x u h2).to2 ?_
  rintro r u' ⟨v, rfl, h⟩
  exact ⟨_, rfl, _, _, rfl, backW_hv h, _, _, rfl, ⟨rfl, rfl⟩, _, _, rfl, ⟨rfl, rfl⟩, rfl⟩
def enc32D (x : UInt32) : List DV := [.v (.int .u32 x.toNat)]
theorem hvss_32 {us : World} : ∀ (l : List UInt32) (V : List (List Value)), HVss us (l.map enc32D) V ↔ V = l.map enc32
  | [], V => Iff.rfl
  | x :: l, V => by
    constructor
    · rintro ⟨v, V', rfl, ⟨a, _, rfl, ⟨rfl, _⟩, rfl⟩, h⟩
      rw [(hvss_32 l V').1 h]; rfl
    · rintro rfl
      exact ⟨_, _, rfl, ⟨_, _, rfl, ⟨rfl, rfl⟩, rfl⟩, (hvss_32 l _).2 rfl⟩
theorem hv_32 {us : World} {l : List UInt32} {β : Nat → PB} {w : Value} (h : HV us (.fz 1 (l.map enc32D)) β w) : ∃ p c, w = .slice p l.length c ∧ Sl us 1 p l.length c (l.map enc32) := by
  obtain ⟨p, n, c, V, rfl, h1, _, h2⟩ := h
  obtain rfl := (hvss_32 l V).1 h2
  obtain rfl : l.length = n := by simpa using h1.len
  exact ⟨p, c, rfl, h1⟩
def cAsk2 (l : List GDesc) (self : GDesc) (many : Int) (dr : List UInt32) : UInt8 × List GDesc × Bool :=
  match dOld l with
  | some i => match l[i]? with
    | some o => if 1 ≤ many then (o.node, cAsk l self many dr o.node, true) else (0, [], false)
    | none => (0, [], false)
  | none => (0, [], false)
theorem cask2 (l : List GDesc) (self : GDesc) (many : Int) (dr : List UInt32) (hl : ok8 l) (hs : self.filter.length ≤ 8) (hd : dr.length ≤ 1000) (hm : many ≤ 9223372036854775807) :
    Con2 Tryz.prog 125 [fzD l, .agg (encDD self), .v (.int .i64 many), .fz 1 (dr.map enc32D)] (· = plR (.tup [.v (.int .u8 (cAsk2 l self many dr).1.toNat), fzD (cAsk2 l self many dr).2.1, .v (.bool (cAsk2 l self many dr).2.2)])) := by
  rintro u vs ⟨v1, _, rfl, h1, v2, _, rfl, ⟨V, rfl, h2⟩, v3, _, rfl, ⟨rfl, _⟩, v4, _, rfl, h4, rfl⟩
  obtain ⟨p, c, P, rfl, d1, rfl⟩ := hv_descs h1
  obtain ⟨x, rfl, rfl, d2⟩ := hv_desc h2
  obtain ⟨q, k, rfl, s4⟩ := hv_32 h4
  refine (ask_con P x many dr p q _ c _ k u d1 d2 (by rw [← d2.len]; exact hs) s4 (by have := hl.1; omega) (hl.pd d1) hd hm).to2 ?_
  rintro r u' (⟨i, o, v, e1, e2, e3, rfl, ⟨p2, n2, c2, P2, rfl, b1, e4⟩⟩ | ⟨e1, rfl⟩)
  · have e : cAsk2 (ds P) x.d many dr = (o.node, cAsk (ds P) x.d many dr o.node, true) := by simp only [cAsk2, e1, e2, if_pos e3]
    rw [e, ← e4]
    exact ⟨_, rfl, _, _, rfl, ⟨rfl, rfl⟩, _, _, rfl, descs_hv b1, _, _, rfl, ⟨rfl, rfl⟩, rfl⟩
  · have e : cAsk2 (ds P) x.d many dr = (0, [], false) := by
      rcases e1 with rfl | h
      · rfl
      · unfold cAsk2
        split
        · split
          · rw [if_neg (by omega)]
          · rfl
        · rfl
    rw [e]
    exact ⟨_, rfl, _, _, rfl, ⟨rfl, rfl⟩, _, _, rfl, ⟨none, 0, 0, [], rfl, Sl.zero _ _ _, (fun y hy => by cases hy), rfl⟩, _, _, rfl, ⟨rfl, rfl⟩, rfl⟩
end Go.Proofs.YtlaefellhnkfbaaGreat.V

set_option maxRecDepth 10000
namespace Go.Proofs.YtlaefellhnkfbaaGreat.V
open Go.Eng
def kindsT : List (UInt8 × Nat) := [(1, 100), (2, 101), (3, 102), (4, 103), (5, 104), (6, 105), (7, 104), (8, 106), (9, 107)]
theorem kinds1_con (u : World) : Con Tryz.prog 46 [] u (fun r u' => ∃ id, r = .map (some id) ∧ MapIs u' kv8 id (mpE kindsT)) := by
  refine spec_of_vc Ty.mixed Tryz.func46 rfl (by kernel_rfl) (by kernel_rfl) rfl [.tmp 0] rfl ?_
  refine vs_ ?_
  refine map_make (kv := kv8) ?_
  intro r u1 h1 hs1 hf1 hf2
  refine vs_ ?_
  refine map_set (k := 1) (keyT_u8 Tryz.underlying5) Tryz.underlying108 h1 hf2 ?_
  intro w1 g1 q1
  refine vs_ ?_
  refine map_set (k := 2) (keyT_u8 Tryz.underlying5) Tryz.underlying108 g1 hf2 ?_
  intro w2 g2 q2
  refine vs_ ?_
  refine map_set (k := 3) (keyT_u8 Tryz.underlying5) Tryz.underlying108 g2 hf2 ?_
  intro w3 g3 q3
  refine vs_ ?_
  refine map_set (k := 4) (keyT_u8 Tryz.underlying5) Tryz.underlying108 g3 hf2 ?_
  intro w4 g4 q4
  refine vs_ ?_
  refine map_set (k := 5) (keyT_u8 Tryz.underlying5) Tryz.underlying108 g4 hf2 ?_
  intro w5 g5 q5
  refine vs_ ?_
  refine map_set (k := 6) (keyT_u8 Tryz.underlying5) Tryz.underlying108 g5 hf2 ?_
  intro w6 g6 q6
  refine vs_ ?_
  refine map_set (k := 7) (keyT_u8 Tryz.underlying5) Tryz.underlying108 g6 hf2 ?_
  intro w7 g7 q7
  refine vs_ ?_
  refine map_set (k := 8) (keyT_u8 Tryz.underlying5) Tryz.underlying108 g7 hf2 ?_
  intro w8 g8 q8
  refine vs_ ?_
  refine map_set (k := 9) (keyT_u8 Tryz.underlying5) Tryz.underlying108 g8 hf2 ?_
  intro w9 g9 q9
  refine vs_ ?_
  have hS : Sub u w9 := (q9.sub (q8.sub (q7.sub (q6.sub (q5.sub (q4.sub (q3.sub (q2.sub (q1.sub hs1 hf1) hf1) hf1) hf1) hf1) hf1) hf1) hf1) hf1)
  exact ⟨hS, r, rfl, g9⟩
theorem mapFn108 : MapFn Tryz.prog 108 := ⟨5, 106, Tryz.underlying108, Tryz.underlying5, fun w => by kernel_rfl⟩
theorem kinds_con : Con2 Tryz.prog 46 [] (· = plR (.mp kindsT)) := by
  rintro u vs rfl
  have h := kinds1_con u
  refine ⟨h.1, fun w hw => (h.2 w hw).mono ?_⟩
  rintro e w' ⟨r, u', rfl, h3, h4, id, rfl, h5⟩
  exact ⟨_, u', rfl, h3, h4, _, rfl, resV_pl ⟨id, rfl, h5⟩ h4 (Sub.refl _)⟩
end Go.Proofs.YtlaefellhnkfbaaGreat.V

set_option maxRecDepth 10000
namespace Go.Eng
def mLeft (inc : UInt16) (m : GMember) : GMember := if m.inc < inc then ⟨inc, 3, 0⟩ else if inc = m.inc ∧ 0 < inc then { m with state := 3 } else m
def tLeft (l : List GMember) (i : UInt8) (inc : UInt16) : List GMember := l.modify i.toNat (mLeft inc)
end Go.Eng
namespace Go.Proofs.YtlaefellhnkfbaaGreat.V
open Go.Eng
attribute [local go_sem] encS encDD fzD plR rowR encK encM encRw encC encP encEv encA z8 z16 z32 z64 encMg
theorem pleft_con (l : List GMember) (i : UInt8) (inc : UInt16) (hl : l.length ≤ 1000) : Con2 Tryz.prog 168 [.fz 3 (l.map encM), .v (.int .u8 i.toNat), .v (.int .u16 inc.toNat)] (· = plR (.fz 3 ((tLeft l i inc).map encM))) := by
  refine Con2.ofEmb ?_
  have hi := i.toNat_lt
  refine con2_of Ty.mixed Tryz.func168 rfl (by kernel_rfl) (by kernel_rfl) rfl [.tmp 6] rfl ?_
  refine g2_ ?_
  refine g2_ ?_
  refine CallS.inline Ty.mixed Tryz.func159 rfl (by kernel_rfl) (by kernel_rfl) rfl [.tmp 6] rfl (Vc2.of ?_)
  refine g2_ ?_
  refine g2_ ?_
  refine CallS.eq (cloneMR_con (l.map encM) (by rw [List.length_map]; omega)) ws_ (.inl ws_) ?_
  repeat first | simp -implicitDefEqProofs only [go_sem, vc2_blk, List.length_map] | with_reducible first | refine gl_ ?_ | refine ga_ ?_ | refine gn_ ?_
  by_cases h1 : i.toNat < l.length
  · have e1 : decide ((i.toNat : Int) < (l.length : Int)) = true := decide_eq_true (by omega)
    rw [e1]
    repeat first | simp -implicitDefEqProofs only [go_sem, vc2_blk, List.length_map, mapE_get h1] | with_reducible first | refine gl_ ?_ | refine ga_ ?_ | refine gn_ ?_
    refine CallS.inline Ty.mixed Tryz.func215 rfl (by kernel_rfl) (by kernel_rfl) rfl [.cell 3 71] rfl (Vc2.of ?_)
    refine g2_ ?_
    refine g2_ ?_
    have e2 : tLeft l i inc = l.set i.toNat (mLeft inc l[i.toNat]) := by rw [tLeft, modify_setG _ _ h1]
    rw [e2]
    generalize l[i.toNat] = m
    by_cases hD : (m.inc.toNat : Int) < (inc.toNat : Int)
    · rw [decide_eq_true hD]
      have hD2 : m.inc < inc := by rw [UInt16.lt_iff_toNat_lt]; omega
      repeat first | simp -implicitDefEqProofs only [go_sem, vc2_blk, List.length_map, List.contains_nil, mapE_get h1] | with_reducible first | refine gl_ ?_ | refine ga_ ?_ | refine gn_ ?_
      refine ret_emb ?_ rfl
      have e3 : mLeft inc m = ⟨inc, 3, 0⟩ := if_pos hD2
      repeat first | simp -implicitDefEqProofs only [go_sem, vc2_blk, e3, List.map_set, List.length_map, List.length_set, List.take_of_length_le (Nat.le_refl _)] | with_reducible refine gl_ ?_
      rw [List.take_of_length_le (by simp)]
    · rw [decide_eq_false hD]
      have hD2 : ¬ m.inc < inc := by rw [UInt16.lt_iff_toNat_lt]; omega
      refine g2_ ?_
      rw [u16_beq]
      by_cases hA : inc = m.inc
      · rw [decide_eq_true hA]
        refine g2_ ?_
        by_cases hB : (0 : Int) < (inc.toNat : Int)
        · have hB2 : 0 < inc := by rw [UInt16.lt_iff_toNat_lt]; have : (0 : UInt16).toNat = 0 := rfl; omega
          rw [decide_eq_true hB]
          repeat first | simp -implicitDefEqProofs only [go_sem, vc2_blk, List.length_map, List.contains_nil, mapE_get h1] | with_reducible first | refine gl_ ?_ | refine ga_ ?_ | refine gn_ ?_
          refine ret_emb ?_ rfl
          have e3 : mLeft inc m = { m with state := 3 } := by rw [mLeft, if_neg hD2, if_pos ⟨hA, hB2⟩]
          repeat first | simp -implicitDefEqProofs only [go_sem, vc2_blk, e3, List.map_set, List.length_map, List.length_set, List.take_of_length_le (Nat.le_refl _)] | with_reducible refine gl_ ?_
          rw [List.take_of_length_le (by simp)]
        · have hB2 : ¬ 0 < inc := by rw [UInt16.lt_iff_toNat_lt]; have : (0 : UInt16).toNat = 0 := rfl; omega
          rw [decide_eq_false hB]
          repeat first | simp -implicitDefEqProofs only [go_sem, vc2_blk, List.length_map, List.contains_nil, mapE_get h1] | with_reducible first | refine gl_ ?_ | refine ga_ ?_ | refine gn_ ?_
          refine ret_emb ?_ rfl
          have e3 : mLeft inc m = m := by rw [mLeft, if_neg hD2, if_neg (by simp [hB2])]
          repeat first | simp -implicitDefEqProofs only [go_sem, vc2_blk, e3, List.map_set, List.length_map, List.length_set, List.take_of_length_le (Nat.le_refl _)] | with_reducible refine gl_ ?_
          rw [List.take_of_length_le (by simp)]
      · rw [decide_eq_false hA]
        repeat first | simp -implicitDefEqProofs only [go_sem, vc2_blk, List.length_map, List.contains_nil, mapE_get h1] | with_reducible first | refine gl_ ?_ | refine ga_ ?_ | refine gn_ ?_
        refine ret_emb ?_ rfl
        have e3 : mLeft inc m = m := by rw [mLeft, if_neg hD2, if_neg (by simp [hA])]
        repeat first | simp -implicitDefEqProofs only [go_sem, vc2_blk, e3, List.map_set, List.length_map, List.length_set, List.take_of_length_le (Nat.le_refl _)] | with_reducible refine gl_ ?_
        rw [List.take_of_length_le (by simp)]
  · have e1 : decide ((i.toNat : Int) < (l.length : Int)) = false := decide_eq_false (by omega)
    have e2 : tLeft l i inc = l := by rw [tLeft, List.modify_eq_self (by omega)]
    rw [e1, e2]
    refine g2_ ?_
    refine ret_emb ?_ rfl
    repeat first | simp -implicitDefEqProofs only [go_sem, vc2_blk, List.length_map, List.take_of_length_le (Nat.le_refl _), take_map_len] | with_reducible refine gl_ ?_
end Go.Proofs.YtlaefellhnkfbaaGreat.V

set_option maxRecDepth 10000
namespace Go.Eng
def wIdx (l : List GDesc) (d : GDesc) : Nat := (l.takeWhile fun x => decide (x.node < d.node)).length
def pWith (l : List GDesc) (d : GDesc) : List GDesc := l.take (wIdx l d) ++ d :: l.drop (wIdx l d)
theorem wIdx_eq {l : List GDesc} {d : GDesc} {i : Nat} (hi : i ≤ l.length) (h1 : ∀ j x, j < i → l[j]? = some x → x.node < d.node) (h2 : ∀ x, l[i]? = some x → ¬ x.node < d.node) : wIdx l d = i := by
  unfold wIdx
  induction l generalizing i with
  | nil => simp at hi; subst hi; rfl
  | cons y r ih =>
    cases i with
    | zero =>
      have := h2 y rfl
      simp [List.takeWhile_cons, this]
    | succ i =>
      have h := h1 0 y (by omega) rfl
      simp only [List.takeWhile_cons, h, decide_true, if_true, List.length_cons]
      rw [ih (i := i) (by simpa using hi) (fun j x hj hx => h1 (j + 1) x (by omega) (by simpa using hx)) (fun x hx => h2 x (by simpa using hx))]
end Go.Eng
namespace Go.Proofs.YtlaefellhnkfbaaGreat.V
open Go.Eng
attribute [local go_sem] encS encDD fzD plR rowR encK encM encRw encC encP encEv encA z8 z16 z32 z64 encMg
theorem pwith_con (l : List GDesc) (d : GDesc) (hl : okDs l) (hd : d.filter.length ≤ 1000) : Con2 Tryz.prog 127 [fzD l, .agg (encDD d)] (· = plR (fzD (pWith l d))) := by
  refine Con2.ofEmb ?_
  have hb := hl.1
  refine con2_of Ty.mixed Tryz.func127 rfl (by kernel_rfl) (by kernel_rfl) rfl [.tmp 4] rfl ?_
  refine g2_ ?_
  refine g2_ ?_
  refine CallS.eq (copy_con l hl) ws_ (.inl ws_) ?_
  repeat first | simp -implicitDefEqProofs only [go_sem, vc2_blk, List.length_map] | with_reducible first | refine gl_ ?_ | refine ga_ ?_ | refine gn_ ?_
  refine vc2_forA (γ := Nat) (fun i => [(5, .d (.v (.int .i64 (i : Nat))))]) (fun _ => []) (fun i => [(0, .arr 34 4 (l.map encDD) false)]) 1 (fun i => i ≤ l.length ∧ ∀ j x, j < i → l[j]? = some x → x.node < d.node) (fun i => l.length - i) 0 (le2_of [] ?_) ⟨by omega, fun j x h => by omega⟩ (fun i hi => ?_)
  · refine g2_ ?_
    first | rfl | exact ⟨rfl, rfl⟩ | trace_state
  obtain ⟨hi1, hi2⟩ := hi
  have fin : ∀ (hx : ∀ x, l[i]? = some x → ¬ x.node < d.node), l.take i ++ d :: l.drop i = pWith l d := fun hx => by
    rw [pWith, wIdx_eq hi1 hi2 hx]
  have hM : List.take i (l.map encDD) ++ [encDD d] ++ List.drop i (l.map encDD) = (l.take i ++ d :: l.drop i).map encDD := by simp [List.map_take, List.map_drop]
  have hN : (l.take i ++ d :: l.drop i).length = l.length + 1 := by simp; omega
  simp only [encDD] at hM
  refine g2_ ?_
  refine .inl ⟨[(0, false), (1, false), (2, false), (3, false), (4, false), (5, false), (6, false), (10, false), (7, false), (11, false), (8, false), (9, false), (12, false), (13, false)], by kernel_rfl, ?_⟩
  refine g2_ ?_
  by_cases h : i < l.length
  · rw [decide_eq_true (show (i : Int) < (l.length : Int) by omega)]
    have hg := List.getElem?_eq_getElem h
    repeat first | simp -implicitDefEqProofs only [go_sem, vc2_blk, mapE_get h, List.length_map] | with_reducible first | refine gl_ ?_ | refine ga_ ?_ | refine gn_ ?_
    by_cases h2 : (l[i].node.toNat : Int) < (d.node.toNat : Int)
    · rw [decide_eq_true h2]
      refine g2_ ?_
      refine ⟨i + 1, le2_of [] (by simp -implicitDefEqProofs only [go_sem, vc2_blk]; rfl), ⟨by omega, ?_⟩, by omega⟩
      intro j x hj hx
      by_cases e : j = i
      · subst e; rw [hg] at hx; cases hx; exact (u8_lt _ _).1 h2
      · exact hi2 j x (by omega) hx
    · have hf := fin fun x hx => by rw [hg] at hx; cases hx; exact fun h3 => h2 ((u8_lt _ _).2 h3)
      rw [decide_eq_false h2, ← hf]
      refine g2_ ?_
      refine CallS.ins insDsc_call insDsc_call0 (l := l.map encDD) (x := encDD d) rfl rfl (by decide) (by simp) (by simpa using hi1) (by simp; omega) ?_
      repeat first | simp -implicitDefEqProofs only [go_sem, vc2_blk, List.length_map] | with_reducible first | refine gl_ ?_ | refine ga_ ?_ | refine gn_ ?_
      refine ret_emb ?_ rfl
      repeat first | simp -implicitDefEqProofs only [go_sem, vc2_blk, List.length_map] | with_reducible refine gl_ ?_
      rw [hM]
      repeat first | simp -implicitDefEqProofs only [go_sem, vc2_blk, hN, List.length_map, List.take_of_length_le (Nat.le_refl _)] | with_reducible refine gl_ ?_
      exact (List.take_of_length_le (by rw [List.length_map, hN]; omega)).symm
  · have hf := fin fun x hx => by rw [List.getElem?_eq_none (by omega)] at hx; cases hx
    rw [decide_eq_false (show ¬ (i : Int) < (l.length : Int) by omega), ← hf]
    refine g2_ ?_
    refine CallS.ins insDsc_call insDsc_call0 (l := l.map encDD) (x := encDD d) rfl rfl (by decide) (by simp) (by simpa using hi1) (by simp; omega) ?_
    repeat first | simp -implicitDefEqProofs only [go_sem, vc2_blk, List.length_map] | with_reducible first | refine gl_ ?_ | refine ga_ ?_ | refine gn_ ?_
    refine ret_emb ?_ rfl
    repeat first | simp -implicitDefEqProofs only [go_sem, vc2_blk, List.length_map] | with_reducible refine gl_ ?_
    rw [hM]
    repeat first | simp -implicitDefEqProofs only [go_sem, vc2_blk, hN, List.length_map, List.take_of_length_le (Nat.le_refl _)] | with_reducible refine gl_ ?_
    exact (List.take_of_length_le (by rw [List.length_map, hN]; omega)).symm
end Go.Proofs.YtlaefellhnkfbaaGreat.V

set_option maxRecDepth 10000
namespace Go.Eng
def rBoth (s p : GDesc) : List GDesc :=
  if s.node < p.node then [s, p] else if p.node < s.node then [p, s] else if s.inc < p.inc ∨ (p.inc = s.inc ∧ p.age < s.age) then [p] else [s]
def rList (r : GRing) : List GDesc := if r.hs = true ∧ r.hp = true then rBoth r.succ r.pred else if r.hs = true then [r.succ] else if r.hp = true then [r.pred] else []
theorem ar_u64 {a : Int} {K : Value → Prop} (h : 0 ≤ a ∧ a ≤ 18446744073709551615) (hk : K (.int .u64 a)) : AtArith .u64 a K := by rw [arith_u64 h]; exact hk
theorem okDs_of {l : List GDesc} (h1 : l.length ≤ 1000) (h2 : ∀ d ∈ l, d.filter.length ≤ 1000) : okDs l := ⟨h1, h2⟩
end Go.Eng
namespace Go.Proofs.YtlaefellhnkfbaaGreat.V
open Go.Eng
attribute [local go_sem] encS encDD fzD plR rowR encK encM encRw encC encP encEv encA z8 z16 z32 z64 encMg encRing
theorem both_con (s p : GDesc) (hs : s.filter.length ≤ 1000) (hp : p.filter.length ≤ 1000) : Con2 Tryz.prog 113 [.agg (encDD s), .agg (encDD p)] (· = plR (fzD (rBoth s p))) := by
  refine Con2.ofEmb ?_
  have c1 := copyF_con [s, p] (okDs_of (by simp) (by simp [hs, hp]))
  have c2 := copyF_con [p, s] (okDs_of (by simp) (by simp [hs, hp]))
  have c3 := copyF_con [p] (okDs_of (by simp) (by simp [hp]))
  have c4 := copyF_con [s] (okDs_of (by simp) (by simp [hs]))
  refine con2_of Ty.mixed Tryz.func113 rfl (by kernel_rfl) (by kernel_rfl) rfl [.tmp 4] rfl ?_
  refine g2_ ?_
  refine g2_ ?_
  by_cases h1 : (s.node.toNat : Int) < (p.node.toNat : Int)
  · have e : rBoth s p = [s, p] := if_pos ((u8_lt _ _).1 h1)
    rw [e, decide_eq_true h1]
    refine g2_ ?_
    refine CallS.eq c1 (by simp -implicitDefEqProofs only [go_sem, vc2_blk, List.map_cons, List.map_nil]) (.inl ws_) ?_
    refine g2_ ?_
    refine ret_emb ?_ rfl
    exact ws_
  have h1' : ¬ s.node < p.node := fun h => h1 ((u8_lt _ _).2 h)
  rw [decide_eq_false h1]
  refine g2_ ?_
  by_cases h2 : (p.node.toNat : Int) < (s.node.toNat : Int)
  · have e : rBoth s p = [p, s] := by rw [rBoth, if_neg h1', if_pos ((u8_lt _ _).1 h2)]
    rw [e, decide_eq_true h2]
    refine g2_ ?_
    refine CallS.eq c2 (by simp -implicitDefEqProofs only [go_sem, vc2_blk, List.map_cons, List.map_nil]) (.inl ws_) ?_
    refine g2_ ?_
    refine ret_emb ?_ rfl
    exact ws_
  have h2' : ¬ p.node < s.node := fun h => h2 ((u8_lt _ _).2 h)
  rw [decide_eq_false h2]
  refine g2_ ?_
  by_cases h3 : (s.inc.toNat : Int) < (p.inc.toNat : Int)
  · have e : rBoth s p = [p] := by rw [rBoth, if_neg h1', if_neg h2', if_pos (.inl ((u16_lt _ _).1 h3))]
    rw [e, decide_eq_true h3]
    refine g2_ ?_
    refine CallS.eq c3 (by simp -implicitDefEqProofs only [go_sem, vc2_blk, List.map_cons, List.map_nil]) (.inl ws_) ?_
    refine g2_ ?_
    refine ret_emb ?_ rfl
    exact ws_
  have h3' : ¬ s.inc < p.inc := fun h => h3 ((u16_lt _ _).2 h)
  rw [decide_eq_false h3]
  refine g2_ ?_
  rw [u16_beq]
  by_cases h4 : p.inc = s.inc
  · rw [decide_eq_true h4]
    refine g2_ ?_
    by_cases h5 : (p.age.toNat : Int) < (s.age.toNat : Int)
    · have e : rBoth s p = [p] := by rw [rBoth, if_neg h1', if_neg h2', if_pos (.inr ⟨h4, (u8_lt _ _).1 h5⟩)]
      rw [e, decide_eq_true h5]
      refine g2_ ?_
      refine CallS.eq c3 (by simp -implicitDefEqProofs only [go_sem, vc2_blk, List.map_cons, List.map_nil]) (.inl ws_) ?_
      refine g2_ ?_
      refine ret_emb ?_ rfl
      exact ws_
    · have h5' : ¬ p.age < s.age := fun h => h5 ((u8_lt _ _).2 h)
      have e : rBoth s p = [s] := by rw [rBoth, if_neg h1', if_neg h2', if_neg (by simp [h3', h5'])]
      rw [e, decide_eq_false h5]
      refine g2_ ?_
      refine CallS.eq c4 (by simp -implicitDefEqProofs only [go_sem, vc2_blk, List.map_cons, List.map_nil]) (.inl ws_) ?_
      refine g2_ ?_
      refine ret_emb ?_ rfl
      exact ws_
  · have e : rBoth s p = [s] := by rw [rBoth, if_neg h1', if_neg h2', if_neg (by simp [h3', h4])]
    rw [e, decide_eq_false h4]
    refine g2_ ?_
    refine CallS.eq c4 (by simp -implicitDefEqProofs only [go_sem, vc2_blk, List.map_cons, List.map_nil]) (.inl ws_) ?_
    refine g2_ ?_
    refine ret_emb ?_ rfl
    exact ws_
theorem rlist_con (r : GRing) (hs : r.succ.filter.length ≤ 1000) (hp : r.pred.filter.length ≤ 1000) : Con2 Tryz.prog 48 [.agg (encRing r)] (· = plR (fzD (rList r))) := by
  refine Con2.ofEmb ?_
  have c1 := both_con r.succ r.pred hs hp
  have c3 := copyF_con [r.pred] (okDs_of (by simp) (by simp [hp]))
  have c4 := copyF_con [r.succ] (okDs_of (by simp) (by simp [hs]))
  obtain ⟨a, b, s, p⟩ := r
  simp only at c1 c3 c4
  refine con2_of Ty.mixed Tryz.func48 rfl (by kernel_rfl) (by kernel_rfl) rfl [.tmp 2] rfl ?_
  refine g2_ ?_
  refine g2_ ?_
  cases a with
  | true =>
    cases b with
    | true =>
      have e : rList ⟨true, true, s, p⟩ = rBoth s p := by simp [rList]
      rw [e]
      refine g2_ ?_
      refine CallS.eq c1 (by simp -implicitDefEqProofs only [go_sem, vc2_blk, List.map_cons, List.map_nil]) (.inl ws_) ?_
      refine g2_ ?_
      refine ret_emb ?_ rfl
      exact ws_
    | false =>
      have e : rList ⟨true, false, s, p⟩ = [s] := by simp [rList]
      rw [e]
      refine g2_ ?_
      refine CallS.eq c4 (by simp -implicitDefEqProofs only [go_sem, vc2_blk, List.map_cons, List.map_nil]) (.inl ws_) ?_
      refine g2_ ?_
      refine ret_emb ?_ rfl
      exact ws_
  | false =>
    cases b with
    | true =>
      have e : rList ⟨false, true, s, p⟩ = [p] := by simp [rList]
      rw [e]
      refine g2_ ?_
      refine CallS.eq c3 (by simp -implicitDefEqProofs only [go_sem, vc2_blk, List.map_cons, List.map_nil]) (.inl ws_) ?_
      refine g2_ ?_
      refine ret_emb ?_ rfl
      exact ws_
    | false =>
      have e : rList ⟨false, false, s, p⟩ = [] := by simp [rList]
      rw [e]
      refine g2_ ?_
      refine ret_emb ?_ rfl
      repeat first | simp -implicitDefEqProofs only [go_sem, vc2_blk, List.map_nil] | with_reducible refine gl_ ?_
theorem nnewer_con (a b : GDesc) : Con2 Tryz.prog 216 [.agg (encDD a), .agg (encDD b)] (· = plR (.v (.bool (dNewer a b)))) := by
  refine con2_of Ty.mixed Tryz.func216 rfl (by kernel_rfl) (by kernel_rfl) rfl [.tmp 4] rfl ?_
  refine g2_ ?_
  rw [u16_bne]
  by_cases h : a.inc = b.inc
  · rw [decide_eq_true h]
    refine g2_ ?_
    exact ⟨_, rfl, le2_of [] (by simp -implicitDefEqProofs only [go_sem, vc2_blk, dNewer, h, u8_lt, if_true])⟩
  · rw [decide_eq_false h]
    refine g2_ ?_
    exact ⟨_, rfl, le2_of [] (by simp -implicitDefEqProofs only [go_sem, vc2_blk, dNewer, h, u16_lt, if_false])⟩
theorem slen_con (s : GSpan) (hs : okS s) : Con2 Tryz.prog 157 [.agg (encS s)] (· = plR (.v (.int .u32 (sLen s)))) := by
  obtain ⟨h1, h2, h3, h4⟩ := hs
  refine con2_of Ty.mixed Tryz.func157 rfl (by kernel_rfl) (by kernel_rfl) rfl [.tmp 2] rfl ?_
  refine g2_ ?_
  refine g2_ ?_
  refine CallS.eq (splain_con s) ws_ (.inl ws_) ?_
  refine g2_ ?_
  refine CallS.eq nothing_con ws_ (.inl ws_) ?_
  repeat first | simp -implicitDefEqProofs only [go_sem, vc2_blk, sPlain_eq] | with_reducible first | refine gl_ ?_ | refine ga_ ?_ | refine gn_ ?_
  cases h : sNone s with
  | true =>
    have e : sLen s = 0 := if_pos (by simpa [sNone] using h)
    rw [e]
    refine g2_ ?_
    exact ⟨_, rfl, le2_of [] (by simp -implicitDefEqProofs only [go_sem, vc2_blk]; rfl)⟩
  | false =>
    have hn : ¬ s.b < s.a := by simpa [sNone] using h
    have e : (sLen s : Int) = min (s.b - s.a + 1) 4294967295 := by rw [sLen, if_neg hn]; omega
    refine g2_ ?_
    rw [show (if (4294967295 : Int) < s.b - s.a + 1 then (4294967295 : Int) else s.b - s.a + 1) = (sLen s : Int) by rw [e]; split <;> omega]
    refine ar_u32 (by omega) ?_
    refine g2_ ?_
    exact ⟨_, rfl, le2_of [] ws_⟩
def ovK (l : List GSpan) (k : Nat) : Nat := (l.take k).foldl (fun a s => min (a * sLen s) 4294967295) 1
def fOvl (f g : List GSpan) : Nat := if fMeet f g = [] then 0 else ovK (fMeet f g) (fMeet f g).length
theorem ovK_succ {l : List GSpan} {k : Nat} (h : k < l.length) : ovK l (k + 1) = min (ovK l k * sLen l[k]) 4294967295 := by
  rw [ovK, List.take_add_one, List.getElem?_eq_getElem h, List.foldl_append]; rfl
theorem ovK_le {l : List GSpan} {k : Nat} : ovK l k ≤ 4294967295 := by
  rw [ovK]
  generalize hL : (l.take k).reverse = L
  have : l.take k = L.reverse := by rw [← hL, List.reverse_reverse]
  rw [this]
  cases L with
  | nil => decide
  | cons x r => rw [List.reverse_cons, List.foldl_append]; exact Nat.min_le_right _ _
theorem sLen_le (s : GSpan) : sLen s ≤ 4294967295 := by
  unfold sLen
  split
  · omega
  · exact Nat.min_le_right _ _
theorem ovl_con (f g : List GSpan) (n1 : f.length ≤ 1000000000) (n2 : g.length ≤ 1000000000) (hf : ∀ s ∈ f, okS s) (hg : ∀ s ∈ g, okS s) : Con2 Tryz.prog 91 [fzS f, fzS g] (· = plR (.v (.int .u32 (fOvl f g)))) := by
  have hm := fmeet_con2 f g n1 n2
  have hl := fMeet_len f g
  have hok : ∀ s ∈ fMeet f g, okS s := by
    intro s hs
    unfold fMeet at hs
    split at hs
    · obtain ⟨x, hx, rfl⟩ := List.mem_map.1 hs
      exact sMeet_ok (hf _ (List.of_mem_zip hx).1) (hg _ (List.of_mem_zip hx).2)
    · cases hs
  unfold fOvl
  generalize fMeet f g = m at hm hl hok
  refine con2_of Ty.mixed Tryz.func91 rfl (by kernel_rfl) (by kernel_rfl) rfl [.tmp 4] rfl ?_
  refine g2_ ?_
  refine g2_ ?_
  refine CallS.eq hm ws_ (.inl ws_) ?_
  refine g2_ ?_
  refine cond2_eq (fun h => ?_) (fun h => ?_)
  · have e : m = [] := List.eq_nil_of_length_eq_zero (by omega)
    rw [if_pos e]
    refine g2_ ?_
    exact ⟨_, rfl, le2_of [] (by simp -implicitDefEqProofs only [go_sem, vc2_blk]; rfl)⟩
  · have e : ¬ m = [] := fun e => h (by rw [e]; rfl)
    rw [if_neg e]
    refine g2_ ?_
    refine vc2_rangeA m.length (fun k => []) (fun _ => []) (fun k => [(0, .var 130 [.v (.int .u64 (ovK m k))])]) 1 (fun _ => True) (le2_of [] ?_) trivial (fun g k => by simp -implicitDefEqProofs only [go_sem, vc2_blk]) (by omega) (fun g => by simp -implicitDefEqProofs only [go_sem, vc2_blk]) (fun k hk _ => ?_) (fun _ => ?_)
    · repeat first | simp -implicitDefEqProofs only [go_sem, vc2_blk, ovK, List.take_zero, List.foldl_nil] | with_reducible refine gl_ ?_
      first | rfl | exact ⟨rfl, rfl⟩
    · have hs := slen_con m[k] (hok _ (List.getElem_mem hk))
      have hsu := ovK_succ hk
      have b1 := ovK_le (l := m) (k := k)
      have b2 := sLen_le m[k]
      repeat first | simp -implicitDefEqProofs only [go_sem, vc2_blk, mapE_get hk] | with_reducible first | refine gl_ ?_ | refine ga_ ?_ | refine gn_ ?_
      refine CallS.eq hs ws_ (.inl ws_) ?_
      refine g2_ ?_
      refine CallS.inline Ty.mixed Tryz.func156 rfl (by kernel_rfl) (by kernel_rfl) rfl [] rfl (Vc2.of ?_)
      refine g2_ ?_
      refine g2_ ?_
      have hb : ovK m k * sLen m[k] ≤ 4294967295 * 4294967295 := Nat.mul_le_mul b1 b2
      refine ar_u64 (by omega) ?_
      refine g2_ ?_
      rw [show (ovK m k : Int) * (sLen m[k] : Int) = ((ovK m k * sLen m[k] : Nat) : Int) by simp]
      generalize ovK m k * sLen m[k] = q at hsu hb
      refine ar_u64 (by omega) ?_
      refine g2_ ?_
      rw [show (if (4294967295 : Int) < (q : Int) then (4294967295 : Int) else (q : Int)) = ((min q 4294967295 : Nat) : Int) by split <;> omega, ← hsu]
      refine ⟨k + 1, le2_of [(0, .to 0)] ?_, rfl⟩
      exact ws_
    · have b1 := ovK_le (l := m) (k := m.length)
      refine g2_ ?_
      refine ar_u32 (by omega) ?_
      refine g2_ ?_
      exact ⟨_, rfl, le2_of [] ws_⟩
end Go.Proofs.YtlaefellhnkfbaaGreat.V

set_option maxRecDepth 10000
namespace Go.Eng
def pDown (c : GConf) (p : GPeer) : GPeer := { pNew c p.node with inc := p.inc }
end Go.Eng
namespace Go.Proofs.YtlaefellhnkfbaaGreat.V
open Go.Eng
attribute [local go_sem] encS encDD fzD plR rowR encK encM encRw encC encP encEv encA z8 z16 z32 z64 encMg encRing
theorem pdown_con (c : GConf) (p : GPeer) : Con2 Tryz.prog 22 [.agg (encC c), .agg (encP p)] (· = plR (.agg (encP (pDown c p)))) := by
  refine Con2.ofEmb ?_
  have hn := pnew_con c p.node
  unfold pDown
  generalize pNew c p.node = q at hn
  refine con2_of Ty.mixed Tryz.func22 rfl (by kernel_rfl) (by kernel_rfl) rfl [.cell 4 49] rfl ?_
  refine g2_ ?_
  refine g2_ ?_
  refine CallS.eq hn ws_ (.inl ws_) ?_
  refine g2_ ?_
  refine ret_emb ?_ rfl
  exact ws_
end Go.Proofs.YtlaefellhnkfbaaGreat.V

set_option maxRecDepth 10000
namespace Go.Proofs.YtlaefellhnkfbaaGreat.V
open Go.Eng
attribute [local go_sem] encS encDD fzD plR rowR encK encM encRw encC encP encEv encA z8 z16 z32 z64 encMg encRing encI
end Go.Proofs.YtlaefellhnkfbaaGreat.V
namespace Go.Proofs.YtlaefellhnkfbaaGreat.Ty
open Go.Eng
theorem eqGuard71 : Tryz.prog.eqGuardType Tryz.prog.depth 71 = false := by kernel_rfl
theorem neRun71 (a0 a1 a2 b0 b1 b2 : Int) (w : World) : (binOp .neq 71 (.agg #[.int .u16 a0, .int .u8 a1, .int .u8 a2]) (.agg #[.int .u16 b0, .int .u8 b1, .int .u8 b2])).run Tryz.prog w = .ok (.bool (!(a0 == b0 && (a1 == b1 && (a2 == b2))))) w := by
  go_simp
  by_cases h0 : a0 = b0 <;> by_cases h1 : a1 = b1 <;> by_cases h2 : a2 = b2 <;> simp [*]
@[go_sem] theorem neq71 {a0 a1 a2 b0 b1 b2 : Int} {y z : Operand} {K : Value → Prop} : AtPure Tryz.prog (binS .neq 71 y z (.agg #[.int .u16 a0, .int .u8 a1, .int .u8 a2]) (.agg #[.int .u16 b0, .int .u8 b1, .int .u8 b2])) K = K (.bool (!(a0 == b0 && (a1 == b1 && (a2 == b2))))) :=
  atPure_of fun w => by simp only [binS, eqGuard, Sem.run_bind, Sem.run_pure, Result.andThen_ok, Bool.not_true, Bool.false_eq_true, if_false, run_program, eqGuard71, Bool.not_false, if_true, neRun71]
theorem eqGuard64 : Tryz.prog.eqGuardType Tryz.prog.depth 64 = false := by kernel_rfl
theorem neRun64 (a0 a1 a2 b0 b1 b2 : Int) (w : World) : (binOp .neq 64 (.agg #[.int .u8 a0, .int .u16 a1, .int .u32 a2]) (.agg #[.int .u8 b0, .int .u16 b1, .int .u32 b2])).run Tryz.prog w = .ok (.bool (!(a0 == b0 && (a1 == b1 && (a2 == b2))))) w := by
  go_simp
  by_cases h0 : a0 = b0 <;> by_cases h1 : a1 = b1 <;> by_cases h2 : a2 = b2 <;> simp [*]
@[go_sem] theorem neq64 {a0 a1 a2 b0 b1 b2 : Int} {y z : Operand} {K : Value → Prop} : AtPure Tryz.prog (binS .neq 64 y z (.agg #[.int .u8 a0, .int .u16 a1, .int .u32 a2]) (.agg #[.int .u8 b0, .int .u16 b1, .int .u32 b2])) K = K (.bool (!(a0 == b0 && (a1 == b1 && (a2 == b2))))) :=
  atPure_of fun w => by simp only [binS, eqGuard, Sem.run_bind, Sem.run_pure, Result.andThen_ok, Bool.not_true, Bool.false_eq_true, if_false, run_program, eqGuard64, Bool.not_false, if_true, neRun64]
theorem eqGuard132 : Tryz.prog.eqGuardType Tryz.prog.depth 132 = false := by kernel_rfl
theorem neRun132 (a0 a1 a2 b0 b1 b2 : Int) (w : World) : (binOp .neq 132 (.agg #[.int .u16 a0, .int .u32 a1, .int .u64 a2]) (.agg #[.int .u16 b0, .int .u32 b1, .int .u64 b2])).run Tryz.prog w = .ok (.bool (!(a0 == b0 && (a1 == b1 && (a2 == b2))))) w := by
  go_simp
  by_cases h0 : a0 = b0 <;> by_cases h1 : a1 = b1 <;> by_cases h2 : a2 = b2 <;> simp [*]
@[go_sem] theorem neq132 {a0 a1 a2 b0 b1 b2 : Int} {y z : Operand} {K : Value → Prop} : AtPure Tryz.prog (binS .neq 132 y z (.agg #[.int .u16 a0, .int .u32 a1, .int .u64 a2]) (.agg #[.int .u16 b0, .int .u32 b1, .int .u64 b2])) K = K (.bool (!(a0 == b0 && (a1 == b1 && (a2 == b2))))) :=
  atPure_of fun w => by simp only [binS, eqGuard, Sem.run_bind, Sem.run_pure, Result.andThen_ok, Bool.not_true, Bool.false_eq_true, if_false, run_program, eqGuard132, Bool.not_false, if_true, neRun132]
end Go.Proofs.YtlaefellhnkfbaaGreat.Ty
namespace Go.Proofs.YtlaefellhnkfbaaGreat.V
open Go.Eng
attribute [local go_sem] encS encDD fzD plR rowR encK encM encRw encC encP encEv encA z8 z16 z32 z64 encMg encRing encI
theorem rMembers_con (l : List GMember) (hl : l.length ≤ 9223372036854775807) : Con2 Tryz.prog 79 [.fz 3 (l.map encM), .fz 3 (l.map encM)] (· = plR (.v (.bool true))) := by
  refine con2_of Ty.mixed Tryz.func79 rfl (by kernel_rfl) (by kernel_rfl) rfl [.tmp 4] rfl ?_
  refine g2_ ?_
  refine cond2_ne (fun h => (h rfl).elim) (fun h => ?_)
  refine g2_ ?_
  refine vc2_rangeA l.length (fun k => []) (fun _ => []) (fun k => []) 0 (fun k => True) (le2_of [] ?_) trivial (fun g k => by simp -implicitDefEqProofs only [go_sem, vc2_blk]) (by omega) (fun g => by simp -implicitDefEqProofs only [go_sem, vc2_blk]) (fun k hk hF => ?_) (fun hF => ?_)
  · refine g2_ ?_
    first | rfl | exact ⟨rfl, rfl⟩
  · refine g2_ ?_
    refine .inl ⟨[(0, false), (1, false), (4, false), (5, false), (2, false), (6, false), (3, false), (7, false), (8, false)], by kernel_rfl, ?_⟩
    repeat first | simp -implicitDefEqProofs only [go_sem, vc2_blk, mapE_get hk, beq_self_eq_true, bne_self_eq_false, Bool.and_self, Bool.not_true, bne] | with_reducible first | refine gl_ ?_ | refine ga_ ?_ | refine gn_ ?_
    exact ⟨k + 1, le2_of [] ws_, rfl⟩
  · refine g2_ ?_
    exact ⟨_, rfl, le2_of [] ws_⟩
theorem rMarks_con (l : List GMark) (hl : l.length ≤ 9223372036854775807) : Con2 Tryz.prog 81 [.fz 3 (l.map encK), .fz 3 (l.map encK)] (· = plR (.v (.bool true))) := by
  refine con2_of Ty.mixed Tryz.func81 rfl (by kernel_rfl) (by kernel_rfl) rfl [.tmp 4] rfl ?_
  refine g2_ ?_
  refine cond2_ne (fun h => (h rfl).elim) (fun h => ?_)
  refine g2_ ?_
  refine vc2_rangeA l.length (fun k => []) (fun _ => []) (fun k => []) 0 (fun k => True) (le2_of [] ?_) trivial (fun g k => by simp -implicitDefEqProofs only [go_sem, vc2_blk]) (by omega) (fun g => by simp -implicitDefEqProofs only [go_sem, vc2_blk]) (fun k hk hF => ?_) (fun hF => ?_)
  · refine g2_ ?_
    first | rfl | exact ⟨rfl, rfl⟩
  · refine g2_ ?_
    refine .inl ⟨[(0, false), (1, false), (4, false), (5, false), (2, false), (6, false), (3, false), (7, false), (8, false)], by kernel_rfl, ?_⟩
    repeat first | simp -implicitDefEqProofs only [go_sem, vc2_blk, mapE_get hk, beq_self_eq_true, bne_self_eq_false, Bool.and_self, Bool.not_true, bne] | with_reducible first | refine gl_ ?_ | refine ga_ ?_ | refine gn_ ?_
    exact ⟨k + 1, le2_of [] ws_, rfl⟩
  · refine g2_ ?_
    exact ⟨_, rfl, le2_of [] ws_⟩
theorem rVals_con (l : List Int) (hl : l.length ≤ 9223372036854775807) : Con2 Tryz.prog 150 [.fz 1 (l.map encI), .fz 1 (l.map encI)] (· = plR (.v (.bool true))) := by
  refine con2_of Ty.mixed Tryz.func150 rfl (by kernel_rfl) (by kernel_rfl) rfl [.tmp 4] rfl ?_
  refine g2_ ?_
  refine cond2_ne (fun h => (h rfl).elim) (fun h => ?_)
  refine g2_ ?_
  refine vc2_rangeA l.length (fun k => []) (fun _ => []) (fun k => []) 0 (fun k => True) (le2_of [] ?_) trivial (fun g k => by simp -implicitDefEqProofs only [go_sem, vc2_blk]) (by omega) (fun g => by simp -implicitDefEqProofs only [go_sem, vc2_blk]) (fun k hk hF => ?_) (fun hF => ?_)
  · refine g2_ ?_
    first | rfl | exact ⟨rfl, rfl⟩
  · refine g2_ ?_
    refine .inl ⟨[(0, false), (1, false), (4, false), (5, false), (2, false), (6, false), (3, false), (7, false), (8, false)], by kernel_rfl, ?_⟩
    repeat first | simp -implicitDefEqProofs only [go_sem, vc2_blk, mapE_get hk, beq_self_eq_true, bne_self_eq_false, Bool.and_self, Bool.not_true, bne] | with_reducible first | refine gl_ ?_ | refine ga_ ?_ | refine gn_ ?_
    exact ⟨k + 1, le2_of [] ws_, rfl⟩
  · refine g2_ ?_
    exact ⟨_, rfl, le2_of [] ws_⟩
theorem rDescs_con (l : List GDesc) (hl : l.length ≤ 9223372036854775807) (hf : ∀ d ∈ l, d.filter.length ≤ 9223372036854775807) : Con2 Tryz.prog 36 [fzD l, fzD l] (· = plR (.v (.bool true))) := by
  refine con2_of Ty.mixed Tryz.func36 rfl (by kernel_rfl) (by kernel_rfl) rfl [.tmp 4] rfl ?_
  refine g2_ ?_
  refine cond2_ne (fun h => (h rfl).elim) (fun h => ?_)
  refine g2_ ?_
  refine vc2_rangeA l.length (fun k => []) (fun _ => []) (fun k => []) 0 (fun k => True) (le2_of [] ?_) trivial (fun g k => by simp -implicitDefEqProofs only [go_sem, vc2_blk]) (by omega) (fun g => by simp -implicitDefEqProofs only [go_sem, vc2_blk]) (fun k hk hF => ?_) (fun hF => ?_)
  · refine g2_ ?_
    first | rfl | exact ⟨rfl, rfl⟩
  · refine g2_ ?_
    refine .inl ⟨[(0, false), (1, false), (4, false), (5, false), (2, false), (6, false), (3, false), (7, false), (8, false), (9, false)], by kernel_rfl, ?_⟩
    repeat first | simp -implicitDefEqProofs only [go_sem, vc2_blk, mapE_get hk] | with_reducible first | refine gl_ ?_ | refine ga_ ?_ | refine gn_ ?_
    refine CallS.eq (lDesc_con l[k] l[k] (hf _ (List.getElem_mem hk))) ws_ (.inl ws_) ?_
    refine g2_ ?_
    exact ⟨k + 1, le2_of [] ws_, rfl⟩
  · refine g2_ ?_
    exact ⟨_, rfl, le2_of [] ws_⟩
theorem rEvent_con (e : GEvt) (h1 : e.vals.length ≤ 9223372036854775807) : Con2 Tryz.prog 80 [.agg (encEv e), .agg (encEv e)] (· = plR (.v (.bool true))) := by
  have hv := rVals_con e.vals h1
  refine con2_of Ty.mixed Tryz.func80 rfl (by kernel_rfl) (by kernel_rfl) rfl [.tmp 4] rfl ?_
  refine g2_ ?_
  repeat first | simp -implicitDefEqProofs only [go_sem, vc2_blk, beq_self_eq_true, Bool.and_self] | with_reducible first | refine gl_ ?_ | refine ga_ ?_ | refine gn_ ?_
  refine CallS.eq hv ws_ (.inl ws_) ?_
  refine g2_ ?_
  exact ⟨_, rfl, le2_of [] ws_⟩
theorem rEvents_con (l : List GEvt) (hl : l.length ≤ 9223372036854775807) (hf : ∀ e ∈ l, e.vals.length ≤ 9223372036854775807) : Con2 Tryz.prog 118 [.fz 5 (l.map encEv), .fz 5 (l.map encEv)] (· = plR (.v (.bool true))) := by
  refine con2_of Ty.mixed Tryz.func118 rfl (by kernel_rfl) (by kernel_rfl) rfl [.tmp 4] rfl ?_
  refine g2_ ?_
  refine cond2_ne (fun h => (h rfl).elim) (fun h => ?_)
  refine g2_ ?_
  refine vc2_rangeA l.length (fun k => []) (fun _ => []) (fun k => []) 0 (fun k => True) (le2_of [] ?_) trivial (fun g k => by simp -implicitDefEqProofs only [go_sem, vc2_blk]) (by omega) (fun g => by simp -implicitDefEqProofs only [go_sem, vc2_blk]) (fun k hk hF => ?_) (fun hF => ?_)
  · refine g2_ ?_
    first | rfl | exact ⟨rfl, rfl⟩
  · refine g2_ ?_
    refine .inl ⟨[(0, false), (1, false), (4, false), (5, false), (2, false), (6, false), (3, false), (7, false), (8, false), (9, false)], by kernel_rfl, ?_⟩
    repeat first | simp -implicitDefEqProofs only [go_sem, vc2_blk, mapE_get hk] | with_reducible first | refine gl_ ?_ | refine ga_ ?_ | refine gn_ ?_
    refine CallS.eq (rEvent_con l[k] (hf _ (List.getElem_mem hk))) ws_ (.inl ws_) ?_
    refine g2_ ?_
    exact ⟨k + 1, le2_of [] ws_, rfl⟩
  · refine g2_ ?_
    exact ⟨_, rfl, le2_of [] ws_⟩
theorem rWait_con (w : GW) (h : okDs w.sent) : Con2 Tryz.prog 117 [.agg (encW w), .agg (encW w)] (· = plR (.v (.bool true))) := by
  have hd := rDescs_con w.sent (by have := h.1; omega) (fun d hd => by have := h.2 d hd; omega)
  unfold encW
  refine con2_of Ty.mixed Tryz.func117 rfl (by kernel_rfl) (by kernel_rfl) rfl [.tmp 4] rfl ?_
  refine g2_ ?_
  repeat first | simp -implicitDefEqProofs only [go_sem, vc2_blk, beq_self_eq_true, Bool.and_self] | with_reducible first | refine gl_ ?_ | refine ga_ ?_ | refine gn_ ?_
  refine CallS.eq hd ws_ (.inl ws_) ?_
  refine g2_ ?_
  exact ⟨_, rfl, le2_of [] ws_⟩
theorem rRing_con (r : GRing) (h1 : r.succ.filter.length ≤ 1000) (h2 : r.pred.filter.length ≤ 1000) : Con2 Tryz.prog 116 [.agg (encRing r), .agg (encRing r)] (· = plR (.v (.bool true))) := by
  have hd1 := lDesc_con r.succ r.succ (by omega)
  have hd2 := lDesc_con r.pred r.pred (by omega)
  rw [decide_eq_true rfl] at hd1 hd2
  refine con2_of Ty.mixed Tryz.func116 rfl (by kernel_rfl) (by kernel_rfl) rfl [.tmp 4] rfl ?_
  refine g2_ ?_
  repeat first | simp -implicitDefEqProofs only [go_sem, vc2_blk, beq_self_eq_true, Bool.and_self] | with_reducible first | refine gl_ ?_ | refine ga_ ?_ | refine gn_ ?_
  refine CallS.eq hd1 ws_ (.inl ws_) ?_
  refine g2_ ?_
  refine CallS.eq hd2 ws_ (.inl ws_) ?_
  refine g2_ ?_
  exact ⟨_, rfl, le2_of [] ws_⟩
theorem rOver_con (p : GPeer) (hp : okP p) : Con2 Tryz.prog 52 [.agg (encP p), .agg (encP p)] (· = plR (.v (.bool true))) := by
  have h1 := rDescs_con p.view (by have := hp.view.1; omega) (fun d hd => by have := hp.view.2 d hd; omega)
  have h2 := rDescs_con p.near (by have := hp.near.1; omega) (fun d hd => by have := hp.near.2 d hd; omega)
  have h3 := rRing_con p.ring hp.succ hp.pred
  have h4 := rWait_con p.wait hp.sent
  have h5 := rMembers_con p.table (by have := hp.table; omega)
  unfold encW at h4
  refine con2_of Ty.mixed Tryz.func52 rfl (by kernel_rfl) (by kernel_rfl) rfl [.tmp 4] rfl ?_
  refine g2_ ?_
  refine g2_ ?_
  refine CallS.eq h1 ws_ (.inl ws_) ?_
  refine g2_ ?_
  refine CallS.eq h2 ws_ (.inl ws_) ?_
  refine g2_ ?_
  refine CallS.eq h3 ws_ (.inl ws_) ?_
  refine g2_ ?_
  refine CallS.eq h4 ws_ (.inl ws_) ?_
  refine g2_ ?_
  refine CallS.eq h5 ws_ (.inl ws_) ?_
  refine g2_ ?_
  exact ⟨_, rfl, le2_of [] ws_⟩
end Go.Proofs.YtlaefellhnkfbaaGreat.V

set_option maxRecDepth 10000
namespace Go.Proofs.YtlaefellhnkfbaaGreat.V
open Go.Eng
attribute [local go_sem] encS encDD fzD plR rowR encK encM encRw encC encP encEv encA z8 z16 z32 z64 encMg encRing encI
theorem rGossip_con (p : GPeer) (hp : okP p) : Con2 Tryz.prog 53 [.agg (encP p), .agg (encP p)] (· = plR (.v (.bool true))) := by
  have hrw := hp.rows
  have hpu := hp.pulls
  have hhe := hp.heard
  obtain ⟨hre, hre2⟩ := hp.reports
  obtain ⟨hev, hev2⟩ := hp.evs
  have he := rEvents_con p.buf.evs (by omega) (fun e h => by have := (hev2 e h).1; omega)
  have hm := rMarks_con p.heard (by omega)
  have hge0 : ∀ k (hk : k < p.reports.length), (encRs p.reports)[k]? = some [DV.fz 3 (p.reports[k].map encK)] := fun k hk => by rw [encRs, List.getElem?_map, List.getElem?_eq_getElem hk]; rfl
  have hLl : (encRs p.reports).length = p.reports.length := by rw [encRs, List.length_map]
  refine con2_of Ty.mixed Tryz.func53 rfl (by kernel_rfl) (by kernel_rfl) rfl [.tmp 4] rfl ?_
  refine g2_ ?_
  repeat first | simp -implicitDefEqProofs only [go_sem, vc2_blk, encRs_eq, bne_self_eq_false, hLl, List.append_eq, List.cons_append, List.nil_append] | with_reducible first | refine gl_ ?_ | refine ga_ ?_ | refine gn_ ?_
  refine vc2_rangeA p.rows.length (fun k => []) (fun _ => []) (fun k => []) 0 (fun k => True) (le2_of [] ?_) trivial (fun g k => by simp -implicitDefEqProofs only [go_sem, vc2_blk]) (by omega) (fun g => by simp -implicitDefEqProofs only [go_sem, vc2_blk]) (fun k hk hF => ?_) (fun hF => ?_)
  · refine g2_ ?_
    first | rfl | exact ⟨rfl, rfl⟩
  · repeat first | simp -implicitDefEqProofs only [go_sem, vc2_blk, encRs_eq] | with_reducible first | refine gl_ ?_ | refine ga_ ?_ | refine gn_ ?_
    refine .inl ⟨[(0, false), (2, false), (5, false), (7, false), (1, false), (6, false), (3, false), (8, false), (4, false), (9, false), (10, false)], by kernel_rfl, ?_⟩
    repeat first | simp -implicitDefEqProofs only [go_sem, vc2_blk, mapE_get hk, beq_self_eq_true, Bool.and_self, Bool.not_true, encRs_eq] | with_reducible first | refine gl_ ?_ | refine ga_ ?_ | refine gn_ ?_
    exact ⟨k + 1, le2_of [] ws_, rfl⟩
  repeat first | simp -implicitDefEqProofs only [go_sem, vc2_blk, encRs_eq, hLl] | with_reducible first | refine gl_ ?_ | refine ga_ ?_ | refine gn_ ?_
  refine vc2_rangeA p.reports.length (fun k => []) (fun _ => []) (fun k => []) 0 (fun k => True) (le2_of [] ?_) trivial (fun g k => by simp -implicitDefEqProofs only [go_sem, vc2_blk]) (by omega) (fun g => by simp -implicitDefEqProofs only [go_sem, vc2_blk]) (fun k hk hF => ?_) (fun hF => ?_)
  · refine g2_ ?_
    first | rfl | exact ⟨rfl, rfl⟩
  · have hge := hge0 k hk
    have hmk := rMarks_con p.reports[k] (by have := hre2 _ (List.getElem_mem hk); omega)
    repeat first | simp -implicitDefEqProofs only [go_sem, vc2_blk, encRs_eq] | with_reducible first | refine gl_ ?_ | refine ga_ ?_ | refine gn_ ?_
    refine .inl ⟨[(0, false), (2, false), (5, false), (7, false), (1, false), (6, false), (3, false), (8, false), (4, false), (9, false), (10, false), (11, false)], by kernel_rfl, ?_⟩
    repeat first | simp -implicitDefEqProofs only [go_sem, vc2_blk, hge, encRs_eq] | with_reducible first | refine gl_ ?_ | refine ga_ ?_ | refine gn_ ?_
    refine CallS.eq hmk ws_ (.inl ws_) ?_
    refine g2_ ?_
    exact ⟨k + 1, le2_of [] ws_, rfl⟩
  repeat first | simp -implicitDefEqProofs only [go_sem, vc2_blk, encRs_eq, hLl] | with_reducible first | refine gl_ ?_ | refine ga_ ?_ | refine gn_ ?_
  refine vc2_rangeA p.pulls.length (fun k => []) (fun _ => []) (fun k => []) 0 (fun k => True) (le2_of [] ?_) trivial (fun g k => by simp -implicitDefEqProofs only [go_sem, vc2_blk]) (by omega) (fun g => by simp -implicitDefEqProofs only [go_sem, vc2_blk]) (fun k hk hF => ?_) (fun hF => ?_)
  · refine g2_ ?_
    first | rfl | exact ⟨rfl, rfl⟩
  · repeat first | simp -implicitDefEqProofs only [go_sem, vc2_blk, encRs_eq] | with_reducible first | refine gl_ ?_ | refine ga_ ?_ | refine gn_ ?_
    refine .inl ⟨[(0, false), (2, false), (5, false), (7, false), (1, false), (6, false), (3, false), (8, false), (4, false), (9, false), (10, false)], by kernel_rfl, ?_⟩
    repeat first | simp -implicitDefEqProofs only [go_sem, vc2_blk, mapE_get hk, beq_self_eq_true, Bool.and_self, Bool.not_true, encRs_eq] | with_reducible first | refine gl_ ?_ | refine ga_ ?_ | refine gn_ ?_
    exact ⟨k + 1, le2_of [] ws_, rfl⟩
  repeat first | simp -implicitDefEqProofs only [go_sem, vc2_blk, encRs_eq] | with_reducible first | refine gl_ ?_ | refine ga_ ?_ | refine gn_ ?_
  refine CallS.eq he ws_ (.inl ws_) ?_
  repeat first | simp -implicitDefEqProofs only [go_sem, vc2_blk, encRs_eq] | with_reducible first | refine gl_ ?_ | refine ga_ ?_ | refine gn_ ?_
  refine CallS.eq hm ws_ (.inl ws_) ?_
  repeat first | simp -implicitDefEqProofs only [go_sem, vc2_blk, encRs_eq, beq_self_eq_true] | with_reducible first | refine gl_ ?_ | refine ga_ ?_ | refine gn_ ?_
  exact ⟨_, rfl, le2_of [] ws_⟩
theorem rPeer_con (p : GPeer) (hp : okP p) : Con2 Tryz.prog 16 [.agg (encP p), .agg (encP p)] (· = plR (.v (.bool true))) := by
  have h1 := lSpans_con p.filter p.filter (by have := hp.filter; omega)
  rw [decide_eq_true rfl] at h1
  have h2 := rOver_con p hp
  have h3 := rGossip_con p hp
  refine con2_of Ty.mixed Tryz.func16 rfl (by kernel_rfl) (by kernel_rfl) rfl [.tmp 4] rfl ?_
  refine g2_ ?_
  repeat first | simp -implicitDefEqProofs only [go_sem, vc2_blk, beq_self_eq_true] | with_reducible first | refine gl_ ?_ | refine ga_ ?_ | refine gn_ ?_
  refine CallS.eq h1 ws_ (.inl ws_) ?_
  refine g2_ ?_
  refine CallS.eq h2 ws_ (.inl ws_) ?_
  refine g2_ ?_
  refine CallS.eq h3 ws_ (.inl ws_) ?_
  refine g2_ ?_
  exact ⟨_, rfl, le2_of [] ws_⟩
end Go.Proofs.YtlaefellhnkfbaaGreat.V

set_option maxRecDepth 10000
namespace Go.Proofs.YtlaefellhnkfbaaGreat.V
open Go.Eng
attribute [local go_sem] encS encDD fzD plR rowR encK encM encRw encC encP encEv encA z8 z16 z32 z64 encMg encRing encI
theorem c00 : ((0 : Nat) : Int) = 0 := rfl
attribute [local go_sem] c00
theorem compact0 : Con2 Tryz.prog 50 [.v (.slice none 0 0)] (· = plR (.v (.slice none 0 0))) := by
  refine con2_of Ty.mixed Tryz.func50 rfl (by kernel_rfl) (by kernel_rfl) rfl [.tmp 2] rfl ?_
  refine g2_ ?_
  refine g2_ ?_
  rw [show decide ((0 : Int) < 2) = true from rfl]
  refine g2_ ?_
  exact ⟨_, rfl, le2_of [] ws_⟩
theorem isort0 : Con2 Tryz.prog 182 [.v (.slice none 0 0), .v (.int .i64 0), .v (.int .i64 0)] (· = plR (.tup [])) := by
  refine con2_of Ty.mixed Tryz.func182 rfl (by kernel_rfl) (by kernel_rfl) rfl [] rfl ?_
  refine g2_ ?_
  refine g2_ ?_
  refine vc2_forA (γ := Unit) (fun _ => []) (fun _ => []) (fun _ => []) 0 (fun _ => True) (fun _ => 0) () (le2_of [] ws_) trivial (fun i hi => ?_)
  refine g2_ ?_
  rw [show decide ((1 : Int) < 0) = false from rfl]
  refine g2_ ?_
  exact ⟨_, rfl, le2_of [] ws_⟩
theorem pdq0 (n : Int) : Con2 Tryz.prog 114 [.v (.slice none 0 0), .v (.int .i64 0), .v (.int .i64 0), .v (.int .i64 n)] (· = plR (.tup [])) := by
  refine con2_of Ty.mixed Tryz.func114 rfl (by kernel_rfl) (by kernel_rfl) rfl [] rfl ?_
  refine g2_ ?_
  refine g2_ ?_
  refine vc2_forA (γ := Unit) (fun _ => []) (fun _ => []) (fun _ => []) 0 (fun _ => True) (fun _ => 0) () (le2_of [] ws_) trivial (fun i hi => ?_)
  refine g2_ ?_
  rw [show decide ((0 : Int) - 0 ≤ 12) = true from rfl]
  refine g2_ ?_
  refine CallS.eq isort0 ws_ (.inl ws_) ?_
  refine g2_ ?_
  exact ⟨_, rfl, le2_of [] ws_⟩
theorem len64_0 : Con2 Tryz.prog 192 [.v (.int .u64 0)] (· = plR (.v (.int .i64 0))) := by
  refine con2_of Ty.mixed Tryz.func192 rfl (by kernel_rfl) (by kernel_rfl) rfl [.tmp 2] rfl ?_
  refine g2_ ?_
  refine g2_ ?_
  rw [show decide ((4294967296 : Int) ≤ 0) = false from rfl]
  refine g2_ ?_
  rw [show decide ((65536 : Int) ≤ 0) = false from rfl]
  refine g2_ ?_
  rw [show decide ((256 : Int) ≤ 0) = false from rfl]
  refine g2_ ?_
  refine ar_u8 (by omega) ?_
  refine g2_ ?_
  refine ⟨.int .u8 0, fun w => by kernel_rfl, ?_⟩
  refine g2_ ?_
  exact ⟨_, rfl, le2_of [] ws_⟩
theorem blen0 : Con2 Tryz.prog 115 [.v (.int .u64 0)] (· = plR (.v (.int .i64 0))) := by
  refine con2_of Ty.mixed Tryz.func115 rfl (by kernel_rfl) (by kernel_rfl) rfl [.tmp 2] rfl ?_
  refine g2_ ?_
  refine g2_ ?_
  refine CallS.eq len64_0 ws_ (.inl ws_) ?_
  refine g2_ ?_
  exact ⟨_, rfl, le2_of [] ws_⟩
theorem sort0 : Con2 Tryz.prog 49 [.v (.slice none 0 0)] (· = plR (.tup [])) := by
  refine con2_of Ty.mixed Tryz.func49 rfl (by kernel_rfl) (by kernel_rfl) rfl [] rfl ?_
  refine g2_ ?_
  refine g2_ ?_
  refine ar_u64 (by omega) ?_
  refine g2_ ?_
  refine CallS.eq blen0 ws_ (.inl ws_) ?_
  refine g2_ ?_
  refine CallS.eq (pdq0 0) ws_ (.inl ws_) ?_
  refine g2_ ?_
  exact ⟨_, rfl, le2_of [] ws_⟩
theorem links0 (p : GPeer) (h1 : p.view = []) (h2 : p.near = []) (h3 : rList p.ring = []) (h4 : p.ring.succ.filter.length ≤ 1000) (h5 : p.ring.pred.filter.length ≤ 1000) : Con2 Tryz.prog 14 [.agg (encP p)] (· = plR (.fz 1 [])) := by
  refine Con2.ofEmb ?_
  have hr := rlist_con p.ring h4 h5
  rw [h3] at hr
  refine con2_of Ty.mixed Tryz.func14 rfl (by kernel_rfl) (by kernel_rfl) rfl [.tmp 2] rfl ?_
  refine g2_ ?_
  repeat first | simp -implicitDefEqProofs only [go_sem, vc2_blk, h1, h2, List.map_nil] | with_reducible first | refine gl_ ?_ | refine ga_ ?_ | refine gn_ ?_
  refine .inl ⟨[(0, false), (2, false), (4, false), (9, false), (1, false), (3, false), (5, false), (6, true), (7, false), (8, false)], by kernel_rfl, ?_⟩
  repeat first | simp -implicitDefEqProofs only [go_sem, vc2_blk, h1, h2, List.map_nil] | with_reducible first | refine gl_ ?_ | refine ga_ ?_ | refine gn_ ?_
  refine CallS.eq hr ws_ (.inl ws_) ?_
  repeat first | simp -implicitDefEqProofs only [go_sem, vc2_blk, List.map_nil] | with_reducible first | refine gl_ ?_ | refine ga_ ?_ | refine gn_ ?_
  refine vc2_rangeA 3 (fun k => []) (fun _ => []) (fun k => [(0, .arr 32 1 [[.fz 4 []], [.fz 4 []], [.fz 4 []]] false)]) 1 (fun k => True) (le2_of [] ?_) trivial (fun g k => by first | rfl | ((try (with_reducible refine leK2_refl ?_)); simp -implicitDefEqProofs only [go_sem, vc2_blk]; repeat ((with_reducible refine leK2_refl ?_); simp -implicitDefEqProofs only [go_sem, vc2_blk]))) (by omega) (fun g => by simp -implicitDefEqProofs only [go_sem, vc2_blk]) (fun k hk hF => ?_) (fun hF => ?_)
  · ((try (with_reducible refine leK2_refl ?_)); simp -implicitDefEqProofs only [go_sem, vc2_blk]; repeat ((with_reducible refine leK2_refl ?_); simp -implicitDefEqProofs only [go_sem, vc2_blk]))
    first | done | rfl | exact ⟨rfl, rfl⟩ | trace_state
  · have hg : ([[DV.fz 4 []], [DV.fz 4 []], [DV.fz 4 []]] : List (List DV))[k]? = some [DV.fz 4 []] := by
      match k, hk with
      | 0, _ => rfl
      | 1, _ => rfl
      | 2, _ => rfl
    repeat first | simp -implicitDefEqProofs only [go_sem, vc2_blk, hg] | with_reducible first | refine gl_ ?_ | refine ga_ ?_ | refine gn_ ?_
    refine vc2_rangeA 0 (fun k => []) (fun _ => []) (fun k => [(0, .arr 32 1 [[.fz 4 []], [.fz 4 []], [.fz 4 []]] false)]) 1 (fun k => True) (le2_of [] ?_) trivial (fun g k => by first | rfl | ((try (with_reducible refine leK2_refl ?_)); simp -implicitDefEqProofs only [go_sem, vc2_blk]; repeat ((with_reducible refine leK2_refl ?_); simp -implicitDefEqProofs only [go_sem, vc2_blk]))) (by omega) (fun g => by simp -implicitDefEqProofs only [go_sem, vc2_blk]) (fun j hj _ => by omega) (fun _ => ?_)
    · ((try (with_reducible refine leK2_refl ?_)); simp -implicitDefEqProofs only [go_sem, vc2_blk]; repeat ((with_reducible refine leK2_refl ?_); simp -implicitDefEqProofs only [go_sem, vc2_blk]))
      first | done | rfl | exact ⟨rfl, rfl⟩ | trace_state
    · refine g2_ ?_
      refine ⟨k + 1, le2_of [] ?_, rfl⟩
      exact ws_
  · refine g2_ ?_
    refine CallS.eq sort0 ws_ (.inl ws_) ?_
    refine g2_ ?_
    refine CallS.eq compact0 ws_ (.inl ws_) ?_
    refine g2_ ?_
    refine ret_emb ?_ rfl
    exact ws_
end Go.Proofs.YtlaefellhnkfbaaGreat.V

set_option maxRecDepth 10000
namespace Go.Eng
structure GOp where
  what : UInt8
  node : UInt8
  inc : UInt16
  filter : List GSpan
  m : GMsg
  draws : List UInt32
def tBad (m : GMember) : Bool := decide ((3 : Int) < (m.state.toNat : Int)) || ((decide (m.inc = 0) != decide (m.state = 0)) || (decide (m.inc = 0) && decide ((0 : Int) < (m.quiet.toNat : Int))))
def fewB (x : GOp) : Bool := (x.m.list.all fun d => !decide ((8 : Int) < (d.filter.length : Int))) && (x.m.table.all fun m => !tBad m) &&
  (decide ((x.filter.length : Int) ≤ 8) && (decide ((x.m.list.length : Int) ≤ 20) && (decide ((x.m.table.length : Int) ≤ 20) && decide ((x.draws.length : Int) ≤ 30))))
theorem u8_z (x : UInt8) : ((x.toNat : Int) == 0) = decide (x = 0) := u8_beq x 0
theorem all_snoc {α : Type} {f : α → Bool} {l : List α} {k : Nat} (h : k < l.length) : (l.take (k + 1)).all f = ((l.take k).all f && f l[k]) := by
  rw [List.take_add_one, List.getElem?_eq_getElem h, List.all_append]; simp
theorem all_false {α : Type} {f : α → Bool} {l : List α} {k : Nat} (h : k < l.length) (hf : f l[k] = false) : l.all f = false := List.all_eq_false.2 ⟨l[k], List.getElem_mem h, by simp [hf]⟩
end Go.Eng
namespace Go.Proofs.YtlaefellhnkfbaaGreat.V
open Go.Eng
attribute [local go_sem] encS encDD fzD plR rowR encK encM encRw encC encP encEv encA z8 z16 z32 z64 encMg encRing encI
def encOp (x : GOp) : List DV := [.v (.int .u8 x.what.toNat), .v (.int .u8 x.node.toNat), .v (.int .u16 x.inc.toNat), fzS x.filter] ++ encMg x.m ++ [.fz 1 (x.draws.map enc32D)]
theorem few_con (x : GOp) (h1 : x.m.list.length ≤ 9223372036854775807) (h2 : x.m.table.length ≤ 9223372036854775807) : Con2 Tryz.prog 15 [.agg (encOp x)] (· = plR (.v (.bool (fewB x)))) := by
  unfold encOp
  refine con2_of Ty.mixed Tryz.func15 rfl (by kernel_rfl) (by kernel_rfl) rfl [.tmp 2] rfl ?_
  refine g2_ ?_
  repeat first | simp -implicitDefEqProofs only [go_sem, vc2_blk, List.append_eq, List.cons_append, List.nil_append] | with_reducible first | refine gl_ ?_ | refine ga_ ?_ | refine gn_ ?_
  refine vc2_rangeA x.m.list.length (fun k => []) (fun _ => []) (fun k => []) 0 (fun k => (x.m.list.take k).all (fun d => !decide ((8 : Int) < (d.filter.length : Int))) = true) (le2_of [] ?_) rfl (fun g k => by simp -implicitDefEqProofs only [go_sem, vc2_blk]) (by omega) (fun g => by simp -implicitDefEqProofs only [go_sem, vc2_blk]) (fun k hk hF => ?_) (fun hF => ?_)
  · refine g2_ ?_
    first | done | rfl | exact ⟨rfl, rfl⟩
  · repeat first | simp -implicitDefEqProofs only [go_sem, vc2_blk, mapE_get hk] | with_reducible first | refine gl_ ?_ | refine ga_ ?_ | refine gn_ ?_
    refine cond2_dec (fun h3 => ?_) (fun h3 => ?_)
    · have e : fewB x = false := by
        rw [fewB, all_false hk (by simp; omega)]; rfl
      rw [e]
      refine g2_ ?_
      exact ⟨_, rfl, le2_of [] ws_⟩
    · refine g2_ ?_
      refine ⟨k + 1, le2_of [] ws_, rfl, ?_⟩
      rw [all_snoc hk, hF]; simp; omega
  rw [List.take_of_length_le (Nat.le_refl _)] at hF
  refine g2_ ?_
  refine vc2_rangeA x.m.table.length (fun k => []) (fun _ => []) (fun k => []) 0 (fun k => (x.m.table.take k).all (fun m => !tBad m) = true) (le2_of [] ?_) rfl (fun g k => by simp -implicitDefEqProofs only [go_sem, vc2_blk]) (by omega) (fun g => by simp -implicitDefEqProofs only [go_sem, vc2_blk]) (fun k hk hG => ?_) (fun hG => ?_)
  · refine g2_ ?_
    first | done | rfl | exact ⟨rfl, rfl⟩
  · have hno : tBad x.m.table[k] = true → fewB x = false := fun h => by
      rw [fewB, all_false hk (f := fun m => !tBad m) (by simp [h])]; simp
    have hyes : tBad x.m.table[k] = false → (x.m.table.take (k + 1)).all (fun m => !tBad m) = true := fun h => by rw [all_snoc hk, hG, h]; rfl
    repeat first | simp -implicitDefEqProofs only [go_sem, vc2_blk, mapE_get hk] | with_reducible first | refine gl_ ?_ | refine ga_ ?_ | refine gn_ ?_
    generalize x.m.table[k] = m at hno hyes
    by_cases hA : (3 : Int) < (m.state.toNat : Int)
    · rw [decide_eq_true hA]
      rw [hno (by simp [tBad, hA])]
      refine g2_ ?_
      exact ⟨_, rfl, le2_of [] ws_⟩
    rw [decide_eq_false hA]
    refine g2_ ?_
    simp only [u16_z, u8_z]
    by_cases i0 : m.inc = 0
    · rw [decide_eq_true i0]
      by_cases s0 : m.state = 0
      · rw [decide_eq_true s0]
        repeat first | simp -implicitDefEqProofs only [go_sem, vc2_blk, bne_self_eq_false] | with_reducible first | refine gl_ ?_ | refine ga_ ?_ | refine gn_ ?_
        simp only [u16_z]
        rw [decide_eq_true i0]
        refine g2_ ?_
        by_cases hQ : (0 : Int) < (m.quiet.toNat : Int)
        · rw [decide_eq_true hQ]
          rw [hno (by simp [tBad, i0]; omega)]
          refine g2_ ?_
          exact ⟨_, rfl, le2_of [] ws_⟩
        · rw [decide_eq_false hQ]
          refine g2_ ?_
          exact ⟨k + 1, le2_of [] ws_, rfl, hyes (by simp [tBad, i0, s0]; omega)⟩
      · rw [decide_eq_false s0]
        rw [show (!(true == false)) = true from rfl]
        rw [hno (by simp [tBad, i0, s0])]
        refine g2_ ?_
        exact ⟨_, rfl, le2_of [] ws_⟩
    · rw [decide_eq_false i0]
      by_cases s0 : m.state = 0
      · rw [decide_eq_true s0]
        rw [show (!(false == true)) = true from rfl]
        rw [hno (by simp [tBad, i0, s0])]
        refine g2_ ?_
        exact ⟨_, rfl, le2_of [] ws_⟩
      · rw [decide_eq_false s0]
        repeat first | simp -implicitDefEqProofs only [go_sem, vc2_blk, bne_self_eq_false] | with_reducible first | refine gl_ ?_ | refine ga_ ?_ | refine gn_ ?_
        simp only [u16_z]
        rw [decide_eq_false i0]
        refine g2_ ?_
        exact ⟨k + 1, le2_of [] ws_, rfl, hyes (by simp [tBad, hA, i0, s0])⟩
  · rw [List.take_of_length_le (Nat.le_refl _)] at hG
    have e : fewB x = (decide ((x.filter.length : Int) ≤ 8) && (decide ((x.m.list.length : Int) ≤ 20) && (decide ((x.m.table.length : Int) ≤ 20) && decide ((x.draws.length : Int) ≤ 30)))) := by
      rw [fewB, hF, hG]; rfl
    rw [e]
    refine g2_ ?_
    cases g0 : decide ((x.filter.length : Int) ≤ 8)
    · refine g2_ ?_
      exact ⟨_, rfl, le2_of [] (by simp -implicitDefEqProofs only [go_sem, vc2_blk, Bool.false_and, Bool.true_and])⟩
    repeat first | simp -implicitDefEqProofs only [go_sem, vc2_blk, Bool.true_and] | with_reducible first | refine gl_ ?_ | refine ga_ ?_ | refine gn_ ?_
    cases g1 : decide ((x.m.list.length : Int) ≤ 20)
    · refine g2_ ?_
      exact ⟨_, rfl, le2_of [] (by simp -implicitDefEqProofs only [go_sem, vc2_blk, Bool.false_and, Bool.true_and])⟩
    repeat first | simp -implicitDefEqProofs only [go_sem, vc2_blk, Bool.true_and] | with_reducible first | refine gl_ ?_ | refine ga_ ?_ | refine gn_ ?_
    cases g2 : decide ((x.m.table.length : Int) ≤ 20)
    · refine g2_ ?_
      exact ⟨_, rfl, le2_of [] (by simp -implicitDefEqProofs only [go_sem, vc2_blk, Bool.false_and, Bool.true_and])⟩
    repeat first | simp -implicitDefEqProofs only [go_sem, vc2_blk, Bool.true_and] | with_reducible first | refine gl_ ?_ | refine ga_ ?_ | refine gn_ ?_
    exact ⟨_, rfl, le2_of [] (by simp -implicitDefEqProofs only [go_sem, vc2_blk, Bool.true_and, enc32D, List.length_map])⟩
end Go.Proofs.YtlaefellhnkfbaaGreat.V

set_option maxRecDepth 10000
namespace Go.Eng
theorem okP_inc {p : GPeer} (h : okP p) (i : UInt16) : okP { p with inc := i } := ⟨h.filter, h.view, h.near, h.succ, h.pred, h.sent, h.table, h.heard, h.rows, h.reports, h.evs, h.pulls⟩
end Go.Eng
namespace Go.Proofs.YtlaefellhnkfbaaGreat.V
open Go.Eng
attribute [local go_sem] encS encDD fzD plR rowR encK encM encRw encC encP encEv encA z8 z16 z32 z64 encMg encRing encI
end Go.Proofs.YtlaefellhnkfbaaGreat.V

set_option maxRecDepth 10000
namespace Go.Eng
theorem ar_u16s {a b : UInt16} {K : Value → Prop} : AtArith .u16 ((b.toNat : Int) - (a.toNat : Int)) K = K (.int .u16 ((b - a).toNat : Nat)) := by
  unfold AtArith
  have : IntKind.u16.wrap ((b.toNat : Int) - (a.toNat : Int)) = ((b - a).toNat : Nat) := by
    have ha := a.toNat_lt
    have hb := b.toNat_lt
    rw [UInt16.toNat_sub]
    show ((b.toNat : Int) - (a.toNat : Int)).emod 65536 = (((65536 - a.toNat + b.toNat) % 65536 : Nat) : Int)
    show ((b.toNat : Int) - (a.toNat : Int)) % 65536 = _
    omega
  rw [this]
end Go.Eng
namespace Go.Proofs.YtlaefellhnkfbaaGreat.V
open Go.Eng
attribute [local go_sem] encS encDD fzD plR rowR z8 z16 z32 z64
theorem rone_con (d : GDesc) (hd : d.filter.length ≤ 1000) : Con2 Tryz.prog 178 [.agg (encDD d)] (· = plR (.agg (encDD d))) := by
  refine Con2.ofEmb ?_
  have hc := copyF_con [d] ⟨by simp, by simp [hd]⟩
  refine con2_of Ty.mixed Tryz.func178 rfl (by kernel_rfl) (by kernel_rfl) rfl [.cell 2 34] rfl ?_
  refine g2_ ?_
  refine g2_ ?_
  refine CallS.eq hc (by simp -implicitDefEqProofs only [go_sem, vc2_blk, List.map_cons, List.map_nil]) (.inl ws_) ?_
  repeat first | simp -implicitDefEqProofs only [go_sem, vc2_blk, List.length_cons, List.length_nil, List.map_cons, List.map_nil] | with_reducible first | refine gl_ ?_ | refine ga_ ?_ | refine gn_ ?_
  rw [show (((1 : Nat) : Int) == 1) = true from rfl]
  repeat first | simp -implicitDefEqProofs only [go_sem, vc2_blk, List.length_cons, List.length_nil, List.getElem?_cons_zero] | with_reducible first | refine gl_ ?_ | refine ga_ ?_ | refine gn_ ?_
  refine ret_emb ?_ rfl
  exact ws_
theorem rfar_con (a b : UInt16) : Con2 Tryz.prog 180 [.v (.int .u16 a.toNat), .v (.int .u16 b.toNat)] (· = plR (.v (.int .u16 (b - a).toNat))) := by
  refine con2_of Ty.mixed Tryz.func180 rfl (by kernel_rfl) (by kernel_rfl) rfl [.tmp 4] rfl ?_
  refine g2_ ?_
  refine g2_ ?_
  rw [ar_u16s]
  refine g2_ ?_
  exact ⟨_, rfl, le2_of [] ws_⟩
end Go.Proofs.YtlaefellhnkfbaaGreat.V

set_option maxRecDepth 10000
namespace Go.Eng
def sQ (d s : GSpan) : Int := if d.b - d.a + 1 ≤ 0 then 0 else (4 * ((s.a + s.b).fdiv 2 - d.a)).tdiv (d.b - d.a + 1)
end Go.Eng
namespace Go.Proofs.YtlaefellhnkfbaaGreat.V
open Go.Eng
attribute [local go_sem] encS plR
theorem quarter_con (d s : GSpan) (hd : okS d) (hs : okS s) : Con2 Tryz.prog 255 [.agg (encS d), .agg (encS s)] (· = plR (.v (.int .i64 (sQ d s)))) := by
  obtain ⟨a1, a2, a3, a4⟩ := hd
  obtain ⟨b1, b2, b3, b4⟩ := hs
  refine con2_of Ty.mixed Tryz.func255 rfl (by kernel_rfl) (by kernel_rfl) rfl [.tmp 4] rfl ?_
  refine g2_ ?_
  refine g2_ ?_
  refine .inl ⟨[(0, false), (3, false), (6, false), (1, false), (4, false), (7, false), (2, false), (5, false), (8, false), (9, false), (11, false), (10, false), (12, false)], by kernel_rfl, ?_⟩
  refine g2_ ?_
  refine cond2_dec (fun h => ?_) (fun h => ?_)
  · have e : sQ d s = 0 := if_pos h
    rw [e]
    refine g2_ ?_
    exact ⟨_, rfl, le2_of [] ws_⟩
  · have e : sQ d s = (4 * ((s.a + s.b).fdiv 2 - d.a)).tdiv (d.b - d.a + 1) := if_neg h
    rw [e]
    refine g2_ ?_
    rw [bin_shr (by omega), show (2 : Int) ^ min (Int.toNat 1) IntKind.i64.bits = 2 from rfl]
    have hm : -2147483648 ≤ (s.a + s.b).fdiv 2 ∧ (s.a + s.b).fdiv 2 ≤ 2147483647 := by
      rw [Int.fdiv_eq_ediv_of_nonneg _ (by decide)]; omega
    generalize (s.a + s.b).fdiv 2 = m at hm
    refine g2_ ?_
    rw [bin_quo (by omega)]
    have hq : ((4 * (m - d.a)).tdiv (d.b - d.a + 1)).natAbs ≤ (4 * (m - d.a)).natAbs := by
      rw [Int.natAbs_tdiv]; exact Nat.div_le_self _ _
    generalize (4 * (m - d.a)).tdiv (d.b - d.a + 1) = q at hq
    refine ar_i64 (by omega) ?_
    refine g2_ ?_
    exact ⟨_, rfl, le2_of [] ws_⟩
end Go.Proofs.YtlaefellhnkfbaaGreat.V

set_option maxRecDepth 10000
namespace Go.Eng
def kAcc (dom f : List GSpan) (k : Nat) : Int := ((dom.zip f).take k).foldl (fun a x => 4 * a + sQ x.1 x.2) 0
def kKey (dom f : List GSpan) : UInt8 := UInt8.ofNat ((kAcc dom f (dom.zip f).length) % 256).toNat
theorem kAcc_succ {dom f : List GSpan} {k : Nat} (h1 : k < dom.length) (h2 : k < f.length) : kAcc dom f (k + 1) = 4 * kAcc dom f k + sQ dom[k] f[k] := by
  rw [kAcc, List.take_add_one, List.getElem?_eq_getElem (by simp; omega), List.foldl_append, List.getElem_zip]; rfl
theorem sQ_le {d s : GSpan} (hd : okS d) (hs : okS s) : (sQ d s).natAbs ≤ 34359738368 := by
  obtain ⟨a1, a2, a3, a4⟩ := hd
  obtain ⟨b1, b2, b3, b4⟩ := hs
  unfold sQ
  split
  · decide
  · rw [Int.natAbs_tdiv]
    have hm : -2147483648 ≤ (s.a + s.b).fdiv 2 ∧ (s.a + s.b).fdiv 2 ≤ 2147483647 := by
      rw [Int.fdiv_eq_ediv_of_nonneg _ (by decide)]; omega
    generalize (s.a + s.b).fdiv 2 = m at hm
    exact Nat.le_trans (Nat.div_le_self _ _) (by omega)
theorem kAcc_le {dom f : List GSpan} (hd : ∀ s ∈ dom, okS s) (hf : ∀ s ∈ f, okS s) : ∀ k, k ≤ 4 → (kAcc dom f k).natAbs ≤ 34359738368 * (if k = 0 then 0 else if k = 1 then 1 else if k = 2 then 5 else if k = 3 then 21 else 85)
  | 0, _ => by simp [kAcc]
  | k + 1, h => by
    have ih := kAcc_le hd hf k (by omega)
    by_cases hk : k < dom.length ∧ k < f.length
    · rw [kAcc_succ hk.1 hk.2]
      have hq := sQ_le (hd _ (List.getElem_mem hk.1)) (hf _ (List.getElem_mem hk.2))
      generalize sQ dom[k] f[k] = q at hq
      generalize kAcc dom f k = a at ih
      match k, h with
      | 0, _ => simp at ih ⊢; omega
      | 1, _ => simp at ih ⊢; omega
      | 2, _ => simp at ih ⊢; omega
      | 3, _ => simp at ih ⊢; omega
    · have : kAcc dom f (k + 1) = kAcc dom f k := by
        rw [kAcc, kAcc, List.take_of_length_le (by simp; omega), List.take_of_length_le (by simp; omega)]
      rw [this]
      refine Nat.le_trans ih ?_
      match k, h with
      | 0, _ => decide
      | 1, _ => decide
      | 2, _ => decide
      | 3, _ => decide
theorem ar_u8m {a : Int} {K : Value → Prop} : AtArith .u8 a K = K (.int .u8 ((UInt8.ofNat (a % 256).toNat).toNat : Nat)) := by
  unfold AtArith
  have : IntKind.u8.wrap a = ((UInt8.ofNat (a % 256).toNat).toNat : Nat) := by
    rw [UInt8.toNat_ofNat']
    show a % 256 = _
    omega
  rw [this]
end Go.Eng
namespace Go.Proofs.YtlaefellhnkfbaaGreat.V
open Go.Eng
attribute [local go_sem] encS plR
theorem key_con (dom f : List GSpan) (h4 : dom.length ≤ 4) (hf4 : f.length ≤ 1000000000) (hd : ∀ s ∈ dom, okS s) (hf : ∀ s ∈ f, okS s) : Con2 Tryz.prog 222 [fzS dom, fzS f] (· = plR (.v (.int .u8 (kKey dom f).toNat))) := by
  refine con2_of Ty.mixed Tryz.func222 rfl (by kernel_rfl) (by kernel_rfl) rfl [.tmp 4] rfl ?_
  refine g2_ ?_
  refine g2_ ?_
  obtain ⟨n, hn⟩ : ∃ n, n = (dom.zip f).length := ⟨_, rfl⟩
  have hnm : n = min dom.length f.length := by rw [hn, List.length_zip]
  rw [show (if (f.length : Int) < (dom.length : Int) then (f.length : Int) else (dom.length : Int)) = (n : Int) by split <;> omega]
  refine vc2_rangeA n (fun k => [(5, .d (.v (.int .i64 (kAcc dom f k))))]) (fun _ => []) (fun k => []) 0 (fun _ => True) (le2_of [] ?_) trivial (fun g k => by simp -implicitDefEqProofs only [go_sem, vc2_blk]) (by omega) (fun g => by simp -implicitDefEqProofs only [go_sem, vc2_blk]) (fun k hk _ => ?_) (fun _ => ?_)
  · refine g2_ ?_
    exact ⟨rfl, rfl, rfl, rfl⟩
  · have hk1 : k < dom.length := by omega
    have hk2 : k < f.length := by omega
    have hs := kAcc_succ hk1 hk2
    have hb := kAcc_le hd hf k (by omega)
    have hq := quarter_con dom[k] f[k] (hd _ (List.getElem_mem hk1)) (hf _ (List.getElem_mem hk2))
    have hql := sQ_le (hd _ (List.getElem_mem hk1)) (hf _ (List.getElem_mem hk2))
    have hb2 : (kAcc dom f k).natAbs ≤ 34359738368 * 85 := Nat.le_trans hb (by split; omega; split; omega; split; omega; split <;> omega)
    refine g2_ ?_
    refine .inl ⟨[(0, false), (2, false), (3, false), (6, false), (7, false), (1, false), (4, false), (8, false), (5, false), (9, false), (10, false), (11, false), (12, false)], by kernel_rfl, ?_⟩
    repeat first | simp -implicitDefEqProofs only [go_sem, vc2_blk, mapE_get hk1, mapE_get hk2] | with_reducible first | refine gl_ ?_ | refine ga_ ?_ | refine gn_ ?_
    refine CallS.eq hq ws_ (.inl ws_) ?_
    refine g2_ ?_
    refine ⟨k + 1, le2_of [] ?_, rfl⟩
    repeat first | simp -implicitDefEqProofs only [go_sem, vc2_blk, hs] | with_reducible refine gl_ ?_
  · refine g2_ ?_
    rw [ar_u8m]
    refine g2_ ?_
    exact ⟨_, rfl, le2_of [] (by simp -implicitDefEqProofs only [go_sem, vc2_blk, kKey, ← hn])⟩
end Go.Proofs.YtlaefellhnkfbaaGreat.V

set_option maxRecDepth 10000
namespace Go.Eng
def rPlace (dom : List GSpan) (d : GDesc) : UInt16 := UInt16.ofNat ((kKey dom d.filter).toNat * 256 + d.node.toNat)
end Go.Eng
namespace Go.Proofs.YtlaefellhnkfbaaGreat.V
open Go.Eng
attribute [local go_sem] encS encDD fzD plR
theorem place2_con (dom : List GSpan) (d : GDesc) (h4 : dom.length ≤ 4) (hf4 : d.filter.length ≤ 1000000000) (hd : ∀ s ∈ dom, okS s) (hf : ∀ s ∈ d.filter, okS s) : Con2 Tryz.prog 176 [fzS dom, .agg (encDD d)] (· = plR (.v (.int .u16 (rPlace dom d).toNat))) := by
  have hk := key_con dom d.filter h4 hf4 hd hf
  have k1 := (kKey dom d.filter).toNat_lt
  have k2 := d.node.toNat_lt
  have e : ((rPlace dom d).toNat : Int) = ((kKey dom d.filter).toNat : Int) * 256 + (d.node.toNat : Int) := by
    rw [rPlace, UInt16.toNat_ofNat']; omega
  rw [e]
  generalize kKey dom d.filter = key at hk k1
  refine con2_of Ty.mixed Tryz.func176 rfl (by kernel_rfl) (by kernel_rfl) rfl [.tmp 4] rfl ?_
  refine g2_ ?_
  refine g2_ ?_
  refine .inl ⟨[(0, false), (1, false), (6, false), (2, false), (7, false), (8, false), (3, true), (4, false), (5, false), (9, false), (10, false)], by kernel_rfl, ?_⟩
  refine g2_ ?_
  refine ar_u16 (by omega) ?_
  refine g2_ ?_
  refine CallS.eq hk ws_ (.inl ws_) ?_
  refine g2_ ?_
  refine ar_u16 (by omega) ?_
  refine g2_ ?_
  refine ar_u16 (by omega) ?_
  refine g2_ ?_
  refine ar_u16 (by omega) ?_
  refine g2_ ?_
  exact ⟨_, rfl, le2_of [] ws_⟩
end Go.Proofs.YtlaefellhnkfbaaGreat.V
