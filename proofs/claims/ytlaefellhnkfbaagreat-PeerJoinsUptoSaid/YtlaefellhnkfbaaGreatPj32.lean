/-
 Part 32 of the proof of Pj: the engine and the walks, in their order.
-/
import Derived.Test.YtlaefellhnkfbaaGreatPj15
import Derived.Test.YtlaefellhnkfbaaGreatPj27
import Derived.Test.YtlaefellhnkfbaaGreatPj28
import Derived.Test.YtlaefellhnkfbaaGreatPj29
import Derived.Test.YtlaefellhnkfbaaGreatPj31
set_option linter.unusedSimpArgs false
set_option linter.unusedVariables false
set_option maxRecDepth 10000
namespace Go.Eng
def ok8 (l : List GDesc) : Prop := l.length ≤ 1100000 ∧ ∀ d ∈ l, d.filter.length ≤ 8
theorem ok8.toDs {l : List GDesc} (h : ok8 l) : bZ l := ⟨by have := h.1; omega, fun d hd => by have := h.2 d hd; omega⟩
end Go.Eng
namespace Go.Proofs.YtlaefellhnkfbaaGreat.V
open Go.Eng
attribute [local go_sem] aU ah fzD plR bH i2 z8 z16 z32 z64 List.map_cons List.map_nil
theorem ja (l : List GDesc) (hu : Up cx l) (d : GDesc) (self : UInt8) (room : Int) (hl : bZ l) (hd : d.filter.length ≤ 4000000) : Con2 Tryz.prog 210 [fzD l, .agg (ah d), .v (.int .u8 self.toNat), .v (.int .i64 room)] (· = plR (.tup [fzD (bB l d self room).1, .v (.bool (bB l d self room).2)])) :=
 Con2.emb (ahF l hu d self room hl hd) (by simp [fzD, embD, embDs, embC, lk, rfD, cg]) rfl
theorem ahn {l : List GDesc} {d : GDesc} {self : UInt8} {room : Int} (h : (bB l d self room).2 = false) : (bB l d self room).1 = l := by
 unfold bB at h ⊢
 repeat' split
 all_goals first | rfl | (simp_all; done)
theorem aaQ {self : UInt8} {room : Int} : ∀ (r v : List GDesc), Vw self v → (∀ x ∈ v, x.filter.length ≤ 8) → (∀ x ∈ r, x.filter.length ≤ 8) → Vw self (cZ self room v r) ∧ (∀ x ∈ cZ self room v r, x.filter.length ≤ 8) ∧ (cZ self room v r).length ≤ v.length + r.length
 | [], v, h1, h2, _ => ⟨h1, h2, Nat.le_refl _⟩
 | d :: r, v, h1, h2, h3 => by
  obtain ⟨g1, g2, g3⟩ := aaQ (self := self) (room := room) r (bB v d self room).1 (mg h1 d room) (fun x hx => (put_mem x hx).elim (h2 x) (fun e => e ▸ h3 d List.mem_cons_self)) (fun x hx => h3 x (List.mem_cons_of_mem _ hx))
  have := gM (self := self) (l := v) d room
  exact ⟨g1, g2, by rw [cZ, List.length_cons]; omega⟩
theorem akH (l got : List GDesc) (self : UInt8) (room : Int) (hl : ok8 l) (hg : ok8 got) (hv : Vw self l) : Con2 Tryz.prog 164 [fzD l, fzD got, .v (.int .u8 self.toNat), .v (.int .i64 room)] (· = plR (fzD (cZ self room l got))) := by
 refine Con2.ofEmb ?_
 obtain ⟨V, hV⟩ : ∃ V : Nat → List GDesc, V = fun k => cZ self room l (got.take k) := ⟨_, rfl⟩
 have hV0 : V 0 = l := by rw [hV]; rfl
 have hVe : V got.length = cZ self room l got := by rw [hV]; simp only; rw [List.take_length]
 have hVn : ∀ k (hk : k < got.length), V (k + 1) = (bB (V k) got[k] self room).1 := fun k hk => by
  rw [hV]; simp only
  rw [List.take_add_one, List.getElem?_eq_getElem hk]
  exact acj self room _ _ _
 have hVk : ∀ k, Vw self (V k) ∧ bZ (V k) := fun k => by
  rw [hV]
  obtain ⟨g1, g2, g3⟩ := aaQ (self := self) (room := room) (got.take k) l hv hl.2 (fun x hx => hg.2 x (List.mem_of_mem_take hx))
  have h1 := hl.1
  have h2 := hg.1
  rw [List.length_take] at g3
  exact ⟨g1, by show (cZ self room l (got.take k)).length ≤ 4000000; omega, fun d hd => by have := g2 d hd; omega⟩
 have hg1 := hg.1
 rw [← hVe]
 clear hV hVe
 refine af Ty.mixed Tryz.func164 rfl (by kernel_rfl) (by kernel_rfl) rfl [.tmp 8] rfl ?_
 refine g2_ ?_
 refine cw_ (aS l hl.toDs) ?_
 refine gx_ ?_
 refine aB got.length (fun k => [(9, .d (fzD (V k)))]) (fun _ => []) (fun k => []) 0 (fun k => True) (ab [] ?_) trivial (fun g k => by first | rfl | (repeat first | simp -implicitDefEqProofs only [go_sem, aa] | with_reducible refine gl_ ?_)) (by omega) (fun g => by simp -implicitDefEqProofs only [go_sem, aa]) (fun k hk hF => ?_) (fun hF => ?_)
 ·repeat first | simp -implicitDefEqProofs only [go_sem, aa, hV0] | with_reducible refine gl_ ?_
  first | done | rfl | exact ⟨rfl, rfl⟩
 ·have kp := ja (V k) (hVk k).1.2 got[k] self room (hVk k).2 (by have := hg.2 _ (List.getElem_mem hk); omega)
  have hn := hVn k hk
  repeat first | simp -implicitDefEqProofs only [go_sem, aa, aw hk] | with_reducible first | refine gl_ ?_ | refine ga_ ?_ | refine gn_ ?_
  refine cw_ kp ?_
  refine g2_ ?_
  cases hP : (bB (V k) got[k] self room).2 with
  | true =>
   refine g2_ ?_
   refine ⟨k + 1, ab [] ?_, rfl⟩
   exact wf_ hn
  | false =>
   refine g2_ ?_
   rw [ahn hP] at hn
   refine ⟨k + 1, ab [] ?_, rfl⟩
   exact wf_ hn
 ·refine g2_ ?_
  refine ae ?_ rfl
  exact ws_
theorem aij (l : List GDesc) (d : GDesc) (self : UInt8) (room : Int) (hl : ok8 l) (hd : d.filter.length ≤ 8) (hv : Vw self l) : Con2 Tryz.prog 162 [fzD l, .agg (ah d), .v (.int .u8 self.toNat), .v (.int .i64 room)] (· = plR (fzD (db l d self room))) := by
 refine Con2.ofEmb ?_
 have k1 := ja l hv.2 d self room hl.toDs (by omega)
 have k2 := aS l hl.toDs
 have k3 := lz l hv.2 d.node (by have := hl.1; omega)
 have k4 := oK l (by have := hl.1; omega)
 have hl1 := hl.1
 obtain ⟨R, hR⟩ : ∃ R, db l d self room = R := ⟨_, rfl⟩
 rw [hR]
 unfold db at hR
 refine af Ty.mixed Tryz.func162 rfl (by kernel_rfl) (by kernel_rfl) rfl [.tmp 8] rfl ?_
 refine g2_ ?_
 refine g2_ ?_
 refine CallS.inline Ty.mixed Tryz.func209 rfl (by kernel_rfl) (by kernel_rfl) rfl [.tmp 6, .tmp 7] rfl (Vc2.of ?_)
 refine g2_ ?_
 refine g2_ ?_
 refine cw_ k1 ?_
 refine g2_ ?_
 cases hP : (bB l d self room).2 with
 | true =>
  rw [if_pos hP] at hR
  subst hR
  refine g2_ ?_
  refine ae ?_ rfl
  exact ws_
 | false =>
 rw [if_neg (by rw [hP]; decide)] at hR
 refine gx_ ?_
 by_cases hl0 : l = []
 ·have hR2 : R = l := by rw [← hR, hl0]; split <;> rfl
  rw [hR2]
  rw [show ((l.length : Int) == 0) = true by rw [hl0]; rfl]
  refine g2_ ?_
  refine cw_ k2 ?_
  refine g2_ ?_
  refine ae ?_ rfl
  exact ws_
 have hlp := List.length_pos_iff.2 hl0
 rw [show ((l.length : Int) == 0) = false from beq_eq_false_iff_ne.2 (by omega)]
 refine g2_ ?_
 rw [cM]
 by_cases h1 : d.node = self
 ·rw [if_pos (.inl h1)] at hR
  subst hR
  rw [decide_eq_true h1]
  refine g2_ ?_
  refine cw_ k2 ?_
  refine g2_ ?_
  refine ae ?_ rfl
  exact ws_
 rw [decide_eq_false h1]
 refine g2_ ?_
 rw [nY]
 by_cases h2 : d.inc = 0
 ·rw [if_pos (.inr (.inl h2))] at hR
  subst hR
  rw [decide_eq_true h2]
  refine g2_ ?_
  refine cw_ k2 ?_
  refine g2_ ?_
  refine ae ?_ rfl
  exact ws_
 rw [decide_eq_false h2]
 refine g2_ ?_
 refine cw_ k3 ?_
 refine g2_ ?_
 by_cases h3 : bX l d.node = none
 ·rw [if_neg (fun h => h.elim h1 fun h => h.elim h2 fun h => h h3)] at hR
  rw [decide_eq_false (show ¬ (0 : Int) ≤ gI l d.node by have := find_neg.2 h3; omega)]
  refine g2_ ?_
  refine cw_ k4 ?_
  unfold lP
  cases hO : o0 l with
  | none =>
   rw [hO] at hR
   simp only at hR
   subst hR
   refine g2_ ?_
   rw [show decide ((-1 : Int) < 0) = true from rfl]
   refine g2_ ?_
   refine cw_ k2 ?_
   refine g2_ ?_
   refine ae ?_ rfl
   exact ws_
  | some i =>
   obtain ⟨hi, _⟩ := List.findIdx?_eq_some_iff_getElem.1 hO
   rw [hO] at hR
   simp only at hR
   rw [List.getElem?_eq_getElem hi] at hR
   simp only at hR
   have hd8 : ∀ x ∈ bb l l[i].node, x.filter.length ≤ 8 := fun x hx => hl.2 x (List.mem_filter.1 hx).1
   have hdl : (bb l l[i].node).length ≤ l.length := List.length_filter_le _ _
   have k5 : Con2 Tryz.prog 60 [fzD l, .v (.int .u8 l[i].node.toNat)] (· = plR (fzD (bb l l[i].node))) := iG (p7 l hv.2 _ hl.toDs)
   have k6 := ja (bb l l[i].node) (nS hv _).2 d self l.length ⟨by omega, fun x hx => by have := hd8 x hx; omega⟩ (by omega)
   subst hR
   repeat first | simp -implicitDefEqProofs only [go_sem, aa, aw hi] | with_reducible first | refine gl_ ?_ | refine ga_ ?_ | refine gn_ ?_
   generalize l[i] = o at k5 k6 ⊢
   refine cw_ k5 ?_
   refine gx_ ?_
   refine CallS.inline Ty.mixed Tryz.func209 rfl (by kernel_rfl) (by kernel_rfl) rfl [.tmp 6, .tmp 7] rfl (Vc2.of ?_)
   refine g2_ ?_
   refine g2_ ?_
   refine cw_ k6 ?_
   refine g2_ ?_
   refine ae ?_ rfl
   exact ws_
 ·rw [if_pos (.inr (.inr h3))] at hR
  subst hR
  rw [decide_eq_true (show (0 : Int) ≤ gI l d.node from Int.not_lt.1 (fun h => h3 (find_neg.1 h)))]
  refine g2_ ?_
  refine cw_ k2 ?_
  refine g2_ ?_
  refine ae ?_ rfl
  exact ws_
theorem aiK (node left : UInt8) (l : List GDesc) (hl : ok8 l) : Con2 Tryz.prog 126 [.v (.int .u8 node.toNat), .v (.int .u8 left.toNat), fzD l] (· = plR (.agg (i2 (kB node left l)))) := by
 refine Con2.ofEmb ?_
 refine af Ty.mixed Tryz.func126 rfl (by kernel_rfl) (by kernel_rfl) rfl [.cell 6 38] rfl ?_
 refine g2_ ?_
 refine gf_ @yC ?_
 refine cw_ (aS l hl.toDs) ?_
 refine gf_ @yC ?_
 refine ae ?_ rfl
 repeat first | simp -implicitDefEqProofs only [go_sem, aa, kB, yC] | with_reducible refine gl_ ?_
theorem aka (w : GW) (hw : ok8 w.sent) : Con2 Tryz.prog 59 [.agg (i2 w)] (· = plR (.tup [.agg (i2 (fR w).1), .v (.int .u8 (fR w).2.1.toNat), .v (.bool (fR w).2.2)])) := by
 refine Con2.ofEmb ?_
 obtain ⟨R, hR⟩ : ∃ R, fR w = R := ⟨_, rfl⟩
 rw [hR]
 unfold fR at hR
 refine af Ty.mixed Tryz.func59 rfl (by kernel_rfl) (by kernel_rfl) rfl [.cell 2 38, .tmp 3, .tmp 4] rfl ?_
 refine g2_ ?_
 refine g2_ ?_
 cases h1 : w.some with
 | false =>
  rw [h1, if_neg (by decide)] at hR
  subst hR
  refine g2_ ?_
  refine ae ?_ rfl
  repeat first | simp -implicitDefEqProofs only [go_sem, aa, sa] | with_reducible refine gl_ ?_
 | true =>
  rw [h1, if_pos rfl] at hR
  refine g2_ ?_
  by_cases h2 : w.left ≤ 1
  ·rw [if_pos h2] at hR
   subst hR
   rw [decide_eq_true (show (w.left.toNat : Int) ≤ 1 by have := UInt8.le_iff_toNat_le.1 h2; have e : (1 : UInt8).toNat = 1 := rfl; omega)]
   refine g2_ ?_
   refine .inr (.inr (.inl ⟨oF [0, 1, 2] (oT 3 (oF [4, 5] [])), [2], by kernel_rfl, ?_⟩))
   refine g2_ ?_
   refine ae ?_ rfl
   repeat first | simp -implicitDefEqProofs only [go_sem, aa, sa] | with_reducible refine gl_ ?_
  ·rw [if_neg h2] at hR
   subst hR
   have e : (1 : UInt8).toNat = 1 := rfl
   have h3 : ¬ (w.left.toNat : Int) ≤ 1 := fun h => h2 (UInt8.le_iff_toNat_le.2 (by omega))
   rw [decide_eq_false h3]
   have h4 : (w.left.toNat : Int) - 1 = ((w.left - 1).toNat : Int) := by
    rw [UInt8.toNat_sub_of_le _ _ (UInt8.le_iff_toNat_le.2 (by omega))]
    omega
   have hl9 := w.left.toNat_lt
   refine g2_ ?_
   refine jg (by omega) ?_
   refine gf_ h4 ?_
   refine cw_ (aS w.sent hw.toDs) ?_
   refine g2_ ?_
   refine ae ?_ rfl
   exact ws_
theorem aeu (w : GW) (frm : UInt8) (hw : ok8 w.sent) : Con2 Tryz.prog 167 [.agg (i2 w), .v (.int .u8 frm.toNat)] (· = plR (.tup [.agg (i2 (gJ w frm).1), fzD (gJ w frm).2.1, .v (.bool (gJ w frm).2.2)])) := by
 refine Con2.ofEmb ?_
 obtain ⟨R, hR⟩ : ∃ R, gJ w frm = R := ⟨_, rfl⟩
 rw [hR]
 unfold gJ at hR
 refine af Ty.mixed Tryz.func167 rfl (by kernel_rfl) (by kernel_rfl) rfl [.cell 4 38, .tmp 5, .tmp 6] rfl ?_
 refine g2_ ?_
 refine g2_ ?_
 refine cw_ (aS w.sent hw.toDs) ?_
 refine g2_ ?_
 cases h1 : w.some with
 | false =>
  rw [if_neg (fun h => by rw [h1] at h; cases h.1)] at hR
  subst hR
  refine g2_ ?_
  refine ae ?_ rfl
  exact wf_ h1
 | true =>
  refine g2_ ?_
  rw [cM]
  by_cases h2 : w.node = frm
  ·rw [if_pos ⟨h1, h2⟩] at hR
   subst hR
   rw [decide_eq_true h2]
   refine g2_ ?_
   refine ae ?_ rfl
   repeat first | simp -implicitDefEqProofs only [go_sem, aa, sa] | with_reducible refine gl_ ?_
  ·rw [if_neg (fun h => h2 h.2)] at hR
   subst hR
   rw [decide_eq_false h2]
   refine g2_ ?_
   refine ae ?_ rfl
   exact wf_ h1
def aX (x : UInt32) : List DV := [.v (.int .u32 x.toNat)]
def fQ (l : List GDesc) (self : GDesc) (many : Int) (dr : List UInt32) : UInt8 × List GDesc × Bool :=
 match o0 l with
 | some i => match l[i]? with
  | some o => if 1 ≤ many then (o.node, aja l self many dr o.node, true) else (0, [], false)
  | none => (0, [], false)
 | none => (0, [], false)
end Go.Proofs.YtlaefellhnkfbaaGreat.V

namespace Go.Eng
theorem iJ {P : Program} {Q : Exit → DS → Prop} {ρ0 ρ : List (Nat × DSV)} {σ : List (Nat × d6)} {H : List (Nat × Row)} {nx nb : Nat} {γ : Type} {body : Code} {id id2 r1 r2 ti tc tj : Nat} {T T2 T3 T4 y1 y2 y3 : TypeId} {p1 p2 p3 : String} {e1 e2 e3 : Array Edge} {yn : Operand}
  (n : Nat) (pre : γ → List (Nat × DSV)) (loc : γ → List (Nat × d6)) (Hf : γ → List (Nat × Row)) (nx1 : Nat) (F : Nat → γ → Prop) (g0 : γ)
  (hle : leD (stR ti pre ρ loc Hf nx1 nb 0 g0) ⟨ρ0, σ, H, nx, nb⟩) (hF : F 0 g0)
  (hn : ∀ g k, (stR ti pre ρ loc Hf nx1 nb k g).sv yn = .d (.v (.int .i64 n))) (hmax : n ≤ 9223372036854775807) (hj : ∀ g, lk (pre g ++ ρ) tj = none)
  (hbody : ∀ k g, k < n → F k g → Vc2 P body (fO (stR ti pre ρ loc Hf nx1 nb) F k id id2 Q) ⟨(tc, .d (.v (.bool true))) :: (ti, .d (.v (.int .i64 k))) :: (pre g ++ ρ), loc g, Hf g, nx1, nb⟩)
  (hend : ∀ g, F n g → Q .normal ⟨(tc, .d (.v (.bool false))) :: (ti, .d (.v (.int .i64 n))) :: (pre g ++ ρ), loc g, Hf g, nx1, nb⟩) :
  vc2 P (.block id (.loop (.seq (.region r1 [⟨some tc, .binOp .lss T (.tmp ti) yn T2, y1, p1, e1, none⟩].toArray false)
   (.seq (.cond (.tmp tc) .skip (.exit id)) (.seq (.block id2 body)
    (.region r2 [⟨some tj, .binOp .add T3 (.tmp ti) (.const (.int .i64 1)) T4, y2, p2, e2, none⟩, ⟨some ti, .move (.tmp tj), y3, p3, e3, none⟩].toArray false)))))) Q ⟨ρ0, σ, H, nx, nb⟩ := by
 refine ⟨Nat × γ, fun x => stR ti pre ρ loc Hf nx1 nb x.1 x.2, fun x => x.1 ≤ n ∧ F x.1 x.2, fun x => n - x.1, ⟨(0, g0), hle, Nat.zero_le _, hF⟩, ?_⟩
 rintro ⟨k, g⟩ ⟨hk, hF1⟩
 simp only at hk hF1 ⊢
 have hlkti : (stR ti pre ρ loc Hf nx1 nb k g).sv (.tmp ti) = .d (.v (.int .i64 k)) := by
  show (lk ((ti, _) :: _) ti).getD DSV.unk = _
  rw [aq]; rfl
 refine Vc2.seq (Vc2.of ?_)
 rw [gd, dI, fg, l4, hlkti, hn g k, jd, oY, nN]
 refine ⟨rfl, ?_⟩
 show lZ P _ _ .normal _
 refine Vc2.seq (Vc2.of ?_)
 rw [o5]
 have hc : (DS.put (stR ti pre ρ loc Hf nx1 nb k g) (some tc) (.d (.v (.bool (decide ((k : Int) < (n : Int))))))).sv (.tmp tc) = .d (.v (.bool (decide (k < n)))) := by
  show (lk ((tc, _) :: _) tc).getD DSV.unk = _
  rw [aq]
  have : decide ((k : Int) < (n : Int)) = decide (k < n) := by simp
  rw [this]; rfl
 rw [hc]
 have hdec : decide ((k : Int) < (n : Int)) = decide (k < n) := by simp
 by_cases hlt : k < n
 ·rw [show decide (k < n) = true from by simpa using hlt, gP, oh]
  show lZ P _ _ .normal _
  refine Vc2.seq (Vc2.block (Vc2.mono ?_ ?_ (Q := fO (stR ti pre ρ loc Hf nx1 nb) F k id id2 Q)))
  ·intro e ds2 h
   have key : ∀ ds2, (∃ g', leD (stR ti pre ρ loc Hf nx1 nb k g') ds2 ∧ F (k + 1) g') → Vc2 P (.region r2 [⟨some tj, .binOp .add T3 (.tmp ti) (.const (.int .i64 1)) T4, y2, p2, e2, none⟩, ⟨some ti, .move (.tmp tj), y3, p3, e3, none⟩].toArray false)
     (fL (fun x : Nat × γ => stR ti pre ρ loc Hf nx1 nb x.1 x.2) (fun x => x.1 ≤ n ∧ F x.1 x.2) (fun x => n - x.1) (k, g) (cf id Q)) ds2 := by
    rintro ds2 ⟨g', hle', hF'⟩
    refine Vc2.le hle' (Vc2.of ?_)
    have hti : (stR ti pre ρ loc Hf nx1 nb k g').sv (.tmp ti) = .d (.v (.int .i64 k)) := by
     show (lk ((ti, _) :: _) ti).getD DSV.unk = _
     rw [aq]; rfl
    rw [gd, dI, fg, l4, hti, ma, kY, jd, oY, nR, cW (by omega)]
    refine ⟨rfl, ?_⟩
    unfold PutD
    rw [dI, fg, qb, kz]
    refine ⟨(k + 1, g'), ?_, ⟨hlt, hF'⟩, by simp; omega⟩
    have htj : (DS.put (stR ti pre ρ loc Hf nx1 nb k g') (some tj) (.d (.v (.int .i64 ((k : Int) + 1))))).sv (.tmp tj) = .d (.v (.int .i64 ((k : Int) + 1))) := by
     show (lk ((tj, _) :: _) tj).getD DSV.unk = _
     rw [aq]; rfl
    rw [htj]
    exact wN (ρ' := []) (hj g')
   cases e with
   | normal => exact key ds2 h
   | exit j =>
    simp only [fO] at h
    simp only [nV]
    cases hb : (j == id2) with
    | true => rw [hb] at h; simp only [cond_true] at h ⊢; exact key ds2 h
    | false => rw [hb] at h; simp only [cond_false] at h ⊢; exact h
   | ret => exact h
   | goto l => exact h
   | panic c => exact h
   | outgrown => exact h
  ·have h1 := hbody k g hlt hF1
   rw [hdec, show decide (k < n) = true from by simpa using hlt]
   exact h1
 ·have hkn : k = n := by omega
  subst hkn
  rw [show decide (k < k) = false from by simp, fU, o9]
  show cf id Q (.exit id) _
  rw [iS, beq_self_eq_true, jx]
  refine .inl ?_
  rw [show decide ((k : Int) < (k : Int)) = false from by simp]
  exact hend g hF1
theorem pY {P : Program} {Q : Exit → DS → Prop} {ρ0 : List (Nat × DSV)} {σ : List (Nat × d6)} {H : List (Nat × Row)} {nx nb : Nat} {body : Code} {id id2 r1 r2 ti tc tj : Nat} {T T2 T3 T4 y1 y2 y3 : TypeId} {p1 p2 p3 : String} {e1 e2 e3 : Array Edge} {yn : Operand}
  (n : Nat) (ρ : List (Nat × DSV)) (pre : Nat → List (Nat × DSV)) (loc : Nat → List (Nat × d6)) (Hf : Nat → List (Nat × Row)) (nx1 : Nat) (F : Nat → Prop)
  (hle : leD ⟨(ti, .d (.v (.int .i64 (0 : Nat)))) :: (pre 0 ++ ρ), loc 0, Hf 0, nx1, nb⟩ ⟨ρ0, σ, H, nx, nb⟩) (hF : F 0)
  (hn : ∀ g k, (stR ti pre ρ loc Hf nx1 nb k g).sv yn = .d (.v (.int .i64 n))) (hmax : n ≤ 9223372036854775807) (hj : ∀ g, lk (pre g ++ ρ) tj = none)
  (hbody : ∀ k, k < n → F k → vc2 P body (fO (stR ti pre ρ loc Hf nx1 nb) (fun k g => g = k ∧ F k) k id id2 Q) ⟨(tc, .d (.v (.bool true))) :: (ti, .d (.v (.int .i64 k))) :: (pre k ++ ρ), loc k, Hf k, nx1, nb⟩)
  (hend : F n → Q .normal ⟨(tc, .d (.v (.bool false))) :: (ti, .d (.v (.int .i64 n))) :: (pre n ++ ρ), loc n, Hf n, nx1, nb⟩) :
  vc2 P (.block id (.loop (.seq (.region r1 [⟨some tc, .binOp .lss T (.tmp ti) yn T2, y1, p1, e1, none⟩].toArray false)
   (.seq (.cond (.tmp tc) .skip (.exit id)) (.seq (.block id2 body)
    (.region r2 [⟨some tj, .binOp .add T3 (.tmp ti) (.const (.int .i64 1)) T4, y2, p2, e2, none⟩, ⟨some ti, .move (.tmp tj), y3, p3, e3, none⟩].toArray false)))))) Q ⟨ρ0, σ, H, nx, nb⟩ :=
 iJ (γ := Nat) n pre loc Hf nx1 (fun k g => g = k ∧ F k) 0 hle ⟨rfl, hF⟩ hn hmax hj (fun k g h1 h2 => Vc2.of (by obtain ⟨h2, h3⟩ := h2; subst h2; exact hbody _ h1 h3)) (fun g h => by obtain ⟨h2, h3⟩ := h; subst h2; exact hend h3)
end Go.Eng
