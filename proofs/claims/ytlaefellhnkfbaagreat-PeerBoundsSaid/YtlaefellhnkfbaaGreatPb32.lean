/-
 bF 32 of the proof of Pb: the engine and the walks, in their order.
-/
import Derived.Test.YtlaefellhnkfbaaGreatPb15
import Derived.Test.YtlaefellhnkfbaaGreatPb27
import Derived.Test.YtlaefellhnkfbaaGreatPb28
import Derived.Test.YtlaefellhnkfbaaGreatPb29
import Derived.Test.YtlaefellhnkfbaaGreatPb31
set_option linter.unusedSimpArgs false
set_option linter.unusedVariables false
set_option maxRecDepth 10000
namespace Go.Eng
def ok8 (l : List GDesc) : Prop := l.length ≤ 100 ∧ ∀ d ∈ l, d.filter.length ≤ 8
theorem ok8.toDs {l : List GDesc} (h : ok8 l) : bO l := ⟨by have := h.1; omega, fun d hd => by have := h.2 d hd; omega⟩
end Go.Eng
namespace Go.Proofs.YtlaefellhnkfbaaGreat.V
open Go.Eng
attribute [local go_sem] aP ah fzD plR bB iD z8 z16 z32 z64 List.map_cons List.map_nil
theorem iP (l : List GDesc) (hu : Up cm l) (d : GDesc) (self : UInt8) (room : Int) (hl : bO l) (hd : d.filter.length ≤ 1000) : Con2 Tryz.prog 210 [fzD l, .agg (ah d), .v (.int .u8 self.toNat), .v (.int .i64 room)] (· = plR (.tup [fzD (cP l d self room).1, .v (.bool (cP l d self room).2)])) :=
 Con2.emb (afH l hu d self room hl hd) (by simp [fzD, embD, embDs, embC, lk, rfD, bS]) rfl
theorem agX {l : List GDesc} {d : GDesc} {self : UInt8} {room : Int} (h : (cP l d self room).2 = false) : (cP l d self room).1 = l := by
 unfold cP at h ⊢
 repeat' split
 all_goals first | rfl | (simp_all; done)
theorem yL {self : UInt8} {room : Int} : ∀ (r v : List GDesc), Vw self v → (∀ x ∈ v, x.filter.length ≤ 8) → (∀ x ∈ r, x.filter.length ≤ 8) → Vw self (dF self room v r) ∧ (∀ x ∈ dF self room v r, x.filter.length ≤ 8) ∧ (dF self room v r).length ≤ v.length + r.length
 | [], v, h1, h2, _ => ⟨h1, h2, Nat.le_refl _⟩
 | d :: r, v, h1, h2, h3 => by
  obtain ⟨g1, g2, g3⟩ := yL (self := self) (room := room) r (cP v d self room).1 (l5 h1 d room) (fun x hx => (put_mem x hx).elim (h2 x) (fun e => e ▸ h3 d List.mem_cons_self)) (fun x hx => h3 x (List.mem_cons_of_mem _ hx))
  have := gr (self := self) (l := v) d room
  exact ⟨g1, g2, by rw [dF, List.length_cons]; omega⟩
theorem aiz (l got : List GDesc) (self : UInt8) (room : Int) (hl : ok8 l) (hg : ok8 got) (hv : Vw self l) : Con2 Tryz.prog 164 [fzD l, fzD got, .v (.int .u8 self.toNat), .v (.int .i64 room)] (· = plR (fzD (dF self room l got))) := by
 refine Con2.ofEmb ?_
 obtain ⟨V, hV⟩ : ∃ V : Nat → List GDesc, V = fun k => dF self room l (got.take k) := ⟨_, rfl⟩
 have hV0 : V 0 = l := by rw [hV]; rfl
 have hVe : V got.length = dF self room l got := by rw [hV]; simp only; rw [List.take_length]
 have hVn : ∀ k (hk : k < got.length), V (k + 1) = (cP (V k) got[k] self room).1 := fun k hk => by
  rw [hV]; simp only
  rw [List.take_add_one, List.getElem?_eq_getElem hk]
  exact aag self room _ _ _
 have hVk : ∀ k, Vw self (V k) ∧ bO (V k) := fun k => by
  rw [hV]
  obtain ⟨g1, g2, g3⟩ := yL (self := self) (room := room) (got.take k) l hv hl.2 (fun x hx => hg.2 x (List.mem_of_mem_take hx))
  have h1 := hl.1
  have h2 := hg.1
  rw [List.length_take] at g3
  exact ⟨g1, by show (dF self room l (got.take k)).length ≤ 1000; omega, fun d hd => by have := g2 d hd; omega⟩
 have hg1 := hg.1
 rw [← hVe]
 clear hV hVe
 refine af Ty.mixed Tryz.func164 rfl (by kernel_rfl) (by kernel_rfl) rfl [.tmp 8] rfl ?_
 refine g2_ ?_
 refine CallS.eqW (aO l hl.toDs) ws_ (.inl ws_) ?_
 repeat first | simp -implicitDefEqProofs only [go_sem, aa, List.length_map] | with_reducible first | refine gl_ ?_ | refine ga_ ?_ | refine gn_ ?_
 refine ax got.length (fun k => [(9, .d (fzD (V k)))]) (fun _ => []) (fun k => []) 0 (fun k => True) (ac [] ?_) trivial (fun g k => by first | rfl | ((try (with_reducible refine ab ?_)); simp -implicitDefEqProofs only [go_sem, aa]; repeat ((with_reducible refine ab ?_); simp -implicitDefEqProofs only [go_sem, aa]))) (by omega) (fun g => by simp -implicitDefEqProofs only [go_sem, aa]) (fun k hk hF => ?_) (fun hF => ?_)
 ·repeat first | simp -implicitDefEqProofs only [go_sem, aa, hV0] | with_reducible refine gl_ ?_
  first | done | rfl | exact ⟨rfl, rfl⟩ | trace_state
 ·have kp := iP (V k) (hVk k).1.2 got[k] self room (hVk k).2 (by have := hg.2 _ (List.getElem_mem hk); omega)
  have hn := hVn k hk
  repeat first | simp -implicitDefEqProofs only [go_sem, aa, au hk] | with_reducible first | refine gl_ ?_ | refine ga_ ?_ | refine gn_ ?_
  refine CallS.eqW kp ws_ (.inl ws_) ?_
  refine g2_ ?_
  cases hP : (cP (V k) got[k] self room).2 with
  | true =>
   refine g2_ ?_
   refine ⟨k + 1, ac [] ?_, rfl⟩
   repeat first | simp -implicitDefEqProofs only [go_sem, aa, hn] | with_reducible refine gl_ ?_
  | false =>
   refine g2_ ?_
   rw [agX hP] at hn
   refine ⟨k + 1, ac [] ?_, rfl⟩
   repeat first | simp -implicitDefEqProofs only [go_sem, aa, hn] | with_reducible refine gl_ ?_
 ·refine g2_ ?_
  refine ae ?_ rfl
  exact ws_
theorem ag9 (l : List GDesc) (d : GDesc) (self : UInt8) (room : Int) (hl : ok8 l) (hd : d.filter.length ≤ 8) (hv : Vw self l) : Con2 Tryz.prog 162 [fzD l, .agg (ah d), .v (.int .u8 self.toNat), .v (.int .i64 room)] (· = plR (fzD (eM l d self room))) := by
 refine Con2.ofEmb ?_
 have k1 := iP l hv.2 d self room hl.toDs (by omega)
 have k2 := aO l hl.toDs
 have k3 := ud l hv.2 d.node (by have := hl.1; omega)
 have k4 := nZ l (by have := hl.1; omega)
 have hl1 := hl.1
 obtain ⟨R, hR⟩ : ∃ R, eM l d self room = R := ⟨_, rfl⟩
 rw [hR]
 unfold eM at hR
 refine af Ty.mixed Tryz.func162 rfl (by kernel_rfl) (by kernel_rfl) rfl [.tmp 8] rfl ?_
 refine g2_ ?_
 refine g2_ ?_
 refine CallS.inline Ty.mixed Tryz.func209 rfl (by kernel_rfl) (by kernel_rfl) rfl [.tmp 6, .tmp 7] rfl (Vc2.of ?_)
 refine g2_ ?_
 refine g2_ ?_
 refine CallS.eqW k1 ws_ (.inl ws_) ?_
 refine g2_ ?_
 cases hP : (cP l d self room).2 with
 | true =>
  rw [if_pos hP] at hR
  subst hR
  refine g2_ ?_
  refine ae ?_ rfl
  exact ws_
 | false =>
 rw [if_neg (by rw [hP]; decide)] at hR
 repeat first | simp -implicitDefEqProofs only [go_sem, aa, List.length_map] | with_reducible first | refine gl_ ?_ | refine ga_ ?_ | refine gn_ ?_
 by_cases hl0 : l = []
 ·have hR2 : R = l := by rw [← hR, hl0]; split <;> rfl
  rw [hR2]
  rw [show ((l.length : Int) == 0) = true by rw [hl0]; rfl]
  refine g2_ ?_
  refine CallS.eqW k2 ws_ (.inl ws_) ?_
  refine g2_ ?_
  refine ae ?_ rfl
  exact ws_
 have hlp := List.length_pos_iff.2 hl0
 rw [show ((l.length : Int) == 0) = false from beq_eq_false_iff_ne.2 (by omega)]
 refine g2_ ?_
 rw [co]
 by_cases h1 : d.node = self
 ·rw [if_pos (.inl h1)] at hR
  subst hR
  rw [decide_eq_true h1]
  refine g2_ ?_
  refine CallS.eqW k2 ws_ (.inl ws_) ?_
  refine g2_ ?_
  refine ae ?_ rfl
  exact ws_
 rw [decide_eq_false h1]
 refine g2_ ?_
 rw [m_]
 by_cases h2 : d.inc = 0
 ·rw [if_pos (.inr (.inl h2))] at hR
  subst hR
  rw [decide_eq_true h2]
  refine g2_ ?_
  refine CallS.eqW k2 ws_ (.inl ws_) ?_
  refine g2_ ?_
  refine ae ?_ rfl
  exact ws_
 rw [decide_eq_false h2]
 refine g2_ ?_
 refine CallS.eqW k3 ws_ (.inl ws_) ?_
 refine g2_ ?_
 by_cases h3 : cC l d.node = none
 ·rw [if_neg (fun h => h.elim h1 fun h => h.elim h2 fun h => h h3)] at hR
  rw [decide_eq_false (show ¬ (0 : Int) ≤ kD l d.node by have := find_neg.2 h3; omega)]
  refine g2_ ?_
  refine CallS.eqW k4 ws_ (.inl ws_) ?_
  unfold lr
  cases hO : xB l with
  | none =>
   rw [hO] at hR
   simp only at hR
   subst hR
   refine g2_ ?_
   rw [show decide ((-1 : Int) < 0) = true from rfl]
   refine g2_ ?_
   refine CallS.eqW k2 ws_ (.inl ws_) ?_
   refine g2_ ?_
   refine ae ?_ rfl
   exact ws_
  | some i =>
   obtain ⟨hi, _⟩ := List.findIdx?_eq_some_iff_getElem.1 hO
   rw [hO] at hR
   simp only at hR
   rw [List.getElem?_eq_getElem hi] at hR
   simp only at hR
   have hd8 : ∀ x ∈ bb l l[i].node, x.filter.length ≤ 8 := fun x hx => hl.2 x (List.mem_filter.1 hx).1
   have hdl : (bb l l[i].node).length ≤ l.length := List.length_filter_le _ _
   have k5 : Con2 Tryz.prog 60 [fzD l, .v (.int .u8 l[i].node.toNat)] (· = plR (fzD (bb l l[i].node))) := hZ (oO l hv.2 _ hl.toDs)
   have k6 := iP (bb l l[i].node) (m8 hv _).2 d self l.length ⟨by omega, fun x hx => by have := hd8 x hx; omega⟩ (by omega)
   subst hR
   repeat first | simp -implicitDefEqProofs only [go_sem, aa, au hi] | with_reducible first | refine gl_ ?_ | refine ga_ ?_ | refine gn_ ?_
   generalize l[i] = o at k5 k6 ⊢
   refine CallS.eqW k5 ws_ (.inl ws_) ?_
   repeat first | simp -implicitDefEqProofs only [go_sem, aa, List.length_map] | with_reducible first | refine gl_ ?_ | refine ga_ ?_ | refine gn_ ?_
   refine CallS.inline Ty.mixed Tryz.func209 rfl (by kernel_rfl) (by kernel_rfl) rfl [.tmp 6, .tmp 7] rfl (Vc2.of ?_)
   refine g2_ ?_
   refine g2_ ?_
   refine CallS.eqW k6 ws_ (.inl ws_) ?_
   refine g2_ ?_
   refine ae ?_ rfl
   exact ws_
 ·rw [if_pos (.inr (.inr h3))] at hR
  subst hR
  rw [decide_eq_true (show (0 : Int) ≤ kD l d.node from Int.not_lt.1 (fun h => h3 (find_neg.1 h)))]
  refine g2_ ?_
  refine CallS.eqW k2 ws_ (.inl ws_) ?_
  refine g2_ ?_
  refine ae ?_ rfl
  exact ws_
theorem ahM (node left : UInt8) (l : List GDesc) (hl : ok8 l) : Con2 Tryz.prog 126 [.v (.int .u8 node.toNat), .v (.int .u8 left.toNat), fzD l] (· = plR (.agg (iD (j7 node left l)))) := by
 refine Con2.ofEmb ?_
 refine af Ty.mixed Tryz.func126 rfl (by kernel_rfl) (by kernel_rfl) rfl [.cell 6 38] rfl ?_
 refine g2_ ?_
 repeat first | simp -implicitDefEqProofs only [go_sem, aa, xQ] | with_reducible first | refine gl_ ?_ | refine ga_ ?_ | refine gn_ ?_
 refine CallS.eqW (aO l hl.toDs) ws_ (.inl ws_) ?_
 repeat first | simp -implicitDefEqProofs only [go_sem, aa, xQ] | with_reducible first | refine gl_ ?_ | refine ga_ ?_ | refine gn_ ?_
 refine ae ?_ rfl
 repeat first | simp -implicitDefEqProofs only [go_sem, aa, j7, xQ] | with_reducible refine gl_ ?_
theorem ai7 (w : GW) (hw : ok8 w.sent) : Con2 Tryz.prog 59 [.agg (iD w)] (· = plR (.tup [.agg (iD (fw w).1), .v (.int .u8 (fw w).2.1.toNat), .v (.bool (fw w).2.2)])) := by
 refine Con2.ofEmb ?_
 obtain ⟨R, hR⟩ : ∃ R, fw w = R := ⟨_, rfl⟩
 rw [hR]
 unfold fw at hR
 refine af Ty.mixed Tryz.func59 rfl (by kernel_rfl) (by kernel_rfl) rfl [.cell 2 38, .tmp 3, .tmp 4] rfl ?_
 refine g2_ ?_
 refine g2_ ?_
 cases h1 : w.some with
 | false =>
  rw [h1, if_neg (by decide)] at hR
  subst hR
  refine g2_ ?_
  refine ae ?_ rfl
  repeat first | simp -implicitDefEqProofs only [go_sem, aa, qb] | with_reducible refine gl_ ?_
 | true =>
  rw [h1, if_pos rfl] at hR
  refine g2_ ?_
  by_cases h2 : w.left ≤ 1
  ·rw [if_pos h2] at hR
   subst hR
   rw [decide_eq_true (show (w.left.toNat : Int) ≤ 1 by have := UInt8.le_iff_toNat_le.1 h2; have e : (1 : UInt8).toNat = 1 := rfl; omega)]
   refine g2_ ?_
   refine .inr (.inr (.inl ⟨oF [0, 1, 2] (oT 3 (oF [4, 5] [])), [2], by kernel_rfl, ?_⟩))
   refine g2_ ?_
   refine ae ?_ rfl
   repeat first | simp -implicitDefEqProofs only [go_sem, aa, qb] | with_reducible refine gl_ ?_
  ·rw [if_neg h2] at hR
   subst hR
   have e : (1 : UInt8).toNat = 1 := rfl
   have h3 : ¬ (w.left.toNat : Int) ≤ 1 := fun h => h2 (UInt8.le_iff_toNat_le.2 (by omega))
   rw [decide_eq_false h3]
   have h4 : (w.left.toNat : Int) - 1 = ((w.left - 1).toNat : Int) := by
    rw [UInt8.toNat_sub_of_le _ _ (UInt8.le_iff_toNat_le.2 (by omega))]
    omega
   have hl9 := w.left.toNat_lt
   refine g2_ ?_
   refine jF (by omega) ?_
   repeat first | simp -implicitDefEqProofs only [go_sem, aa, h4] | with_reducible first | refine gl_ ?_ | refine ga_ ?_ | refine gn_ ?_
   refine CallS.eqW (aO w.sent hw.toDs) ws_ (.inl ws_) ?_
   refine g2_ ?_
   refine ae ?_ rfl
   exact ws_
theorem acu (w : GW) (frm : UInt8) (hw : ok8 w.sent) : Con2 Tryz.prog 167 [.agg (iD w), .v (.int .u8 frm.toNat)] (· = plR (.tup [.agg (iD (fO w frm).1), fzD (fO w frm).2.1, .v (.bool (fO w frm).2.2)])) := by
 refine Con2.ofEmb ?_
 obtain ⟨R, hR⟩ : ∃ R, fO w frm = R := ⟨_, rfl⟩
 rw [hR]
 unfold fO at hR
 refine af Ty.mixed Tryz.func167 rfl (by kernel_rfl) (by kernel_rfl) rfl [.cell 4 38, .tmp 5, .tmp 6] rfl ?_
 refine g2_ ?_
 refine g2_ ?_
 refine CallS.eqW (aO w.sent hw.toDs) ws_ (.inl ws_) ?_
 refine g2_ ?_
 cases h1 : w.some with
 | false =>
  rw [if_neg (fun h => by rw [h1] at h; cases h.1)] at hR
  subst hR
  refine g2_ ?_
  refine ae ?_ rfl
  repeat first | simp -implicitDefEqProofs only [go_sem, aa, h1] | with_reducible refine gl_ ?_
 | true =>
  refine g2_ ?_
  rw [co]
  by_cases h2 : w.node = frm
  ·rw [if_pos ⟨h1, h2⟩] at hR
   subst hR
   rw [decide_eq_true h2]
   refine g2_ ?_
   refine ae ?_ rfl
   repeat first | simp -implicitDefEqProofs only [go_sem, aa, qb] | with_reducible refine gl_ ?_
  ·rw [if_neg (fun h => h2 h.2)] at hR
   subst hR
   rw [decide_eq_false h2]
   refine g2_ ?_
   refine ae ?_ rfl
   repeat first | simp -implicitDefEqProofs only [go_sem, aa, h1] | with_reducible refine gl_ ?_
def aW (x : UInt32) : List DV := [.v (.int .u32 x.toNat)]
def ft (l : List GDesc) (self : GDesc) (many : Int) (dr : List UInt32) : UInt8 × List GDesc × Bool :=
 match xB l with
 | some i => match l[i]? with
  | some o => if 1 ≤ many then (o.node, ag3 l self many dr o.node, true) else (0, [], false)
  | none => (0, [], false)
 | none => (0, [], false)
end Go.Proofs.YtlaefellhnkfbaaGreat.V

namespace Go.Eng
theorem ip {P : Program} {Q : Exit → DS → Prop} {ρ0 ρ : List (Nat × DSV)} {σ : List (Nat × dL)} {H : List (Nat × Row)} {nx nb : Nat} {γ : Type} {body : Code} {id id2 r1 r2 ti tc tj : Nat} {T T2 T3 T4 y1 y2 y3 : TypeId} {p1 p2 p3 : String} {e1 e2 e3 : Array Edge} {yn : Operand}
  (n : Nat) (pre : γ → List (Nat × DSV)) (loc : γ → List (Nat × dL)) (Hf : γ → List (Nat × Row)) (nx1 : Nat) (F : Nat → γ → Prop) (g0 : γ)
  (hle : leD (stR ti pre ρ loc Hf nx1 nb 0 g0) ⟨ρ0, σ, H, nx, nb⟩) (hF : F 0 g0)
  (hn : ∀ g k, (stR ti pre ρ loc Hf nx1 nb k g).sv yn = .d (.v (.int .i64 n))) (hmax : n ≤ 9223372036854775807) (hj : ∀ g, lk (pre g ++ ρ) tj = none)
  (hbody : ∀ k g, k < n → F k g → Vc2 P body (fm (stR ti pre ρ loc Hf nx1 nb) F k id id2 Q) ⟨(tc, .d (.v (.bool true))) :: (ti, .d (.v (.int .i64 k))) :: (pre g ++ ρ), loc g, Hf g, nx1, nb⟩)
  (hend : ∀ g, F n g → Q .normal ⟨(tc, .d (.v (.bool false))) :: (ti, .d (.v (.int .i64 n))) :: (pre g ++ ρ), loc g, Hf g, nx1, nb⟩) :
  vc2 P (.block id (.loop (.seq (.region r1 [⟨some tc, .binOp .lss T (.tmp ti) yn T2, y1, p1, e1, none⟩].toArray false)
   (.seq (.cond (.tmp tc) .skip (.exit id)) (.seq (.block id2 body)
    (.region r2 [⟨some tj, .binOp .add T3 (.tmp ti) (.const (.int .i64 1)) T4, y2, p2, e2, none⟩, ⟨some ti, .move (.tmp tj), y3, p3, e3, none⟩].toArray false)))))) Q ⟨ρ0, σ, H, nx, nb⟩ := by
 refine ⟨Nat × γ, fun x => stR ti pre ρ loc Hf nx1 nb x.1 x.2, fun x => x.1 ≤ n ∧ F x.1 x.2, fun x => n - x.1, ⟨(0, g0), hle, Nat.zero_le _, hF⟩, ?_⟩
 rintro ⟨k, g⟩ ⟨hk, hF1⟩
 simp only at hk hF1 ⊢
 have hlkti : (stR ti pre ρ loc Hf nx1 nb k g).sv (.tmp ti) = .d (.v (.int .i64 k)) := by
  show (lk ((ti, _) :: _) ti).getD DSV.unk = _
  rw [ao]; rfl
 refine Vc2.seq (Vc2.of ?_)
 rw [fF, dt, eF, kS, hlkti, hn g k, iH, nF, nc]
 refine ⟨rfl, ?_⟩
 show kV P _ _ .normal _
 refine Vc2.seq (Vc2.of ?_)
 rw [oD]
 have hc : (DS.put (stR ti pre ρ loc Hf nx1 nb k g) (some tc) (.d (.v (.bool (decide ((k : Int) < (n : Int))))))).sv (.tmp tc) = .d (.v (.bool (decide (k < n)))) := by
  show (lk ((tc, _) :: _) tc).getD DSV.unk = _
  rw [ao]
  have : decide ((k : Int) < (n : Int)) = decide (k < n) := by simp
  rw [this]; rfl
 rw [hc]
 have hdec : decide ((k : Int) < (n : Int)) = decide (k < n) := by simp
 by_cases hlt : k < n
 ·rw [show decide (k < n) = true from by simpa using hlt, gp, nR]
  show kV P _ _ .normal _
  refine Vc2.seq (Vc2.block (Vc2.mono ?_ ?_ (Q := fm (stR ti pre ρ loc Hf nx1 nb) F k id id2 Q)))
  ·intro e ds2 h
   have key : ∀ ds2, (∃ g', leD (stR ti pre ρ loc Hf nx1 nb k g') ds2 ∧ F (k + 1) g') → Vc2 P (.region r2 [⟨some tj, .binOp .add T3 (.tmp ti) (.const (.int .i64 1)) T4, y2, p2, e2, none⟩, ⟨some ti, .move (.tmp tj), y3, p3, e3, none⟩].toArray false)
     (fj (fun x : Nat × γ => stR ti pre ρ loc Hf nx1 nb x.1 x.2) (fun x => x.1 ≤ n ∧ F x.1 x.2) (fun x => n - x.1) (k, g) (bQ id Q)) ds2 := by
    rintro ds2 ⟨g', hle', hF'⟩
    refine Vc2.le hle' (Vc2.of ?_)
    have hti : (stR ti pre ρ loc Hf nx1 nb k g').sv (.tmp ti) = .d (.v (.int .i64 k)) := by
     show (lk ((ti, _) :: _) ti).getD DSV.unk = _
     rw [ao]; rfl
    rw [fF, dt, eF, kS, hti, lX, jV, iH, nF, m7, cx (by omega)]
    refine ⟨rfl, ?_⟩
    unfold PutD
    rw [dt, eF, o6, jY]
    refine ⟨(k + 1, g'), ?_, ⟨hlt, hF'⟩, by simp; omega⟩
    have htj : (DS.put (stR ti pre ρ loc Hf nx1 nb k g') (some tj) (.d (.v (.int .i64 ((k : Int) + 1))))).sv (.tmp tj) = .d (.v (.int .i64 ((k : Int) + 1))) := by
     show (lk ((tj, _) :: _) tj).getD DSV.unk = _
     rw [ao]; rfl
    rw [htj]
    exact tH (ρ' := []) (hj g')
   cases e with
   | normal => exact key ds2 h
   | exit j =>
    simp only [fm] at h
    simp only [nh]
    cases hb : (j == id2) with
    | true => rw [hb] at h; simp only [cond_true] at h ⊢; exact key ds2 h
    | false => rw [hb] at h; simp only [cond_false] at h ⊢; exact h
   | ret => exact h
   | goto l => exact h
   | panic c => exact h
   | outgrown => exact h
  ·have h1 := hbody k g hlt hF1
   rw [hdec, show decide (k < n) = true from by simpa using hlt]
   exact h1
 ·have hkn : k = n := by omega
  subst hkn
  rw [show decide (k < k) = false from by simp, fB, nz]
  show bQ id Q (.exit id) _
  rw [ig, beq_self_eq_true, iS]
  refine .inl ?_
  rw [show decide ((k : Int) < (k : Int)) = false from by simp]
  exact hend g hF1
theorem iu {P : Program} {Q : Exit → DS → Prop} {ρ0 : List (Nat × DSV)} {σ : List (Nat × dL)} {H : List (Nat × Row)} {nx nb : Nat} {body : Code} {id id2 r1 r2 ti tc tj : Nat} {T T2 T3 T4 y1 y2 y3 : TypeId} {p1 p2 p3 : String} {e1 e2 e3 : Array Edge} {yn : Operand}
  (n : Nat) (ρ : List (Nat × DSV)) (pre : Nat → List (Nat × DSV)) (loc : Nat → List (Nat × dL)) (Hf : Nat → List (Nat × Row)) (nx1 : Nat) (F : Nat → Prop)
  (hle : leD ⟨(ti, .d (.v (.int .i64 (0 : Nat)))) :: (pre 0 ++ ρ), loc 0, Hf 0, nx1, nb⟩ ⟨ρ0, σ, H, nx, nb⟩) (hF : F 0)
  (hn : ∀ g k, (stR ti pre ρ loc Hf nx1 nb k g).sv yn = .d (.v (.int .i64 n))) (hmax : n ≤ 9223372036854775807) (hj : ∀ g, lk (pre g ++ ρ) tj = none)
  (hbody : ∀ k, k < n → F k → vc2 P body (fm (stR ti pre ρ loc Hf nx1 nb) (fun k g => g = k ∧ F k) k id id2 Q) ⟨(tc, .d (.v (.bool true))) :: (ti, .d (.v (.int .i64 k))) :: (pre k ++ ρ), loc k, Hf k, nx1, nb⟩)
  (hend : F n → Q .normal ⟨(tc, .d (.v (.bool false))) :: (ti, .d (.v (.int .i64 n))) :: (pre n ++ ρ), loc n, Hf n, nx1, nb⟩) :
  vc2 P (.block id (.loop (.seq (.region r1 [⟨some tc, .binOp .lss T (.tmp ti) yn T2, y1, p1, e1, none⟩].toArray false)
   (.seq (.cond (.tmp tc) .skip (.exit id)) (.seq (.block id2 body)
    (.region r2 [⟨some tj, .binOp .add T3 (.tmp ti) (.const (.int .i64 1)) T4, y2, p2, e2, none⟩, ⟨some ti, .move (.tmp tj), y3, p3, e3, none⟩].toArray false)))))) Q ⟨ρ0, σ, H, nx, nb⟩ :=
 ip (γ := Nat) n pre loc Hf nx1 (fun k g => g = k ∧ F k) 0 hle ⟨rfl, hF⟩ hn hmax hj (fun k g h1 h2 => Vc2.of (by obtain ⟨h2, h3⟩ := h2; subst h2; exact hbody _ h1 h3)) (fun g h => by obtain ⟨h2, h3⟩ := h; subst h2; exact hend h3)
end Go.Eng
