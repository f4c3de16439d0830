/-
 bF 20 of the proof of Pb: the engine and the walks, in their order.
-/
import Derived.Test.YtlaefellhnkfbaaGreatPb10
import Derived.Test.YtlaefellhnkfbaaGreatPb19
set_option linter.unusedSimpArgs false
set_option linter.unusedVariables false
set_option maxRecDepth 10000
namespace Go.Proofs.YtlaefellhnkfbaaGreat.V
open Go.Eng
attribute [local go_sem] GSpan.val GSpan.enc ael ah4 ahZ
theorem SameB.one {k b T : Nat} {cs cs' : List Value} {r : List (Nat × Eng.Loc)} : SameB ((k, ⟨b, cs, T⟩) :: r) ((k, ⟨b, cs', T⟩) :: r) := fun j => by
 by_cases e : k = j
 ·subst e; rw [ao]; exact ⟨_, ao .., rfl, rfl⟩
 ·rw [aj e, aj e]
  exact SameB.refl r j
theorem yp {P : Program} {f : FuncId} {args : List DV} {d : DV} {vs : List Value} {u : World} {v : Value} (h : Con2 P f args (· = plR d)) (ha : HVs u args noB vs) (hv : ∀ us β w, HV us d β w → w = v) : Con P f vs u (fun r _ => r = v) := by
 obtain ⟨h1, h2⟩ := h u vs ha
 refine ⟨h1, fun w hw => (h2 w hw).mono ?_⟩
 rintro e w' ⟨r, u', rfl, h3, h4, x, rfl, β, us, s, hr, hs⟩
 refine ⟨r, u', rfl, h3, h4, ?_⟩
 obtain ⟨w, e, hw⟩ := hr.slot 0
 rw [hs] at e
 cases e
 exact hv _ _ _ hw
theorem qN (p q : Option Addr) (n c m k : Nat) (u : World) : Con Tryz.prog 154 [.slice p n c, .slice q m k] u (fun r u' => ∃ b1 b2, r = .func (.func 206) #[] #[.pointer (some ⟨b1, 0, none⟩), .pointer (some ⟨b2, 0, none⟩)] ∧ CellsAt u' ⟨b1, 0, none⟩ [.slice p n c] ∧ CellsAt u' ⟨b2, 0, none⟩ [.slice q m k]) := by
 refine ik Ty.mixed Tryz.func154 rfl (by kernel_rfl) (by kernel_rfl) rfl [.tmp 4] rfl ?_
 refine vs_ ?_
 intro b b' u1 g1 g2 _ g3 _ u2 g4 _ _ g5 _
 have at1 : ∀ {u : World} {b T : Nat} {v : Value}, u.heap[b]? = some (.cells #[v] T (0, 0)) → CellsAt u ⟨b, 0, none⟩ [v] := fun {u b T v} h j w hw => by
  rw [Addr.add_lit]
  exact ee h (by simpa using hw)
 exact ⟨g1.trans g4, b, b', rfl, at1 (g4 _ _ g3 ap), at1 g5⟩
theorem aba {s : S} : qh [] s = s := rfl
theorem wg {t : Nat} {v : Value} {r : List (Nat × Value)} {s : S} : qh ((t, v) :: r) s = qh r (s.put (some t) (.v v)) := rfl
theorem sU {P : Program} {u0 : World} {bd : Code} {R : Exit → S → World → Prop} {s : S} {v : World} : als P u0 bd R .normal s v = Vc P u0 bd R s v := rfl
attribute [local go_sem] aba wg sU List.zip_cons_cons List.zip_nil_right List.zip_nil_left
theorem tO {σ : List (Nat × Eng.Loc)} {I : List (Nat × Eng.Loc) → World → Prop} {Ix : Exit → List (Nat × Eng.Loc) → World → Prop} {s : S} {v : World} : ago σ I Ix .normal s v = ∃ σ', SameB σ σ' ∧ (⟨[], σ'⟩ : S).le s ∧ I σ' v := rfl
theorem ae9 {σ : List (Nat × Eng.Loc)} {I : List (Nat × Eng.Loc) → World → Prop} {Ix : Exit → List (Nat × Eng.Loc) → World → Prop} {s : S} {v : World} : ago σ I Ix .ret s v = ∃ σ', SameB σ σ' ∧ (⟨[], σ'⟩ : S).le s ∧ Ix .ret σ' v := rfl
theorem zK {σ : List (Nat × Eng.Loc)} {I : List (Nat × Eng.Loc) → World → Prop} {Ix : Exit → List (Nat × Eng.Loc) → World → Prop} {s : S} {v : World} {j : Nat} : ago σ I Ix (.exit j) s v = ∃ σ', SameB σ σ' ∧ (⟨[], σ'⟩ : S).le s ∧ Ix (.exit j) σ' v := rfl
attribute [local go_sem] tO ae9 zK
def wH (x : PPr) : Bool := decide (x.2.a ≤ x.2.b) && afN x.1 x.2
def iG (dom f : List GSpan) : Bool := f.isEmpty || (decide (f.length = dom.length) && (dom.zip f).all wH)
theorem x7 (dom f : List GSpan) (p q : Option Addr) (c k : Nat) (u : World) (s1 : Sl u 2 p dom.length c (dom.map GSpan.enc)) (s2 : Sl u 2 q f.length k (f.map GSpan.enc)) (n1 : dom.length ≤ 1000000000) (n2 : f.length ≤ 1000000000) :
  Con Tryz.prog 88 [.slice p dom.length c, .slice q f.length k] u (fun r _ => r = .bool (iG dom f)) := by
 refine ik Ty.mixed Tryz.func88 rfl (by kernel_rfl) (by kernel_rfl) rfl [.cell 4 4] rfl ?_
 refine vs_ ?_
 intro b4
 refine uq (fun h => ?_) (fun h => ?_)
 ·refine vs_ ?_
  refine ⟨Sub.refl _, ?_⟩
  have : f = [] := List.eq_nil_of_length_eq_zero (by omega)
  simp [iG, this]
 ·refine vs_ ?_
  refine yN (fun h2 => ?_) (fun h2 => ?_)
  ·refine vs_ ?_
   refine ⟨Sub.refl _, ?_⟩
   have h3 : ¬ f.length = dom.length := by omega
   have h4 : f ≠ [] := fun e => h (by rw [e]; rfl)
   simp [iG, h3, h4]
  ·refine vs_ ?_
   refine AtCall.of_spec (qN p q dom.length c f.length k u) ?_
   rintro r ub hsb ⟨b1, b2, rfl, g1, g2⟩
   refine vs_ ?_
   refine oa ?_
   refine kI (gf := 206) (lb := [.pointer (some ⟨b1, 0, none⟩), .pointer (some ⟨b2, 0, none⟩)]) rfl (qe g1 g2 (s1.mono hsb) (s2.mono hsb) n1 n2) (fun _ => rfl)
    (fun pre σ v => Sub ub v ∧ σ = [(4, ⟨b4, [.bool false], 4⟩)] ∧ pre.all wH = true)
    (fun pre e σ v => e = .ret ∧ Sub ub v ∧ σ = [(4, ⟨b4, [.bool false], 4⟩)] ∧ pre.all wH = false) (fun _ _ _ h => h.1) ⟨Sub.refl _, rfl, rfl⟩ ?_ ?_ ?_
   ·rintro pre ⟨x, y⟩ σ v hsame ⟨h3, rfl, h4⟩ hpre
    refine Vc.of ?_
    refine vs_ ?_
    intro b5 b6
    refine Vc.of ?_
    refine vs_ ?_
    have hsc := yp (u := v) (vs := [x.val, y.val]) (adV x y) ⟨_, _, rfl, ⟨_, rfl, _, _, rfl, ⟨rfl, rfl⟩, _, _, rfl, ⟨rfl, rfl⟩, rfl⟩, _, _, rfl, ⟨_, rfl, _, _, rfl, ⟨rfl, rfl⟩, _, _, rfl, ⟨rfl, rfl⟩, rfl⟩, rfl⟩ (fun _ _ _ h => h.1)
    refine t_ (fun hg => ?_) (fun hg => ?_)
    ·have hxy : y.a ≤ y.b := by simpa using hg
     refine vs_ ?_
     refine lx hg ?_
     refine vs_ ?_
     refine lx hg ?_
     refine vs_ ?_
     refine AtCall.of_spec hsc ?_
     rintro _ v2 hv2 rfl
     refine vs_ ?_
     refine lx hg ?_
     refine vs_ ?_
     rw [hg]
     cases hc : afN x y with
     | true =>
      refine vs_ ?_
      refine ⟨[(4, ⟨b4, [.bool false], 4⟩)], hsame, j4 (by simp only [go_sem, bT, bh, bH, bu, Nat.reduceBEq, Nat.reduceAdd, Nat.reduceLeDiff, Nat.reduceEqDiff, Int.reduceAdd, Int.reduceBEq, Int.reduceBNe, reduceCtorEq, beq_self_eq_true, Bool.true_beq, Bool.false_beq]), h3.trans hv2, rfl, ?_⟩
      rw [List.all_append, h4]
      simp [wH, hxy, hc]
     | false =>
      refine vs_ ?_
      refine ⟨[(4, ⟨b4, [.bool false], 4⟩)], hsame, j4 (by simp only [go_sem, bT, bh, bH, bu, Nat.reduceBEq, Nat.reduceAdd, Nat.reduceLeDiff, Nat.reduceEqDiff, Int.reduceAdd, Int.reduceBEq, Int.reduceBNe, reduceCtorEq, beq_self_eq_true, Bool.true_beq, Bool.false_beq]), h3.trans hv2, rfl, ?_⟩
      rw [List.all_append, h4]
      simp [wH, hc]
    ·have hxy : y.b < y.a := by simpa using hg
     have hxy2 : ¬ y.a ≤ y.b := by omega
     refine vs_ ?_
     refine oB hg ?_
     refine vs_ ?_
     refine oB hg ?_
     refine vs_ ?_
     refine oB hg ?_
     rw [hg]
     refine vs_ ?_
     refine ⟨[(4, ⟨b4, [.bool false], 4⟩)], hsame, j4 (by simp only [go_sem, bT, bh, bH, bu, Nat.reduceBEq, Nat.reduceAdd, Nat.reduceLeDiff, Nat.reduceEqDiff, Int.reduceAdd, Int.reduceBEq, Int.reduceBNe, reduceCtorEq, beq_self_eq_true, Bool.true_beq, Bool.false_beq]), h3, rfl, ?_⟩
     rw [List.all_append, h4]
     simp [wH, hxy2]
   ·rintro xs σ v hsame rfl ⟨h3, rfl, h4⟩
    refine vs_ ?_
    refine ⟨hsb.trans h3, ?_⟩
    have e1 : f.length = dom.length := by omega
    have e2 : ¬ f = [] := fun e => h (by rw [e]; rfl)
    simp [iG, h4, e1, e2]
   ·rintro pre e σ v hsame hpre ⟨rfl, h3, rfl, h4⟩
    refine vs_ ?_
    refine ⟨hsb.trans h3, ?_⟩
    have e2 : ¬ f = [] := fun e => h (by rw [e]; rfl)
    have e3 : (dom.zip f).all wH = false := by
     obtain ⟨t, ht⟩ := hpre
     rw [← ht, List.all_append, h4]; rfl
    rw [iG, e3]
    simp [e2]
def ki (x : PPr) : GSpan := eB x.1 x.2
def lE (x : PPr) : Bool := fP (ki x)
def dA (f g : List GSpan) : List GSpan := if f.length = g.length ∧ (f.zip g).any lE = false then (f.zip g).map ki else []
theorem abu (f g : List GSpan) (p q : Option Addr) (c k : Nat) (u : World) (s1 : Sl u 2 p f.length c (f.map GSpan.enc)) (s2 : Sl u 2 q g.length k (g.map GSpan.enc)) (n1 : f.length ≤ 1000000000) (n2 : g.length ≤ 1000000000) :
  Con Tryz.prog 128 [.slice p f.length c, .slice q g.length k] u (fun r u' => ∃ p' c', r = .slice p' (dA f g).length c' ∧ Sl u' 2 p' (dA f g).length c' ((dA f g).map GSpan.enc)) := by
 refine ik Ty.mixed Tryz.func128 rfl (by kernel_rfl) (by kernel_rfl) rfl [.cell 4 31] rfl ?_
 refine vs_ ?_
 intro b4
 refine yN (fun h => ?_) (fun h => ?_)
 ·refine vs_ ?_
  have h3 : ¬ f.length = g.length := by omega
  refine ⟨Sub.refl _, none, 0, ?_⟩
  simp only [dA, h3, false_and, if_false]
  exact ⟨rfl, Sl.zero _ _ _⟩
 ·refine vs_ ?_
  intro b5
  refine AtCall.of_spec (qN p q f.length c g.length k u) ?_
  rintro r ub hsb ⟨b1, b2, rfl, g1, g2⟩
  refine vs_ ?_
  refine oa ?_
  refine kI (gf := 206) (lb := [.pointer (some ⟨b1, 0, none⟩), .pointer (some ⟨b2, 0, none⟩)]) rfl (qe g1 g2 (s1.mono hsb) (s2.mono hsb) n1 n2) (fun _ => rfl)
   (fun pre σ v => Sub ub v ∧ pre.any lE = false ∧ ∃ p n c, σ = [(5, ⟨b5, [.slice p n c], 31⟩), (4, ⟨b4, [.slice none 0 0], 31⟩)] ∧ n = pre.length ∧ bL ub p ∧ Eng.Own u v 145 2 p n c ((pre.map ki).map GSpan.enc))
   (fun pre e σ v => e = .ret ∧ Sub ub v ∧ pre.any lE = true ∧ ∃ p n c, σ = [(5, ⟨b5, [.slice p n c], 31⟩), (4, ⟨b4, [.slice none 0 0], 31⟩)]) (fun _ _ _ h => h.1) ⟨Sub.refl _, rfl, none, 0, 0, rfl, rfl, by simp [bL], Eng.Own.nil_ _ _ _ _⟩ ?_ ?_ ?_
  ·rintro pre ⟨x, y⟩ σ v hsame ⟨h3, h4, p', n', c', rfl, hn', hfp, ho⟩ hpre
   have hlen : n' < f.length ∧ n' < g.length := by
    have := hpre.length_le
    simp at this
    omega
   refine Vc.of ?_
   refine vs_ ?_
   intro b6 b7
   refine Vc.of ?_
   refine vs_ ?_
   have hsm := yp (u := v) (vs := [x.val, y.val]) (z5 x y) ⟨_, _, rfl, ⟨_, rfl, _, _, rfl, ⟨rfl, rfl⟩, _, _, rfl, ⟨rfl, rfl⟩, rfl⟩, _, _, rfl, ⟨_, rfl, _, _, rfl, ⟨rfl, rfl⟩, _, _, rfl, ⟨rfl, rfl⟩, rfl⟩, rfl⟩
    (v := .tuple #[(if fP (eB x y) = true then (⟨0, 0⟩ : GSpan) else eB x y).val, .bool (!fP (eB x y))]) (by
     rintro us β w ⟨V, rfl, _, _, rfl, ⟨V2, rfl, _, _, rfl, ⟨rfl, _⟩, _, _, rfl, ⟨rfl, _⟩, rfl⟩, _, _, rfl, ⟨rfl, _⟩, rfl⟩
     rfl)
   generalize hsn : fP (eB x y) = sn at hsm
   generalize hz : (if sn = true then (⟨0, 0⟩ : GSpan) else eB x y) = z at hsm
   refine AtCall.of_spec hsm ?_
   rintro _ v2 hv2 rfl
   refine vs_ ?_
   intro b8
   cases sn with
   | true =>
    refine vs_ ?_
    refine ⟨[(5, ⟨b5, [.slice p' n' c'], 31⟩), (4, ⟨b4, [.slice none 0 0], 31⟩)], hsame, j4 (by simp only [go_sem, bT, bh, bH, bu, Nat.reduceBEq, Nat.reduceAdd, Nat.reduceLeDiff, Nat.reduceEqDiff, Int.reduceAdd, Int.reduceBEq, Int.reduceBNe, reduceCtorEq, beq_self_eq_true, Bool.true_beq, Bool.false_beq]), h3.trans hv2, ?_, _, _, _, rfl⟩
    rw [List.any_append, h4]
    simp [lE, ki, hsn]
   | false =>
    obtain rfl : eB x y = z := hz
    refine vs_ ?_
    refine ng (n := 1) (vs := [(eB x y).val]) Ty.el31 rfl rfl (by intro v hv; simp at hv; subst hv; rfl) (by omega) ?_
    intro pv v3 hov hsv hfv
    refine vs_ ?_
    refine h_ Ty.el31 (ho.mono (hv2.trans hsv)) hov.sl (by intro y hy; simp at hy; subst hy; rfl) (by omega) (by omega) ?_
    intro q' d' w' ho' hsw hqw
    refine vs_ ?_
    refine ⟨[(5, ⟨b5, [.slice q' (n' + 1) d'], 31⟩), (4, ⟨b4, [.slice none 0 0], 31⟩)], ?_, j4 (by simp only [go_sem, bT, bh, bH, bu, Nat.reduceBEq, Nat.reduceAdd, Nat.reduceLeDiff, Nat.reduceEqDiff, Int.reduceAdd, Int.reduceBEq, Int.reduceBNe, reduceCtorEq, beq_self_eq_true, Bool.true_beq, Bool.false_beq]), hsw.sub ((h3.trans hv2).trans hsv) hfp, ?_, _, _, _, rfl, ?_, ?_, ?_⟩
    ·exact SameB.one
    ·rw [List.any_append, h4]
     simp [lE, ki, hsn]
    ·simp [hn']
    ·rcases hqw with rfl | h
     ·exact hfp
     ·exact fun a ha => Fresh.anti ((h3.trans hv2).trans hsv) (h a ha)
    ·rw [List.map_append, List.map_append]
     exact ho'
  ·rintro xs σ v hsame rfl ⟨h3, h4, p', n', c', rfl, hn', hfp, ho⟩
   refine vs_ ?_
   refine ⟨hsb.trans h3, p', c', ?_⟩
   have e1 : f.length = g.length := by omega
   have e2 : dA f g = (f.zip g).map ki := by simp [dA, e1, h4]
   rw [e2]
   have e3 : n' = ((f.zip g).map ki).length := by simpa using hn'
   subst e3
   exact ⟨rfl, ho.sl⟩
  ·rintro pre e σ v hsame hpre ⟨rfl, h3, h4, p', n', c', rfl⟩
   refine vs_ ?_
   have e2 : dA f g = [] := by
    have : (f.zip g).any lE = true := by
     obtain ⟨t, ht⟩ := hpre
     rw [← ht, List.any_append, h4]; rfl
    simp [dA, this]
   rw [e2]
   exact ⟨hsb.trans h3, none, 0, rfl, Sl.zero _ _ _⟩
end Go.Proofs.YtlaefellhnkfbaaGreat.V

set_option maxRecDepth 10000
namespace Go.Eng
theorem rJ {u us u' : World} {d : DV} {v : Value} (h : HV us d noB v) (h1 : Sub u us) (h2 : Sub us u') : af9 u u' (plR d) v :=
 ⟨noB, us, ⟨[(0, .v v)], []⟩, ⟨⟨h1, h1⟩, h2, fun t => by
  show HS us noB ((lk [(0, .d d)] t).getD .unk) ((lk [(0, .v v)] t).getD .unk)
  by_cases e : 0 = t
  ·subst e; exact ⟨v, rfl, h⟩
  ·rw [aj e]; trivial, fun k => rfl, (fun id r hr => by cases hr), fun id _ => rfl, fun id hi => absurd hi (Nat.not_lt_zero _), Nat.le_refl _, (fun i j ri rj b _ hi => by cases hi)⟩, rfl⟩
theorem js {us : World} : ∀ (l : List GSpan) (V : List (List Value)), HVss us (l.map aP) V ↔ V = l.map GSpan.enc
 | [], V => Iff.rfl
 | x :: l, V => by
  constructor
  ·rintro ⟨v, V', rfl, ⟨a, _, rfl, ⟨rfl, _⟩, b, _, rfl, ⟨rfl, _⟩, rfl⟩, h⟩
   rw [(js l V').1 h]; rfl
  ·rintro rfl
   exact ⟨_, _, rfl, ⟨_, _, rfl, ⟨rfl, rfl⟩, _, _, rfl, ⟨rfl, rfl⟩, rfl⟩, (js l _).2 rfl⟩
theorem abv (l : List GSpan) : aQ (l.map GSpan.enc) := by intro y hy; obtain ⟨x, _, rfl⟩ := List.mem_map.1 hy; rfl
theorem kT {us : World} {l : List GSpan} {β : Nat → PB} {w : Value} (h : HV us (.fz 2 (l.map aP)) β w) : ∃ p c, w = .slice p l.length c ∧ Sl us 2 p l.length c (l.map GSpan.enc) := by
 obtain ⟨p, n, c, V, rfl, h1, _, h2⟩ := h
 obtain rfl := (js l V).1 h2
 obtain rfl : l.length = n := by simpa using h1.len
 exact ⟨p, c, rfl, h1⟩
theorem Con.to2 {P : Program} {f : FuncId} {vs : List Value} {u : World} {d : DV} {Post : Value → World → Prop} (h : Con P f vs u Post) (hp : ∀ r u', Post r u' → HV u' d noB r) : Con P f vs u (fun v u' => ∃ r, r = plR d ∧ af9 u u' r v) := by
 refine ⟨h.1, fun w hw => (h.2 w hw).mono ?_⟩
 rintro e w' ⟨r, u', rfl, h3, h4, h5⟩
 exact ⟨r, u', rfl, h3, h4, _, rfl, rJ (hp _ _ h5) h4 (Sub.refl _)⟩
end Go.Eng
namespace Go.Proofs.YtlaefellhnkfbaaGreat.V
open Go.Eng
attribute [local go_sem] aP plR
abbrev fzS (l : List GSpan) : DV := .fz 2 (l.map aP)
theorem tM (dom f : List GSpan) (n1 : dom.length ≤ 1000000000) (n2 : f.length ≤ 1000000000) : Con2 Tryz.prog 88 [fzS dom, fzS f] (· = plR (.v (.bool (iG dom f)))) := by
 rintro u vs ⟨v1, _, rfl, h1, v2, _, rfl, h2, rfl⟩
 obtain ⟨p, c, rfl, s1⟩ := kT h1
 obtain ⟨q, k, rfl, s2⟩ := kT h2
 exact (x7 dom f p q c k u s1 s2 n1 n2).to2 fun r u' h => ⟨h, rfl⟩
theorem nj (f g : List GSpan) (n1 : f.length ≤ 1000000000) (n2 : g.length ≤ 1000000000) : Con2 Tryz.prog 128 [fzS f, fzS g] (· = plR (fzS (dA f g))) := by
 rintro u vs ⟨v1, _, rfl, h1, v2, _, rfl, h2, rfl⟩
 obtain ⟨p, c, rfl, s1⟩ := kT h1
 obtain ⟨q, k, rfl, s2⟩ := kT h2
 refine (abu f g p q c k u s1 s2 n1 n2).to2 ?_
 rintro r u' ⟨p', c', rfl, h⟩
 exact ⟨_, _, _, _, rfl, h, abv _, (js _ _).2 rfl⟩
theorem pU (f g : List GSpan) : (dA f g).length ≤ f.length := by
 unfold dA
 split
 ·simp; omega
 ·simp
def bo (dom f : List GSpan) : List GSpan × Int := if f.length = 0 then ([], 0) else if f.length = dom.length then (dA dom f, 0) else ([], 50)
theorem sN (dom f : List GSpan) (n1 : dom.length ≤ 1000000000) (n2 : f.length ≤ 1000000000) : Con2 Tryz.prog 64 [fzS dom, fzS f] (· = plR (.tup [fzS (bo dom f).1, .v (.int .i64 (bo dom f).2)])) := by
 refine af Ty.mixed Tryz.func64 rfl (by kernel_rfl) (by kernel_rfl) rfl [.tmp 4, .tmp 5] rfl ?_
 refine g2_ ?_
 refine g2_ ?_
 refine bc (fun h => ?_) (fun h => ?_)
 ·have e : bo dom f = ([], 0) := by unfold bo; rw [if_pos (by omega)]
  rw [e]
  refine g2_ ?_
  exact ⟨_, rfl, ac [] ws_⟩
 ·refine g2_ ?_
  refine nA (fun h2 => ?_) (fun h2 => ?_)
  ·have e : bo dom f = ([], 50) := by unfold bo; rw [if_neg (by omega), if_neg (by omega)]
   rw [e]
   refine g2_ ?_
   exact ⟨_, rfl, ac [] ws_⟩
  ·have e : bo dom f = (dA dom f, 0) := by unfold bo; rw [if_neg (by omega), if_pos (by omega)]
   rw [e]
   refine g2_ ?_
   refine CallS.eq (nj dom f n1 n2) ws_ (.inl ws_) ?_
   refine g2_ ?_
   exact ⟨_, rfl, ac [] ws_⟩
theorem gP (f : List GSpan) (n1 : f.length ≤ 1000000) : Con2 Tryz.prog 85 [fzS f] (· = plR (fzS f)) := by
 have h : Con2 Tryz.prog 85 [fzS f] (· = ⟨.rf 0 0 f.length, [(0, .arr 145 2 (f.map aP) false)], 1⟩) := by
  refine af Ty.mixed Tryz.func85 rfl (by kernel_rfl) (by kernel_rfl) rfl [.tmp 2] rfl ?_
  refine g2_ ?_
  refine g2_ ?_
  exact ⟨_, rfl, ac [(0, .to 0)] ws_⟩
 refine h.emb ?_ rfl
 exact ws_
end Go.Proofs.YtlaefellhnkfbaaGreat.V

set_option maxRecDepth 10000
namespace Go.Eng
theorem Con2.embs {P : Program} {f : FuncId} {args : List DV} {d' : DV} {Q : Res → Prop} (h : Con2 P f args Q) (hQ : ∀ r, Q r → embD r.H r.d = some d' ∧ noPt r.d = true) : Con2 P f args (· = plR d') := by
 intro u vs hv
 obtain ⟨hb, hc⟩ := h u vs hv
 refine ⟨hb, fun w hu => (hc w hu).mono ?_⟩
 rintro e' w' ⟨r, u', h1, h2, h3, r2, hq, β, us, s, hr, hs⟩
 obtain ⟨he, hp⟩ := hQ _ hq
 obtain ⟨us', g1, g2, g3⟩ := hr.ros (idsD r2.H r2.d)
 have h0 := hr.slot 0
 rw [hs] at h0
 obtain ⟨w0, e0, hd⟩ : ∃ w, SV.v r = .v w ∧ HV us r2.d β w := h0
 cases e0
 have h4 := eI (H := r2.H) g1 r2.d d' r g3 (.inl hp) hd he
 refine ⟨r, u', h1, h2, h3, _, rfl, noB, us', ⟨[(0, .v r)], []⟩, ⟨⟨hr.base.1.trans g1, hr.base.2.trans g1⟩, g2.sub, fun t => ?_, fun k => rfl, (fun id r hr => by cases hr), fun id _ => rfl, fun id hi => rfl, Nat.le_refl _, (fun i j ri rj b _ hi => by cases hi)⟩, rfl⟩
 show HS us' noB ((lk [(0, DSV.d d')] t).getD DSV.unk) ((lk [(0, SV.v r)] t).getD SV.unk)
 by_cases e : 0 = t
 ·subst e; exact ⟨r, rfl, h4⟩
 ·rw [aj e]; trivial
end Go.Eng
namespace Go.Proofs.YtlaefellhnkfbaaGreat.V
open Go.Eng
attribute [local go_sem] plR
theorem eS (l : List (List DV)) (hl : l.length ≤ 1000000) : Con2 Tryz.prog 93 [.fz 3 l] (· = plR (.fz 3 l)) := by
 have h : Con2 Tryz.prog 93 [.fz 3 l] (fun r => (l = [] ∧ r = plR (.fz 3 [])) ∨ r = ⟨.rf 0 0 l.length, [(0, .arr 71 3 l false)], 1⟩) := by
  by_cases h0 : l = []
  ·subst h0
   refine af Ty.mixed Tryz.func93 rfl (by kernel_rfl) (by kernel_rfl) rfl [.tmp 2] rfl ?_
   refine g2_ ?_
   refine g2_ ?_
   refine ⟨fun h => h.elim, fun t => ?_⟩
   cases t with
   | true =>
    refine g2_ ?_
    exact ⟨_, .inl (by first | exact ⟨rfl, rfl⟩ | rfl), ac [] ws_⟩
   | false =>
    refine g2_ ?_
    exact ⟨_, .inr rfl, ac [(0, .to 0)] ws_⟩
  ·have hn : 0 < l.length := List.length_pos_iff.2 h0
   refine af Ty.mixed Tryz.func93 rfl (by kernel_rfl) (by kernel_rfl) rfl [.tmp 2] rfl ?_
   refine g2_ ?_
   refine g2_ ?_
   refine ⟨fun _ => ⟨by omega, by omega, _, .inr rfl, ac [(0, .to 0)] ws_⟩, fun h => by omega⟩
 refine h.embs fun r hr => ?_
 rcases hr with ⟨rfl, rfl⟩ | rfl
 ·exact ⟨by simp -implicitDefEqProofs only [go_sem, aa], rfl⟩
 ·refine ⟨?_, rfl⟩
  exact ws_
theorem jU (l : List (List DV)) (hl : l.length ≤ 1000000) : Con2 Tryz.prog 94 [.fz 3 l] (· = plR (.fz 3 l)) := by
 have h : Con2 Tryz.prog 94 [.fz 3 l] (fun r => (l = [] ∧ r = plR (.fz 3 [])) ∨ r = ⟨.rf 0 0 l.length, [(0, .arr 64 3 l false)], 1⟩) := by
  by_cases h0 : l = []
  ·subst h0
   refine af Ty.mixed Tryz.func94 rfl (by kernel_rfl) (by kernel_rfl) rfl [.tmp 2] rfl ?_
   refine g2_ ?_
   refine g2_ ?_
   refine ⟨fun h => h.elim, fun t => ?_⟩
   cases t with
   | true =>
    refine g2_ ?_
    exact ⟨_, .inl (by first | exact ⟨rfl, rfl⟩ | rfl), ac [] ws_⟩
   | false =>
    refine g2_ ?_
    exact ⟨_, .inr rfl, ac [(0, .to 0)] ws_⟩
  ·have hn : 0 < l.length := List.length_pos_iff.2 h0
   refine af Ty.mixed Tryz.func94 rfl (by kernel_rfl) (by kernel_rfl) rfl [.tmp 2] rfl ?_
   refine g2_ ?_
   refine g2_ ?_
   refine ⟨fun _ => ⟨by omega, by omega, _, .inr rfl, ac [(0, .to 0)] ws_⟩, fun h => by omega⟩
 refine h.embs fun r hr => ?_
 rcases hr with ⟨rfl, rfl⟩ | rfl
 ·exact ⟨by simp -implicitDefEqProofs only [go_sem, aa], rfl⟩
 ·refine ⟨?_, rfl⟩
  exact ws_
theorem xK (l : List (List DV)) (hl : l.length ≤ 1000000) : Con2 Tryz.prog 95 [.fz 3 l] (· = plR (.fz 3 l)) := by
 have h : Con2 Tryz.prog 95 [.fz 3 l] (fun r => (l = [] ∧ r = plR (.fz 3 [])) ∨ r = ⟨.rf 0 0 l.length, [(0, .arr 132 3 l false)], 1⟩) := by
  by_cases h0 : l = []
  ·subst h0
   refine af Ty.mixed Tryz.func95 rfl (by kernel_rfl) (by kernel_rfl) rfl [.tmp 2] rfl ?_
   refine g2_ ?_
   refine g2_ ?_
   refine ⟨fun h => h.elim, fun t => ?_⟩
   cases t with
   | true =>
    refine g2_ ?_
    exact ⟨_, .inl (by first | exact ⟨rfl, rfl⟩ | rfl), ac [] ws_⟩
   | false =>
    refine g2_ ?_
    exact ⟨_, .inr rfl, ac [(0, .to 0)] ws_⟩
  ·have hn : 0 < l.length := List.length_pos_iff.2 h0
   refine af Ty.mixed Tryz.func95 rfl (by kernel_rfl) (by kernel_rfl) rfl [.tmp 2] rfl ?_
   refine g2_ ?_
   refine g2_ ?_
   refine ⟨fun _ => ⟨by omega, by omega, _, .inr rfl, ac [(0, .to 0)] ws_⟩, fun h => by omega⟩
 refine h.embs fun r hr => ?_
 rcases hr with ⟨rfl, rfl⟩ | rfl
 ·exact ⟨by simp -implicitDefEqProofs only [go_sem, aa], rfl⟩
 ·refine ⟨?_, rfl⟩
  exact ws_
theorem wY (l : List (List DV)) (hl : l.length ≤ 1000000) : Con2 Tryz.prog 97 [.fz 5 l] (· = plR (.fz 5 l)) := by
 have h : Con2 Tryz.prog 97 [.fz 5 l] (fun r => (l = [] ∧ r = plR (.fz 5 [])) ∨ r = ⟨.rf 0 0 l.length, [(0, .arr 152 5 l false)], 1⟩) := by
  by_cases h0 : l = []
  ·subst h0
   refine af Ty.mixed Tryz.func97 rfl (by kernel_rfl) (by kernel_rfl) rfl [.tmp 2] rfl ?_
   refine g2_ ?_
   refine g2_ ?_
   refine ⟨fun h => h.elim, fun t => ?_⟩
   cases t with
   | true =>
    refine g2_ ?_
    exact ⟨_, .inl (by first | exact ⟨rfl, rfl⟩ | rfl), ac [] ws_⟩
   | false =>
    refine g2_ ?_
    exact ⟨_, .inr rfl, ac [(0, .to 0)] ws_⟩
  ·have hn : 0 < l.length := List.length_pos_iff.2 h0
   refine af Ty.mixed Tryz.func97 rfl (by kernel_rfl) (by kernel_rfl) rfl [.tmp 2] rfl ?_
   refine g2_ ?_
   refine g2_ ?_
   refine ⟨fun _ => ⟨by omega, by omega, _, .inr rfl, ac [(0, .to 0)] ws_⟩, fun h => by omega⟩
 refine h.embs fun r hr => ?_
 rcases hr with ⟨rfl, rfl⟩ | rfl
 ·exact ⟨by simp -implicitDefEqProofs only [go_sem, aa], rfl⟩
 ·refine ⟨?_, rfl⟩
  exact ws_
end Go.Proofs.YtlaefellhnkfbaaGreat.V
