/-
 Part 20 of the proof of Pj: the engine and the walks, in their order.
-/
import Derived.Test.YtlaefellhnkfbaaGreatPj10
import Derived.Test.YtlaefellhnkfbaaGreatPj19
set_option linter.unusedSimpArgs false
set_option linter.unusedVariables false
set_option maxRecDepth 10000
namespace Go.Proofs.YtlaefellhnkfbaaGreat.V
open Go.Eng
attribute [local go_sem] GSpan.val GSpan.enc adP ajP ajB
theorem SameB.one {k b T : Nat} {cs cs' : List Value} {r : List (Nat × Eng.Loc)} : SameB ((k, ⟨b, cs, T⟩) :: r) ((k, ⟨b, cs', T⟩) :: r) := fun j => by
 by_cases e : k = j
 ·subst e; rw [aq]; exact ⟨_, aq .., rfl, rfl⟩
 ·rw [aj e, aj e]
  exact SameB.refl r j
theorem aaw {P : Program} {f : FuncId} {args : List DV} {d : DV} {vs : List Value} {u : World} {v : Value} (h : Con2 P f args (· = plR d)) (ha : HVs u args noB vs) (hv : ∀ us β w, HV us d β w → w = v) : Con P f vs u (fun r _ => r = v) := by
 obtain ⟨h1, h2⟩ := h u vs ha
 refine ⟨h1, fun w hw => (h2 w hw).mono ?_⟩
 rintro e w' ⟨r, u', rfl, h3, h4, x, rfl, β, us, s, hr, hs⟩
 refine ⟨r, u', rfl, h3, h4, ?_⟩
 obtain ⟨w, e, hw⟩ := hr.slot 0
 rw [hs] at e
 cases e
 exact hv _ _ _ hw
theorem sf (p q : Option Addr) (n c m k : Nat) (u : World) : Con Tryz.prog 154 [.slice p n c, .slice q m k] u (fun r u' => ∃ b1 b2, r = .func (.func 206) #[] #[.pointer (some ⟨b1, 0, none⟩), .pointer (some ⟨b2, 0, none⟩)] ∧ CellsAt u' ⟨b1, 0, none⟩ [.slice p n c] ∧ CellsAt u' ⟨b2, 0, none⟩ [.slice q m k]) := by
 refine iT Ty.mixed Tryz.func154 rfl (by kernel_rfl) (by kernel_rfl) rfl [.tmp 4] rfl ?_
 refine vs_ ?_
 intro b b' u1 g1 g2 _ g3 _ u2 g4 _ _ g5 _
 have at1 : ∀ {u : World} {b T : Nat} {v : Value}, u.heap[b]? = some (.cells #[v] T (0, 0)) → CellsAt u ⟨b, 0, none⟩ [v] := fun {u b T v} h j w hw => by
  rw [Addr.add_lit]
  exact eS h (by simpa using hw)
 exact ⟨g1.trans g4, b, b', rfl, at1 (g4 _ _ g3 ar), at1 g5⟩
theorem adv {s : S} : qI [] s = s := rfl
theorem ya {t : Nat} {v : Value} {r : List (Nat × Value)} {s : S} : qI ((t, v) :: r) s = qI r (s.put (some t) (.v v)) := rfl
theorem uv {P : Program} {u0 : World} {bd : Code} {R : Exit → S → World → Prop} {s : S} {v : World} : al7 P u0 bd R .normal s v = Vc P u0 bd R s v := rfl
attribute [local go_sem] adv ya uv List.zip_cons_cons List.zip_nil_right List.zip_nil_left
theorem vh {σ : List (Nat × Eng.Loc)} {I : List (Nat × Eng.Loc) → World → Prop} {Ix : Exit → List (Nat × Eng.Loc) → World → Prop} {s : S} {v : World} : ahf σ I Ix .normal s v = ∃ σ', SameB σ σ' ∧ (⟨[], σ'⟩ : S).le s ∧ I σ' v := rfl
theorem afr {σ : List (Nat × Eng.Loc)} {I : List (Nat × Eng.Loc) → World → Prop} {Ix : Exit → List (Nat × Eng.Loc) → World → Prop} {s : S} {v : World} : ahf σ I Ix .ret s v = ∃ σ', SameB σ σ' ∧ (⟨[], σ'⟩ : S).le s ∧ Ix .ret σ' v := rfl
theorem adt {σ : List (Nat × Eng.Loc)} {I : List (Nat × Eng.Loc) → World → Prop} {Ix : Exit → List (Nat × Eng.Loc) → World → Prop} {s : S} {v : World} {j : Nat} : ahf σ I Ix (.exit j) s v = ∃ σ', SameB σ σ' ∧ (⟨[], σ'⟩ : S).le s ∧ Ix (.exit j) σ' v := rfl
attribute [local go_sem] vh afr adt
def zj (x : PPr) : Bool := decide (x.2.a ≤ x.2.b) && ai1 x.1 x.2
def iP (dom f : List GSpan) : Bool := f.isEmpty || (decide (f.length = dom.length) && (dom.zip f).all zj)
theorem xd (dom f : List GSpan) (p q : Option Addr) (c k : Nat) (u : World) (s1 : Sl u 2 p dom.length c (dom.map GSpan.enc)) (s2 : Sl u 2 q f.length k (f.map GSpan.enc)) (n1 : dom.length ≤ 1000000000) (n2 : f.length ≤ 1000000000) :
  Con Tryz.prog 88 [.slice p dom.length c, .slice q f.length k] u (fun r _ => r = .bool (iP dom f)) := by
 refine iT Ty.mixed Tryz.func88 rfl (by kernel_rfl) (by kernel_rfl) rfl [.cell 4 4] rfl ?_
 refine vs_ ?_
 intro b4
 refine uf (fun h => ?_) (fun h => ?_)
 ·refine vs_ ?_
  refine ⟨Sub.refl _, ?_⟩
  have : f = [] := List.eq_nil_of_length_eq_zero (by omega)
  simp [iP, this]
 ·refine vs_ ?_
  refine aaa (fun h2 => ?_) (fun h2 => ?_)
  ·refine vs_ ?_
   refine ⟨Sub.refl _, ?_⟩
   have h3 : ¬ f.length = dom.length := by omega
   have h4 : f ≠ [] := fun e => h (by rw [e]; rfl)
   simp [iP, h3, h4]
  ·refine vs_ ?_
   refine AtCall.of_spec (sf p q dom.length c f.length k u) ?_
   rintro r ub hsb ⟨b1, b2, rfl, g1, g2⟩
   refine vs_ ?_
   refine pL ?_
   refine lj (gf := 206) (lb := [.pointer (some ⟨b1, 0, none⟩), .pointer (some ⟨b2, 0, none⟩)]) rfl (sd g1 g2 (s1.mono hsb) (s2.mono hsb) n1 n2) (fun _ => rfl)
    (fun pre σ v => Sub ub v ∧ σ = [(4, ⟨b4, [.bool false], 4⟩)] ∧ pre.all zj = true)
    (fun pre e σ v => e = .ret ∧ Sub ub v ∧ σ = [(4, ⟨b4, [.bool false], 4⟩)] ∧ pre.all zj = false) (fun _ _ _ h => h.1) ⟨Sub.refl _, rfl, rfl⟩ ?_ ?_ ?_
   ·rintro pre ⟨x, y⟩ σ v hsame ⟨h3, rfl, h4⟩ hpre
    refine Vc.of ?_
    refine vs_ ?_
    intro b5 b6
    refine Vc.of ?_
    refine vs_ ?_
    have hsc := aaw (u := v) (vs := [x.val, y.val]) (adC x y) ⟨_, _, rfl, ⟨_, rfl, _, _, rfl, ⟨rfl, rfl⟩, _, _, rfl, ⟨rfl, rfl⟩, rfl⟩, _, _, rfl, ⟨_, rfl, _, _, rfl, ⟨rfl, rfl⟩, _, _, rfl, ⟨rfl, rfl⟩, rfl⟩, rfl⟩ (fun _ _ _ h => h.1)
    refine vM (fun hg => ?_) (fun hg => ?_)
    ·have hxy : y.a ≤ y.b := by simpa using hg
     refine vs_ ?_
     refine mh hg ?_
     refine vs_ ?_
     refine mh hg ?_
     refine vs_ ?_
     refine AtCall.of_spec hsc ?_
     rintro _ v2 hv2 rfl
     refine vs_ ?_
     refine mh hg ?_
     refine vs_ ?_
     rw [hg]
     cases hc : ai1 x y with
     | true =>
      refine vs_ ?_
      refine ⟨[(4, ⟨b4, [.bool false], 4⟩)], hsame, kX (by simp only [go_sem, ch, br, bT, bC, Nat.reduceBEq, Nat.reduceAdd, Nat.reduceLeDiff, Nat.reduceEqDiff, Int.reduceAdd, Int.reduceBEq, Int.reduceBNe, reduceCtorEq, beq_self_eq_true, Bool.true_beq, Bool.false_beq]), h3.trans hv2, rfl, ?_⟩
      rw [List.all_append, h4]
      simp [zj, hxy, hc]
     | false =>
      refine vs_ ?_
      refine ⟨[(4, ⟨b4, [.bool false], 4⟩)], hsame, kX (by simp only [go_sem, ch, br, bT, bC, Nat.reduceBEq, Nat.reduceAdd, Nat.reduceLeDiff, Nat.reduceEqDiff, Int.reduceAdd, Int.reduceBEq, Int.reduceBNe, reduceCtorEq, beq_self_eq_true, Bool.true_beq, Bool.false_beq]), h3.trans hv2, rfl, ?_⟩
      rw [List.all_append, h4]
      simp [zj, hc]
    ·have hxy : y.b < y.a := by simpa using hg
     have hxy2 : ¬ y.a ≤ y.b := by omega
     refine vs_ ?_
     refine pD hg ?_
     refine vs_ ?_
     refine pD hg ?_
     refine vs_ ?_
     refine pD hg ?_
     rw [hg]
     refine vs_ ?_
     refine ⟨[(4, ⟨b4, [.bool false], 4⟩)], hsame, kX (by simp only [go_sem, ch, br, bT, bC, Nat.reduceBEq, Nat.reduceAdd, Nat.reduceLeDiff, Nat.reduceEqDiff, Int.reduceAdd, Int.reduceBEq, Int.reduceBNe, reduceCtorEq, beq_self_eq_true, Bool.true_beq, Bool.false_beq]), h3, rfl, ?_⟩
     rw [List.all_append, h4]
     simp [zj, hxy2]
   ·rintro xs σ v hsame rfl ⟨h3, rfl, h4⟩
    refine vs_ ?_
    refine ⟨hsb.trans h3, ?_⟩
    have e1 : f.length = dom.length := by omega
    have e2 : ¬ f = [] := fun e => h (by rw [e]; rfl)
    simp [iP, h4, e1, e2]
   ·rintro pre e σ v hsame hpre ⟨rfl, h3, rfl, h4⟩
    refine vs_ ?_
    refine ⟨hsb.trans h3, ?_⟩
    have e2 : ¬ f = [] := fun e => h (by rw [e]; rfl)
    have e3 : (dom.zip f).all zj = false := by
     obtain ⟨t, ht⟩ := hpre
     rw [← ht, List.all_append, h4]; rfl
    rw [iP, e3]
    simp [e2]
def kZ (x : PPr) : GSpan := fc x.1 x.2
def l7 (x : PPr) : Bool := gB (kZ x)
def dW (f g : List GSpan) : List GSpan := if f.length = g.length ∧ (f.zip g).any l7 = false then (f.zip g).map kZ else []
theorem acR (f g : List GSpan) (p q : Option Addr) (c k : Nat) (u : World) (s1 : Sl u 2 p f.length c (f.map GSpan.enc)) (s2 : Sl u 2 q g.length k (g.map GSpan.enc)) (n1 : f.length ≤ 1000000000) (n2 : g.length ≤ 1000000000) :
  Con Tryz.prog 128 [.slice p f.length c, .slice q g.length k] u (fun r u' => ∃ p' c', r = .slice p' (dW f g).length c' ∧ Sl u' 2 p' (dW f g).length c' ((dW f g).map GSpan.enc)) := by
 refine iT Ty.mixed Tryz.func128 rfl (by kernel_rfl) (by kernel_rfl) rfl [.cell 4 31] rfl ?_
 refine vs_ ?_
 intro b4
 refine aaa (fun h => ?_) (fun h => ?_)
 ·refine vs_ ?_
  have h3 : ¬ f.length = g.length := by omega
  refine ⟨Sub.refl _, none, 0, ?_⟩
  simp only [dW, h3, false_and, if_false]
  exact ⟨rfl, Sl.zero _ _ _⟩
 ·refine vs_ ?_
  intro b5
  refine AtCall.of_spec (sf p q f.length c g.length k u) ?_
  rintro r ub hsb ⟨b1, b2, rfl, g1, g2⟩
  refine vs_ ?_
  refine pL ?_
  refine lj (gf := 206) (lb := [.pointer (some ⟨b1, 0, none⟩), .pointer (some ⟨b2, 0, none⟩)]) rfl (sd g1 g2 (s1.mono hsb) (s2.mono hsb) n1 n2) (fun _ => rfl)
   (fun pre σ v => Sub ub v ∧ pre.any l7 = false ∧ ∃ p n c, σ = [(5, ⟨b5, [.slice p n c], 31⟩), (4, ⟨b4, [.slice none 0 0], 31⟩)] ∧ n = pre.length ∧ bU ub p ∧ Eng.Own u v 145 2 p n c ((pre.map kZ).map GSpan.enc))
   (fun pre e σ v => e = .ret ∧ Sub ub v ∧ pre.any l7 = true ∧ ∃ p n c, σ = [(5, ⟨b5, [.slice p n c], 31⟩), (4, ⟨b4, [.slice none 0 0], 31⟩)]) (fun _ _ _ h => h.1) ⟨Sub.refl _, rfl, none, 0, 0, rfl, rfl, by simp [bU], Eng.Own.nil_ _ _ _ _⟩ ?_ ?_ ?_
  ·rintro pre ⟨x, y⟩ σ v hsame ⟨h3, h4, p', n', c', rfl, hn', hfp, ho⟩ hpre
   have hlen : n' < f.length ∧ n' < g.length := by
    have := hpre.length_le
    simp at this
    omega
   refine Vc.of ?_
   refine vs_ ?_
   intro b6 b7
   refine Vc.of ?_
   refine vs_ ?_
   have hsm := aaw (u := v) (vs := [x.val, y.val]) (abD x y) ⟨_, _, rfl, ⟨_, rfl, _, _, rfl, ⟨rfl, rfl⟩, _, _, rfl, ⟨rfl, rfl⟩, rfl⟩, _, _, rfl, ⟨_, rfl, _, _, rfl, ⟨rfl, rfl⟩, _, _, rfl, ⟨rfl, rfl⟩, rfl⟩, rfl⟩
    (v := .tuple #[(if gB (fc x y) = true then (⟨0, 0⟩ : GSpan) else fc x y).val, .bool (!gB (fc x y))]) (by
     rintro us β w ⟨V, rfl, _, _, rfl, ⟨V2, rfl, _, _, rfl, ⟨rfl, _⟩, _, _, rfl, ⟨rfl, _⟩, rfl⟩, _, _, rfl, ⟨rfl, _⟩, rfl⟩
     rfl)
   generalize hsn : gB (fc x y) = sn at hsm
   generalize hz : (if sn = true then (⟨0, 0⟩ : GSpan) else fc x y) = z at hsm
   refine AtCall.of_spec hsm ?_
   rintro _ v2 hv2 rfl
   refine vs_ ?_
   intro b8
   cases sn with
   | true =>
    refine vs_ ?_
    refine ⟨[(5, ⟨b5, [.slice p' n' c'], 31⟩), (4, ⟨b4, [.slice none 0 0], 31⟩)], hsame, kX (by simp only [go_sem, ch, br, bT, bC, Nat.reduceBEq, Nat.reduceAdd, Nat.reduceLeDiff, Nat.reduceEqDiff, Int.reduceAdd, Int.reduceBEq, Int.reduceBNe, reduceCtorEq, beq_self_eq_true, Bool.true_beq, Bool.false_beq]), h3.trans hv2, ?_, _, _, _, rfl⟩
    rw [List.any_append, h4]
    simp [l7, kZ, hsn]
   | false =>
    obtain rfl : fc x y = z := hz
    refine vs_ ?_
    refine nO (n := 1) (vs := [(fc x y).val]) Ty.el31 rfl rfl (by intro v hv; simp at hv; subst hv; rfl) (by omega) ?_
    intro pv v3 hov hsv hfv
    refine vs_ ?_
    refine iV Ty.el31 (ho.mono (hv2.trans hsv)) hov.sl (by intro y hy; simp at hy; subst hy; rfl) (by omega) (by omega) ?_
    intro q' d' w' ho' hsw hqw
    refine vs_ ?_
    refine ⟨[(5, ⟨b5, [.slice q' (n' + 1) d'], 31⟩), (4, ⟨b4, [.slice none 0 0], 31⟩)], ?_, kX (by simp only [go_sem, ch, br, bT, bC, Nat.reduceBEq, Nat.reduceAdd, Nat.reduceLeDiff, Nat.reduceEqDiff, Int.reduceAdd, Int.reduceBEq, Int.reduceBNe, reduceCtorEq, beq_self_eq_true, Bool.true_beq, Bool.false_beq]), hsw.sub ((h3.trans hv2).trans hsv) hfp, ?_, _, _, _, rfl, ?_, ?_, ?_⟩
    ·exact SameB.one
    ·rw [List.any_append, h4]
     simp [l7, kZ, hsn]
    ·simp [hn']
    ·rcases hqw with rfl | h
     ·exact hfp
     ·exact fun a ha => Fresh.anti ((h3.trans hv2).trans hsv) (h a ha)
    ·rw [List.map_append, List.map_append]
     exact ho'
  ·rintro xs σ v hsame rfl ⟨h3, h4, p', n', c', rfl, hn', hfp, ho⟩
   refine vs_ ?_
   refine ⟨hsb.trans h3, p', c', ?_⟩
   have e1 : f.length = g.length := by omega
   have e2 : dW f g = (f.zip g).map kZ := by simp [dW, e1, h4]
   rw [e2]
   have e3 : n' = ((f.zip g).map kZ).length := by simpa using hn'
   subst e3
   exact ⟨rfl, ho.sl⟩
  ·rintro pre e σ v hsame hpre ⟨rfl, h3, h4, p', n', c', rfl⟩
   refine vs_ ?_
   have e2 : dW f g = [] := by
    have : (f.zip g).any l7 = true := by
     obtain ⟨t, ht⟩ := hpre
     rw [← ht, List.any_append, h4]; rfl
    simp [dW, this]
   rw [e2]
   exact ⟨hsb.trans h3, none, 0, rfl, Sl.zero _ _ _⟩
end Go.Proofs.YtlaefellhnkfbaaGreat.V

set_option maxRecDepth 10000
namespace Go.Eng
theorem s8 {u us u' : World} {d : DV} {v : Value} (h : HV us d noB v) (h1 : Sub u us) (h2 : Sub us u') : aiD u u' (plR d) v :=
 ⟨noB, us, ⟨[(0, .v v)], []⟩, ⟨⟨h1, h1⟩, h2, fun t => by
  show HS us noB ((lk [(0, .d d)] t).getD .unk) ((lk [(0, .v v)] t).getD .unk)
  by_cases e : 0 = t
  ·subst e; exact ⟨v, rfl, h⟩
  ·rw [aj e]; trivial, fun k => rfl, (fun id r hr => by cases hr), fun id _ => rfl, fun id hi => absurd hi (Nat.not_lt_zero _), Nat.le_refl _, (fun i j ri rj b _ hi => by cases hi)⟩, rfl⟩
theorem jZ {us : World} : ∀ (l : List GSpan) (V : List (List Value)), HVss us (l.map aU) V ↔ V = l.map GSpan.enc
 | [], V => Iff.rfl
 | x :: l, V => by
  constructor
  ·rintro ⟨v, V', rfl, ⟨a, _, rfl, ⟨rfl, _⟩, b, _, rfl, ⟨rfl, _⟩, rfl⟩, h⟩
   rw [(jZ l V').1 h]; rfl
  ·rintro rfl
   exact ⟨_, _, rfl, ⟨_, _, rfl, ⟨rfl, rfl⟩, _, _, rfl, ⟨rfl, rfl⟩, rfl⟩, (jZ l _).2 rfl⟩
theorem ab7 (l : List GSpan) : aW (l.map GSpan.enc) := by intro y hy; obtain ⟨x, _, rfl⟩ := List.mem_map.1 hy; rfl
theorem lR {us : World} {l : List GSpan} {β : Nat → PB} {w : Value} (h : HV us (.fz 2 (l.map aU)) β w) : ∃ p c, w = .slice p l.length c ∧ Sl us 2 p l.length c (l.map GSpan.enc) := by
 obtain ⟨p, n, c, V, rfl, h1, _, h2⟩ := h
 obtain rfl := (jZ l V).1 h2
 obtain rfl : l.length = n := by simpa using h1.len
 exact ⟨p, c, rfl, h1⟩
theorem Con.to2 {P : Program} {f : FuncId} {vs : List Value} {u : World} {d : DV} {Post : Value → World → Prop} (h : Con P f vs u Post) (hp : ∀ r u', Post r u' → HV u' d noB r) : Con P f vs u (fun v u' => ∃ r, r = plR d ∧ aiD u u' r v) := by
 refine ⟨h.1, fun w hw => (h.2 w hw).mono ?_⟩
 rintro e w' ⟨r, u', rfl, h3, h4, h5⟩
 exact ⟨r, u', rfl, h3, h4, _, rfl, s8 (hp _ _ h5) h4 (Sub.refl _)⟩
end Go.Eng
namespace Go.Proofs.YtlaefellhnkfbaaGreat.V
open Go.Eng
attribute [local go_sem] aU plR
abbrev fzS (l : List GSpan) : DV := .fz 2 (l.map aU)
theorem ur (dom f : List GSpan) (n1 : dom.length ≤ 1000000000) (n2 : f.length ≤ 1000000000) : Con2 Tryz.prog 88 [fzS dom, fzS f] (· = plR (.v (.bool (iP dom f)))) := by
 rintro u vs ⟨v1, _, rfl, h1, v2, _, rfl, h2, rfl⟩
 obtain ⟨p, c, rfl, s1⟩ := lR h1
 obtain ⟨q, k, rfl, s2⟩ := lR h2
 exact (xd dom f p q c k u s1 s2 n1 n2).to2 fun r u' h => ⟨h, rfl⟩
theorem oz (f g : List GSpan) (n1 : f.length ≤ 1000000000) (n2 : g.length ≤ 1000000000) : Con2 Tryz.prog 128 [fzS f, fzS g] (· = plR (fzS (dW f g))) := by
 rintro u vs ⟨v1, _, rfl, h1, v2, _, rfl, h2, rfl⟩
 obtain ⟨p, c, rfl, s1⟩ := lR h1
 obtain ⟨q, k, rfl, s2⟩ := lR h2
 refine (acR f g p q c k u s1 s2 n1 n2).to2 ?_
 rintro r u' ⟨p', c', rfl, h⟩
 exact ⟨_, _, _, _, rfl, h, ab7 _, (jZ _ _).2 rfl⟩
theorem qZ (f g : List GSpan) : (dW f g).length ≤ f.length := by
 unfold dW
 split
 ·simp; omega
 ·simp
def bz (dom f : List GSpan) : List GSpan × Int := if f.length = 0 then ([], 0) else if f.length = dom.length then (dW dom f, 0) else ([], 50)
theorem wD (dom f : List GSpan) (n1 : dom.length ≤ 1000000000) (n2 : f.length ≤ 1000000000) : Con2 Tryz.prog 64 [fzS dom, fzS f] (· = plR (.tup [fzS (bz dom f).1, .v (.int .i64 (bz dom f).2)])) := by
 refine af Ty.mixed Tryz.func64 rfl (by kernel_rfl) (by kernel_rfl) rfl [.tmp 4, .tmp 5] rfl ?_
 refine g2_ ?_
 refine g2_ ?_
 refine bm (fun h => ?_) (fun h => ?_)
 ·have e : bz dom f = ([], 0) := by unfold bz; rw [if_pos (by omega)]
  rw [e]
  refine g2_ ?_
  exact ⟨_, rfl, ab [] ws_⟩
 ·refine g2_ ?_
  refine oR (fun h2 => ?_) (fun h2 => ?_)
  ·have e : bz dom f = ([], 50) := by unfold bz; rw [if_neg (by omega), if_neg (by omega)]
   rw [e]
   refine g2_ ?_
   exact ⟨_, rfl, ab [] ws_⟩
  ·have e : bz dom f = (dW dom f, 0) := by unfold bz; rw [if_neg (by omega), if_pos (by omega)]
   rw [e]
   refine g2_ ?_
   refine CallS.eq (oz dom f n1 n2) ws_ (.inl ws_) ?_
   refine g2_ ?_
   exact ⟨_, rfl, ab [] ws_⟩
theorem iB (f : List GSpan) (n1 : f.length ≤ 5000000) : Con2 Tryz.prog 85 [fzS f] (· = plR (fzS f)) := by
 have h : Con2 Tryz.prog 85 [fzS f] (· = ⟨.rf 0 0 f.length, [(0, .arr 145 2 (f.map aU) false)], 1⟩) := by
  refine af Ty.mixed Tryz.func85 rfl (by kernel_rfl) (by kernel_rfl) rfl [.tmp 2] rfl ?_
  refine g2_ ?_
  refine g2_ ?_
  exact ⟨_, rfl, ab [(0, .to 0)] ws_⟩
 refine h.emb ?_ rfl
 exact ws_
end Go.Proofs.YtlaefellhnkfbaaGreat.V

set_option maxRecDepth 10000
namespace Go.Eng
theorem Con2.embs {P : Program} {f : FuncId} {args : List DV} {d' : DV} {Q : Res → Prop} (h : Con2 P f args Q) (hQ : ∀ r, Q r → embD r.H r.d = some d' ∧ noPt r.d = true) : Con2 P f args (· = plR d') := by
 intro u vs hv
 obtain ⟨hb, hc⟩ := h u vs hv
 refine ⟨hb, fun w hu => (hc w hu).mono ?_⟩
 rintro e' w' ⟨r, u', h1, h2, h3, r2, hq, β, us, s, hr, hs⟩
 obtain ⟨he, hp⟩ := hQ _ hq
 obtain ⟨us', g1, g2, g3⟩ := hr.ros (idsD r2.H r2.d)
 have h0 := hr.slot 0
 rw [hs] at h0
 obtain ⟨w0, e0, hd⟩ : ∃ w, SV.v r = .v w ∧ HV us r2.d β w := h0
 cases e0
 have h4 := fm (H := r2.H) g1 r2.d d' r g3 (.inl hp) hd he
 refine ⟨r, u', h1, h2, h3, _, rfl, noB, us', ⟨[(0, .v r)], []⟩, ⟨⟨hr.base.1.trans g1, hr.base.2.trans g1⟩, g2.sub, fun t => ?_, fun k => rfl, (fun id r hr => by cases hr), fun id _ => rfl, fun id hi => rfl, Nat.le_refl _, (fun i j ri rj b _ hi => by cases hi)⟩, rfl⟩
 show HS us' noB ((lk [(0, DSV.d d')] t).getD DSV.unk) ((lk [(0, SV.v r)] t).getD SV.unk)
 by_cases e : 0 = t
 ·subst e; exact ⟨r, rfl, h4⟩
 ·rw [aj e]; trivial
end Go.Eng
namespace Go.Proofs.YtlaefellhnkfbaaGreat.V
open Go.Eng
attribute [local go_sem] plR
theorem fj (l : List (List DV)) (hl : l.length ≤ 5000000) : Con2 Tryz.prog 93 [.fz 3 l] (· = plR (.fz 3 l)) := by
 have h : Con2 Tryz.prog 93 [.fz 3 l] (fun r => (l = [] ∧ r = plR (.fz 3 [])) ∨ r = ⟨.rf 0 0 l.length, [(0, .arr 71 3 l false)], 1⟩) := by
  by_cases h0 : l = []
  ·subst h0
   refine af Ty.mixed Tryz.func93 rfl (by kernel_rfl) (by kernel_rfl) rfl [.tmp 2] rfl ?_
   refine g2_ ?_
   refine g2_ ?_
   refine ⟨fun h => h.elim, fun t => ?_⟩
   cases t with
   | true =>
    refine g2_ ?_
    exact ⟨_, .inl (by first | exact ⟨rfl, rfl⟩ | rfl), ab [] ws_⟩
   | false =>
    refine g2_ ?_
    exact ⟨_, .inr rfl, ab [(0, .to 0)] ws_⟩
  ·have hn : 0 < l.length := List.length_pos_iff.2 h0
   refine af Ty.mixed Tryz.func93 rfl (by kernel_rfl) (by kernel_rfl) rfl [.tmp 2] rfl ?_
   refine g2_ ?_
   refine g2_ ?_
   refine ⟨fun _ => ⟨by omega, by omega, _, .inr rfl, ab [(0, .to 0)] ws_⟩, fun h => by omega⟩
 refine h.embs fun r hr => ?_
 rcases hr with ⟨rfl, rfl⟩ | rfl
 ·exact ⟨by simp -implicitDefEqProofs only [go_sem, aa], rfl⟩
 ·refine ⟨?_, rfl⟩
  exact ws_
theorem kx (l : List (List DV)) (hl : l.length ≤ 5000000) : Con2 Tryz.prog 94 [.fz 3 l] (· = plR (.fz 3 l)) := by
 have h : Con2 Tryz.prog 94 [.fz 3 l] (fun r => (l = [] ∧ r = plR (.fz 3 [])) ∨ r = ⟨.rf 0 0 l.length, [(0, .arr 64 3 l false)], 1⟩) := by
  by_cases h0 : l = []
  ·subst h0
   refine af Ty.mixed Tryz.func94 rfl (by kernel_rfl) (by kernel_rfl) rfl [.tmp 2] rfl ?_
   refine g2_ ?_
   refine g2_ ?_
   refine ⟨fun h => h.elim, fun t => ?_⟩
   cases t with
   | true =>
    refine g2_ ?_
    exact ⟨_, .inl (by first | exact ⟨rfl, rfl⟩ | rfl), ab [] ws_⟩
   | false =>
    refine g2_ ?_
    exact ⟨_, .inr rfl, ab [(0, .to 0)] ws_⟩
  ·have hn : 0 < l.length := List.length_pos_iff.2 h0
   refine af Ty.mixed Tryz.func94 rfl (by kernel_rfl) (by kernel_rfl) rfl [.tmp 2] rfl ?_
   refine g2_ ?_
   refine g2_ ?_
   refine ⟨fun _ => ⟨by omega, by omega, _, .inr rfl, ab [(0, .to 0)] ws_⟩, fun h => by omega⟩
 refine h.embs fun r hr => ?_
 rcases hr with ⟨rfl, rfl⟩ | rfl
 ·exact ⟨by simp -implicitDefEqProofs only [go_sem, aa], rfl⟩
 ·refine ⟨?_, rfl⟩
  exact ws_
theorem xC (l : List (List DV)) (hl : l.length ≤ 5000000) : Con2 Tryz.prog 95 [.fz 3 l] (· = plR (.fz 3 l)) := by
 have h : Con2 Tryz.prog 95 [.fz 3 l] (fun r => (l = [] ∧ r = plR (.fz 3 [])) ∨ r = ⟨.rf 0 0 l.length, [(0, .arr 132 3 l false)], 1⟩) := by
  by_cases h0 : l = []
  ·subst h0
   refine af Ty.mixed Tryz.func95 rfl (by kernel_rfl) (by kernel_rfl) rfl [.tmp 2] rfl ?_
   refine g2_ ?_
   refine g2_ ?_
   refine ⟨fun h => h.elim, fun t => ?_⟩
   cases t with
   | true =>
    refine g2_ ?_
    exact ⟨_, .inl (by first | exact ⟨rfl, rfl⟩ | rfl), ab [] ws_⟩
   | false =>
    refine g2_ ?_
    exact ⟨_, .inr rfl, ab [(0, .to 0)] ws_⟩
  ·have hn : 0 < l.length := List.length_pos_iff.2 h0
   refine af Ty.mixed Tryz.func95 rfl (by kernel_rfl) (by kernel_rfl) rfl [.tmp 2] rfl ?_
   refine g2_ ?_
   refine g2_ ?_
   refine ⟨fun _ => ⟨by omega, by omega, _, .inr rfl, ab [(0, .to 0)] ws_⟩, fun h => by omega⟩
 refine h.embs fun r hr => ?_
 rcases hr with ⟨rfl, rfl⟩ | rfl
 ·exact ⟨by simp -implicitDefEqProofs only [go_sem, aa], rfl⟩
 ·refine ⟨?_, rfl⟩
  exact ws_
theorem zd (l : List (List DV)) (hl : l.length ≤ 5000000) : Con2 Tryz.prog 97 [.fz 5 l] (· = plR (.fz 5 l)) := by
 have h : Con2 Tryz.prog 97 [.fz 5 l] (fun r => (l = [] ∧ r = plR (.fz 5 [])) ∨ r = ⟨.rf 0 0 l.length, [(0, .arr 152 5 l false)], 1⟩) := by
  by_cases h0 : l = []
  ·subst h0
   refine af Ty.mixed Tryz.func97 rfl (by kernel_rfl) (by kernel_rfl) rfl [.tmp 2] rfl ?_
   refine g2_ ?_
   refine g2_ ?_
   refine ⟨fun h => h.elim, fun t => ?_⟩
   cases t with
   | true =>
    refine g2_ ?_
    exact ⟨_, .inl (by first | exact ⟨rfl, rfl⟩ | rfl), ab [] ws_⟩
   | false =>
    refine g2_ ?_
    exact ⟨_, .inr rfl, ab [(0, .to 0)] ws_⟩
  ·have hn : 0 < l.length := List.length_pos_iff.2 h0
   refine af Ty.mixed Tryz.func97 rfl (by kernel_rfl) (by kernel_rfl) rfl [.tmp 2] rfl ?_
   refine g2_ ?_
   refine g2_ ?_
   refine ⟨fun _ => ⟨by omega, by omega, _, .inr rfl, ab [(0, .to 0)] ws_⟩, fun h => by omega⟩
 refine h.embs fun r hr => ?_
 rcases hr with ⟨rfl, rfl⟩ | rfl
 ·exact ⟨by simp -implicitDefEqProofs only [go_sem, aa], rfl⟩
 ·refine ⟨?_, rfl⟩
  exact ws_
end Go.Proofs.YtlaefellhnkfbaaGreat.V
