/-
 Part 49 of the proof of Pj: the engine and the walks, in their order.
-/
import Derived.Test.YtlaefellhnkfbaaGreatPj41
import Derived.Test.YtlaefellhnkfbaaGreatPj42
import Derived.Test.YtlaefellhnkfbaaGreatPj44
import Derived.Test.YtlaefellhnkfbaaGreatPj48
set_option linter.unusedSimpArgs false
set_option linter.unusedVariables false
set_option maxRecDepth 10000
namespace Go.Eng
section
variable {l : List GDesc} {self : UInt8} {d : GDesc} {room : Int}
theorem aa4 (h1 : d.node ≠ self) (h2 : d.inc ≠ 0) (h : (bB l d self room).2 = true) : Nd (bB l d self room).1 d.node := by
 rcases ac6 l d self room with e | e
 ·rw [e.1] at h; cases h
 ·exact ⟨d, e.2.1, rfl⟩
theorem ae0 (hv : Vw self l) (h1 : d.node ≠ self) (h2 : d.inc ≠ 0) (h3 : 1 ≤ room) : l.length ≤ (db l d self room).length ∧ Nd (db l d self room) d.node := by
 unfold db
 by_cases hp : (bB l d self room).2 = true
 ·rw [if_pos hp]
  exact ⟨oH l d self room, aa4 h1 h2 hp⟩
 ·have hp : (bB l d self room).2 = false := by simpa using hp
  rw [if_neg (by rw [hp]; decide)]
  by_cases hn : bX l d.node = none
  ·rw [if_neg (by rintro (e | e | e); exact h1 e; exact h2 e; exact e hn)]
   have hr := ae8 hp h1 h2 hn
   have hl : l ≠ [] := fun e => by rw [e] at hr; simp at hr; omega
   obtain ⟨i, hi⟩ := ad1 hl
   obtain ⟨o, ho, _⟩ := aea hi
   rw [hi]
   simp only [ho]
   obtain ⟨hil, hoe⟩ := List.getElem?_eq_some_iff.1 ho
   have hoi : bX l o.node = some i := aax (self := self) hv.2 ho
   have hd := pJ hv.2 hoi
   have hlen : (bb l o.node).length + 1 = l.length := by
    rw [hd, List.length_append, List.length_take, List.length_drop]; omega
   have hnn : bX (bb l o.node) d.node = none := by
    cases hx : bX (bb l o.node) d.node with
    | none => rfl
    | some j =>
     obtain ⟨x, hx1, hx2⟩ := cD hx
     exact absurd hx2 (fY hn x (List.mem_filter.1 (List.mem_of_getElem? hx1)).1)
   rw [aah (self := self) hnn h1 h2 (by omega)]
   simp only
   exact ⟨by rw [ig]; omega, d, lQ.2 (.inl rfl), rfl⟩
  ·rw [if_pos (.inr (.inr hn))]
   exact ⟨Nat.le_refl _, af5.2 hn⟩
theorem z9 : ∀ (r l : List GDesc), l.length ≤ (cZ self room l r).length
 | [], l => Nat.le_refl _
 | d :: r, l => by
  rw [cZ]
  exact Nat.le_trans (oH l d self room) (z9 r _)
theorem adn {e : GDesc} {r : List GDesc} (h1 : e.node ≠ self) (h2 : e.inc ≠ 0) (h3 : 1 ≤ room) : 1 ≤ (cZ self room [] (e :: r)).length := by
 rw [cZ]
 refine Nat.le_trans ?_ (z9 r _)
 rw [aah (self := self) (l := []) (a := e) rfl h1 h2 (by simp; omega)]
 simp only [ig]
 omega
theorem ajU {i : Nat} (hi : i < 256) (hd : (0 : Int) < (d.inc.toNat : Int)) : (zL.set i d).filter (fun d => decide ((0 : Int) < (d.inc.toNat : Int))) = [d] := by
 have e : zL.set i d = List.replicate i aO ++ d :: List.replicate (256 - i - 1) aO := by
  unfold zL
  rw [List.set_eq_take_append_cons_drop, if_pos (by simpa using hi), List.take_replicate, List.drop_replicate]
  congr 2 <;> omega
 have hz : ∀ n, (List.replicate n aO).filter (fun d => decide ((0 : Int) < (d.inc.toNat : Int))) = [] := fun n => g_ (fun x hx => by rw [(List.mem_replicate.1 hx).2]; rfl)
 rw [e, List.filter_append, List.filter_cons, hz, hz, if_pos (by simpa using hd)]
 rfl
theorem acF (h1 : d.node ≠ self) (h2 : d.inc ≠ 0) : bl self [[d], [], [], []] = [d] := by
 have hn := d.node.toNat_lt
 have hi : (0 : Int) < (d.inc.toNat : Int) := by
  have : d.inc.toNat ≠ 0 := fun e => h2 (UInt16.toNat_inj.1 e)
  omega
 have hg : zL[d.node.toNat]? = some aO := by unfold zL; rw [List.getElem?_replicate, if_pos (by omega)]
 show (eI self zL [d]).filter _ = _
 show (f_ self zL d).filter _ = _
 have e : f_ self zL d = zL.set d.node.toNat d := by
  unfold f_
  rw [if_neg (by rintro (e | e); exact h1 e; exact h2 e)]
  simp only [hg]
  rw [if_pos (.inl rfl)]
 rw [e]
 exact ajU (by omega) hi
theorem agA {l : List GDesc} {d : GDesc} : d ∈ bY l d := by simp [bY]
theorem afl {d : GDesc} : bY [] d = [d] := by simp [bY]
end
end Go.Eng
namespace Go.Proofs.YtlaefellhnkfbaaGreat.V
open Go.Eng
section
variable {c : av} {a b nd : UInt8} {p q : ak} {o : GOp} {m : aV} {dr : List UInt32}
structure Own1 (p q : ak) : Prop where
 node : q.node = p.node
 filter : q.filter = p.filter
 inc : q.inc = p.inc
 up : q.up = p.up
 own : q.table[p.node.toNat]? = p.table[p.node.toNat]?
theorem Own1.refl (p : ak) : Own1 p p := ⟨rfl, rfl, rfl, rfl, rfl⟩
theorem Own1.trans {r : ak} (h : Own1 p q) (g : Own1 q r) : Own1 p r := ⟨g.node.trans h.node, g.filter.trans h.filter, g.inc.trans h.inc, g.up.trans h.up, by have := g.own; rw [h.node] at this; exact this.trans h.own⟩
theorem dj (l : List GDesc) : Own1 p (aH c p l) := ⟨rfl, rfl, rfl, rfl, rfl⟩
theorem lg (n : UInt8) (i : UInt16) : Own1 p (aI c p n i).1 := by
 unfold aI
 split
 ·exact Own1.refl p
 ·rename_i h
  split
  ·exact Own1.refl p
  ·split
   ·exact Own1.refl p
   ·refine ⟨rfl, rfl, rfl, rfl, ?_⟩
    show (de p.table n i)[p.node.toNat]? = _
    rw [jJ, if_neg (fun e => h (.inr (.inr (.inl (UInt8.toNat_inj.1 e)))))]
    cases p.table[p.node.toNat]? <;> rfl
theorem ml (t : List ao) : Own1 p (cK p t) := by
 refine ⟨rfl, rfl, rfl, rfl, ?_⟩
 show (dG p.table t p.node)[p.node.toNat]? = _
 rw [qD]
 cases p.table[p.node.toNat]? with
 | none => rfl
 | some x =>
  rw [Option.map_some]
  unfold mMg
  split
  ·rw [if_neg (fun e => e.1 rfl)]
  ·rfl
theorem aeD {n : UInt8} {i : UInt16} (h : n ≠ p.node) : Own1 p { p with table := fH p.table n i } := by
 refine ⟨rfl, rfl, rfl, rfl, ?_⟩
 show (fH p.table n i)[p.node.toNat]? = _
 rw [adN, if_neg (fun e => h (UInt8.toNat_inj.1 e))]
 cases p.table[p.node.toNat]? <;> rfl
theorem own_aged : Own1 p (bx c p) := by
 refine ⟨rfl, rfl, rfl, rfl, ?_⟩
 show (gy p.table p.node c.suspect)[p.node.toNat]? = _
 rw [gy, List.getElem?_mapIdx]
 cases p.table[p.node.toNat]? with
 | none => rfl
 | some x =>
  rw [Option.map_some]
  unfold mTk
  rw [if_pos (.inl rfl)]
theorem ah2 : Own1 p (dE c p dr).1 := by
 unfold dE
 simp only
 split
 ·exact ⟨rfl, rfl, rfl, rfl, rfl⟩
 ·exact Own1.refl p
theorem eK {A : ak} {B : List aV} {Q : ak × Bool} (h : Own1 p Q.1) (g : Q.2 = true → Own1 Q.1 A) : Own1 p (if Q.2 = true then (A, B) else (Q.1, [])).1 := by
 split
 ·rename_i e; exact h.trans (g e)
 ·exact h
theorem agh : Own1 p (eO dr c p m).1 := by
 have hh := lg (c := c) (p := p) m.frm m.inc
 unfold eO
 split
 ·exact Own1.refl p
 split
 ·refine eK hh (fun _ => Own1.trans ?_ (dj _))
  unfold dz
  split
  ·split
   ·exact ⟨rfl, rfl, rfl, rfl, rfl⟩
   ·exact Own1.refl _
  ·exact Own1.refl _
 split
 ·exact eK hh (fun _ => (show Own1 (aI c p m.frm m.inc).1 (dk c (aI c p m.frm m.inc).1 m) from have h := ml (p := (aI c p m.frm m.inc).1) m.table; ⟨h.node, h.filter, h.inc, h.up, h.own⟩).trans (dj _))
 split
 ·exact eK hh (fun _ => (show Own1 (aI c p m.frm m.inc).1 (gb c (aI c p m.frm m.inc).1 m (cN c.swap (bb (aI c p m.frm m.inc).1.view m.frm) [] dr)) from ⟨rfl, rfl, rfl, rfl, rfl⟩).trans (dj _))
 split
 ·refine eK hh (fun _ => Own1.trans ?_ (dj _))
  unfold jQ
  simp only
  split
  ·exact ⟨rfl, rfl, rfl, rfl, rfl⟩
  ·exact Own1.refl _
 split
 ·exact eK hh (fun _ => dj _)
 split
 ·exact eK hh (fun _ => dj _)
 split
 ·exact eK hh (fun _ => (ml m.table).trans (dj _))
 split
 ·refine eK hh (fun e => (aeD ?_).trans (dj _))
  rw [wX]
  exact (rM e).2
 ·exact eK hh (fun _ => dj _)
theorem ad2 (hw : (4 : Int) < (o.what.toNat : Int)) : Own1 p (eG c p o).1 := by
 have h : ∀ k : UInt8, k.toNat ≤ 4 → o.what ≠ k := fun k hk e => by rw [e] at hw; omega
 unfold eG
 rw [if_neg (h 0 (by decide)), if_neg (h 1 (by decide)), if_neg (h 2 (by decide)), if_neg (h 3 (by decide)), if_neg (h 4 (by decide))]
 split
 ·simp only
  split
  ·exact Own1.refl p
  ·exact (own_aged.trans (dj [])).trans ah2
 split
 ·exact (lg o.node o.inc).trans (dj [])
 split
 ·exact dj _
 ·exact agh
structure Jn (c : av) (nd : UInt8) (p : ak) : Prop where
 bd : Bd c nd p
 up : p.up = true
 inc : p.inc = 1
 filter : p.filter = []
 own : p.table[nd.toNat]? = some ⟨1, 1, 0⟩
theorem ai_ (hc : aA c = true) (hS : ∀ s ∈ c.schema, okS s) (h : Jn c nd p) (hm : okMg o.m) (hfs : ∀ s ∈ o.filter, okS s) (hw : (4 : Int) < (o.what.toNat : Int)) : Jn c nd (eG c p o).1 := by
 have h1 := (aa8 hc hS h.bd hm hfs (.inl h.up)).bd
 have h2 := ad2 (c := c) (p := p) hw
 have hn := h.bd.node
 rw [hn] at h1
 refine ⟨h1, h2.up.trans h.up, h2.inc.trans h.inc, h2.filter.trans h.filter, ?_⟩
 have := h2.own
 rw [hn] at this
 exact this.trans h.own
theorem uy (hc : aA c = true) (hn : (nd.toNat : Int) < c.nodes) : (bf c (bh c nd)).2 = 0 ∧ Jn c nd (bf c (bh c nd)).1 ∧ (bf c (bh c nd)).1.view = [] ∧ (bf c (bh c nd)).1.near = [] ∧ (bf c (bh c nd)).1.ring = zR ∧
  ∀ i : UInt8, i ≠ nd → (i.toNat : Int) < c.nodes → (bf c (bh c nd)).1.table[i.toNat]? = some ⟨0, 0, 0⟩ := by
 have hr := cV hc
 have hB := (vT hc (akw hc nd)).1
 have hlen := ahi hr.1 hr.2.1 nd
 have e : bf c (bh c nd) = ({ bh c nd with inc := 1, up := true, table := (bh c nd).table.set nd.toNat ⟨1, 1, 0⟩ }, 0) := by
  unfold bf
  rw [if_neg (show ¬ (bh c nd).up = true by simp [bh]), if_neg (show ¬ (bh c nd).inc = 65535 by simp [bh])]
  rfl
 rw [e] at hB ⊢
 refine ⟨rfl, ⟨hB, rfl, rfl, rfl, ?_⟩, rfl, rfl, rfl, fun i hi hl => ?_⟩
 ·show ((bh c nd).table.set nd.toNat ⟨1, 1, 0⟩)[nd.toNat]? = _
  exact List.getElem?_set_self (by omega)
 ·show ((bh c nd).table.set nd.toNat ⟨1, 1, 0⟩)[i.toNat]? = _
  rw [List.getElem?_set_ne (fun e => hi (UInt8.toNat_inj.1 e.symm))]
  have : i.toNat < (bh c nd).table.length := by omega
  simp only [bh, List.length_replicate] at this ⊢
  rw [List.getElem?_replicate, if_pos this]
theorem oJ (h1 : (nd.toNat : Int) < c.nodes) : da c ⟨nd, 1, 0, []⟩ = true := by
 simp only [da, Bool.and_eq_true, decide_eq_true_eq]
 exact ⟨⟨h1, by decide⟩, rfl⟩
structure amr (c : av) (a b : UInt8) (p q : ak) (M : aV) (P : ak) (W : aV) (R : ak) : Prop where
 m1 : eB c q a = ([M], 0)
 m2 : okMg M
 p1 : eO [] c p M = (P, [W])
 p2 : Bd c a P
 p3 : W.to = b
 p4 : 0 ≤ gI P.view b
 p5 : p.view.length ≤ P.view.length
 w1 : okMg W
 r1 : eO [] c q W = (R, [])
 r2 : Bd c b R
 r3 : R.table[a.toNat]? = some ⟨1, 1, 0⟩
 r4 : 1 ≤ R.view.length
 r5 : (R.view.length : Int) ≤ c.view
 r6 : R.view.length ≤ W.list.length
 r7 : p.view.length = 0 → 0 ≤ gI R.view a ∧ R.ring.hs = true ∧ R.ring.succ.node = a ∧ R.ring.pred.node = a
theorem z_ {l : List GDesc} {n : UInt8} (h : Nd l n) : 0 ≤ gI l n := by
 have := af5.1 h
 unfold gI
 split
 ·omega
 ·exact absurd ‹_› this
theorem both (hc : aA c = true) (hS : ∀ s ∈ c.schema, okS s) (hab : a ≠ b) (ha : (a.toNat : Int) < c.nodes) (hb : (b.toNat : Int) < c.nodes) (hp : Jn c a p) {m0 : ao} (hm0 : p.table[b.toNat]? = some m0) (hk : ¬ (1 : UInt16) < m0.inc ∧ ¬ ((1 : UInt16) = m0.inc ∧ m0.state = 3))
  (hq : Jn c b q) (hqv : q.view = []) (hqn : q.near = []) (hqr : q.ring = zR) (hqa : q.table[a.toNat]? = some ⟨0, 0, 0⟩) : ∃ M P W R, amr c a b p q M P W R := by
 have hr := cV hc
 have hpn := hp.bd.node
 have hqn' := hq.bd.node
 have es : aT q = ⟨b, 1, 0, []⟩ := by rw [aT, hqn', hq.inc, hq.filter]
 obtain ⟨d, hd⟩ : ∃ d : GDesc, d = ⟨b, 1, 0, []⟩ := ⟨_, rfl⟩
 have d1 : d.node = b := by rw [hd]
 have d2 : d.inc = 1 := by rw [hd]
 have d3 : d.filter = [] := by rw [hd]
 have dF : da c d = true := by rw [hd]; exact oJ hb
 rw [← hd] at es
 obtain ⟨M, hM⟩ : ∃ M : aV, M = { bV q 1 a with list := [d] } := ⟨_, rfl⟩
 have M1 : M.frm = b := by rw [hM]; exact hqn'
 have M2 : M.inc = 1 := by rw [hM]; exact hq.inc
 have M3 : M.to = a := by rw [hM]; rfl
 have M4 : M.kind = 1 := by rw [hM]; rfl
 have M5 : M.list = [d] := by rw [hM]
 have hJ : eB c q a = ([M], 0) := by
  unfold eB
  rw [if_neg (by rw [hq.up]; decide), if_neg (by rw [hqn']; rintro (e | e); omega; exact hab e), es, ← hM]
 have hMg : okMg M := aeU M5 d3 (by rw [hM]; simp [bV])
 -- the one that is asked
 have hh := uK (c := c) (p := p) (node := b) (inc := 1) (m := m0) hb hp.bd.win.table (by rw [hpn]; exact fun e => hab e.symm) (by decide) hm0 hk.1 hk.2
 have hmh : gm 1 m0 = ⟨1, 1, 0⟩ := by
  unfold gm
  rw [if_pos]
  by_cases e : m0.inc < 1
  ·exact .inl e
  ·refine .inr ⟨?_, by decide, fun e2 => hk.2 ⟨?_, e2⟩⟩ <;> (apply UInt16.toNat_inj.1; have := Nat.not_lt.1 (fun h => e (UInt16.lt_iff_toNat_lt.2 h)); have := Nat.not_lt.1 (fun h => hk.1 (UInt16.lt_iff_toNat_lt.2 h)); have : (1 : UInt16).toNat = 1 := rfl; omega)
 have own1 := lg (c := c) (p := p) b 1
 have gh := hp.bd.go.hear b 1
 rw [hh] at own1 gh
 obtain ⟨p1, hp1⟩ : ∃ p1, p1 = { p with table := de p.table b 1, reports := if m0.inc < 1 then ec p.reports b else p.reports } := ⟨_, rfl⟩
 simp only at own1 gh
 rw [← hp1] at own1 gh hh
 have p1v : p1.view = p.view := by rw [hp1]
 have p1n : p1.node = a := own1.node.trans hpn
 have p1s : aT p1 = ⟨a, 1, 0, []⟩ := by rw [aT, p1n, own1.inc, own1.filter, hp.inc, hp.filter]
 have p1b : p1.table[b.toNat]? = some ⟨1, 1, 0⟩ := by
  rw [hp1]
  show (de p.table b 1)[b.toNat]? = _
  rw [jJ, hm0, if_pos rfl, Option.map_some, hmh]
 have p1a : p1.table[a.toNat]? = some ⟨1, 1, 0⟩ := by have := own1.own; rw [hpn] at this; exact this.trans hp.own
 have p1o : ∀ i : UInt8, i ≠ b → p1.table[i.toNat]? = p.table[i.toNat]? := fun i hi => by
  rw [hp1]
  show (de p.table b 1)[i.toNat]? = _
  rw [jJ, if_neg (fun e => hi (UInt8.toNat_inj.1 e.symm))]
  cases p.table[i.toNat]? <;> rfl
 have hcurv : ∀ x ∈ p.view, b_ p1 x = true := fun x hx => by
  have h0 := (gl hp.bd.win.view).2.1 x hx
  have h1 := hp.bd.win.cur p.view (by simp) x hx
  obtain ⟨h2, m, h3, h4⟩ := mw h1
  unfold b_
  rw [if_neg (by rw [own1.node]; exact h2)]
  by_cases e : x.node = b
  ·rw [e, p1b]
   simp only
   by_cases e1 : x.inc = 1
   ·rw [e1]; rfl
   ·have : (1 : UInt16) < x.inc := by
     rw [UInt16.lt_iff_toNat_lt]
     have g1 : x.inc.toNat ≠ 0 := fun e => h0.2 (UInt16.toNat_inj.1 e)
     have g2 : x.inc.toNat ≠ 1 := fun e => e1 (UInt16.toNat_inj.1 e)
     show 1 < _
     omega
    rw [decide_eq_true this]; rfl
  ·rw [p1o _ e, h3]
   simpa using h4
 have hcurd : b_ p1 d = true := by
  unfold b_
  rw [if_neg (by rw [p1n, d1]; exact fun e => hab e.symm), d1, p1b, d2]
  rfl
 obtain ⟨V1, hV1⟩ : ∃ V, V = db p1.view d p1.node c.view := ⟨_, rfl⟩
 obtain ⟨v1, v2⟩ := ae0 (self := p1.node) (d := d) (room := c.view) gh.pre.view.2 (by rw [p1n, d1]; exact fun e => hab e.symm) (by rw [d2]; decide) hr.2.2.1
 rw [← hV1, d1] at v2
 rw [← hV1] at v1
 have hVc : bk { p1 with view := V1 } V1 = V1 := by
  refine List.filter_eq_self.2 fun x hx => ?_
  rw [lT (p := p1) (q := { p1 with view := V1 }) rfl rfl]
  rw [hV1] at hx
  rcases jG hx with h | rfl
  ·exact hcurv x (by rw [← p1v]; exact h)
  ·exact hcurd
 obtain ⟨W, hW⟩ : ∃ W : aV, W = { bV p1 2 b with list := bY p1.view (aT p1), table := p1.table } := ⟨_, rfl⟩
 have hjn : dz c p1 M = ({ p1 with view := V1 }, [W]) := by
  unfold dz
  rw [M5]
  simp only
  rw [if_pos ⟨by rw [d1, M1], by rw [d2, M2], dF⟩, M1, hW, hV1]
 have hT : eO [] c p M = (aH c { p1 with view := V1 } [], [W]) := by
  unfold eO
  rw [if_neg (by rw [hp.up, M3, hpn]; simp), if_pos M4]
  unfold nj
  simp only
  rw [M1, M2, hh]
  simp only [if_true]
  rw [hjn]
 have hP := (mb (dr := []) hc hp.bd hMg).1.bd
 rw [hT, hpn] at hP
 have hPv : (aH c { p1 with view := V1 } []).view = V1 := hVc
 have W1 : W.frm = a := by rw [hW]; exact p1n
 have W2 : W.inc = 1 := by rw [hW]; exact own1.inc.trans hp.inc
 have W3 : W.to = b := by rw [hW]; rfl
 have W4 : W.kind = 2 := by rw [hW]; rfl
 have W5 : W.list = bY p.view ⟨a, 1, 0, []⟩ := by rw [hW, p1v, p1s]
 have W6 : W.table = p1.table := by rw [hW]
 have hv12 := kQ hc hp.bd
 have hWg : okMg W := by
  have hl : W.list.length ≤ 13 := by
   rw [W5]
   simp only [bY, List.length_append, List.length_cons, List.length_take, List.length_drop]; omega
  have hmem : ∀ x ∈ W.list, x ∈ p.view ∨ x = ⟨a, 1, 0, []⟩ := fun x hx => by
   rw [W5] at hx
   simp only [bY, List.mem_append, List.mem_cons] at hx
   rcases hx with h | h | h
   ·exact .inl (List.mem_of_mem_take h)
   ·exact .inr h
   ·exact .inl (List.mem_of_mem_drop h)
  refine ⟨by omega, fun x hx => ?_, fun x hx s hs => ?_, by rw [W6]; have := gh.h.g.table; omega⟩
  ·rcases hmem x hx with h | rfl
   ·have := hp.bd.h.v8.2 x h; omega
   ·simp
  ·rcases hmem x hx with h | rfl
   ·exact (hp.bd.h.g.view x h).2 s hs
   ·cases hs
 -- the one that joins
 have hh2 := uK (c := c) (p := q) (node := a) (inc := 1) (m := ⟨0, 0, 0⟩) ha hq.bd.win.table (by rw [hqn']; exact hab) (by decide) hqa (by decide) (by decide)
 have own2 := lg (c := c) (p := q) a 1
 rw [hh2] at own2
 obtain ⟨q1, hq1⟩ : ∃ q1, q1 = { q with table := de q.table a 1, reports := if (0 : UInt16) < 1 then ec q.reports a else q.reports } := ⟨_, rfl⟩
 simp only at own2 hh2
 rw [← hq1] at own2 hh2
 have q1a : q1.table[a.toNat]? = some ⟨1, 1, 0⟩ := by
  rw [hq1]
  show (de q.table a 1)[a.toNat]? = _
  rw [jJ, hqa, if_pos rfl, Option.map_some]
  rfl
 have own3 := ml (p := q1) W.table
 obtain ⟨q2, hq2⟩ : ∃ q2, q2 = cK q1 W.table := ⟨_, rfl⟩
 rw [← hq2] at own3
 have own4 := own2.trans own3
 have q2n : q2.node = b := own4.node.trans hqn'
 have q2f : q2.filter = [] := own4.filter.trans hq.filter
 have q2v : q2.view = [] := by rw [hq2, hq1]; exact hqv
 have q2e : q2.near = [] := by rw [hq2, hq1]; exact hqn
 have q2r : q2.ring = zR := by rw [hq2, hq1]; exact hqr
 have q2a : q2.table[a.toNat]? = some ⟨1, 1, 0⟩ := by
  rw [hq2]
  show (dG q1.table W.table q1.node)[a.toNat]? = _
  rw [qD, q1a, Option.map_some]
  unfold mMg
  rw [W6, p1a]
  simp only
  rw [if_neg (fun e => absurd e.2 (by decide))]
 have hcura : b_ q2 ⟨a, 1, 0, []⟩ = true := by
  unfold b_
  simp only
  rw [if_neg (by rw [q2n]; exact hab), q2a]
  rfl
 have hmema : (⟨a, 1, 0, []⟩ : GDesc) ∈ bW c q2 W.list := by
  unfold bW bk ew
  refine List.mem_filter.2 ⟨List.mem_filter.2 ⟨?_, oJ ha⟩, hcura⟩
  rw [W5]; exact agA
 obtain ⟨V, hV⟩ : ∃ V, V = cZ q2.node c.view q2.view (bW c q2 W.list) := ⟨_, rfl⟩
 have hVlen : 1 ≤ V.length := by
  rw [hV, q2v]
  have hcu : ∀ x ∈ bW c q2 W.list, b_ q2 x = true ∧ da c x = true := fun x hx => ⟨(List.mem_filter.1 hx).2, oM hx⟩
  cases hU : bW c q2 W.list with
  | nil => rw [hU] at hmema; cases hmema
  | cons e r =>
   obtain ⟨g1, g2⟩ := hcu e (by rw [hU]; exact List.mem_cons_self)
   refine adn (pW g1) (fun e0 => ?_) hr.2.2.1
   simp only [da, Bool.and_eq_true, decide_eq_true_eq] at g2
   have := g2.1.2
   rw [e0] at this
   exact absurd this (by decide)
 have hVle : V.length ≤ W.list.length := by
  rw [hV, q2v]
  refine Nat.le_trans (mc _ _) ?_
  have g1 := List.length_filter_le (b_ q2) (ew c W.list)
  have g2 := List.length_filter_le (da c) W.list
  show 0 + (List.filter (b_ q2) (ew c W.list)).length ≤ _
  have g3 : (ew c W.list).length = (List.filter (da c) W.list).length := rfl
  omega
 have hVc2 : bk { q2 with view := V } V = V := by
  refine List.filter_eq_self.2 fun x hx => ?_
  rw [lT (p := q2) (q := { q2 with view := V }) rfl rfl]
  rw [hV, q2v] at hx
  rcases lD _ _ x hx with h | h
  ·cases h
  ·exact (List.mem_filter.1 h).2
 have hT2 : eO [] c q W = (aH c { q2 with view := V } [], []) := by
  unfold eO
  rw [if_neg (by rw [hq.up, W3, hqn']; simp), if_neg (by rw [W4]; decide), if_pos W4]
  unfold fE
  simp only
  rw [W1, W2, hh2]
  simp only [if_true]
  unfold dk
  rw [← hq2, ← hV]
 have hR := (mb (dr := []) hc hq.bd hWg).1.bd
 rw [hT2, hqn'] at hR
 have hRv : (aH c { q2 with view := V } []).view = V := hVc2
 refine ⟨M, _, W, _, hJ, hMg, hT, hP, W3, ?_, ?_, hWg, hT2, hR, q2a, ?_, ?_, ?_, fun hz => ?_⟩
 ·rw [hPv]; exact z_ v2
 ·rw [hPv, ← p1v]; exact v1
 ·rw [hRv]; exact hVlen
 ·exact (gl hR.win.view).1
 ·rw [hRv]; exact hVle
 ·have hpv : p.view = [] := List.eq_nil_of_length_eq_zero hz
  have hU : bW c q2 W.list = [⟨a, 1, 0, []⟩] := by
   rw [W5, hpv, afl]
   simp [bW, ew, bk, oJ ha, hcura]
  have hVe : V = [⟨a, 1, 0, []⟩] := by rw [hV, q2v, q2n, hU, fill_one hab (show (1 : UInt16) ≠ 0 by decide) (by omega)]
  have hm := adh (c := c) (p := { q2 with view := V }) (d := ⟨a, 1, 0, []⟩) hVe (by rw [lT (p := q2) (q := { q2 with view := V }) rfl rfl]; exact hcura) q2e q2r (by show bl q2.node _ = _; rw [q2n]; exact acF hab (show (1 : UInt16) ≠ 0 by decide)) (by show cw q2.filter _ = _; rw [q2f]; rfl)
  rw [hm]
  exact ⟨z_ ⟨_, List.mem_singleton.2 rfl, rfl⟩, rfl, rfl, rfl⟩
end
end Go.Proofs.YtlaefellhnkfbaaGreat.V

set_option maxRecDepth 10000
set_option maxHeartbeats 4000000
namespace Go.Proofs.YtlaefellhnkfbaaGreat.V
open Go.Eng
attribute [local go_sem] aO aU ah fzD plR bH bw aM bL aJ au bu dC z8 z16 z32 z64 ax aZ fa i2 List.map_cons List.map_nil
theorem nb1 : (((1 : Nat) : Int) != 1) = false := rfl
theorem nb0 : (((0 : Nat) : Int) != 0) = false := rfl
theorem nb2 : (((2 : Nat) : Int) != 2) = false := rfl
theorem nb4 : (((4 : Nat) : Int) != 4) = false := rfl
theorem adA : ((UInt16.toNat 1 : Nat) : Int) = 1 := rfl
attribute [local go_sem] adA nb0 nb1 nb2 nb4 bne_self_eq_false alU alB alH ak8 ak9 alT List.length_cons List.length_nil
theorem alo : okH awA := l9 awC _ (lS awC 0)
theorem aw_hB : okH awB := l9 awC _ (lS awC 1)
theorem aiv : awC.schema.length ≤ 4 := by decide
theorem agi : ∀ s ∈ awC.schema, okS s := by
 intro s hs
 have hs : s ∈ [(⟨0, 9⟩ : GSpan)] := hs
 rw [List.mem_singleton.1 hs]
 exact ⟨by decide, by decide, by decide, by decide⟩
theorem amt : okMg awM := by
 have e : awM.list = [⟨1, 1, 0, []⟩] := by kernel_rfl
 have e2 : awM.table = [] := by kernel_rfl
 exact ⟨by rw [e]; simp, by rw [e]; simp, by rw [e]; simp, by rw [e2]; simp⟩
theorem amv : okMg awW := ⟨by decide, by simp [awW], by simp [awW], by decide⟩
theorem alf : okH awB1 := by
 have h : okH (aI awC awB awW.frm awW.inc).1 := di aw_hB _ _
 have h2 : okH (cK (aI awC awB awW.frm awW.inc).1 awW.table) := mN h _
 have hv : (dk awC (aI awC awB awW.frm awW.inc).1 awW).view = [⟨0, 1, 0, []⟩] := by kernel_rfl
 have e : awB1 = aH awC (dk awC (aI awC awB awW.frm awW.inc).1 awW) [] := by kernel_rfl
 rw [e]
 refine agR ⟨jh h2.g (by
  have : (dk awC (aI awC awB awW.frm awW.inc).1 awW).view.length ≤ 4000000 := by rw [hv]; simp
  exact this) (by
  have : ∀ d ∈ (dk awC (aI awC awB awW.frm awW.inc).1 awW).view, okF d := by rw [hv]; simp [okF]
  exact this), h2.rs, by rw [hv]; exact ⟨by simp, by simp⟩, ?_⟩ ⟨by simp, by simp⟩ (by simp)
 rw [hv]
 have e2 : (dk awC (aI awC awB awW.frm awW.inc).1 awW).node = 1 := by kernel_rfl
 rw [e2]
 exact ⟨by decide, List.pairwise_singleton _ _⟩
theorem amh : ∃ r0 r1 r2 r3 : aV, (eZ awC awB1 [1, 2, 3] awL).2 = [r0, r1, r2, r3] ∧ (r0.kind = 3 ∧ r0.to = 0 ∧ r0.frm = 1 ∧ r0.inc = 1) ∧ (r1.kind = 5 ∧ r1.to = 0 ∧ r1.frm = 1 ∧ r1.inc = 1) ∧ (r2.kind = 6 ∧ r2.to = 0 ∧ r2.frm = 1 ∧ r2.inc = 1) ∧ (r3.kind = 8 ∧ r3.to = 0 ∧ r3.frm = 1 ∧ r3.inc = 1) := by
 have h := ami
 generalize (eZ awC awB1 [1, 2, 3] awL).2 = R at h
 have hl := congrArg List.length h
 simp only [List.length_map, List.length_cons, List.length_nil] at hl
 match R, hl, h with
 | [r0, r1, r2, r3], _, h =>
  simp at h
  exact ⟨r0, r1, r2, r3, rfl, h.1, h.2.1, h.2.2.1, h.2.2.2⟩
theorem ak2 : awS.view = [⟨0, 1, 1, []⟩] := by kernel_rfl
theorem amq : awS.table = [⟨1, 1, 1⟩, ⟨1, 1, 0⟩] := by kernel_rfl
theorem amo : awB1.up = true := by kernel_rfl
theorem afo : Con2 Tryz.prog 14 [.agg (au awS)] (· = plR (.fz 1 (awL.map a_))) := by
 have e1 : dL awS = [0, 0] := by kernel_rfl
 have e2 : awS.near = [] := by kernel_rfl
 have e3 : awS.ring.succ.filter = [] := by kernel_rfl
 have e4 : awS.ring.pred.filter = [] := by kernel_rfl
 exact z0 awS (by rw [ak2]; simp) (by rw [e2]; simp) (by rw [e3]; simp) (by rw [e4]; simp) (by rw [e1]; simp)
theorem aiJ : Con2 Tryz.prog 20 [.agg (aJ awC), .agg (au awB1), .fz 1 ([1, 2, 3].map aX)] (· = plR (.tup [.agg (au awS), .fz 17 ((eZ awC awB1 [1, 2, 3] awL).2.map ax)])) := by
 have h1 : ok8 awQ.view := by rw [amc]; exact ⟨by simp, by simp⟩
 have h2 : awB1.wait.sent = [] := by kernel_rfl
 have h3 : awB1.filter = [] := by kernel_rfl
 have h4 : ok8 (fQ awQ.view (aT awQ) awC.swap [1, 2, 3]).2.1 := by rw [amu]; exact ⟨by simp, by simp⟩
 exact uP awC awB1 [1, 2, 3] awL aiv agi alf amo (by decide) (by simp) (by rw [h2]; exact ⟨by simp, by simp⟩) afo (by rw [amm]; simp) h4 h1 (by rw [h3]; simp)
theorem uU : Con2 Tryz.prog 9 [] (· = plR (.v (.bool true))) := by
 have c1 : Con2 Tryz.prog 42 [.v (.int .i64 2)] (· = plR (.agg (aJ awC))) := abS 2
 have c2 : Con2 Tryz.prog 10 [.agg (aJ awC), .v (.int .u8 (UInt8.toNat 0))] (· = plR (.tup [.agg (au awA), .v (.bool true)])) := by
  have h := tY awC 0
  rw [aw1] at h
  simp only [aw3, decide_true, Bool.and_self] at h
  exact h
 have c3 : Con2 Tryz.prog 10 [.agg (aJ awC), .v (.int .u8 (UInt8.toNat 1))] (· = plR (.tup [.agg (au awB), .v (.bool true)])) := by
  have h := tY awC 1
  rw [aw2] at h
  simp only [aw4, decide_true, Bool.and_self] at h
  exact h
 have c4 : Con2 Tryz.prog 11 [.agg (aJ awC), .agg (au awB), .v (.int .u8 (UInt8.toNat 0))] (· = plR (.tup [.fz 17 ([awM].map ax), .v (.int .i64 0)])) := by
  have h := mJ awC awB 0 aw_hB.ok
  rw [aw5] at h
  exact h
 have c5 : Con2 Tryz.prog 12 [.agg (aJ awC), .agg (au awA), .agg (ax awM), .fz 1 (([] : List UInt32).map aX)] (· = plR (.tup [.agg (au awA1), .fz 17 ([awW].map ax)])) := by
  have h := se awC awA awM [] aiv agi alo amt aw3 (by kernel_rfl) (by kernel_rfl)
  rw [aw6] at h
  exact h
 have c6 : Con2 Tryz.prog 12 [.agg (aJ awC), .agg (au awB), .agg (ax awW), .fz 1 (([] : List UInt32).map aX)] (· = plR (.tup [.agg (au awB1), .fz 17 (([] : List aV).map ax)])) := by
  have h := lF awC awB awW [] aiv agi aw_hB amv aw4 (by kernel_rfl) (by kernel_rfl)
  rw [aw8] at h
  exact h
 have c7 := aiJ
 obtain ⟨r0, r1, r2, r3, hR, f0, f1, f2, f3⟩ := amh
 rw [hR] at c7
 obtain ⟨E, hE⟩ : ∃ E, E = [r0, r1, r2, r3].map ax := ⟨_, rfl⟩
 have hEl : E.length = 4 := by rw [hE]; rfl
 have hEk : ∀ k, k < 4 → ∃ (kd : Int) (rest : List DV), E[k]? = some (.v (.int .u8 kd) :: .v (.int .u8 1) :: .v (.int .u16 1) :: .v (.int .u8 0) :: rest) ∧ ([[.v (.int .u8 3)], [.v (.int .u8 5)], [.v (.int .u8 6)], [.v (.int .u8 8)]] : List (List DV))[k]? = some [.v (.int .u8 kd)] := by
  intro k hk
  have key : ∀ (r : aV) (kd : UInt8), r.kind = kd → r.to = 0 → r.frm = 1 → r.inc = 1 → ∃ rest, ax r = .v (.int .u8 kd.toNat) :: .v (.int .u8 1) :: .v (.int .u16 1) :: .v (.int .u8 0) :: rest := fun r kd h1 h2 h3 h4 => ⟨_, by rw [ax, h1, h2, h3, h4]; rfl⟩
  rw [hE]
  match k, hk with
  | 0, _ => obtain ⟨x, hx⟩ := key r0 3 f0.1 f0.2.1 f0.2.2.1 f0.2.2.2; exact ⟨3, x, by rw [List.map_cons, hx]; rfl, rfl⟩
  | 1, _ => obtain ⟨x, hx⟩ := key r1 5 f1.1 f1.2.1 f1.2.2.1 f1.2.2.2; exact ⟨5, x, by rw [List.map_cons, List.map_cons, hx]; rfl, rfl⟩
  | 2, _ => obtain ⟨x, hx⟩ := key r2 6 f2.1 f2.2.1 f2.2.2.1 f2.2.2.2; exact ⟨6, x, by rw [List.map_cons, List.map_cons, List.map_cons, hx]; rfl, rfl⟩
  | 3, _ => obtain ⟨x, hx⟩ := key r3 8 f3.1 f3.2.1 f3.2.2.1 f3.2.2.2; exact ⟨8, x, by rw [List.map_cons, List.map_cons, List.map_cons, List.map_cons, hx]; rfl, rfl⟩
 rw [← hE] at c7
 clear hE
 have hMk : awM.kind = 1 := by kernel_rfl
 have hMt : awM.to = 0 := by kernel_rfl
 have hv1 := aw7
 have hv2 := ak2
 have ht2 := amq
 generalize awA = A at c2 c5
 generalize awB = B at c3 c4 c6
 generalize awM = M at c4 c5 hMk hMt
 have hWk : awW.kind = 2 := rfl
 have hWl : awW.list = [⟨0, 1, 0, []⟩] := rfl
 generalize awW = W at c5 c6 hWk hWl
 generalize awA1 = A1 at c5 hv1
 generalize awB1 = B1 at c6 c7
 generalize awS = S at c7 hv2 ht2
 have c8 := kK awC (by have := aiv; omega)
 have e8 : aA awC = true := by kernel_rfl
 rw [e8] at c8
 have c9 : Con2 Tryz.prog 8 [.agg (aJ ⟨0, [], 0, 0, 0, 0, 0, 0, 0, 0, 0, 0, 0, 0, 0⟩)] (· = plR (.v (.bool false))) := kK ⟨0, [], 0, 0, 0, 0, 0, 0, 0, 0, 0, 0, 0, 0, 0⟩ (by simp)
 generalize awC = C at c1 c2 c3 c4 c5 c6 c7 c8
 refine af Ty.mixed Tryz.func9 rfl (by kernel_rfl) (by kernel_rfl) rfl [.tmp 0] rfl ?_
 refine g2_ ?_
 refine g2_ ?_
 refine cw_ c1 ?_
 refine g2_ ?_
 refine cw_ c2 ?_
 refine g2_ ?_
 refine cw_ c3 ?_
 refine g2_ ?_
 refine cw_ c4 ?_
 refine gg_ hMk hMt ?_
 refine .inr (.inr (.inl ⟨oF [0, 1, 2, 3, 4, 5, 6, 7, 8, 9, 10] [], [], by kernel_rfl, ?_⟩))
 refine gg_ hMk hMt ?_
 refine CallS.eqW c5 (wg_ hMk hMt) (.inl ws_) ?_
 refine gh_ hv1 hWk hWl ?_
 refine .inr (.inr (.inl ⟨oF [0, 1, 2, 3, 4, 5, 6, 7, 8, 9, 10] [], [], by kernel_rfl, ?_⟩))
 refine g2_ ?_
 refine CallS.eqW c6 (wi_ hMk hMt hWk hWl) (.inl ws_) ?_
 refine g2_ ?_
 refine CallS.eqW c7 (by simp -implicitDefEqProofs only [go_sem, aa, hMk, hMt, hWk, hWl]; rfl) (.inl ws_) ?_
 refine gh_ hv2 ht2 hEl ?_
 refine pY 4 [(153, .d (.v (.int .i64 ((4 : Nat) : Int)))), (152, .d (.rf 1 0 4)), (6, .d (.fz 17 E)), (1, .loc 1 0)] (fun k => []) (fun _ => [(1, ⟨aJ C, 26⟩)]) (fun k => [(1, .arr 5 1 [[.v (.int .u8 3)], [.v (.int .u8 5)], [.v (.int .u8 6)], [.v (.int .u8 8)]] false)]) 2 (fun k => True) (ab [] ?_) trivial (fun g k => by first | rfl | (repeat first | simp -implicitDefEqProofs only [go_sem, aa] | with_reducible refine gl_ ?_)) (by omega) (fun g => by simp -implicitDefEqProofs only [go_sem, aa]) (fun k hk hF => ?_) (fun hF => ?_)
 ·refine g2_ ?_
  first | done | rfl | exact ⟨rfl, rfl⟩
 ·obtain ⟨kd, rest, h1, h2⟩ := hEk k hk
  refine gh_ h1 h2 hEl ?_
  refine ⟨k + 1, ab [] ?_, rfl⟩
  exact ws_
 ·refine g2_ ?_
  refine cw_ c8 ?_
  refine g2_ ?_
  refine cw_ c9 ?_
  refine g2_ ?_
  exact ⟨_, rfl, ab [] ws_⟩
end Go.Proofs.YtlaefellhnkfbaaGreat.V

set_option maxRecDepth 10000
set_option maxHeartbeats 8000000
namespace Go.Eng
end Go.Eng
namespace Go.Proofs.YtlaefellhnkfbaaGreat.V
open Go.Eng
attribute [local go_sem] aO aU ah fzD plR bH bw aM bL aJ au bu dC z8 z16 z32 z64 ax aZ fa i2 List.map_cons List.map_nil
theorem eb1 : (((1 : Nat) : Int) == 1) = true := rfl
theorem ajG : ((UInt16.toNat 2 : Nat) : Int) = 2 := rfl
attribute [local go_sem] eb1 ajG adA nb0 nb1 nb2 nb4 bne_self_eq_false List.length_cons List.length_nil
end Go.Proofs.YtlaefellhnkfbaaGreat.V

set_option maxRecDepth 10000
set_option maxHeartbeats 8000000
namespace Go.Proofs.YtlaefellhnkfbaaGreat.V
open Go.Eng
attribute [local go_sem] aO aU ah fzD plR bH bw aM bL aJ au bu dC z8 z16 z32 z64 ax aZ fa i2 List.map_cons List.map_nil
attribute [local go_sem] eb1 ajG adA nb0 nb1 nb2 nb4 bne_self_eq_false List.length_cons List.length_nil
theorem peerJoins_con (c : av) (a0 b0 : UInt8) (ops : List GOp) (hcs : ∀ s ∈ c.schema, okS s) (hsl : c.schema.length ≤ 1048576) (hol : ops.length ≤ 1048576)
  (hops : ∀ o ∈ ops, (∀ d ∈ o.m.list, (∀ s ∈ d.filter, okS s) ∧ d.filter.length ≤ 1048576) ∧ o.m.list.length ≤ 1048576 ∧ o.m.table.length ≤ 1048576 ∧ (∀ s ∈ o.filter, okS s) ∧ o.filter.length ≤ 1048576 ∧ o.draws.length ≤ 1048576) :
  Con2 Tryz.prog 7 [.agg (aJ c), .v (.int .u8 a0.toNat), .v (.int .u8 b0.toNat), .fz 22 (ops.map dV)] (· = plR (.v (.bool true))) := by
 have haw := uU
 refine jC Ty.mixed Tryz.func7 rfl (by kernel_rfl) (by kernel_rfl) rfl [.tmp 8] rfl ?_
 refine Vc2.sq ?_
 refine g2_ ?_
 refine Vc2.sq ?_
 refine g2_ ?_
 by_cases g1 : (8 : Int) < (c.schema.length : Int)
 ·rw [decide_eq_true g1]
  refine g2_ ?_
  refine cw_ haw ?_
  refine g2_ ?_
  exact ⟨_, rfl, ab [] (by simp -implicitDefEqProofs only [go_sem, aa])⟩
 rw [decide_eq_false g1]
 refine g2_ ?_
 refine CallS.eqW (kK c (by omega)) (by simp -implicitDefEqProofs only [go_sem, aa]) (.inl (by simp -implicitDefEqProofs only [go_sem, aa])) ?_
 refine g2_ ?_
 cases g2 : aA c with
 | false =>
  refine g2_ ?_
  refine cw_ haw ?_
  refine g2_ ?_
  exact ⟨_, rfl, ab [] (by simp -implicitDefEqProofs only [go_sem, aa])⟩
 | true =>
 obtain ⟨n1, n2⟩ := sW g2
 have hrg := cV g2
 obtain ⟨n, hn⟩ : ∃ n : Nat, c.nodes = n := ⟨c.nodes.toNat, by omega⟩
 have hmod : ∀ x : UInt8, ∃ nd : UInt8, (((x.toNat % n : Nat) : Nat) : Int) = (nd.toNat : Int) ∧ (nd.toNat : Int) < c.nodes := fun x => ⟨UInt8.ofNat (x.toNat % n), by
  have : x.toNat % n < n := Nat.mod_lt _ (by omega)
  rw [UInt8.toNat_ofNat']; omega⟩
 refine g2_ ?_
 refine Vc2.sq ?_
 refine g2_ ?_
 refine .inl ⟨[(0, false), (1, false), (5, false), (6, false), (2, false), (7, false), (3, false), (8, false), (4, false), (9, false), (10, false), (11, false)], by kernel_rfl, ?_⟩
 refine g2_ ?_
 refine jg (by omega) ?_
 refine g2_ ?_
 refine jg (by omega) ?_
 refine g2_ ?_
 rw [jf (a := a0.toNat) (b := n) (bi := c.nodes) rfl hn (by omega)]
 obtain ⟨a, ha, hal⟩ := hmod a0
 rw [ha]
 refine g2_ ?_
 rw [jf (a := b0.toNat) (b := n) (bi := c.nodes) rfl hn (by omega)]
 obtain ⟨b, hb, hbl⟩ := hmod b0
 rw [hb]
 have hal2 := a.toNat_lt
 have hbl2 := b.toNat_lt
 refine g2_ ?_
 refine Vc2.sq ?_
 refine g2_ ?_
 rw [cM]
 by_cases hab : a = b
 ·rw [decide_eq_true hab]
  refine g2_ ?_
  refine cw_ haw ?_
  refine g2_ ?_
  exact ⟨_, rfl, ab [] (by simp -implicitDefEqProofs only [go_sem, aa])⟩
 rw [decide_eq_false hab]
 obtain ⟨sa1, sa2, _, _, _, _⟩ := uy g2 hal
 obtain ⟨sb1, sb2, sb3, sb4, sb5, sb6⟩ := uy g2 hbl
 have ua := tY c a
 rw [sa1, sa2.up] at ua
 have ub := tY c b
 rw [sb1, sb2.up] at ub
 have sb7 := sb6 a hab hal
 clear sb6 sa1 sb1
 generalize (bf c (bh c a)).1 = p0 at ua sa2
 generalize (bf c (bh c b)).1 = q at ub sb2 sb3 sb4 sb5 sb7
 simp only [decide_true, Bool.and_self] at ua ub
 refine g2_ ?_
 refine Vc2.sq ?_
 refine g2_ ?_
 refine cw_ ua ?_
 refine g2_ ?_
 refine Vc2.sq ?_
 refine g2_ ?_
 refine cw_ ub ?_
 refine g2_ ?_
 refine Vc2.seqJ (γ := ak) (fun p => ⟨[(10, .d (.v (.bool true))), (12, .d (.v (.bool true))), (1, .d (.v (.int .u8 a.toNat))), (2, .d (.v (.int .u8 b.toNat))), (4, .loc 4 0), (9, .loc 9 0), (11, .loc 11 0)], [(4, ⟨aJ c, 26⟩), (9, ⟨au p, 49⟩), (11, ⟨au q, 49⟩)], [], 0, 0⟩) (fun p => Jn c a p) ?_ (fun p hJ => ?_)
 ·refine gx_ ?_
  obtain ⟨m, hm⟩ : ∃ m : Nat, m = min ops.length 12 := ⟨_, rfl⟩
  have hmi : (if (12 : Int) < (ops.length : Int) then (12 : Int) else (ops.length : Int)) = (m : Int) := by split <;> omega
  rw [hmi]
  refine gx_ ?_
  have hO : List.take (m - 0) (ops.map dV) = (ops.take m).map dV := by rw [Nat.sub_zero, List.map_take]
  have hOm := fun o (h : o ∈ ops.take m) => hops o (List.mem_of_mem_take h)
  have hOl : (ops.take m).length ≤ 12 := by rw [List.length_take]; omega
  rw [hO]
  generalize ops.take m = O at hOm hOl
  obtain ⟨E, hE⟩ : ∃ E, E = O.map dV := ⟨_, rfl⟩
  have hEl : E.length = O.length := by rw [hE, List.length_map]
  have hEg : ∀ k (hk : k < O.length), E[k]? = some (dV O[k]) := fun k hk => by rw [hE, List.getElem?_map, List.getElem?_eq_getElem hk]; rfl
  rw [← hE]
  clear hE
  refine iJ (γ := ak) (ρ := [(64, .d (.v (.int .i64 O.length))), (63, .d (.fz 22 E)), (1, .d (.v (.int .u8 a.toNat))), (2, .d (.v (.int .u8 b.toNat))), (10, .d (.v (.bool true))), (12, .d (.v (.bool true))), (4, .loc 4 0), (9, .loc 9 0), (11, .loc 11 0)]) O.length (fun p => []) (fun p => [(4, ⟨aJ c, 26⟩), (9, ⟨au p, 49⟩), (11, ⟨au q, 49⟩)]) (fun _ => []) 0 (fun k p => Jn c a p) p0 (ab [] ?_) sa2 (fun g k => by first | rfl | (repeat first | simp -implicitDefEqProofs only [go_sem, aa] | with_reducible refine gl_ ?_)) (by omega) (fun g => by simp -implicitDefEqProofs only [go_sem, aa]) (fun k p hk hJ => ?_) (fun p hJ => ?_)
  ·repeat first | simp -implicitDefEqProofs only [go_sem, aa, List.length_map, hEl] | with_reducible refine gl_ ?_
   first | done | rfl | exact ⟨rfl, rfl⟩
  ·obtain ⟨f1, f2, f3, f4, f5, f6⟩ := hOm _ (List.getElem_mem hk)
   have hfew := aiG O[k] (by omega) (by omega)
   have hgo := hEg k hk
   generalize O[k] = x at hfew hgo f1 f2 f3 f4 f5 f6
   refine Vc2.seqJ (γ := Unit) (fun _ => ⟨[(14, .loc 14 0), (65, .d (.v (.int .i64 k))), (64, .d (.v (.int .i64 O.length))), (63, .d (.fz 22 E)), (1, .d (.v (.int .u8 a.toNat))), (2, .d (.v (.int .u8 b.toNat))), (10, .d (.v (.bool true))), (12, .d (.v (.bool true))), (4, .loc 4 0), (9, .loc 9 0), (11, .loc 11 0)], [(14, ⟨dV x, 75⟩), (4, ⟨aJ c, 26⟩), (9, ⟨au p, 49⟩), (11, ⟨au q, 49⟩)], [], 0, 0⟩) (fun _ => True) ?_ (fun _ _ => ?_)
   ·repeat first | simp -implicitDefEqProofs only [go_sem, aa, hgo, dV, List.append_eq, List.cons_append, List.nil_append] | with_reducible first | refine gl_ ?_ | refine ga_ ?_ | refine gn_ ?_
    refine ⟨(), ab [] ?_⟩
    repeat first | simp -implicitDefEqProofs only [go_sem, aa, dV, List.append_eq, List.cons_append, List.nil_append] | with_reducible refine gl_ ?_
    first | done | rfl | exact ⟨rfl, rfl⟩
   clear hgo
   have hok : okMg x.m := ⟨f2, fun d hd => (f1 d hd).2, fun d hd => (f1 d hd).1, f3⟩
   have hW := ait g2 hcs hJ.bd hok (by omega) f5 f4 (.inl hJ.up)
   have hnx : (4 : Int) < (x.what.toNat : Int) → Jn c a (eG c p x).1 := fun hw => ai_ g2 hcs hJ hok f4 hw
   have hml := afu (c := c) (p := p) (o := x) (kU g2 hJ.bd)
   generalize eG c p x = D at hW hnx hml
   obtain ⟨p2, ms, e⟩ := D
   simp only at hW hnx hml
   refine Vc2.seqJ (γ := Unit) (fun _ => ⟨[(15, .loc 15 0), (14, .loc 14 0), (65, .d (.v (.int .i64 k))), (64, .d (.v (.int .i64 O.length))), (63, .d (.fz 22 E)), (1, .d (.v (.int .u8 a.toNat))), (2, .d (.v (.int .u8 b.toNat))), (10, .d (.v (.bool true))), (12, .d (.v (.bool true))), (4, .loc 4 0), (9, .loc 9 0), (11, .loc 11 0)], [(15, ⟨au p2, 49⟩), (14, ⟨dV x, 75⟩), (4, ⟨aJ c, 26⟩), (9, ⟨au p, 49⟩), (11, ⟨au q, 49⟩)], [], 0, 0⟩) (fun _ => True) ?_ (fun _ _ => ?_)
   ·repeat first | simp -implicitDefEqProofs only [go_sem, aa, dV, List.append_eq, List.cons_append, List.nil_append] | with_reducible first | refine gl_ ?_ | refine ga_ ?_ | refine gn_ ?_
    refine CallS.eqW hW (by simp -implicitDefEqProofs only [go_sem, aa, dV, List.append_eq, List.cons_append, List.nil_append]) (.inl (by simp -implicitDefEqProofs only [go_sem, aa])) ?_
    refine g2_ ?_
    refine ⟨(), ab [] ?_⟩
    repeat first | simp -implicitDefEqProofs only [go_sem, aa, dV, List.append_eq, List.cons_append, List.nil_append] | with_reducible refine gl_ ?_
    first | done | rfl | exact ⟨rfl, rfl⟩
   clear hW
   refine Vc2.of ?_
   repeat first | simp -implicitDefEqProofs only [go_sem, aa, dV, List.append_eq, List.cons_append, List.nil_append] | with_reducible first | refine gl_ ?_ | refine ga_ ?_ | refine gn_ ?_
   refine CallS.eqW hfew (by simp -implicitDefEqProofs only [go_sem, aa, dV, List.append_eq, List.cons_append, List.nil_append]) (.inl (by simp -implicitDefEqProofs only [go_sem, aa])) ?_
   refine g2_ ?_
   cases g3 : wC x with
   | false =>
    refine g2_ ?_
    refine ⟨p, ab [] ?_, hJ⟩
    repeat first | simp -implicitDefEqProofs only [go_sem, aa] | with_reducible refine gl_ ?_
    first | done | rfl | exact ⟨rfl, rfl⟩
   | true =>
   refine g2_ ?_
   by_cases hw : (4 : Int) < (x.what.toNat : Int)
   ·rw [decide_eq_true hw]
    have hJ2 := hnx hw
    refine gf_ @hJ2.up ?_
    refine ⟨p2, ab [] ?_, hJ2⟩
    repeat first | simp -implicitDefEqProofs only [go_sem, aa, hJ2.up] | with_reducible refine gl_ ?_
    first | done | rfl | exact ⟨rfl, rfl⟩
   ·rw [decide_eq_false hw]
    refine g2_ ?_
    refine ⟨p, ab [] ?_, hJ⟩
    repeat first | simp -implicitDefEqProofs only [go_sem, aa] | with_reducible refine gl_ ?_
    first | done | rfl | exact ⟨rfl, rfl⟩
  ·refine g2_ ?_
   refine ⟨p, ab [] ?_, hJ⟩
   repeat first | simp -implicitDefEqProofs only [go_sem, aa] | with_reducible refine gl_ ?_
   first | done | rfl | exact ⟨rfl, rfl⟩
 have hpt := hJ.bd.win.table
 have hqt := sb2.bd.win.table
 have hne1 : ((p.table.length : Int) != c.nodes) = false := by rw [hpt]; exact bne_self_eq_false _
 have hne2 : ((q.table.length : Int) != c.nodes) = false := by rw [hqt]; exact bne_self_eq_false _
 have hbp : b.toNat < p.table.length := by omega
 obtain ⟨m0, hm0⟩ : ∃ m0, p.table[b.toNat]? = some m0 := ⟨_, List.getElem?_eq_getElem hbp⟩
 have hm1 : (p.table.map aM)[b.toNat]? = some (aM m0) := by rw [List.getElem?_map, hm0]; rfl
 simp only [aM] at hm1
 have hmx := m0.inc.toNat_lt
 have hmy := m0.state.toNat_lt
 refine Vc2.sq ?_
 refine gg_ hne1 hne2 ?_
 refine Vc2.seqJ (γ := Unit) (fun _ => ⟨[(1, .d (.v (.int .u8 a.toNat))), (2, .d (.v (.int .u8 b.toNat))), (4, .loc 4 0), (9, .loc 9 0), (11, .loc 11 0)], [(4, ⟨aJ c, 26⟩), (9, ⟨au p, 49⟩), (11, ⟨au q, 49⟩)], [], 0, 0⟩) (fun _ => ¬ (1 : UInt16) < m0.inc ∧ ¬ ((1 : UInt16) = m0.inc ∧ m0.state = 3)) ?_ (fun _ hk => ?_)
 ·refine gf_ hm1 ?_
  by_cases k1 : (1 : Int) < (m0.inc.toNat : Int)
  ·rw [decide_eq_true k1]
   refine g2_ ?_
   refine cw_ haw ?_
   refine g2_ ?_
   exact ⟨_, rfl, ab [] (by simp -implicitDefEqProofs only [go_sem, aa])⟩
  rw [decide_eq_false k1]
  refine g2_ ?_
  have hk1 : ¬ (1 : UInt16) < m0.inc := fun h => k1 (by have := UInt16.lt_iff_toNat_lt.1 h; rw [show (1 : UInt16).toNat = 1 from rfl] at this; omega)
  by_cases k3 : (1 : UInt16) = m0.inc
  ·rw [show ((m0.inc.toNat : Int) == 1) = true by rw [← k3]; rfl]
   refine g2_ ?_
   rw [ad7]
   by_cases k4 : m0.state = 3
   ·rw [decide_eq_true k4]
    refine g2_ ?_
    refine cw_ haw ?_
    refine g2_ ?_
    exact ⟨_, rfl, ab [] (by simp -implicitDefEqProofs only [go_sem, aa])⟩
   rw [decide_eq_false k4]
   have k2 : ¬ ((1 : UInt16) = m0.inc ∧ m0.state = 3) := fun h => k4 h.2
   refine g2_ ?_
   refine ⟨(), ab [] ?_, hk1, k2⟩
   repeat first | simp -implicitDefEqProofs only [go_sem, aa] | with_reducible refine gl_ ?_
   first | done | rfl | exact ⟨rfl, rfl⟩
  ·rw [show ((m0.inc.toNat : Int) == 1) = false from beq_eq_false_iff_ne.2 (fun h => k3 (UInt16.toNat_inj.1 (by rw [show (1 : UInt16).toNat = 1 from rfl]; omega)))]
   have k2 : ¬ ((1 : UInt16) = m0.inc ∧ m0.state = 3) := fun h => k3 h.1
   refine g2_ ?_
   refine ⟨(), ab [] ?_, hk1, k2⟩
   repeat first | simp -implicitDefEqProofs only [go_sem, aa] | with_reducible refine gl_ ?_
   first | done | rfl | exact ⟨rfl, rfl⟩
 clear hm1
 obtain ⟨M, P, W, R, B⟩ := both g2 hcs hab hal hbl hJ hm0 hk sb2 sb3 sb4 sb5 sb7
 have c1 : Con2 Tryz.prog 11 [.agg (aJ c), .agg (au q), .v (.int .u8 a.toNat)] (· = plR (.tup [.fz 17 ([M].map ax), .v (.int .i64 0)])) := by
  have h := mJ c q a sb2.bd.h.ok
  rw [B.m1] at h
  exact h
 have c2 : Con2 Tryz.prog 12 [.agg (aJ c), .agg (au p), .agg (ax M), .fz 1 (([] : List UInt32).map aX)] (· = plR (.tup [.agg (au P), .fz 17 ([W].map ax)])) := by
  have h := take_all c p M [] (by omega) hcs hJ.bd.h B.m2 (by simp) hJ.bd.ws
  rw [B.p1] at h
  exact h
 have c3 : Con2 Tryz.prog 12 [.agg (aJ c), .agg (au q), .agg (ax W), .fz 1 (([] : List UInt32).map aX)] (· = plR (.tup [.agg (au R), .fz 17 (([] : List aV).map ax)])) := by
  have h := take_all c q W [] (by omega) hcs sb2.bd.h B.w1 (by simp) sb2.bd.ws
  rw [B.r1] at h
  exact h
 have vP := kQ g2 B.p2
 have vR := kQ g2 B.r2
 have c4 := lz P.view (gl B.p2.win.view).2.2 b (by omega)
 have c5 := lz R.view (gl B.r2.win.view).2.2 a (by omega)
 have c6 := oV c P B.p2.h.g B.p2.win
 have c7 := oV c R B.r2.h.g B.r2.win
 have hRt := B.r2.win.table
 have hneR : ((R.table.length : Int) != c.nodes) = false := by rw [hRt]; exact bne_self_eq_false _
 have haR : a.toNat < R.table.length := by omega
 have hr3 : (R.table.map aM)[a.toNat]? = some (aM ⟨1, 1, 0⟩) := by rw [List.getElem?_map, B.r3]; rfl
 simp only [aM] at hr3
 obtain ⟨_, _, _, _, hWt, hf1, hv1, _, _, _, _, hq1, hq2, hq3, hq4⟩ := B
 have hmin : (if (1 : Int) < c.view then (1 : Int) else c.view) = 1 := by split <;> omega
 refine Vc2.sq ?_
 refine g2_ ?_
 refine cw_ c1 ?_
 refine g2_ ?_
 refine Vc2.sq ?_
 refine g2_ ?_
 refine Vc2.sq ?_
 refine gx_ ?_
 refine Vc2.sq ?_
 refine g2_ ?_
 refine .inr (.inr (.inl ⟨[(0, false), (1, false), (2, false), (3, false), (4, false), (5, false), (6, false), (7, false), (8, false), (9, false), (10, false)], [], by kernel_rfl, ?_⟩))
 refine g2_ ?_
 refine cw_ c2 ?_
 refine g2_ ?_
 refine Vc2.sq ?_
 refine gf_ hWt ?_
 refine cw_ c4 ?_
 refine g2_ ?_
 rw [decide_eq_false (show ¬ gI P.view b < 0 by omega)]
 refine gx_ ?_
 rw [decide_eq_false (show ¬ (P.view.length : Int) < (p.view.length : Int) by omega)]
 refine g2_ ?_
 refine Vc2.sq ?_
 refine g2_ ?_
 refine .inr (.inr (.inl ⟨[(0, false), (1, false), (2, false), (3, false), (4, false), (5, false), (6, false), (7, false), (8, false), (9, false), (10, false)], [], by kernel_rfl, ?_⟩))
 refine g2_ ?_
 refine CallS.eqW c3 (wf_ hWt) (.inl (by simp -implicitDefEqProofs only [go_sem, aa])) ?_
 refine g2_ ?_
 refine Vc2.sq ?_
 refine gg_ hneR hr3 ?_
 refine Vc2.sq ?_
 refine g2_ ?_
 refine .inl ⟨[(0, false), (3, false), (1, false), (4, false), (2, false), (5, false), (6, false), (7, false), (8, false), (11, false), (13, false), (9, false), (12, false), (14, false), (10, false), (15, false), (16, false), (17, false), (18, false), (19, false), (20, false)], by kernel_rfl, ?_⟩
 refine gf_ hmin ?_
 rw [decide_eq_false (show ¬ (R.view.length : Int) < 1 by omega)]
 refine gx_ ?_
 rw [decide_eq_false (show ¬ (if (W.list.length : Int) < c.view then (W.list.length : Int) else c.view) < (R.view.length : Int) by split <;> omega)]
 refine g2_ ?_
 refine Vc2.seqJ (γ := Unit) (fun _ => ⟨[(4, .loc 4 0), (9, .loc 9 0), (11, .loc 11 0)], [(4, ⟨aJ c, 26⟩), (9, ⟨au P, 49⟩), (11, ⟨au R, 49⟩)], [], 0, 0⟩) (fun _ => True) ?_ (fun _ _ => ?_)
 ·refine g2_ ?_
  by_cases hz : p.view.length = 0
  ·obtain ⟨z1, z2, z3, z4⟩ := hq4 hz
   rw [show ((p.view.length : Int) == 0) = true by rw [hz]; rfl]
   refine g2_ ?_
   refine cw_ c5 ?_
   refine g2_ ?_
   rw [decide_eq_false (show ¬ gI R.view a < 0 by omega)]
   refine gh_ z2 z3 z4 ?_
   refine ⟨(), ab [] ?_⟩
   repeat first | simp -implicitDefEqProofs only [go_sem, aa, z2, z3, z4] | with_reducible refine gl_ ?_
   first | done | rfl | exact ⟨rfl, rfl⟩
  ·rw [show ((p.view.length : Int) == 0) = false from beq_eq_false_iff_ne.2 (by omega)]
   refine g2_ ?_
   refine ⟨(), ab [] ?_⟩
   repeat first | simp -implicitDefEqProofs only [go_sem, aa] | with_reducible refine gl_ ?_
   first | done | rfl | exact ⟨rfl, rfl⟩
 refine Vc2.of ?_
 refine g2_ ?_
 refine cw_ c6 ?_
 refine g2_ ?_
 refine cw_ c7 ?_
 refine g2_ ?_
 refine cw_ haw ?_
 refine g2_ ?_
 exact ⟨_, rfl, ab [] (by simp -implicitDefEqProofs only [go_sem, aa])⟩
end Go.Proofs.YtlaefellhnkfbaaGreat.V
