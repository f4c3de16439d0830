/-
 bF 41 of the proof of Pb: the engine and the walks, in their order.
-/
import Derived.Test.YtlaefellhnkfbaaGreatPb31
import Derived.Test.YtlaefellhnkfbaaGreatPb39
import Derived.Test.YtlaefellhnkfbaaGreatPb40
set_option linter.unusedSimpArgs false
set_option linter.unusedVariables false
set_option maxRecDepth 10000
set_option maxHeartbeats 4000000
namespace Go.Proofs.YtlaefellhnkfbaaGreat.V
open Go.Eng
theorem v_ (l m : List am) (self : UInt8) : (eD l m self).length = l.length := by simp [eD]
theorem l4 {p : ak} (h : okH p) (t : List am) : okH (cL p t) := ss h (by rw [v_]; exact h.g.table) (kH h.rs _)
def dK (c : av) (p : ak) (m : aY) : ak := { cL p m.table with view := dF (cL p m.table).node c.view (cL p m.table).view (cr c (cL p m.table) m.list) }
def fU (c : av) (p : ak) (m : aY) : ak × List aY :=
 let q := aL c p m.frm m.inc
 if q.2 = true then (aH c (dK c q.1 m) [], []) else (q.1, [])
def nt (c : av) (p : ak) (m : aY) : ak × List aY :=
 let q := aL c p m.frm m.inc
 if q.2 = true then (aH c { q.1 with table := gZ q.1.table m.frm m.inc } [], []) else (q.1, [])
theorem adp {c : av} {p : ak} {l : List GDesc} (h1 : l.length ≤ 20) (h2 : ∀ d ∈ l, d.filter.length ≤ 8) : ok8 (cr c p l) := by
 have h3 := List.length_filter_le (fq c) l
 have h4 := List.length_filter_le (cH p) (l.filter (fq c))
 exact ⟨by show (List.filter (cH p) (l.filter (fq c))).length ≤ 100; omega, fun d hd => h2 d (List.mem_filter.1 (List.mem_filter.1 hd).1).1⟩
theorem jp {c : av} {p : ak} {l : List GDesc} {d : GDesc} (h : d ∈ cr c p l) : d ∈ l := (List.mem_filter.1 (List.mem_filter.1 h).1).1
theorem pF {self : UInt8} {room : Int} : ∀ (r l : List GDesc), (dF self room l r).length ≤ l.length + r.length
 | [], l => Nat.le_refl _
 | d :: r, l => by
  rw [dF]
  have h1 := pF (self := self) (room := room) r (cP l d self room).1
  have h2 := gr (self := self) (l := l) d room
  rw [List.length_cons]
  omega
attribute [local go_sem] aR aP ah fzD plR bB bn aI bC aE aq bm dd z8 z16 z32 z64 ar aT ey List.map_cons List.map_nil
theorem kF (c : av) (p : ak) (m : aY) (dr : List UInt32) (hc : c.schema.length ≤ 4) (hcs : ∀ s ∈ c.schema, okS s) (hp : okH p) (hm : okMg m) (hu : p.up = true) (hto : m.to = p.node) (hk : m.kind = 2) :
  Con2 Tryz.prog 12 [.agg (aE c), .agg (aq p), .agg (ar m), .fz 1 (dr.map aW)] (· = plR (.tup [.agg (aq (fU c p m).1), .fz 17 ((fU c p m).2.map ar)])) := by
 refine Con2.ofEmb ?_
 have hf := aM p hp.ok
 have hh := cG c p m.frm m.inc hp.ok hp.rs
 have hq := cR (c := c) hp m.frm m.inc
 unfold fU
 generalize aL c p m.frm m.inc = Q at hh hq
 obtain ⟨q, hd⟩ := Q
 simp only at hq hh ⊢
 refine af Ty.mixed Tryz.func12 rfl (by kernel_rfl) (by kernel_rfl) rfl [.cell 8 49, .tmp 9] rfl ?_
 refine g2_ ?_
 refine g2_ ?_
 refine CallS.eqW hf ws_ (.inl ws_) ?_
 refine g2_ ?_
 rw [hu, hto]
 repeat first | simp -implicitDefEqProofs only [go_sem, aa, bne_self_eq_false] | with_reducible first | refine gl_ ?_ | refine ga_ ?_ | refine gn_ ?_
 refine CallS.eqW hh (by simp -implicitDefEqProofs only [go_sem, aa, hu, hto]) (.inl ws_) ?_
 refine g2_ ?_
 cases hd with
 | false =>
  refine g2_ ?_
  refine ae ?_ rfl
  repeat first | simp -implicitDefEqProofs only [go_sem, aa, Bool.false_eq_true, if_false] | with_reducible refine gl_ ?_
 | true =>
  refine g2_ ?_
  refine .inl ⟨oF [1, 2] (oT 0 (oF [3, 4, 5, 6, 7, 8] [])), by kernel_rfl, ?_⟩
  refine g2_ ?_
  refine CallS.eqW cS ws_ (.inl ws_) ?_
  refine g2_ ?_
  refine ⟨dI, m.kind, rfl, ?_⟩
  rw [show lkF eb m.kind = some 101 by rw [hk]; rfl]
  refine g2_ ?_
  have hl := l4 hq m.table
  have k1 := ox q m.table hq.g.ok (by have := hq.g.table; omega) (by have := hm.table; omega) hq.rs
  have k2 := li c (cL q m.table) m.list (by omega) hl.g.ok hm.ds
  have k3 := aiz (cL q m.table).view (cr c (cL q m.table) m.list) (cL q m.table).node c.view hl.v8 (adp hm.list hm.f8) hl.vw
  have kq := bE c (dK c q m) [] hc hcs (i3 hl.g (by
    refine Nat.le_trans (pF _ _) ?_
    have h1 := (adp (c := c) (p := cL q m.table) hm.list hm.f8).1
    have h2 := hl.v8.1
    omega) (fun x hx => by
   rcases nD _ _ x hx with h | h
   ·exact hq.g.view x h
   ·exact hm.fs2 x (jp h))) ⟨by simp, by simp⟩ (by simp)
  unfold dK at kq ⊢
  generalize cL q m.table = p1 at k1 k2 k3 kq ⊢
  generalize dF p1.node c.view p1.view (cr c p1 m.list) = V at k3 kq ⊢
  generalize cr c p1 m.list = U at k2 k3
  refine CallS.inline Ty.mixed Tryz.func101 rfl (by kernel_rfl) (by kernel_rfl) rfl [] rfl (Vc2.of ?_)
  refine g2_ ?_
  refine g2_ ?_
  refine .inl ⟨oF [0, 1, 5, 2, 6, 3, 7, 4, 8, 9, 10, 11, 12, 13] [], by kernel_rfl, ?_⟩
  refine g2_ ?_
  refine CallS.eqW k1 ws_ (.inl ws_) ?_
  refine g2_ ?_
  refine .inl ⟨oF [0, 1, 6, 10, 14, 20, 25, 2, 7, 11, 15, 21, 26, 3, 8, 12, 16, 22, 27, 4, 9, 13, 17, 23, 28, 5, 18, 24, 29] (oT 19 (oF [30, 31, 32, 33, 34] [])), by kernel_rfl, ?_⟩
  refine g2_ ?_
  refine CallS.eqW k2 ws_ (.inl ws_) ?_
  refine g2_ ?_
  refine CallS.eqW k3 ws_ (.inl ws_) ?_
  refine g2_ ?_
  refine .inl ⟨oF [0, 1, 2, 3, 4, 5, 6, 7, 8, 9] [], by kernel_rfl, ?_⟩
  refine g2_ ?_
  refine CallS.eqW kq ws_ (.inl ws_) ?_
  refine g2_ ?_
  refine .inr (.inr (.inl ⟨oF [0, 4, 1, 5, 2, 6, 3, 7] (oT 8 (oF [9] [])), [8], by kernel_rfl, ?_⟩))
  refine g2_ ?_
  refine ae ?_ rfl
  repeat first | simp -implicitDefEqProofs only [go_sem, aa, if_true, List.map_nil] | with_reducible refine gl_ ?_
theorem vI (c : av) (p : ak) (m : aY) (dr : List UInt32) (hc : c.schema.length ≤ 4) (hcs : ∀ s ∈ c.schema, okS s) (hp : okH p) (hm : okMg m) (hu : p.up = true) (hto : m.to = p.node) (hk : m.kind = 9) :
  Con2 Tryz.prog 12 [.agg (aE c), .agg (aq p), .agg (ar m), .fz 1 (dr.map aW)] (· = plR (.tup [.agg (aq (nt c p m).1), .fz 17 ((nt c p m).2.map ar)])) := by
 refine Con2.ofEmb ?_
 have hf := aM p hp.ok
 have hh := cG c p m.frm m.inc hp.ok hp.rs
 have hq := cR (c := c) hp m.frm m.inc
 unfold nt
 generalize aL c p m.frm m.inc = Q at hh hq
 obtain ⟨q, hd⟩ := Q
 simp only at hq hh ⊢
 refine af Ty.mixed Tryz.func12 rfl (by kernel_rfl) (by kernel_rfl) rfl [.cell 8 49, .tmp 9] rfl ?_
 refine g2_ ?_
 refine g2_ ?_
 refine CallS.eqW hf ws_ (.inl ws_) ?_
 refine g2_ ?_
 rw [hu, hto]
 repeat first | simp -implicitDefEqProofs only [go_sem, aa, bne_self_eq_false] | with_reducible first | refine gl_ ?_ | refine ga_ ?_ | refine gn_ ?_
 refine CallS.eqW hh (by simp -implicitDefEqProofs only [go_sem, aa, hu, hto]) (.inl ws_) ?_
 refine g2_ ?_
 cases hd with
 | false =>
  refine g2_ ?_
  refine ae ?_ rfl
  repeat first | simp -implicitDefEqProofs only [go_sem, aa, Bool.false_eq_true, if_false] | with_reducible refine gl_ ?_
 | true =>
  refine g2_ ?_
  refine .inl ⟨oF [1, 2] (oT 0 (oF [3, 4, 5, 6, 7, 8] [])), by kernel_rfl, ?_⟩
  refine g2_ ?_
  refine CallS.eqW cS ws_ (.inl ws_) ?_
  refine g2_ ?_
  refine ⟨dI, m.kind, rfl, ?_⟩
  rw [show lkF eb m.kind = some 107 by rw [hk]; rfl]
  refine g2_ ?_
  have ht : (gZ q.table m.frm m.inc).length = q.table.length := by simp [gZ]
  have hg := hq.g.table
  have k1 := aaz q.table m.frm m.inc (by omega)
  have kq := bE c { q with table := gZ q.table m.frm m.inc } [] hc hcs (yo hq.g (by rw [ht]; exact hg) hq.rs) ⟨by simp, by simp⟩ (by simp)
  generalize gZ q.table m.frm m.inc = T at k1 kq ⊢
  refine CallS.inline Ty.mixed Tryz.func107 rfl (by kernel_rfl) (by kernel_rfl) rfl [] rfl (Vc2.of ?_)
  refine g2_ ?_
  refine g2_ ?_
  refine .inl ⟨oF [0, 1, 6, 11, 2, 7, 12, 3, 8, 13, 4, 9, 14, 5, 10, 15, 16, 17, 18, 19, 20] [], by kernel_rfl, ?_⟩
  refine g2_ ?_
  refine CallS.eqW k1 ws_ (.inl ws_) ?_
  refine g2_ ?_
  refine .inl ⟨oF [0, 1, 2, 3, 4, 5, 6, 7, 8, 9] [], by kernel_rfl, ?_⟩
  refine g2_ ?_
  refine CallS.eqW kq ws_ (.inl ws_) ?_
  refine g2_ ?_
  refine .inr (.inr (.inl ⟨oF [0, 4, 1, 5, 2, 6, 3, 7] (oT 8 (oF [9] [])), [8], by kernel_rfl, ?_⟩))
  refine g2_ ?_
  refine ae ?_ rfl
  repeat first | simp -implicitDefEqProofs only [go_sem, aa, if_true, List.map_nil] | with_reducible refine gl_ ?_
end Go.Proofs.YtlaefellhnkfbaaGreat.V

set_option maxRecDepth 10000
set_option maxHeartbeats 4000000
namespace Go.Proofs.YtlaefellhnkfbaaGreat.V
open Go.Eng
def zg (c : av) (p : ak) (m : aY) : ak × List aY :=
 let q := aL c p m.frm m.inc
 if q.2 = true then (aH c (cL q.1 m.table) [], []) else (q.1, [])
def kh (c : av) (p : ak) (m : aY) : ak × List aY :=
 let q := aL c p m.frm m.inc
 if q.2 = true then (aH c q.1 m.list, []) else (q.1, [])
def rg (c : av) (p : ak) (m : aY) : ak × List aY :=
 let q := aL c p m.frm m.inc
 if q.2 = true then (aH c q.1 m.list, [{ bP (aH c q.1 m.list) 7 m.frm with list := cJ (aJ (aH c q.1 m.list).ring) (aX (aH c q.1 m.list)) }]) else (q.1, [])
theorem kN {c : av} {p : ak} {l : List GDesc} (hp : okG p) (hl : bO l) (hl2 : ∀ d ∈ l, okF d) : okG (aH c p l) := by
 obtain ⟨m1, m2⟩ := qQ (c := c) hp hl hl2
 have m2 := m2 c.near
 have u2 := (m2.u p.node).1
 have hv := m2.ds (bk p p.view) (by simp)
 have hv2 := m2.f (bk p p.view) (by simp)
 have hn := m2.ds (cQ p.filter p.node c.near [bk p p.view, bk p p.near, aJ (bU p p.ring), cr c p l]) (by simp)
 have hn2 := m2.f (cQ p.filter p.node c.near [bk p p.view, bk p p.near, aJ (bU p p.ring), cr c p l]) (by simp)
 have near : ∀ far here known, known ≠ [] → cw far here c.schema known ∈ known := fun far here known h => by
  have hb := gK (far := far) (here := here) (dom := c.schema) h known.length
  rw [cw, List.getD_eq_getElem?_getD, List.getElem?_eq_getElem hb]; exact List.getElem_mem hb
 have hr : okF (aH c p l).ring.succ ∧ okF (aH c p l).ring.pred := by
  show okF (dv _ _ _).succ ∧ okF (dv _ _ _).pred
  unfold dv
  split
  ·exact ⟨pM, pM⟩
  ·rename_i h
   exact ⟨u2 _ (near _ _ _ h), u2 _ (near _ _ _ h)⟩
 exact ⟨⟨hp.ok.filter, hv, hn, hr.1.1, hr.2.1, hp.ok.sent, hp.ok.table, hp.ok.heard, hp.ok.rows, hp.ok.reports, hp.ok.evs, hp.ok.pulls⟩, hp.filter, hv2, hn2, hr.1, hr.2, hp.table⟩
attribute [local go_sem] aR aP ah fzD plR bB bn aI bC aE aq bm dd z8 z16 z32 z64 ar aT ey List.map_cons List.map_nil
theorem aa9 (c : av) (p : ak) (m : aY) (dr : List UInt32) (hc : c.schema.length ≤ 4) (hcs : ∀ s ∈ c.schema, okS s) (hp : okH p) (hm : okMg m) (hu : p.up = true) (hto : m.to = p.node) (hk : m.kind = 8) :
  Con2 Tryz.prog 12 [.agg (aE c), .agg (aq p), .agg (ar m), .fz 1 (dr.map aW)] (· = plR (.tup [.agg (aq (zg c p m).1), .fz 17 ((zg c p m).2.map ar)])) := by
 refine Con2.ofEmb ?_
 have hf := aM p hp.ok
 have hh := cG c p m.frm m.inc hp.ok hp.rs
 have hq := cR (c := c) hp m.frm m.inc
 unfold zg
 generalize aL c p m.frm m.inc = Q at hh hq
 obtain ⟨q, hd⟩ := Q
 simp only at hq hh ⊢
 refine af Ty.mixed Tryz.func12 rfl (by kernel_rfl) (by kernel_rfl) rfl [.cell 8 49, .tmp 9] rfl ?_
 refine g2_ ?_
 refine g2_ ?_
 refine CallS.eqW hf ws_ (.inl ws_) ?_
 refine g2_ ?_
 rw [hu, hto]
 repeat first | simp -implicitDefEqProofs only [go_sem, aa, bne_self_eq_false] | with_reducible first | refine gl_ ?_ | refine ga_ ?_ | refine gn_ ?_
 refine CallS.eqW hh (by simp -implicitDefEqProofs only [go_sem, aa, hu, hto]) (.inl ws_) ?_
 refine g2_ ?_
 cases hd with
 | false =>
  refine g2_ ?_
  refine ae ?_ rfl
  repeat first | simp -implicitDefEqProofs only [go_sem, aa, Bool.false_eq_true, if_false] | with_reducible refine gl_ ?_
 | true =>
  refine g2_ ?_
  refine .inl ⟨oF [1, 2] (oT 0 (oF [3, 4, 5, 6, 7, 8] [])), by kernel_rfl, ?_⟩
  refine g2_ ?_
  refine CallS.eqW cS ws_ (.inl ws_) ?_
  refine g2_ ?_
  refine ⟨dI, m.kind, rfl, ?_⟩
  rw [show lkF eb m.kind = some 106 by rw [hk]; rfl]
  refine g2_ ?_
  have hl := l4 hq m.table
  have k1 := ox q m.table hq.g.ok (by have := hq.g.table; omega) (by have := hm.table; omega) hq.rs
  have kq := bE c (cL q m.table) [] hc hcs hl.g ⟨by simp, by simp⟩ (by simp)
  generalize cL q m.table = p1 at k1 kq ⊢
  refine CallS.inline Ty.mixed Tryz.func106 rfl (by kernel_rfl) (by kernel_rfl) rfl [] rfl (Vc2.of ?_)
  refine g2_ ?_
  refine g2_ ?_
  refine .inl ⟨oF [0, 1, 5, 2, 6, 3, 7, 4, 8, 9, 10, 11, 12, 13] [], by kernel_rfl, ?_⟩
  refine g2_ ?_
  refine CallS.eqW k1 ws_ (.inl ws_) ?_
  refine g2_ ?_
  refine .inl ⟨oF [0, 1, 2, 3, 4, 5, 6, 7, 8, 9] [], by kernel_rfl, ?_⟩
  refine g2_ ?_
  refine CallS.eqW kq ws_ (.inl ws_) ?_
  refine g2_ ?_
  refine .inr (.inr (.inl ⟨oF [0, 4, 1, 5, 2, 6, 3, 7] (oT 8 (oF [9] [])), [8], by kernel_rfl, ?_⟩))
  refine g2_ ?_
  refine ae ?_ rfl
  repeat first | simp -implicitDefEqProofs only [go_sem, aa, if_true, List.map_nil] | with_reducible refine gl_ ?_
theorem aaZ (c : av) (p : ak) (m : aY) (dr : List UInt32) (hc : c.schema.length ≤ 4) (hcs : ∀ s ∈ c.schema, okS s) (hp : okH p) (hm : okMg m) (hu : p.up = true) (hto : m.to = p.node) (hk : m.kind = 5) :
  Con2 Tryz.prog 12 [.agg (aE c), .agg (aq p), .agg (ar m), .fz 1 (dr.map aW)] (· = plR (.tup [.agg (aq (kh c p m).1), .fz 17 ((kh c p m).2.map ar)])) := by
 refine Con2.ofEmb ?_
 have hf := aM p hp.ok
 have hh := cG c p m.frm m.inc hp.ok hp.rs
 have hq := cR (c := c) hp m.frm m.inc
 unfold kh
 generalize aL c p m.frm m.inc = Q at hh hq
 obtain ⟨q, hd⟩ := Q
 simp only at hq hh ⊢
 refine af Ty.mixed Tryz.func12 rfl (by kernel_rfl) (by kernel_rfl) rfl [.cell 8 49, .tmp 9] rfl ?_
 refine g2_ ?_
 refine g2_ ?_
 refine CallS.eqW hf ws_ (.inl ws_) ?_
 refine g2_ ?_
 rw [hu, hto]
 repeat first | simp -implicitDefEqProofs only [go_sem, aa, bne_self_eq_false] | with_reducible first | refine gl_ ?_ | refine ga_ ?_ | refine gn_ ?_
 refine CallS.eqW hh (by simp -implicitDefEqProofs only [go_sem, aa, hu, hto]) (.inl ws_) ?_
 refine g2_ ?_
 cases hd with
 | false =>
  refine g2_ ?_
  refine ae ?_ rfl
  repeat first | simp -implicitDefEqProofs only [go_sem, aa, Bool.false_eq_true, if_false] | with_reducible refine gl_ ?_
 | true =>
  refine g2_ ?_
  refine .inl ⟨oF [1, 2] (oT 0 (oF [3, 4, 5, 6, 7, 8] [])), by kernel_rfl, ?_⟩
  refine g2_ ?_
  refine CallS.eqW cS ws_ (.inl ws_) ?_
  refine g2_ ?_
  refine ⟨dI, m.kind, rfl, ?_⟩
  rw [show lkF eb m.kind = some 104 by rw [hk]; rfl]
  refine g2_ ?_
  have kq := bE c q m.list hc hcs hq.g hm.ds hm.fs2
  generalize aH c q m.list = p1 at kq ⊢
  refine CallS.inline Ty.mixed Tryz.func104 rfl (by kernel_rfl) (by kernel_rfl) rfl [] rfl (Vc2.of ?_)
  refine g2_ ?_
  refine g2_ ?_
  refine .inl ⟨oF [0, 1, 5, 9, 2, 6, 10, 3, 7, 11, 4, 8, 12, 13, 14, 15, 16, 17] [], by kernel_rfl, ?_⟩
  refine g2_ ?_
  refine CallS.eqW kq ws_ (.inl ws_) ?_
  refine g2_ ?_
  refine g2_ ?_
  refine .inr (.inr (.inl ⟨oF [0, 4, 1, 5, 2, 6, 3, 7] (oT 8 (oF [9] [])), [8], by kernel_rfl, ?_⟩))
  refine g2_ ?_
  refine ae ?_ rfl
  repeat first | simp -implicitDefEqProofs only [go_sem, aa, if_true, List.map_nil] | with_reducible refine gl_ ?_
theorem zV (c : av) (p : ak) (m : aY) (dr : List UInt32) (hc : c.schema.length ≤ 4) (hcs : ∀ s ∈ c.schema, okS s) (hp : okH p) (hm : okMg m) (hu : p.up = true) (hto : m.to = p.node) (hk : m.kind = 7) :
  Con2 Tryz.prog 12 [.agg (aE c), .agg (aq p), .agg (ar m), .fz 1 (dr.map aW)] (· = plR (.tup [.agg (aq (kh c p m).1), .fz 17 ((kh c p m).2.map ar)])) := by
 refine Con2.ofEmb ?_
 have hf := aM p hp.ok
 have hh := cG c p m.frm m.inc hp.ok hp.rs
 have hq := cR (c := c) hp m.frm m.inc
 unfold kh
 generalize aL c p m.frm m.inc = Q at hh hq
 obtain ⟨q, hd⟩ := Q
 simp only at hq hh ⊢
 refine af Ty.mixed Tryz.func12 rfl (by kernel_rfl) (by kernel_rfl) rfl [.cell 8 49, .tmp 9] rfl ?_
 refine g2_ ?_
 refine g2_ ?_
 refine CallS.eqW hf ws_ (.inl ws_) ?_
 refine g2_ ?_
 rw [hu, hto]
 repeat first | simp -implicitDefEqProofs only [go_sem, aa, bne_self_eq_false] | with_reducible first | refine gl_ ?_ | refine ga_ ?_ | refine gn_ ?_
 refine CallS.eqW hh (by simp -implicitDefEqProofs only [go_sem, aa, hu, hto]) (.inl ws_) ?_
 refine g2_ ?_
 cases hd with
 | false =>
  refine g2_ ?_
  refine ae ?_ rfl
  repeat first | simp -implicitDefEqProofs only [go_sem, aa, Bool.false_eq_true, if_false] | with_reducible refine gl_ ?_
 | true =>
  refine g2_ ?_
  refine .inl ⟨oF [1, 2] (oT 0 (oF [3, 4, 5, 6, 7, 8] [])), by kernel_rfl, ?_⟩
  refine g2_ ?_
  refine CallS.eqW cS ws_ (.inl ws_) ?_
  refine g2_ ?_
  refine ⟨dI, m.kind, rfl, ?_⟩
  rw [show lkF eb m.kind = some 104 by rw [hk]; rfl]
  refine g2_ ?_
  have kq := bE c q m.list hc hcs hq.g hm.ds hm.fs2
  generalize aH c q m.list = p1 at kq ⊢
  refine CallS.inline Ty.mixed Tryz.func104 rfl (by kernel_rfl) (by kernel_rfl) rfl [] rfl (Vc2.of ?_)
  refine g2_ ?_
  refine g2_ ?_
  refine .inl ⟨oF [0, 1, 5, 9, 2, 6, 10, 3, 7, 11, 4, 8, 12, 13, 14, 15, 16, 17] [], by kernel_rfl, ?_⟩
  refine g2_ ?_
  refine CallS.eqW kq ws_ (.inl ws_) ?_
  refine g2_ ?_
  refine g2_ ?_
  refine .inr (.inr (.inl ⟨oF [0, 4, 1, 5, 2, 6, 3, 7] (oT 8 (oF [9] [])), [8], by kernel_rfl, ?_⟩))
  refine g2_ ?_
  refine ae ?_ rfl
  repeat first | simp -implicitDefEqProofs only [go_sem, aa, if_true, List.map_nil] | with_reducible refine gl_ ?_
end Go.Proofs.YtlaefellhnkfbaaGreat.V

set_option maxRecDepth 10000
set_option maxHeartbeats 4000000
namespace Go.Proofs.YtlaefellhnkfbaaGreat.V
open Go.Eng
def gD (c : av) (p : ak) (m : aY) (sent : List GDesc) : ak := { p with view := cV (cr c p m.list) p.node c.view p.view sent (cr c p m.list) }
def lf (dr : List UInt32) (c : av) (p : ak) (m : aY) : ak × List aY :=
 let q := aL c p m.frm m.inc
 if q.2 = true then (aH c (gD c q.1 m (cy c.swap (bb q.1.view m.frm) [] dr)) [], [{ bP q.1 4 m.frm with list := cy c.swap (bb q.1.view m.frm) [] dr }]) else (q.1, [])
def kU (c : av) (p : ak) (m : aY) : ak :=
 let w := fO p.wait m.frm
 if w.2.2 = true then gD c { p with wait := w.1 } m w.2.1 else p
def jB (c : av) (p : ak) (m : aY) : ak × List aY :=
 let q := aL c p m.frm m.inc
 if q.2 = true then (aH c (kU c q.1 m) [], []) else (q.1, [])
def rM (c : av) (p : ak) (m : aY) : ak × List aY :=
 let q := aL c p m.frm m.inc
 if q.2 = true then (aH c q.1 [], []) else (q.1, [])
theorem ac0 {r : fa} (h1 : r.succ.filter.length ≤ 1000) (h2 : r.pred.filter.length ≤ 1000) : bO (aJ r) := ⟨by have := dW r; omega, fun d hd => by
 rcases jc hd with ⟨_, rfl⟩ | ⟨_, rfl⟩
 ·exact h1
 ·exact h2⟩
theorem vW {l : List GDesc} {d : GDesc} (hl : bO l) (hd : d.filter.length ≤ 1000) (hl9 : l.length ≤ 900) : bO (cJ l d) := by
 refine ⟨?_, fun x hx => ?_⟩
 ·simp only [cJ, List.length_append, List.length_cons, List.length_take, List.length_drop]; omega
 ·simp only [cJ, List.mem_append, List.mem_cons] at hx
  rcases hx with h | h | h
  ·exact hl.2 x (List.mem_of_mem_take h)
  ·rw [h]; exact hd
  ·exact hl.2 x (List.mem_of_mem_drop h)
theorem dT {got : List GDesc} {self : UInt8} {room : Int} : ∀ (r L S : List GDesc) (x : GDesc), x ∈ cV got self room L S r → x ∈ L ∨ x ∈ r
 | [], L, S, x, h => .inl h
 | d :: r, L, S, x, h => by
  rw [cV] at h
  split at h
  ·rcases dT r _ _ x h with h | h
   ·rcases put_mem x h with h | h
    ·exact .inl h
    ·exact .inr (by rw [h]; exact List.mem_cons_self)
   ·exact .inr (List.mem_cons_of_mem _ h)
  ·split at h
   ·rcases dT r _ _ x h with h | h
    ·exact .inl h
    ·exact .inr (List.mem_cons_of_mem _ h)
   ·split at h
    ·rcases dT r _ _ x h with h | h
     ·rcases put_mem x h with h | h
      ·exact .inl (give_mem2 S x h)
      ·exact .inr (by rw [h]; exact List.mem_cons_self)
     ·exact .inr (List.mem_cons_of_mem _ h)
    ·rcases dT r _ _ x h with h | h
     ·exact .inl h
     ·exact .inr (List.mem_cons_of_mem _ h)
where
 give_mem2 {L got : List GDesc} : ∀ (S : List GDesc) (x : GDesc), x ∈ (cf L got S).1 → x ∈ L
  | [], x, h => h
  | s :: r, x, h => by
   rw [cf] at h
   split at h
   ·exact (List.mem_filter.1 h).1
   ·exact give_mem2 r x h
theorem p5 {L got : List GDesc} : ∀ (S : List GDesc), (cf L got S).1.length ≤ L.length
 | [] => Nat.le_refl _
 | s :: r => by
  rw [cf]
  split
  ·exact List.length_filter_le _ _
  ·exact p5 r
theorem fQ {got : List GDesc} {self : UInt8} {room : Int} : ∀ (r L S : List GDesc), (cV got self room L S r).length ≤ L.length + r.length
 | [], L, S => Nat.le_refl _
 | d :: r, L, S => by
  have h1 := gr (self := self) (l := L) d room
  rw [cV]
  split
  ·have := fQ (got := got) (self := self) (room := room) r (cP L d self room).1 S
   simp only [List.length_cons]; omega
  ·split
   ·have := fQ (got := got) (self := self) (room := room) r L S
    simp only [List.length_cons]; omega
   ·split
    ·have h2 := p5 (L := L) (got := got) S
     have h3 := gr (self := self) (l := (cf L got S).1) d ((cf L got S).1.length + 1)
     have := fQ (got := got) (self := self) (room := room) r (cP (cf L got S).1 d self ((cf L got S).1.length + 1)).1 (cf L got S).2.2
     simp only [List.length_cons]; omega
    ·have := fQ (got := got) (self := self) (room := room) r L (cf L got S).2.2
     simp only [List.length_cons]; omega
theorem n9 {many : Int} : ∀ (r : List UInt32) (left out : List GDesc), (cy many left out r).length ≤ out.length + left.length
 | [], left, out => by simp [cy]
 | d :: r, left, out => by
  rw [cy]
  split
  ·omega
  ·split
   ·rename_i x hx
    have hk := (List.getElem?_eq_some_iff.1 hx).1
    have := n9 (many := many) r (left.take (d.toNat % left.length) ++ left.drop (d.toNat % left.length + 1)) (out ++ [x])
    simp only [List.length_append, List.length_take, List.length_drop, List.length_cons, List.length_nil] at this
    omega
   ·omega
theorem ah7 {many : Int} {l : List GDesc} {nd : UInt8} {dr : List UInt32} (h : ok8 l) : ok8 (cy many (bb l nd) [] dr) := by
 have h1 := n9 (many := many) dr (bb l nd) []
 have h2 : (bb l nd).length ≤ l.length := List.length_filter_le _ _
 have h3 := h.1
 refine ⟨by simp only [List.length_nil] at h1; omega, fun d hd => ?_⟩
 rcases aeI many dr _ _ d hd with h | h'
 ·exact (show ok8 l from ‹ok8 l›).2 d (List.mem_filter.1 h).1
 ·cases h'
theorem qC {c : av} {p : ak} {m : aY} {sent : List GDesc} (h : okH p) (hm : okMg m) : okG (gD c p m sent) := by
 refine i3 h.g ?_ ?_
 ·refine Nat.le_trans (fQ _ _ _) ?_
  have h1 := (adp (c := c) (p := p) hm.list hm.f8).1
  have h2 := h.v8.1
  omega
 ·intro x hx
  rcases dT _ _ _ x hx with h1 | h1
  ·exact h.g.view x h1
  ·exact hm.fs2 x (jp h1)
attribute [local go_sem] aR aP ah fzD plR bB bn aI bC aE aq bm dd z8 z16 z32 z64 ar aT ey iD List.map_cons List.map_nil
theorem wG (c : av) (p : ak) (m : aY) (dr : List UInt32) (hc : c.schema.length ≤ 4) (hcs : ∀ s ∈ c.schema, okS s) (hp : okH p) (hm : okMg m) (hu : p.up = true) (hto : m.to = p.node) (hk : m.kind = 6) :
  Con2 Tryz.prog 12 [.agg (aE c), .agg (aq p), .agg (ar m), .fz 1 (dr.map aW)] (· = plR (.tup [.agg (aq (rg c p m).1), .fz 17 ((rg c p m).2.map ar)])) := by
 refine Con2.ofEmb ?_
 have hf := aM p hp.ok
 have hh := cG c p m.frm m.inc hp.ok hp.rs
 have hq := cR (c := c) hp m.frm m.inc
 unfold rg
 generalize aL c p m.frm m.inc = Q at hh hq
 obtain ⟨q, hd⟩ := Q
 simp only at hq hh ⊢
 refine af Ty.mixed Tryz.func12 rfl (by kernel_rfl) (by kernel_rfl) rfl [.cell 8 49, .tmp 9] rfl ?_
 refine g2_ ?_
 refine g2_ ?_
 refine CallS.eqW hf ws_ (.inl ws_) ?_
 refine g2_ ?_
 rw [hu, hto]
 repeat first | simp -implicitDefEqProofs only [go_sem, aa, bne_self_eq_false] | with_reducible first | refine gl_ ?_ | refine ga_ ?_ | refine gn_ ?_
 refine CallS.eqW hh (by simp -implicitDefEqProofs only [go_sem, aa, hu, hto]) (.inl ws_) ?_
 refine g2_ ?_
 cases hd with
 | false =>
  refine g2_ ?_
  refine ae ?_ rfl
  repeat first | simp -implicitDefEqProofs only [go_sem, aa, Bool.false_eq_true, if_false] | with_reducible refine gl_ ?_
 | true =>
  refine g2_ ?_
  refine .inl ⟨oF [1, 2] (oT 0 (oF [3, 4, 5, 6, 7, 8] [])), by kernel_rfl, ?_⟩
  refine g2_ ?_
  refine CallS.eqW cS ws_ (.inl ws_) ?_
  refine g2_ ?_
  refine ⟨dI, m.kind, rfl, ?_⟩
  rw [show lkF eb m.kind = some 105 by rw [hk]; rfl]
  refine g2_ ?_
  have kq := bE c q m.list hc hcs hq.g hm.ds hm.fs2
  have hg := kN (c := c) hq.g hm.ds hm.fs2
  generalize aH c q m.list = p1 at kq hg ⊢
  have k1 := gM p1.ring hg.ok.succ hg.ok.pred
  have k2 := fC p1 hg.ok
  have hrl := ac0 hg.ok.succ hg.ok.pred
  have hr2 := dW p1.ring
  have k3 := lS (aJ p1.ring) (aX p1) hrl hg.ok.filter
  have k4 := eh p1 7 m.frm
  have k5 := aO (cJ (aJ p1.ring) (aX p1)) (vW hrl hg.ok.filter (by omega))
  have k6 := eS [] (by simp)
  obtain ⟨M1, hM1⟩ : ∃ M, M = bP p1 7 m.frm := ⟨_, rfl⟩
  have hMt : M1.table = [] := by rw [hM1]; rfl
  rw [← hM1] at k4 ⊢
  generalize cJ (aJ p1.ring) (aX p1) = Wl at k3 k5 ⊢
  generalize aJ p1.ring = B at k1 k3
  generalize aX p1 = S at k2 k3
  refine CallS.inline Ty.mixed Tryz.func105 rfl (by kernel_rfl) (by kernel_rfl) rfl [] rfl (Vc2.of ?_)
  refine g2_ ?_
  refine g2_ ?_
  refine CallS.inline Ty.mixed Tryz.func104 rfl (by kernel_rfl) (by kernel_rfl) rfl [] rfl (Vc2.of ?_)
  refine g2_ ?_
  refine g2_ ?_
  refine .inl ⟨oF [0, 1, 5, 9, 2, 6, 10, 3, 7, 11, 4, 8, 12, 13, 14, 15, 16, 17] [], by kernel_rfl, ?_⟩
  refine g2_ ?_
  refine CallS.eqW kq ws_ (.inl ws_) ?_
  refine g2_ ?_
  refine .inl ⟨oF [0, 1, 6, 12, 2, 7, 13, 3, 8, 14, 4, 9, 15, 5, 10] (oT 11 (oT 16 (oT 17 (oF [18] [])))), by kernel_rfl, ?_⟩
  refine g2_ ?_
  refine CallS.eqW k1 ws_ (.inl ws_) ?_
  refine g2_ ?_
  refine CallS.eqW k2 ws_ (.inl ws_) ?_
  refine g2_ ?_
  refine CallS.eqW k3 ws_ (.inl ws_) ?_
  refine g2_ ?_
  refine CallS.inline Ty.mixed Tryz.func63 rfl (by kernel_rfl) (by kernel_rfl) rfl [] rfl (Vc2.of ?_)
  refine g2_ ?_
  refine g2_ ?_
  refine CallS.eqW k4 ws_ (.inl ws_) ?_
  refine g2_ ?_
  refine CallS.eqW k5 ws_ (.inl ws_) ?_
  refine g2_ ?_
  refine CallS.eqW k6 ws_ (.inl ws_) ?_
  refine g2_ ?_
  refine .inl ⟨oF [0, 1, 5, 2, 3, 4] (oT 6 (oF [7, 8, 9, 10] [])), by kernel_rfl, ?_⟩
  refine g2_ ?_
  refine .inr (.inr (.inl ⟨oF [0, 4, 1, 5, 2, 6, 3, 7] (oT 8 (oF [9] [])), [8], by kernel_rfl, ?_⟩))
  refine g2_ ?_
  refine ae ?_ rfl
  repeat first | simp -implicitDefEqProofs only [go_sem, aa, if_true, hMt] | with_reducible refine gl_ ?_
theorem sf (c : av) (p : ak) (m : aY) (dr : List UInt32) (hc : c.schema.length ≤ 4) (hcs : ∀ s ∈ c.schema, okS s) (hp : okH p) (hm : okMg m) (hu : p.up = true) (hto : m.to = p.node) (hk : m.kind = 3) (hdr : dr.length ≤ 1000):
  Con2 Tryz.prog 12 [.agg (aE c), .agg (aq p), .agg (ar m), .fz 1 (dr.map aW)] (· = plR (.tup [.agg (aq (lf dr c p m).1), .fz 17 ((lf dr c p m).2.map ar)])) := by
 refine Con2.ofEmb ?_
 have hf := aM p hp.ok
 have hh := cG c p m.frm m.inc hp.ok hp.rs
 have hq := cR (c := c) hp m.frm m.inc
 unfold lf
 generalize aL c p m.frm m.inc = Q at hh hq
 obtain ⟨q, hd⟩ := Q
 simp only at hq hh ⊢
 refine af Ty.mixed Tryz.func12 rfl (by kernel_rfl) (by kernel_rfl) rfl [.cell 8 49, .tmp 9] rfl ?_
 refine g2_ ?_
 refine g2_ ?_
 refine CallS.eqW hf ws_ (.inl ws_) ?_
 refine g2_ ?_
 rw [hu, hto]
 repeat first | simp -implicitDefEqProofs only [go_sem, aa, bne_self_eq_false] | with_reducible first | refine gl_ ?_ | refine ga_ ?_ | refine gn_ ?_
 refine CallS.eqW hh (by simp -implicitDefEqProofs only [go_sem, aa, hu, hto]) (.inl ws_) ?_
 refine g2_ ?_
 cases hd with
 | false =>
  refine g2_ ?_
  refine ae ?_ rfl
  repeat first | simp -implicitDefEqProofs only [go_sem, aa, Bool.false_eq_true, if_false] | with_reducible refine gl_ ?_
 | true =>
  refine g2_ ?_
  refine .inl ⟨oF [1, 2] (oT 0 (oF [3, 4, 5, 6, 7, 8] [])), by kernel_rfl, ?_⟩
  refine g2_ ?_
  refine CallS.eqW cS ws_ (.inl ws_) ?_
  refine g2_ ?_
  refine ⟨dI, m.kind, rfl, ?_⟩
  rw [show lkF eb m.kind = some 102 by rw [hk]; rfl]
  refine g2_ ?_
  have hs8 : ok8 (cy c.swap (bb q.view m.frm) [] dr) := ah7 hq.v8
  have k1 := adS q.view c.swap m.frm dr hq.v8 hdr
  have k2 := eh q 4 m.frm
  have k3 := aO _ hs8.toDs
  have k4 := eS [] (by simp)
  have k5 := li c q m.list (by omega) hq.g.ok hm.ds
  have k6 := ze q.view (cr c q m.list) _ q.node c.view hq.v8 (adp hm.list hm.f8) hs8 hq.vw
  have kq := bE c (gD c q m (cy c.swap (bb q.view m.frm) [] dr)) [] hc hcs (qC hq hm) ⟨by simp, by simp⟩ (by simp)
  unfold gD at kq ⊢
  obtain ⟨M1, hM1⟩ : ∃ M, M = bP q 4 m.frm := ⟨_, rfl⟩
  have hMt : M1.table = [] := by rw [hM1]; rfl
  rw [← hM1] at k2 ⊢
  generalize cy c.swap (bb q.view m.frm) [] dr = sent at k1 k3 k6 kq ⊢
  generalize cV (cr c q m.list) q.node c.view q.view sent (cr c q m.list) = V at k6 kq ⊢
  generalize cr c q m.list = U at k5 k6
  refine CallS.inline Ty.mixed Tryz.func102 rfl (by kernel_rfl) (by kernel_rfl) rfl [] rfl (Vc2.of ?_)
  refine g2_ ?_
  refine g2_ ?_
  refine .inl ⟨oF [0, 5, 10, 15, 1, 6, 11, 16, 2, 7, 12, 17, 3, 8, 13, 18, 4, 9, 14, 19, 20] [], by kernel_rfl, ?_⟩
  refine g2_ ?_
  refine CallS.eqW k1 ws_ (.inl ws_) ?_
  refine g2_ ?_
  refine CallS.inline Ty.mixed Tryz.func63 rfl (by kernel_rfl) (by kernel_rfl) rfl [] rfl (Vc2.of ?_)
  refine g2_ ?_
  refine g2_ ?_
  refine CallS.eqW k2 ws_ (.inl ws_) ?_
  refine g2_ ?_
  refine CallS.eqW k3 ws_ (.inl ws_) ?_
  refine g2_ ?_
  refine CallS.eqW k4 ws_ (.inl ws_) ?_
  refine g2_ ?_
  refine .inl ⟨oF [0, 1, 5, 2, 3, 4] (oT 6 (oF [7, 8, 9, 10] [])), by kernel_rfl, ?_⟩
  refine g2_ ?_
  refine CallS.inline Ty.mixed Tryz.func166 rfl (by kernel_rfl) (by kernel_rfl) rfl [] rfl (Vc2.of ?_)
  refine g2_ ?_
  refine g2_ ?_
  refine .inl ⟨oF [0, 4, 8, 1, 5, 9, 2, 6, 10, 3, 7, 11, 12, 13, 14] [], by kernel_rfl, ?_⟩
  refine g2_ ?_
  refine CallS.eqW k5 ws_ (.inl ws_) ?_
  refine g2_ ?_
  refine .inl ⟨oF [0, 1, 6, 7, 8, 13, 2, 9, 14, 3, 10, 15, 4, 11, 16, 5, 12, 17, 18, 19, 20, 21, 22] [], by kernel_rfl, ?_⟩
  refine g2_ ?_
  refine CallS.eqW k6 ws_ (.inl ws_) ?_
  refine g2_ ?_
  refine .inl ⟨oF [0, 1, 2, 3, 4, 5, 6, 7, 8, 9] [], by kernel_rfl, ?_⟩
  refine g2_ ?_
  refine CallS.eqW kq ws_ (.inl ws_) ?_
  refine g2_ ?_
  refine .inr (.inr (.inl ⟨oF [0, 4, 1, 5, 2, 6, 3, 7] (oT 8 (oF [9] [])), [8], by kernel_rfl, ?_⟩))
  refine g2_ ?_
  refine ae ?_ rfl
  repeat first | simp -implicitDefEqProofs only [go_sem, aa, if_true, hMt] | with_reducible refine gl_ ?_
theorem acT (c : av) (p : ak) (f : List GSpan) (hc : c.schema.length ≤ 4) (hcs : ∀ s ∈ c.schema, okS s) (hp : okG p) (hf : f.length ≤ 1000) (hn : okG { p with filter := (bo c.schema f).1 }) (hu : p.up = true) :
  Con2 Tryz.prog 21 [.agg (aE c), .agg (aq p), fzS f] (· = plR (.tup [.agg (aq (if (bo c.schema f).2 = 0 then aH c { p with filter := (bo c.schema f).1 } [] else p)), .v (.int .i64 (bo c.schema f).2)])) := by
 refine Con2.ofEmb ?_
 have k1 := aM p hp.ok
 have k2 := sN c.schema f (by omega) (by omega)
 have k3 := bE c { p with filter := (bo c.schema f).1 } [] hc hcs hn ⟨by simp, by simp⟩ (by simp)
 generalize bo c.schema f = n at k2 k3 ⊢
 obtain ⟨g, e⟩ := n
 simp only at k2 k3 ⊢
 refine af Ty.mixed Tryz.func21 rfl (by kernel_rfl) (by kernel_rfl) rfl [.cell 6 49, .tmp 7] rfl ?_
 refine g2_ ?_
 refine g2_ ?_
 refine CallS.eqW k1 ws_ (.inl ws_) ?_
 refine g2_ ?_
 rw [hu]
 refine g2_ ?_
 refine CallS.eqW k2 (by simp -implicitDefEqProofs only [go_sem, aa, hu]) (.inl ws_) ?_
 refine g2_ ?_
 refine nA (fun h => ?_) (fun h => ?_)
 ·rw [if_neg h]
  refine g2_ ?_
  refine ae ?_ rfl
  repeat first | simp -implicitDefEqProofs only [go_sem, aa, hu] | with_reducible refine gl_ ?_
 ·rw [if_pos h]
  refine g2_ ?_
  refine CallS.eqW k3 (by simp -implicitDefEqProofs only [go_sem, aa, hu]) (.inl ws_) ?_
  refine g2_ ?_
  refine ae ?_ rfl
  repeat first | simp -implicitDefEqProofs only [go_sem, aa, hu, h] | with_reducible refine gl_ ?_
theorem ac1 (c : av) (p : ak) (node : UInt8) (inc : UInt16) (hp : okP p) (hr : kR p.reports) :
  Con2 Tryz.prog 30 [.agg (aE c), .agg (aq p), .v (.int .u8 node.toNat), .v (.int .u16 inc.toNat)] (· = plR (.tup [.agg (aq (aL c p node inc).1), .v (.bool (aL c p node inc).2)])) := by
 refine Con2.ofEmb ?_
 have k1 := aM p hp
 have k2 := cG c p node inc hp hr
 generalize aL c p node inc = Q at k2 ⊢
 obtain ⟨q, b⟩ := Q
 refine af Ty.mixed Tryz.func30 rfl (by kernel_rfl) (by kernel_rfl) rfl [.cell 8 49, .tmp 9] rfl ?_
 refine g2_ ?_
 refine g2_ ?_
 refine .inr (.inr (.inl ⟨oF [0, 1, 3, 4] (oT 2 (oF [5, 6, 7, 8, 9] [])), [], by kernel_rfl, ?_⟩))
 refine g2_ ?_
 refine CallS.eqW k1 ws_ (.inl ws_) ?_
 refine g2_ ?_
 refine CallS.eqW k2 ws_ (.inl ws_) ?_
 refine g2_ ?_
 refine ae ?_ rfl
 exact ws_
theorem uX (c : av) (p : ak) (l : List GDesc) (hc : c.schema.length ≤ 4) (hcs : ∀ s ∈ c.schema, okS s) (hp : okG p) (hl : bO l) (hl2 : ∀ d ∈ l, okF d) :
  Con2 Tryz.prog 70 [.agg (aE c), .agg (aq p), fzD l] (· = plR (.agg (aq (aH c p l)))) := by
 refine Con2.ofEmb ?_
 have k1 := aM p hp.ok
 have k2 := bE c p l hc hcs hp hl hl2
 generalize aH c p l = q at k2 ⊢
 refine af Ty.mixed Tryz.func70 rfl (by kernel_rfl) (by kernel_rfl) rfl [.cell 6 49] rfl ?_
 refine g2_ ?_
 refine g2_ ?_
 refine .inr (.inr (.inl ⟨oF [0, 1, 3] (oT 2 (oF [4, 5] [])), [], by kernel_rfl, ?_⟩))
 refine g2_ ?_
 refine CallS.eqW k1 ws_ (.inl ws_) ?_
 refine g2_ ?_
 refine CallS.eqW k2 ws_ (.inl ws_) ?_
 refine g2_ ?_
 refine ae ?_ rfl
 exact ws_
end Go.Proofs.YtlaefellhnkfbaaGreat.V

set_option maxRecDepth 10000
set_option maxHeartbeats 4000000
namespace Go.Proofs.YtlaefellhnkfbaaGreat.V
open Go.Eng
theorem vv {c : av} {p : ak} {node : UInt8} {inc : UInt16} : (aL c p node inc).1.wait = p.wait := by
 unfold aL
 split
 ·rfl
 ·split
  ·rfl
  ·split <;> rfl
theorem nH {p : ak} (h : okH p) {w : GW} (hw : bO w.sent) : okH { p with wait := w } :=
 ⟨⟨⟨h.g.ok.filter, h.g.ok.view, h.g.ok.near, h.g.ok.succ, h.g.ok.pred, hw, h.g.ok.table, h.g.ok.heard, h.g.ok.rows, h.g.ok.reports, h.g.ok.evs, h.g.ok.pulls⟩, h.g.filter, h.g.view, h.g.near, h.g.succ, h.g.pred, h.g.table⟩, h.rs, h.v8, h.vw⟩
theorem yP {w : GW} {frm : UInt8} (h : ok8 w.sent) : ok8 (fO w frm).1.sent ∧ ok8 (fO w frm).2.1 := by
 unfold fO
 split
 ·exact ⟨⟨Nat.zero_le _, fun d hd => absurd (show d ∈ ([] : List GDesc) from hd) List.not_mem_nil⟩, h⟩
 ·exact ⟨h, ⟨Nat.zero_le _, fun d hd => absurd hd List.not_mem_nil⟩⟩
attribute [local go_sem] aR aP ah fzD plR bB bn aI bC aE aq bm dd z8 z16 z32 z64 ar aT ey iD List.map_cons List.map_nil
theorem o9 (c : av) (p : ak) (m : aY) (dr : List UInt32) (hc : c.schema.length ≤ 4) (hcs : ∀ s ∈ c.schema, okS s) (hp : okH p) (hm : okMg m) (hu : p.up = true) (hto : m.to = p.node) (hk : m.kind = 4) (hws : ok8 p.wait.sent):
  Con2 Tryz.prog 12 [.agg (aE c), .agg (aq p), .agg (ar m), .fz 1 (dr.map aW)] (· = plR (.tup [.agg (aq (jB c p m).1), .fz 17 ((jB c p m).2.map ar)])) := by
 refine Con2.ofEmb ?_
 have hf := aM p hp.ok
 have hh := cG c p m.frm m.inc hp.ok hp.rs
 have hq := cR (c := c) hp m.frm m.inc
 have hqw := vv (c := c) (p := p) (node := m.frm) (inc := m.inc)
 unfold jB
 generalize aL c p m.frm m.inc = Q at hh hq hqw
 obtain ⟨q, hd⟩ := Q
 simp only at hq hh hqw ⊢
 refine af Ty.mixed Tryz.func12 rfl (by kernel_rfl) (by kernel_rfl) rfl [.cell 8 49, .tmp 9] rfl ?_
 refine g2_ ?_
 refine g2_ ?_
 refine CallS.eqW hf ws_ (.inl ws_) ?_
 refine g2_ ?_
 rw [hu, hto]
 repeat first | simp -implicitDefEqProofs only [go_sem, aa, bne_self_eq_false] | with_reducible first | refine gl_ ?_ | refine ga_ ?_ | refine gn_ ?_
 refine CallS.eqW hh (by simp -implicitDefEqProofs only [go_sem, aa, hu, hto]) (.inl ws_) ?_
 refine g2_ ?_
 cases hd with
 | false =>
  refine g2_ ?_
  refine ae ?_ rfl
  repeat first | simp -implicitDefEqProofs only [go_sem, aa, Bool.false_eq_true, if_false] | with_reducible refine gl_ ?_
 | true =>
  refine g2_ ?_
  refine .inl ⟨oF [1, 2] (oT 0 (oF [3, 4, 5, 6, 7, 8] [])), by kernel_rfl, ?_⟩
  refine g2_ ?_
  refine CallS.eqW cS ws_ (.inl ws_) ?_
  refine g2_ ?_
  refine ⟨dI, m.kind, rfl, ?_⟩
  rw [show lkF eb m.kind = some 103 by rw [hk]; rfl]
  refine g2_ ?_
  have hqs : ok8 q.wait.sent := by rw [hqw]; exact hws
  obtain ⟨hw1, hw2⟩ := yP (frm := m.frm) hqs
  have k1 := acu q.wait m.frm hqs
  have hq3 := nH hq (w := (fO q.wait m.frm).1) hw1.toDs
  have k5 : Con2 Tryz.prog 110 [.agg (aE c), .agg (aq { q with wait := (fO q.wait m.frm).1 }), fzD m.list] (· = plR (fzD (cr c q m.list))) := li c { q with wait := (fO q.wait m.frm).1 } m.list (by omega) hq3.g.ok hm.ds
  have k6 := ze q.view (cr c q m.list) (fO q.wait m.frm).2.1 q.node c.view hq.v8 (adp hm.list hm.f8) hw2 hq.vw
  have kq1 := bE c q [] hc hcs hq.g ⟨by simp, by simp⟩ (by simp)
  have kq2 := bE c (gD c { q with wait := (fO q.wait m.frm).1 } m (fO q.wait m.frm).2.1) [] hc hcs (qC hq3 hm) ⟨by simp, by simp⟩ (by simp)
  have hans : kU c q m = if (fO q.wait m.frm).2.2 = true then gD c { q with wait := (fO q.wait m.frm).1 } m (fO q.wait m.frm).2.1 else q := rfl
  have hmg : gD c { q with wait := (fO q.wait m.frm).1 } m (fO q.wait m.frm).2.1 = { q with wait := (fO q.wait m.frm).1, view := cV (cr c q m.list) q.node c.view q.view (fO q.wait m.frm).2.1 (cr c q m.list) } := rfl
  rw [hans]
  rw [hmg] at kq2 ⊢
  generalize fO q.wait m.frm = a at k1 k5 k6 kq2 ⊢
  obtain ⟨w, sent, ok⟩ := a
  simp only at k1 k5 k6 kq2 ⊢
  generalize cV (cr c q m.list) q.node c.view q.view sent (cr c q m.list) = V at k6 kq2 ⊢
  generalize cr c q m.list = U at k5 k6
  refine CallS.inline Ty.mixed Tryz.func103 rfl (by kernel_rfl) (by kernel_rfl) rfl [] rfl (Vc2.of ?_)
  refine g2_ ?_
  refine g2_ ?_
  refine .inr (.inl ⟨(.fl 0 (.fl 5 (.fl 1 (.fl 6 (.fl 2 (.fl 7 (.fl 3 (.fl 8 (.fl 4 (.fl 9 (.eff 10 false (.fl 11 (.fl 12 (.fl 13 (.fl 14 (.eff 15 true (.eff 16 false (.fl 17 (.fl 18 .done)) .no) .no))))) (.eff 15 true (.eff 10 false (.fl 11 (.fl 12 (.fl 13 (.fl 14 (.eff 16 false (.fl 17 (.fl 18 .done)) .no))))) .no) .no)))))))))))), by kernel_rfl, ?_⟩)
  refine g2_ ?_
  repeat' (first
   | (with_reducible refine And.intro ?_ ?_)
   | (refine CallS.eqW k1 ?_ (.inl ?_) ?_; (focus (((try (with_reducible refine ab ?_)); simp -implicitDefEqProofs only [go_sem, aa]; repeat ((with_reducible refine ab ?_); simp -implicitDefEqProofs only [go_sem, aa])); done)); (focus (((try (with_reducible refine ab ?_)); simp -implicitDefEqProofs only [go_sem, aa]; repeat ((with_reducible refine ab ?_); simp -implicitDefEqProofs only [go_sem, aa])); done)); refine g2_ ?_)
   | (with_reducible refine ab ?_; refine g2_ ?_))
  all_goals
   cases ok with
   | false =>
    have kq := kq1
    rw [if_neg (by decide)]
    refine g2_ ?_
    refine .inl ⟨oF [0, 1, 2, 3, 4, 5, 6, 7, 8, 9] [], by kernel_rfl, ?_⟩
    refine g2_ ?_
    refine CallS.eqW kq ws_ (.inl ws_) ?_
    refine g2_ ?_
    refine .inr (.inr (.inl ⟨oF [0, 4, 1, 5, 2, 6, 3, 7] (oT 8 (oF [9] [])), [8], by kernel_rfl, ?_⟩))
    refine g2_ ?_
    refine ae ?_ rfl
    repeat first | simp -implicitDefEqProofs only [go_sem, aa, if_true, List.map_nil] | with_reducible refine gl_ ?_
   | true =>
    have kq := kq2
    rw [if_pos rfl]
    refine g2_ ?_
    refine CallS.inline Ty.mixed Tryz.func166 rfl (by kernel_rfl) (by kernel_rfl) rfl [] rfl (Vc2.of ?_)
    refine g2_ ?_
    refine g2_ ?_
    refine .inl ⟨oF [0, 4, 8, 1, 5, 9, 2, 6, 10, 3, 7, 11, 12, 13, 14] [], by kernel_rfl, ?_⟩
    refine g2_ ?_
    refine CallS.eqW k5 ws_ (.inl ws_) ?_
    refine g2_ ?_
    refine .inl ⟨oF [0, 1, 6, 7, 8, 13, 2, 9, 14, 3, 10, 15, 4, 11, 16, 5, 12, 17, 18, 19, 20, 21, 22] [], by kernel_rfl, ?_⟩
    refine g2_ ?_
    refine CallS.eqW k6 ws_ (.inl ws_) ?_
    refine g2_ ?_
    refine .inl ⟨oF [0, 1, 2, 3, 4, 5, 6, 7, 8, 9] [], by kernel_rfl, ?_⟩
    refine g2_ ?_
    refine CallS.eqW kq ws_ (.inl ws_) ?_
    refine g2_ ?_
    refine .inr (.inr (.inl ⟨oF [0, 4, 1, 5, 2, 6, 3, 7] (oT 8 (oF [9] [])), [8], by kernel_rfl, ?_⟩))
    refine g2_ ?_
    refine ae ?_ rfl
    repeat first | simp -implicitDefEqProofs only [go_sem, aa, if_true, List.map_nil] | with_reducible refine gl_ ?_
theorem wv (c : av) (p : ak) (m : aY) (dr : List UInt32) (hc : c.schema.length ≤ 4) (hcs : ∀ s ∈ c.schema, okS s) (hp : okH p) (hu : p.up = true) (hto : m.to = p.node) (hk : lkF eb m.kind = none) :
  Con2 Tryz.prog 12 [.agg (aE c), .agg (aq p), .agg (ar m), .fz 1 (dr.map aW)] (· = plR (.tup [.agg (aq (rM c p m).1), .fz 17 ((rM c p m).2.map ar)])) := by
 refine Con2.ofEmb ?_
 have hf := aM p hp.ok
 have hh := cG c p m.frm m.inc hp.ok hp.rs
 have hq := cR (c := c) hp m.frm m.inc
 unfold rM
 generalize aL c p m.frm m.inc = Q at hh hq
 obtain ⟨q, hd⟩ := Q
 simp only at hq hh ⊢
 have kq := bE c q [] hc hcs hq.g ⟨by simp, by simp⟩ (by simp)
 generalize aH c q [] = q' at kq ⊢
 refine af Ty.mixed Tryz.func12 rfl (by kernel_rfl) (by kernel_rfl) rfl [.cell 8 49, .tmp 9] rfl ?_
 refine g2_ ?_
 refine g2_ ?_
 refine CallS.eqW hf ws_ (.inl ws_) ?_
 refine g2_ ?_
 rw [hu, hto]
 repeat first | simp -implicitDefEqProofs only [go_sem, aa, bne_self_eq_false] | with_reducible first | refine gl_ ?_ | refine ga_ ?_ | refine gn_ ?_
 refine CallS.eqW hh (by simp -implicitDefEqProofs only [go_sem, aa, hu, hto]) (.inl ws_) ?_
 refine g2_ ?_
 cases hd with
 | false =>
  refine g2_ ?_
  refine ae ?_ rfl
  repeat first | simp -implicitDefEqProofs only [go_sem, aa, Bool.false_eq_true, if_false] | with_reducible refine gl_ ?_
 | true =>
  refine g2_ ?_
  refine .inl ⟨oF [1, 2] (oT 0 (oF [3, 4, 5, 6, 7, 8] [])), by kernel_rfl, ?_⟩
  refine g2_ ?_
  refine CallS.eqW cS ws_ (.inl ws_) ?_
  refine g2_ ?_
  refine ⟨dI, m.kind, rfl, ?_⟩
  rw [hk]
  repeat first | simp -implicitDefEqProofs only [go_sem, aa, Option.isSome_none] | with_reducible first | refine gl_ ?_ | refine ga_ ?_ | refine gn_ ?_
  refine .inl ⟨oF [0, 1, 2, 3, 4, 5, 6, 7, 8, 9] [], by kernel_rfl, ?_⟩
  refine g2_ ?_
  refine CallS.eqW kq ws_ (.inl ws_) ?_
  refine g2_ ?_
  refine .inr (.inr (.inl ⟨oF [0, 4, 1, 5, 2, 6, 3, 7] (oT 8 (oF [9] [])), [8], by kernel_rfl, ?_⟩))
  refine g2_ ?_
  refine ae ?_ rfl
  repeat first | simp -implicitDefEqProofs only [go_sem, aa, if_true, List.map_nil] | with_reducible refine gl_ ?_
theorem ags (c : av) (p : ak) (m : aY) (dr : List UInt32) (hp : okP p) (hto : m.to ≠ p.node) :
  Con2 Tryz.prog 12 [.agg (aE c), .agg (aq p), .agg (ar m), .fz 1 (dr.map aW)] (· = plR (.tup [.agg (aq p), .fz 17 []])) := by
 cases hu : p.up with
 | false => exact pN c p m dr hp hu
 | true =>
 refine Con2.ofEmb ?_
 have hf := aM p hp
 refine af Ty.mixed Tryz.func12 rfl (by kernel_rfl) (by kernel_rfl) rfl [.cell 8 49, .tmp 9] rfl ?_
 refine g2_ ?_
 refine g2_ ?_
 refine CallS.eqW hf ws_ (.inl ws_) ?_
 refine g2_ ?_
 rw [hu]
 refine g2_ ?_
 rw [show ((m.to.toNat : Int) != (p.node.toNat : Int)) = true from bne_iff_ne.2 (fun h => hto ((aib _ _).1 h))]
 refine g2_ ?_
 refine ae ?_ rfl
 repeat first | simp -implicitDefEqProofs only [go_sem, aa, hu] | with_reducible refine gl_ ?_
end Go.Proofs.YtlaefellhnkfbaaGreat.V
