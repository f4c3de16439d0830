/-
 Part 39 of the proof of Pj: the engine and the walks, in their order.
-/
import Derived.Test.YtlaefellhnkfbaaGreatPj37
import Derived.Test.YtlaefellhnkfbaaGreatPj38
set_option linter.unusedSimpArgs false
set_option linter.unusedVariables false
set_option maxRecDepth 10000
set_option maxHeartbeats 4000000
namespace Go.Proofs.YtlaefellhnkfbaaGreat.V
open Go.Eng
theorem xF (l m : List ao) (self : UInt8) : (dG l m self).length = l.length := by simp [dG]
theorem mN {p : ak} (h : okH p) (t : List ao) : okH (cK p t) := tm h (by rw [xF]; exact h.g.table) (lf h.rs _)
def dk (c : av) (p : ak) (m : aV) : ak := { cK p m.table with view := cZ (cK p m.table).node c.view (cK p m.table).view (bW c (cK p m.table) m.list) }
def fE (c : av) (p : ak) (m : aV) : ak × List aV :=
 let q := aI c p m.frm m.inc
 if q.2 = true then (aH c (dk c q.1 m) [], []) else (q.1, [])
def p_ (c : av) (p : ak) (m : aV) : ak × List aV :=
 let q := aI c p m.frm m.inc
 if q.2 = true then (aH c { q.1 with table := fH q.1.table m.frm m.inc } [], []) else (q.1, [])
theorem afS {c : av} {p : ak} {l : List GDesc} (h1 : l.length ≤ 1048576) (h2 : c.schema.length ≤ 4) : ok8 (bW c p l) := by
 have h3 := List.length_filter_le (da c) l
 have h4 := List.length_filter_le (b_ p) (l.filter (da c))
 exact ⟨by show (List.filter (b_ p) (l.filter (da c))).length ≤ 1100000; omega, fun d hd => ux h2 (List.mem_filter.1 (List.mem_filter.1 hd).1).2⟩
theorem oM {c : av} {p : ak} {l : List GDesc} {d : GDesc} (h : d ∈ bW c p l) : da c d = true := (List.mem_filter.1 (List.mem_filter.1 h).1).2
theorem nT {c : av} {p : ak} {l : List GDesc} {d : GDesc} (h : d ∈ bW c p l) : d ∈ l := (List.mem_filter.1 (List.mem_filter.1 h).1).1
theorem mc {self : UInt8} {room : Int} : ∀ (r l : List GDesc), (cZ self room l r).length ≤ l.length + r.length
 | [], l => Nat.le_refl _
 | d :: r, l => by
  rw [cZ]
  have h1 := mc (self := self) (room := room) r (bB l d self room).1
  have h2 := gM (self := self) (l := l) d room
  rw [List.length_cons]
  omega
attribute [local go_sem] aO aU ah fzD plR bH bw aM bL aJ au bu dC z8 z16 z32 z64 ax aZ fa List.map_cons List.map_nil
theorem lF (c : av) (p : ak) (m : aV) (dr : List UInt32) (hc : c.schema.length ≤ 4) (hcs : ∀ s ∈ c.schema, okS s) (hp : okH p) (hm : okMg m) (hu : p.up = true) (hto : m.to = p.node) (hk : m.kind = 2) :
  Con2 Tryz.prog 12 [.agg (aJ c), .agg (au p), .agg (ax m), .fz 1 (dr.map aX)] (· = plR (.tup [.agg (au (fE c p m).1), .fz 17 ((fE c p m).2.map ax)])) := by
 refine Con2.ofEmb ?_
 have hf := aQ p hp.ok
 have hh := cY c p m.frm m.inc hp.ok hp.rs
 have hq := di (c := c) hp m.frm m.inc
 unfold fE
 generalize aI c p m.frm m.inc = Q at hh hq
 obtain ⟨q, hd⟩ := Q
 simp only at hq hh ⊢
 refine af Ty.mixed Tryz.func12 rfl (by kernel_rfl) (by kernel_rfl) rfl [.cell 8 49, .tmp 9] rfl ?_
 refine g2_ ?_
 refine g2_ ?_
 refine cw_ hf ?_
 refine g2_ ?_
 rw [hu, hto]
 refine gx_ ?_
 refine CallS.eqW hh (wg_ hu hto) (.inl ws_) ?_
 refine g2_ ?_
 cases hd with
 | false =>
  refine g2_ ?_
  refine ae ?_ rfl
  exact wx_
 | true =>
  refine g2_ ?_
  refine .inl ⟨oF [1, 2] (oT 0 (oF [3, 4, 5, 6, 7, 8] [])), by kernel_rfl, ?_⟩
  refine g2_ ?_
  refine cw_ dm ?_
  refine g2_ ?_
  refine ⟨d9, m.kind, rfl, ?_⟩
  rw [show lkF eM m.kind = some 101 by rw [hk]; rfl]
  refine g2_ ?_
  have hl := mN hq m.table
  have k1 := pC q m.table hq.g.ok (by have := hq.g.table; omega) (by have := hm.table; omega) hq.rs
  have k2 := lB c (cK q m.table) m.list (by omega) hl.g.ok hm.ds
  have k3 := akH (cK q m.table).view (bW c (cK q m.table) m.list) (cK q m.table).node c.view hl.v8 (afS hm.list hc) hl.vw
  have kq := bN c (dk c q m) [] hc hcs (jh hl.g (by
    refine Nat.le_trans (mc _ _) ?_
    have h1 := (afS (c := c) (p := cK q m.table) hm.list hc).1
    have h2 := hl.v8.1
    omega) (fun x hx => by
   rcases lD _ _ x hx with h | h
   ·exact hq.g.view x h
   ·exact hm.fs2 x (nT h))) ⟨by simp, by simp⟩ (by simp)
  unfold dk at kq ⊢
  generalize cK q m.table = p1 at k1 k2 k3 kq ⊢
  generalize cZ p1.node c.view p1.view (bW c p1 m.list) = V at k3 kq ⊢
  generalize bW c p1 m.list = U at k2 k3
  refine CallS.inline Ty.mixed Tryz.func101 rfl (by kernel_rfl) (by kernel_rfl) rfl [] rfl (Vc2.of ?_)
  refine g2_ ?_
  refine g2_ ?_
  refine .inl ⟨oF [0, 1, 5, 2, 6, 3, 7, 4, 8, 9, 10, 11, 12, 13] [], by kernel_rfl, ?_⟩
  refine g2_ ?_
  refine cw_ k1 ?_
  refine g2_ ?_
  refine .inl ⟨oF [0, 1, 6, 10, 14, 20, 25, 2, 7, 11, 15, 21, 26, 3, 8, 12, 16, 22, 27, 4, 9, 13, 17, 23, 28, 5, 18, 24, 29] (oT 19 (oF [30, 31, 32, 33, 34] [])), by kernel_rfl, ?_⟩
  refine g2_ ?_
  refine cw_ k2 ?_
  refine g2_ ?_
  refine cw_ k3 ?_
  refine g2_ ?_
  refine .inl ⟨oF [0, 1, 2, 3, 4, 5, 6, 7, 8, 9] [], by kernel_rfl, ?_⟩
  refine g2_ ?_
  refine cw_ kq ?_
  refine g2_ ?_
  refine .inr (.inr (.inl ⟨oF [0, 4, 1, 5, 2, 6, 3, 7] (oT 8 (oF [9] [])), [8], by kernel_rfl, ?_⟩))
  refine g2_ ?_
  refine ae ?_ rfl
  exact wx_
theorem xv (c : av) (p : ak) (m : aV) (dr : List UInt32) (hc : c.schema.length ≤ 4) (hcs : ∀ s ∈ c.schema, okS s) (hp : okH p) (hm : okMg m) (hu : p.up = true) (hto : m.to = p.node) (hk : m.kind = 9) :
  Con2 Tryz.prog 12 [.agg (aJ c), .agg (au p), .agg (ax m), .fz 1 (dr.map aX)] (· = plR (.tup [.agg (au (p_ c p m).1), .fz 17 ((p_ c p m).2.map ax)])) := by
 refine Con2.ofEmb ?_
 have hf := aQ p hp.ok
 have hh := cY c p m.frm m.inc hp.ok hp.rs
 have hq := di (c := c) hp m.frm m.inc
 unfold p_
 generalize aI c p m.frm m.inc = Q at hh hq
 obtain ⟨q, hd⟩ := Q
 simp only at hq hh ⊢
 refine af Ty.mixed Tryz.func12 rfl (by kernel_rfl) (by kernel_rfl) rfl [.cell 8 49, .tmp 9] rfl ?_
 refine g2_ ?_
 refine g2_ ?_
 refine cw_ hf ?_
 refine g2_ ?_
 rw [hu, hto]
 refine gx_ ?_
 refine CallS.eqW hh (wg_ hu hto) (.inl ws_) ?_
 refine g2_ ?_
 cases hd with
 | false =>
  refine g2_ ?_
  refine ae ?_ rfl
  exact wx_
 | true =>
  refine g2_ ?_
  refine .inl ⟨oF [1, 2] (oT 0 (oF [3, 4, 5, 6, 7, 8] [])), by kernel_rfl, ?_⟩
  refine g2_ ?_
  refine cw_ dm ?_
  refine g2_ ?_
  refine ⟨d9, m.kind, rfl, ?_⟩
  rw [show lkF eM m.kind = some 107 by rw [hk]; rfl]
  refine g2_ ?_
  have ht : (fH q.table m.frm m.inc).length = q.table.length := by simp [fH]
  have hg := hq.g.table
  have k1 := abL q.table m.frm m.inc (by omega)
  have kq := bN c { q with table := fH q.table m.frm m.inc } [] hc hcs (aao hq.g (by rw [ht]; exact hg) hq.rs) ⟨by simp, by simp⟩ (by simp)
  generalize fH q.table m.frm m.inc = T at k1 kq ⊢
  refine CallS.inline Ty.mixed Tryz.func107 rfl (by kernel_rfl) (by kernel_rfl) rfl [] rfl (Vc2.of ?_)
  refine g2_ ?_
  refine g2_ ?_
  refine .inl ⟨oF [0, 1, 6, 11, 2, 7, 12, 3, 8, 13, 4, 9, 14, 5, 10, 15, 16, 17, 18, 19, 20] [], by kernel_rfl, ?_⟩
  refine g2_ ?_
  refine cw_ k1 ?_
  refine g2_ ?_
  refine .inl ⟨oF [0, 1, 2, 3, 4, 5, 6, 7, 8, 9] [], by kernel_rfl, ?_⟩
  refine g2_ ?_
  refine cw_ kq ?_
  refine g2_ ?_
  refine .inr (.inr (.inl ⟨oF [0, 4, 1, 5, 2, 6, 3, 7] (oT 8 (oF [9] [])), [8], by kernel_rfl, ?_⟩))
  refine g2_ ?_
  refine ae ?_ rfl
  exact wx_
end Go.Proofs.YtlaefellhnkfbaaGreat.V

set_option maxRecDepth 10000
set_option maxHeartbeats 4000000
namespace Go.Proofs.YtlaefellhnkfbaaGreat.V
open Go.Eng
def zZ (c : av) (p : ak) (m : aV) : ak × List aV :=
 let q := aI c p m.frm m.inc
 if q.2 = true then (aH c (cK q.1 m.table) [], []) else (q.1, [])
def kT (c : av) (p : ak) (m : aV) : ak × List aV :=
 let q := aI c p m.frm m.inc
 if q.2 = true then (aH c q.1 m.list, []) else (q.1, [])
def tU (c : av) (p : ak) (m : aV) : ak × List aV :=
 let q := aI c p m.frm m.inc
 if q.2 = true then (aH c q.1 m.list, [{ bV (aH c q.1 m.list) 7 m.frm with list := bY (aN (aH c q.1 m.list).ring) (aT (aH c q.1 m.list)) }]) else (q.1, [])
theorem lI {c : av} {p : ak} {l : List GDesc} (hp : okG p) (hl : bZ l) (hl2 : ∀ d ∈ l, okF d) : okG (aH c p l) := by
 obtain ⟨m1, m2⟩ := tw (c := c) hp hl hl2
 have m2 := m2 c.near
 have u2 := (m2.u p.node).1
 have hv := m2.ds (bk p p.view) (by simp)
 have hv2 := m2.f (bk p p.view) (by simp)
 have hn := m2.ds (cO p.filter p.node c.near [bk p p.view, bk p p.near, aN (cd p p.ring), bW c p l]) (by simp)
 have hn2 := m2.f (cO p.filter p.node c.near [bk p p.view, bk p p.near, aN (cd p p.ring), bW c p l]) (by simp)
 have near : ∀ far here known, known ≠ [] → cF far here c.schema known ∈ known := fun far here known h => by
  have hb := iA (far := far) (here := here) (dom := c.schema) h known.length
  rw [cF, List.getD_eq_getElem?_getD, List.getElem?_eq_getElem hb]; exact List.getElem_mem hb
 have hr : okF (aH c p l).ring.succ ∧ okF (aH c p l).ring.pred := by
  show okF (cR _ _ _).succ ∧ okF (cR _ _ _).pred
  unfold cR
  split
  ·exact ⟨rh, rh⟩
  ·rename_i h
   exact ⟨u2 _ (near _ _ _ h), u2 _ (near _ _ _ h)⟩
 exact ⟨⟨hp.ok.filter, hv, hn, hr.1.1, hr.2.1, hp.ok.sent, hp.ok.table, hp.ok.heard, hp.ok.rows, hp.ok.reports, hp.ok.evs, hp.ok.pulls⟩, hp.filter, hv2, hn2, hr.1, hr.2, hp.table⟩
attribute [local go_sem] aO aU ah fzD plR bH bw aM bL aJ au bu dC z8 z16 z32 z64 ax aZ fa List.map_cons List.map_nil
theorem acG (c : av) (p : ak) (m : aV) (dr : List UInt32) (hc : c.schema.length ≤ 4) (hcs : ∀ s ∈ c.schema, okS s) (hp : okH p) (hm : okMg m) (hu : p.up = true) (hto : m.to = p.node) (hk : m.kind = 8) :
  Con2 Tryz.prog 12 [.agg (aJ c), .agg (au p), .agg (ax m), .fz 1 (dr.map aX)] (· = plR (.tup [.agg (au (zZ c p m).1), .fz 17 ((zZ c p m).2.map ax)])) := by
 refine Con2.ofEmb ?_
 have hf := aQ p hp.ok
 have hh := cY c p m.frm m.inc hp.ok hp.rs
 have hq := di (c := c) hp m.frm m.inc
 unfold zZ
 generalize aI c p m.frm m.inc = Q at hh hq
 obtain ⟨q, hd⟩ := Q
 simp only at hq hh ⊢
 refine af Ty.mixed Tryz.func12 rfl (by kernel_rfl) (by kernel_rfl) rfl [.cell 8 49, .tmp 9] rfl ?_
 refine g2_ ?_
 refine g2_ ?_
 refine cw_ hf ?_
 refine g2_ ?_
 rw [hu, hto]
 refine gx_ ?_
 refine CallS.eqW hh (wg_ hu hto) (.inl ws_) ?_
 refine g2_ ?_
 cases hd with
 | false =>
  refine g2_ ?_
  refine ae ?_ rfl
  exact wx_
 | true =>
  refine g2_ ?_
  refine .inl ⟨oF [1, 2] (oT 0 (oF [3, 4, 5, 6, 7, 8] [])), by kernel_rfl, ?_⟩
  refine g2_ ?_
  refine cw_ dm ?_
  refine g2_ ?_
  refine ⟨d9, m.kind, rfl, ?_⟩
  rw [show lkF eM m.kind = some 106 by rw [hk]; rfl]
  refine g2_ ?_
  have hl := mN hq m.table
  have k1 := pC q m.table hq.g.ok (by have := hq.g.table; omega) (by have := hm.table; omega) hq.rs
  have kq := bN c (cK q m.table) [] hc hcs hl.g ⟨by simp, by simp⟩ (by simp)
  generalize cK q m.table = p1 at k1 kq ⊢
  refine CallS.inline Ty.mixed Tryz.func106 rfl (by kernel_rfl) (by kernel_rfl) rfl [] rfl (Vc2.of ?_)
  refine g2_ ?_
  refine g2_ ?_
  refine .inl ⟨oF [0, 1, 5, 2, 6, 3, 7, 4, 8, 9, 10, 11, 12, 13] [], by kernel_rfl, ?_⟩
  refine g2_ ?_
  refine cw_ k1 ?_
  refine g2_ ?_
  refine .inl ⟨oF [0, 1, 2, 3, 4, 5, 6, 7, 8, 9] [], by kernel_rfl, ?_⟩
  refine g2_ ?_
  refine cw_ kq ?_
  refine g2_ ?_
  refine .inr (.inr (.inl ⟨oF [0, 4, 1, 5, 2, 6, 3, 7] (oT 8 (oF [9] [])), [8], by kernel_rfl, ?_⟩))
  refine g2_ ?_
  refine ae ?_ rfl
  exact wx_
theorem acm (c : av) (p : ak) (m : aV) (dr : List UInt32) (hc : c.schema.length ≤ 4) (hcs : ∀ s ∈ c.schema, okS s) (hp : okH p) (hm : okMg m) (hu : p.up = true) (hto : m.to = p.node) (hk : m.kind = 5) :
  Con2 Tryz.prog 12 [.agg (aJ c), .agg (au p), .agg (ax m), .fz 1 (dr.map aX)] (· = plR (.tup [.agg (au (kT c p m).1), .fz 17 ((kT c p m).2.map ax)])) := by
 refine Con2.ofEmb ?_
 have hf := aQ p hp.ok
 have hh := cY c p m.frm m.inc hp.ok hp.rs
 have hq := di (c := c) hp m.frm m.inc
 unfold kT
 generalize aI c p m.frm m.inc = Q at hh hq
 obtain ⟨q, hd⟩ := Q
 simp only at hq hh ⊢
 refine af Ty.mixed Tryz.func12 rfl (by kernel_rfl) (by kernel_rfl) rfl [.cell 8 49, .tmp 9] rfl ?_
 refine g2_ ?_
 refine g2_ ?_
 refine cw_ hf ?_
 refine g2_ ?_
 rw [hu, hto]
 refine gx_ ?_
 refine CallS.eqW hh (wg_ hu hto) (.inl ws_) ?_
 refine g2_ ?_
 cases hd with
 | false =>
  refine g2_ ?_
  refine ae ?_ rfl
  exact wx_
 | true =>
  refine g2_ ?_
  refine .inl ⟨oF [1, 2] (oT 0 (oF [3, 4, 5, 6, 7, 8] [])), by kernel_rfl, ?_⟩
  refine g2_ ?_
  refine cw_ dm ?_
  refine g2_ ?_
  refine ⟨d9, m.kind, rfl, ?_⟩
  rw [show lkF eM m.kind = some 104 by rw [hk]; rfl]
  refine g2_ ?_
  have kq := bN c q m.list hc hcs hq.g hm.ds hm.fs2
  generalize aH c q m.list = p1 at kq ⊢
  refine CallS.inline Ty.mixed Tryz.func104 rfl (by kernel_rfl) (by kernel_rfl) rfl [] rfl (Vc2.of ?_)
  refine g2_ ?_
  refine g2_ ?_
  refine .inl ⟨oF [0, 1, 5, 9, 2, 6, 10, 3, 7, 11, 4, 8, 12, 13, 14, 15, 16, 17] [], by kernel_rfl, ?_⟩
  refine g2_ ?_
  refine cw_ kq ?_
  refine g2_ ?_
  refine g2_ ?_
  refine .inr (.inr (.inl ⟨oF [0, 4, 1, 5, 2, 6, 3, 7] (oT 8 (oF [9] [])), [8], by kernel_rfl, ?_⟩))
  refine g2_ ?_
  refine ae ?_ rfl
  exact wx_
theorem acD (c : av) (p : ak) (m : aV) (dr : List UInt32) (hc : c.schema.length ≤ 4) (hcs : ∀ s ∈ c.schema, okS s) (hp : okH p) (hm : okMg m) (hu : p.up = true) (hto : m.to = p.node) (hk : m.kind = 7) :
  Con2 Tryz.prog 12 [.agg (aJ c), .agg (au p), .agg (ax m), .fz 1 (dr.map aX)] (· = plR (.tup [.agg (au (kT c p m).1), .fz 17 ((kT c p m).2.map ax)])) := by
 refine Con2.ofEmb ?_
 have hf := aQ p hp.ok
 have hh := cY c p m.frm m.inc hp.ok hp.rs
 have hq := di (c := c) hp m.frm m.inc
 unfold kT
 generalize aI c p m.frm m.inc = Q at hh hq
 obtain ⟨q, hd⟩ := Q
 simp only at hq hh ⊢
 refine af Ty.mixed Tryz.func12 rfl (by kernel_rfl) (by kernel_rfl) rfl [.cell 8 49, .tmp 9] rfl ?_
 refine g2_ ?_
 refine g2_ ?_
 refine cw_ hf ?_
 refine g2_ ?_
 rw [hu, hto]
 refine gx_ ?_
 refine CallS.eqW hh (wg_ hu hto) (.inl ws_) ?_
 refine g2_ ?_
 cases hd with
 | false =>
  refine g2_ ?_
  refine ae ?_ rfl
  exact wx_
 | true =>
  refine g2_ ?_
  refine .inl ⟨oF [1, 2] (oT 0 (oF [3, 4, 5, 6, 7, 8] [])), by kernel_rfl, ?_⟩
  refine g2_ ?_
  refine cw_ dm ?_
  refine g2_ ?_
  refine ⟨d9, m.kind, rfl, ?_⟩
  rw [show lkF eM m.kind = some 104 by rw [hk]; rfl]
  refine g2_ ?_
  have kq := bN c q m.list hc hcs hq.g hm.ds hm.fs2
  generalize aH c q m.list = p1 at kq ⊢
  refine CallS.inline Ty.mixed Tryz.func104 rfl (by kernel_rfl) (by kernel_rfl) rfl [] rfl (Vc2.of ?_)
  refine g2_ ?_
  refine g2_ ?_
  refine .inl ⟨oF [0, 1, 5, 9, 2, 6, 10, 3, 7, 11, 4, 8, 12, 13, 14, 15, 16, 17] [], by kernel_rfl, ?_⟩
  refine g2_ ?_
  refine cw_ kq ?_
  refine g2_ ?_
  refine g2_ ?_
  refine .inr (.inr (.inl ⟨oF [0, 4, 1, 5, 2, 6, 3, 7] (oT 8 (oF [9] [])), [8], by kernel_rfl, ?_⟩))
  refine g2_ ?_
  refine ae ?_ rfl
  exact wx_
end Go.Proofs.YtlaefellhnkfbaaGreat.V
