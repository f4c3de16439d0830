/-
 Part 43 of the proof of Pj: the engine and the walks, in their order.
-/
import Derived.Test.YtlaefellhnkfbaaGreatPj31
import Derived.Test.YtlaefellhnkfbaaGreatPj39
set_option linter.unusedSimpArgs false
set_option linter.unusedVariables false
set_option maxRecDepth 10000
set_option maxHeartbeats 4000000
namespace Go.Proofs.YtlaefellhnkfbaaGreat.V
open Go.Eng
def gb (c : av) (p : ak) (m : aV) (sent : List GDesc) : ak := { p with view := dt (bW c p m.list) p.node c.view p.view sent (bW c p m.list) }
def l5 (dr : List UInt32) (c : av) (p : ak) (m : aV) : ak × List aV :=
 let q := aI c p m.frm m.inc
 if q.2 = true then (aH c (gb c q.1 m (cN c.swap (bb q.1.view m.frm) [] dr)) [], [{ bV q.1 4 m.frm with list := cN c.swap (bb q.1.view m.frm) [] dr }]) else (q.1, [])
def jQ (c : av) (p : ak) (m : aV) : ak :=
 let w := gJ p.wait m.frm
 if w.2.2 = true then gb c { p with wait := w.1 } m w.2.1 else p
def j3 (c : av) (p : ak) (m : aV) : ak × List aV :=
 let q := aI c p m.frm m.inc
 if q.2 = true then (aH c (jQ c q.1 m) [], []) else (q.1, [])
def tx (c : av) (p : ak) (m : aV) : ak × List aV :=
 let q := aI c p m.frm m.inc
 if q.2 = true then (aH c q.1 [], []) else (q.1, [])
theorem agu {r : fI} (h1 : r.succ.filter.length ≤ 4000000) (h2 : r.pred.filter.length ≤ 4000000) : bZ (aN r) := ⟨by have := eD r; omega, fun d hd => by
 rcases jN hd with ⟨_, rfl⟩ | ⟨_, rfl⟩
 ·exact h1
 ·exact h2⟩
theorem zh {l : List GDesc} {d : GDesc} (hl : bZ l) (hd : d.filter.length ≤ 4000000) (hl9 : l.length ≤ 3900000) : bZ (bY l d) := by
 refine ⟨?_, fun x hx => ?_⟩
 ·simp only [bY, List.length_append, List.length_cons, List.length_take, List.length_drop]; omega
 ·simp only [bY, List.mem_append, List.mem_cons] at hx
  rcases hx with h | h | h
  ·exact hl.2 x (List.mem_of_mem_take h)
  ·rw [h]; exact hd
  ·exact hl.2 x (List.mem_of_mem_drop h)
theorem eg {got : List GDesc} {self : UInt8} {room : Int} : ∀ (r L S : List GDesc) (x : GDesc), x ∈ dt got self room L S r → x ∈ L ∨ x ∈ r
 | [], L, S, x, h => .inl h
 | d :: r, L, S, x, h => by
  rw [dt] at h
  split at h
  ·rcases eg r _ _ x h with h | h
   ·rcases put_mem x h with h | h
    ·exact .inl h
    ·exact .inr (by rw [h]; exact List.mem_cons_self)
   ·exact .inr (List.mem_cons_of_mem _ h)
  ·split at h
   ·rcases eg r _ _ x h with h | h
    ·exact .inl h
    ·exact .inr (List.mem_cons_of_mem _ h)
   ·split at h
    ·rcases eg r _ _ x h with h | h
     ·rcases put_mem x h with h | h
      ·exact .inl (give_mem2 S x h)
      ·exact .inr (by rw [h]; exact List.mem_cons_self)
     ·exact .inr (List.mem_cons_of_mem _ h)
    ·rcases eg r _ _ x h with h | h
     ·exact .inl h
     ·exact .inr (List.mem_cons_of_mem _ h)
where
 give_mem2 {L got : List GDesc} : ∀ (S : List GDesc) (x : GDesc), x ∈ (cy L got S).1 → x ∈ L
  | [], x, h => h
  | s :: r, x, h => by
   rw [cy] at h
   split at h
   ·exact (List.mem_filter.1 h).1
   ·exact give_mem2 r x h
theorem rK {L got : List GDesc} : ∀ (S : List GDesc), (cy L got S).1.length ≤ L.length
 | [] => Nat.le_refl _
 | s :: r => by
  rw [cy]
  split
  ·exact List.length_filter_le _ _
  ·exact rK r
theorem gx {got : List GDesc} {self : UInt8} {room : Int} : ∀ (r L S : List GDesc), (dt got self room L S r).length ≤ L.length + r.length
 | [], L, S => Nat.le_refl _
 | d :: r, L, S => by
  have h1 := gM (self := self) (l := L) d room
  rw [dt]
  split
  ·have := gx (got := got) (self := self) (room := room) r (bB L d self room).1 S
   simp only [List.length_cons]; omega
  ·split
   ·have := gx (got := got) (self := self) (room := room) r L S
    simp only [List.length_cons]; omega
   ·split
    ·have h2 := rK (L := L) (got := got) S
     have h3 := gM (self := self) (l := (cy L got S).1) d ((cy L got S).1.length + 1)
     have := gx (got := got) (self := self) (room := room) r (bB (cy L got S).1 d self ((cy L got S).1.length + 1)).1 (cy L got S).2.2
     simp only [List.length_cons]; omega
    ·have := gx (got := got) (self := self) (room := room) r L (cy L got S).2.2
     simp only [List.length_cons]; omega
theorem oa {many : Int} : ∀ (r : List UInt32) (left out : List GDesc), (cN many left out r).length ≤ out.length + left.length
 | [], left, out => by simp [cN]
 | d :: r, left, out => by
  rw [cN]
  split
  ·omega
  ·split
   ·rename_i x hx
    have hk := (List.getElem?_eq_some_iff.1 hx).1
    have := oa (many := many) r (left.take (d.toNat % left.length) ++ left.drop (d.toNat % left.length + 1)) (out ++ [x])
    simp only [List.length_append, List.length_take, List.length_drop, List.length_cons, List.length_nil] at this
    omega
   ·omega
theorem ajQ {many : Int} {l : List GDesc} {nd : UInt8} {dr : List UInt32} (h : ok8 l) : ok8 (cN many (bb l nd) [] dr) := by
 have h1 := oa (many := many) dr (bb l nd) []
 have h2 : (bb l nd).length ≤ l.length := List.length_filter_le _ _
 have h3 := h.1
 refine ⟨by simp only [List.length_nil] at h1; omega, fun d hd => ?_⟩
 rcases agr many dr _ _ d hd with h | h'
 ·exact (show ok8 l from ‹ok8 l›).2 d (List.mem_filter.1 h).1
 ·cases h'
theorem rG {c : av} {p : ak} {m : aV} {sent : List GDesc} (hc : c.schema.length ≤ 4) (h : okH p) (hm : okMg m) : okG (gb c p m sent) := by
 refine jh h.g ?_ ?_
 ·refine Nat.le_trans (gx _ _ _) ?_
  have h1 := (afS (c := c) (p := p) hm.list hc).1
  have h2 := h.v8.1
  omega
 ·intro x hx
  rcases eg _ _ _ x hx with h1 | h1
  ·exact h.g.view x h1
  ·exact hm.fs2 x (nT h1)
attribute [local go_sem] aO aU ah fzD plR bH bw aM bL aJ au bu dC z8 z16 z32 z64 ax aZ fa i2 List.map_cons List.map_nil
theorem xB (c : av) (p : ak) (m : aV) (dr : List UInt32) (hc : c.schema.length ≤ 4) (hcs : ∀ s ∈ c.schema, okS s) (hp : okH p) (hm : okMg m) (hu : p.up = true) (hto : m.to = p.node) (hk : m.kind = 6) :
  Con2 Tryz.prog 12 [.agg (aJ c), .agg (au p), .agg (ax m), .fz 1 (dr.map aX)] (· = plR (.tup [.agg (au (tU c p m).1), .fz 17 ((tU c p m).2.map ax)])) := by
 refine Con2.ofEmb ?_
 have hf := aQ p hp.ok
 have hh := cY c p m.frm m.inc hp.ok hp.rs
 have hq := di (c := c) hp m.frm m.inc
 unfold tU
 generalize aI c p m.frm m.inc = Q at hh hq
 obtain ⟨q, hd⟩ := Q
 simp only at hq hh ⊢
 refine af Ty.mixed Tryz.func12 rfl (by kernel_rfl) (by kernel_rfl) rfl [.cell 8 49, .tmp 9] rfl ?_
 refine g2_ ?_
 refine g2_ ?_
 refine cw_ hf ?_
 refine g2_ ?_
 rw [hu, hto]
 refine gx_ ?_
 refine CallS.eqW hh (wg_ hu hto) (.inl ws_) ?_
 refine g2_ ?_
 cases hd with
 | false =>
  refine g2_ ?_
  refine ae ?_ rfl
  exact wx_
 | true =>
  refine g2_ ?_
  refine .inl ⟨oF [1, 2] (oT 0 (oF [3, 4, 5, 6, 7, 8] [])), by kernel_rfl, ?_⟩
  refine g2_ ?_
  refine cw_ dm ?_
  refine g2_ ?_
  refine ⟨d9, m.kind, rfl, ?_⟩
  rw [show lkF eM m.kind = some 105 by rw [hk]; rfl]
  refine g2_ ?_
  have kq := bN c q m.list hc hcs hq.g hm.ds hm.fs2
  have hg := lI (c := c) hq.g hm.ds hm.fs2
  generalize aH c q m.list = p1 at kq hg ⊢
  have k1 := ik p1.ring hg.ok.succ hg.ok.pred
  have k2 := fW p1 hg.ok
  have hrl := agu hg.ok.succ hg.ok.pred
  have hr2 := eD p1.ring
  have k3 := mr (aN p1.ring) (aT p1) hrl hg.ok.filter
  have k4 := eV p1 7 m.frm
  have k5 := aS (bY (aN p1.ring) (aT p1)) (zh hrl hg.ok.filter (by omega))
  have k6 := fj [] (by simp)
  obtain ⟨M1, hM1⟩ : ∃ M, M = bV p1 7 m.frm := ⟨_, rfl⟩
  have hMt : M1.table = [] := by rw [hM1]; rfl
  rw [← hM1] at k4 ⊢
  generalize bY (aN p1.ring) (aT p1) = Wl at k3 k5 ⊢
  generalize aN p1.ring = B at k1 k3
  generalize aT p1 = S at k2 k3
  refine CallS.inline Ty.mixed Tryz.func105 rfl (by kernel_rfl) (by kernel_rfl) rfl [] rfl (Vc2.of ?_)
  refine g2_ ?_
  refine g2_ ?_
  refine CallS.inline Ty.mixed Tryz.func104 rfl (by kernel_rfl) (by kernel_rfl) rfl [] rfl (Vc2.of ?_)
  refine g2_ ?_
  refine g2_ ?_
  refine .inl ⟨oF [0, 1, 5, 9, 2, 6, 10, 3, 7, 11, 4, 8, 12, 13, 14, 15, 16, 17] [], by kernel_rfl, ?_⟩
  refine g2_ ?_
  refine cw_ kq ?_
  refine g2_ ?_
  refine .inl ⟨oF [0, 1, 6, 12, 2, 7, 13, 3, 8, 14, 4, 9, 15, 5, 10] (oT 11 (oT 16 (oT 17 (oF [18] [])))), by kernel_rfl, ?_⟩
  refine g2_ ?_
  refine cw_ k1 ?_
  refine g2_ ?_
  refine cw_ k2 ?_
  refine g2_ ?_
  refine cw_ k3 ?_
  refine g2_ ?_
  refine CallS.inline Ty.mixed Tryz.func63 rfl (by kernel_rfl) (by kernel_rfl) rfl [] rfl (Vc2.of ?_)
  refine g2_ ?_
  refine g2_ ?_
  refine cw_ k4 ?_
  refine g2_ ?_
  refine cw_ k5 ?_
  refine g2_ ?_
  refine cw_ k6 ?_
  refine g2_ ?_
  refine .inl ⟨oF [0, 1, 5, 2, 3, 4] (oT 6 (oF [7, 8, 9, 10] [])), by kernel_rfl, ?_⟩
  refine g2_ ?_
  refine .inr (.inr (.inl ⟨oF [0, 4, 1, 5, 2, 6, 3, 7] (oT 8 (oF [9] [])), [8], by kernel_rfl, ?_⟩))
  refine g2_ ?_
  refine ae ?_ rfl
  exact wf_ hMt
theorem t0 (c : av) (p : ak) (m : aV) (dr : List UInt32) (hc : c.schema.length ≤ 4) (hcs : ∀ s ∈ c.schema, okS s) (hp : okH p) (hm : okMg m) (hu : p.up = true) (hto : m.to = p.node) (hk : m.kind = 3) (hdr : dr.length ≤ 4000000):
  Con2 Tryz.prog 12 [.agg (aJ c), .agg (au p), .agg (ax m), .fz 1 (dr.map aX)] (· = plR (.tup [.agg (au (l5 dr c p m).1), .fz 17 ((l5 dr c p m).2.map ax)])) := by
 refine Con2.ofEmb ?_
 have hf := aQ p hp.ok
 have hh := cY c p m.frm m.inc hp.ok hp.rs
 have hq := di (c := c) hp m.frm m.inc
 unfold l5
 generalize aI c p m.frm m.inc = Q at hh hq
 obtain ⟨q, hd⟩ := Q
 simp only at hq hh ⊢
 refine af Ty.mixed Tryz.func12 rfl (by kernel_rfl) (by kernel_rfl) rfl [.cell 8 49, .tmp 9] rfl ?_
 refine g2_ ?_
 refine g2_ ?_
 refine cw_ hf ?_
 refine g2_ ?_
 rw [hu, hto]
 refine gx_ ?_
 refine CallS.eqW hh (wg_ hu hto) (.inl ws_) ?_
 refine g2_ ?_
 cases hd with
 | false =>
  refine g2_ ?_
  refine ae ?_ rfl
  exact wx_
 | true =>
  refine g2_ ?_
  refine .inl ⟨oF [1, 2] (oT 0 (oF [3, 4, 5, 6, 7, 8] [])), by kernel_rfl, ?_⟩
  refine g2_ ?_
  refine cw_ dm ?_
  refine g2_ ?_
  refine ⟨d9, m.kind, rfl, ?_⟩
  rw [show lkF eM m.kind = some 102 by rw [hk]; rfl]
  refine g2_ ?_
  have hs8 : ok8 (cN c.swap (bb q.view m.frm) [] dr) := ajQ hq.v8
  have k1 := aeP q.view c.swap m.frm dr hq.v8 hdr
  have k2 := eV q 4 m.frm
  have k3 := aS _ hs8.toDs
  have k4 := fj [] (by simp)
  have k5 := lB c q m.list (by omega) hq.g.ok hm.ds
  have k6 := aaF q.view (bW c q m.list) _ q.node c.view hq.v8 (afS hm.list hc) hs8 hq.vw
  have kq := bN c (gb c q m (cN c.swap (bb q.view m.frm) [] dr)) [] hc hcs (rG hc hq hm) ⟨by simp, by simp⟩ (by simp)
  unfold gb at kq ⊢
  obtain ⟨M1, hM1⟩ : ∃ M, M = bV q 4 m.frm := ⟨_, rfl⟩
  have hMt : M1.table = [] := by rw [hM1]; rfl
  rw [← hM1] at k2 ⊢
  generalize cN c.swap (bb q.view m.frm) [] dr = sent at k1 k3 k6 kq ⊢
  generalize dt (bW c q m.list) q.node c.view q.view sent (bW c q m.list) = V at k6 kq ⊢
  generalize bW c q m.list = U at k5 k6
  refine CallS.inline Ty.mixed Tryz.func102 rfl (by kernel_rfl) (by kernel_rfl) rfl [] rfl (Vc2.of ?_)
  refine g2_ ?_
  refine g2_ ?_
  refine .inl ⟨oF [0, 5, 10, 15, 1, 6, 11, 16, 2, 7, 12, 17, 3, 8, 13, 18, 4, 9, 14, 19, 20] [], by kernel_rfl, ?_⟩
  refine g2_ ?_
  refine cw_ k1 ?_
  refine g2_ ?_
  refine CallS.inline Ty.mixed Tryz.func63 rfl (by kernel_rfl) (by kernel_rfl) rfl [] rfl (Vc2.of ?_)
  refine g2_ ?_
  refine g2_ ?_
  refine cw_ k2 ?_
  refine g2_ ?_
  refine cw_ k3 ?_
  refine g2_ ?_
  refine cw_ k4 ?_
  refine g2_ ?_
  refine .inl ⟨oF [0, 1, 5, 2, 3, 4] (oT 6 (oF [7, 8, 9, 10] [])), by kernel_rfl, ?_⟩
  refine g2_ ?_
  refine CallS.inline Ty.mixed Tryz.func166 rfl (by kernel_rfl) (by kernel_rfl) rfl [] rfl (Vc2.of ?_)
  refine g2_ ?_
  refine g2_ ?_
  refine .inl ⟨oF [0, 4, 8, 1, 5, 9, 2, 6, 10, 3, 7, 11, 12, 13, 14] [], by kernel_rfl, ?_⟩
  refine g2_ ?_
  refine cw_ k5 ?_
  refine g2_ ?_
  refine .inl ⟨oF [0, 1, 6, 7, 8, 13, 2, 9, 14, 3, 10, 15, 4, 11, 16, 5, 12, 17, 18, 19, 20, 21, 22] [], by kernel_rfl, ?_⟩
  refine g2_ ?_
  refine cw_ k6 ?_
  refine g2_ ?_
  refine .inl ⟨oF [0, 1, 2, 3, 4, 5, 6, 7, 8, 9] [], by kernel_rfl, ?_⟩
  refine g2_ ?_
  refine cw_ kq ?_
  refine g2_ ?_
  refine .inr (.inr (.inl ⟨oF [0, 4, 1, 5, 2, 6, 3, 7] (oT 8 (oF [9] [])), [8], by kernel_rfl, ?_⟩))
  refine g2_ ?_
  refine ae ?_ rfl
  exact wf_ hMt
theorem adJ (c : av) (p : ak) (f : List GSpan) (hc : c.schema.length ≤ 4) (hcs : ∀ s ∈ c.schema, okS s) (hp : okG p) (hf : f.length ≤ 4000000) (hn : okG { p with filter := (bz c.schema f).1 }) (hu : p.up = true) :
  Con2 Tryz.prog 21 [.agg (aJ c), .agg (au p), fzS f] (· = plR (.tup [.agg (au (if (bz c.schema f).2 = 0 then aH c { p with filter := (bz c.schema f).1 } [] else p)), .v (.int .i64 (bz c.schema f).2)])) := by
 refine Con2.ofEmb ?_
 have k1 := aQ p hp.ok
 have k2 := wD c.schema f (by omega) (by omega)
 have k3 := bN c { p with filter := (bz c.schema f).1 } [] hc hcs hn ⟨by simp, by simp⟩ (by simp)
 generalize bz c.schema f = n at k2 k3 ⊢
 obtain ⟨g, e⟩ := n
 simp only at k2 k3 ⊢
 refine af Ty.mixed Tryz.func21 rfl (by kernel_rfl) (by kernel_rfl) rfl [.cell 6 49, .tmp 7] rfl ?_
 refine g2_ ?_
 refine g2_ ?_
 refine cw_ k1 ?_
 refine g2_ ?_
 rw [hu]
 refine g2_ ?_
 refine CallS.eqW k2 (wf_ hu) (.inl ws_) ?_
 refine g2_ ?_
 refine oR (fun h => ?_) (fun h => ?_)
 ·rw [if_neg h]
  refine g2_ ?_
  refine ae ?_ rfl
  exact wf_ hu
 ·rw [if_pos h]
  refine g2_ ?_
  refine CallS.eqW k3 (wf_ hu) (.inl ws_) ?_
  refine g2_ ?_
  refine ae ?_ rfl
  exact wg_ hu h
theorem afe (c : av) (p : ak) (node : UInt8) (inc : UInt16) (hp : okP p) (hr : lA p.reports) :
  Con2 Tryz.prog 30 [.agg (aJ c), .agg (au p), .v (.int .u8 node.toNat), .v (.int .u16 inc.toNat)] (· = plR (.tup [.agg (au (aI c p node inc).1), .v (.bool (aI c p node inc).2)])) := by
 refine Con2.ofEmb ?_
 have k1 := aQ p hp
 have k2 := cY c p node inc hp hr
 generalize aI c p node inc = Q at k2 ⊢
 obtain ⟨q, b⟩ := Q
 refine af Ty.mixed Tryz.func30 rfl (by kernel_rfl) (by kernel_rfl) rfl [.cell 8 49, .tmp 9] rfl ?_
 refine g2_ ?_
 refine g2_ ?_
 refine .inr (.inr (.inl ⟨oF [0, 1, 3, 4] (oT 2 (oF [5, 6, 7, 8, 9] [])), [], by kernel_rfl, ?_⟩))
 refine g2_ ?_
 refine cw_ k1 ?_
 refine g2_ ?_
 refine cw_ k2 ?_
 refine g2_ ?_
 refine ae ?_ rfl
 exact ws_
theorem vv (c : av) (p : ak) (l : List GDesc) (hc : c.schema.length ≤ 4) (hcs : ∀ s ∈ c.schema, okS s) (hp : okG p) (hl : bZ l) (hl2 : ∀ d ∈ l, okF d) :
  Con2 Tryz.prog 70 [.agg (aJ c), .agg (au p), fzD l] (· = plR (.agg (au (aH c p l)))) := by
 refine Con2.ofEmb ?_
 have k1 := aQ p hp.ok
 have k2 := bN c p l hc hcs hp hl hl2
 generalize aH c p l = q at k2 ⊢
 refine af Ty.mixed Tryz.func70 rfl (by kernel_rfl) (by kernel_rfl) rfl [.cell 6 49] rfl ?_
 refine g2_ ?_
 refine g2_ ?_
 refine .inr (.inr (.inl ⟨oF [0, 1, 3] (oT 2 (oF [4, 5] [])), [], by kernel_rfl, ?_⟩))
 refine g2_ ?_
 refine cw_ k1 ?_
 refine g2_ ?_
 refine cw_ k2 ?_
 refine g2_ ?_
 refine ae ?_ rfl
 exact ws_
end Go.Proofs.YtlaefellhnkfbaaGreat.V

set_option maxRecDepth 10000
set_option maxHeartbeats 4000000
namespace Go.Proofs.YtlaefellhnkfbaaGreat.V
open Go.Eng
theorem yY {c : av} {p : ak} {node : UInt8} {inc : UInt16} : (aI c p node inc).1.wait = p.wait := by
 unfold aI
 split
 ·rfl
 ·split
  ·rfl
  ·split <;> rfl
theorem pB {p : ak} (h : okH p) {w : GW} (hw : bZ w.sent) : okH { p with wait := w } :=
 ⟨⟨⟨h.g.ok.filter, h.g.ok.view, h.g.ok.near, h.g.ok.succ, h.g.ok.pred, hw, h.g.ok.table, h.g.ok.heard, h.g.ok.rows, h.g.ok.reports, h.g.ok.evs, h.g.ok.pulls⟩, h.g.filter, h.g.view, h.g.near, h.g.succ, h.g.pred, h.g.table⟩, h.rs, h.v8, h.vw⟩
theorem aad {w : GW} {frm : UInt8} (h : ok8 w.sent) : ok8 (gJ w frm).1.sent ∧ ok8 (gJ w frm).2.1 := by
 unfold gJ
 split
 ·exact ⟨⟨Nat.zero_le _, fun d hd => absurd (show d ∈ ([] : List GDesc) from hd) List.not_mem_nil⟩, h⟩
 ·exact ⟨h, ⟨Nat.zero_le _, fun d hd => absurd hd List.not_mem_nil⟩⟩
attribute [local go_sem] aO aU ah fzD plR bH bw aM bL aJ au bu dC z8 z16 z32 z64 ax aZ fa i2 List.map_cons List.map_nil
theorem qB (c : av) (p : ak) (m : aV) (dr : List UInt32) (hc : c.schema.length ≤ 4) (hcs : ∀ s ∈ c.schema, okS s) (hp : okH p) (hm : okMg m) (hu : p.up = true) (hto : m.to = p.node) (hk : m.kind = 4) (hws : ok8 p.wait.sent):
  Con2 Tryz.prog 12 [.agg (aJ c), .agg (au p), .agg (ax m), .fz 1 (dr.map aX)] (· = plR (.tup [.agg (au (j3 c p m).1), .fz 17 ((j3 c p m).2.map ax)])) := by
 refine Con2.ofEmb ?_
 have hf := aQ p hp.ok
 have hh := cY c p m.frm m.inc hp.ok hp.rs
 have hq := di (c := c) hp m.frm m.inc
 have hqw := yY (c := c) (p := p) (node := m.frm) (inc := m.inc)
 unfold j3
 generalize aI c p m.frm m.inc = Q at hh hq hqw
 obtain ⟨q, hd⟩ := Q
 simp only at hq hh hqw ⊢
 refine af Ty.mixed Tryz.func12 rfl (by kernel_rfl) (by kernel_rfl) rfl [.cell 8 49, .tmp 9] rfl ?_
 refine g2_ ?_
 refine g2_ ?_
 refine cw_ hf ?_
 refine g2_ ?_
 rw [hu, hto]
 refine gx_ ?_
 refine CallS.eqW hh (wg_ hu hto) (.inl ws_) ?_
 refine g2_ ?_
 cases hd with
 | false =>
  refine g2_ ?_
  refine ae ?_ rfl
  exact wx_
 | true =>
  refine g2_ ?_
  refine .inl ⟨oF [1, 2] (oT 0 (oF [3, 4, 5, 6, 7, 8] [])), by kernel_rfl, ?_⟩
  refine g2_ ?_
  refine cw_ dm ?_
  refine g2_ ?_
  refine ⟨d9, m.kind, rfl, ?_⟩
  rw [show lkF eM m.kind = some 103 by rw [hk]; rfl]
  refine g2_ ?_
  have hqs : ok8 q.wait.sent := by rw [hqw]; exact hws
  obtain ⟨hw1, hw2⟩ := aad (frm := m.frm) hqs
  have k1 := aeu q.wait m.frm hqs
  have hq3 := pB hq (w := (gJ q.wait m.frm).1) hw1.toDs
  have k5 : Con2 Tryz.prog 110 [.agg (aJ c), .agg (au { q with wait := (gJ q.wait m.frm).1 }), fzD m.list] (· = plR (fzD (bW c q m.list))) := lB c { q with wait := (gJ q.wait m.frm).1 } m.list (by omega) hq3.g.ok hm.ds
  have k6 := aaF q.view (bW c q m.list) (gJ q.wait m.frm).2.1 q.node c.view hq.v8 (afS hm.list hc) hw2 hq.vw
  have kq1 := bN c q [] hc hcs hq.g ⟨by simp, by simp⟩ (by simp)
  have kq2 := bN c (gb c { q with wait := (gJ q.wait m.frm).1 } m (gJ q.wait m.frm).2.1) [] hc hcs (rG hc hq3 hm) ⟨by simp, by simp⟩ (by simp)
  have hans : jQ c q m = if (gJ q.wait m.frm).2.2 = true then gb c { q with wait := (gJ q.wait m.frm).1 } m (gJ q.wait m.frm).2.1 else q := rfl
  have hmg : gb c { q with wait := (gJ q.wait m.frm).1 } m (gJ q.wait m.frm).2.1 = { q with wait := (gJ q.wait m.frm).1, view := dt (bW c q m.list) q.node c.view q.view (gJ q.wait m.frm).2.1 (bW c q m.list) } := rfl
  rw [hans]
  rw [hmg] at kq2 ⊢
  generalize gJ q.wait m.frm = a at k1 k5 k6 kq2 ⊢
  obtain ⟨w, sent, ok⟩ := a
  simp only at k1 k5 k6 kq2 ⊢
  generalize dt (bW c q m.list) q.node c.view q.view sent (bW c q m.list) = V at k6 kq2 ⊢
  generalize bW c q m.list = U at k5 k6
  refine CallS.inline Ty.mixed Tryz.func103 rfl (by kernel_rfl) (by kernel_rfl) rfl [] rfl (Vc2.of ?_)
  refine g2_ ?_
  refine g2_ ?_
  refine .inr (.inl ⟨(.fl 0 (.fl 5 (.fl 1 (.fl 6 (.fl 2 (.fl 7 (.fl 3 (.fl 8 (.fl 4 (.fl 9 (.eff 10 false (.fl 11 (.fl 12 (.fl 13 (.fl 14 (.eff 15 true (.eff 16 false (.fl 17 (.fl 18 .done)) .no) .no))))) (.eff 15 true (.eff 10 false (.fl 11 (.fl 12 (.fl 13 (.fl 14 (.eff 16 false (.fl 17 (.fl 18 .done)) .no))))) .no) .no)))))))))))), by kernel_rfl, ?_⟩)
  refine g2_ ?_
  repeat' (first
   | (with_reducible refine And.intro ?_ ?_)
   | (refine CallS.eqW k1 ?_ (.inl ?_) ?_; (focus ((repeat first | simp -implicitDefEqProofs only [go_sem, aa] | with_reducible refine gl_ ?_); done)); (focus ((repeat first | simp -implicitDefEqProofs only [go_sem, aa] | with_reducible refine gl_ ?_); done)); refine g2_ ?_)
   | (with_reducible refine ay ?_; refine g2_ ?_))
  all_goals
   cases ok with
   | false =>
    have kq := kq1
    rw [if_neg (by decide)]
    refine g2_ ?_
    refine .inl ⟨oF [0, 1, 2, 3, 4, 5, 6, 7, 8, 9] [], by kernel_rfl, ?_⟩
    refine g2_ ?_
    refine cw_ kq ?_
    refine g2_ ?_
    refine .inr (.inr (.inl ⟨oF [0, 4, 1, 5, 2, 6, 3, 7] (oT 8 (oF [9] [])), [8], by kernel_rfl, ?_⟩))
    refine g2_ ?_
    refine ae ?_ rfl
    exact wx_
   | true =>
    have kq := kq2
    rw [if_pos rfl]
    refine g2_ ?_
    refine CallS.inline Ty.mixed Tryz.func166 rfl (by kernel_rfl) (by kernel_rfl) rfl [] rfl (Vc2.of ?_)
    refine g2_ ?_
    refine g2_ ?_
    refine .inl ⟨oF [0, 4, 8, 1, 5, 9, 2, 6, 10, 3, 7, 11, 12, 13, 14] [], by kernel_rfl, ?_⟩
    refine g2_ ?_
    refine cw_ k5 ?_
    refine g2_ ?_
    refine .inl ⟨oF [0, 1, 6, 7, 8, 13, 2, 9, 14, 3, 10, 15, 4, 11, 16, 5, 12, 17, 18, 19, 20, 21, 22] [], by kernel_rfl, ?_⟩
    refine g2_ ?_
    refine cw_ k6 ?_
    refine g2_ ?_
    refine .inl ⟨oF [0, 1, 2, 3, 4, 5, 6, 7, 8, 9] [], by kernel_rfl, ?_⟩
    refine g2_ ?_
    refine cw_ kq ?_
    refine g2_ ?_
    refine .inr (.inr (.inl ⟨oF [0, 4, 1, 5, 2, 6, 3, 7] (oT 8 (oF [9] [])), [8], by kernel_rfl, ?_⟩))
    refine g2_ ?_
    refine ae ?_ rfl
    exact wx_
theorem yN (c : av) (p : ak) (m : aV) (dr : List UInt32) (hc : c.schema.length ≤ 4) (hcs : ∀ s ∈ c.schema, okS s) (hp : okH p) (hu : p.up = true) (hto : m.to = p.node) (hk : lkF eM m.kind = none) :
  Con2 Tryz.prog 12 [.agg (aJ c), .agg (au p), .agg (ax m), .fz 1 (dr.map aX)] (· = plR (.tup [.agg (au (tx c p m).1), .fz 17 ((tx c p m).2.map ax)])) := by
 refine Con2.ofEmb ?_
 have hf := aQ p hp.ok
 have hh := cY c p m.frm m.inc hp.ok hp.rs
 have hq := di (c := c) hp m.frm m.inc
 unfold tx
 generalize aI c p m.frm m.inc = Q at hh hq
 obtain ⟨q, hd⟩ := Q
 simp only at hq hh ⊢
 have kq := bN c q [] hc hcs hq.g ⟨by simp, by simp⟩ (by simp)
 generalize aH c q [] = q' at kq ⊢
 refine af Ty.mixed Tryz.func12 rfl (by kernel_rfl) (by kernel_rfl) rfl [.cell 8 49, .tmp 9] rfl ?_
 refine g2_ ?_
 refine g2_ ?_
 refine cw_ hf ?_
 refine g2_ ?_
 rw [hu, hto]
 refine gx_ ?_
 refine CallS.eqW hh (wg_ hu hto) (.inl ws_) ?_
 refine g2_ ?_
 cases hd with
 | false =>
  refine g2_ ?_
  refine ae ?_ rfl
  exact wx_
 | true =>
  refine g2_ ?_
  refine .inl ⟨oF [1, 2] (oT 0 (oF [3, 4, 5, 6, 7, 8] [])), by kernel_rfl, ?_⟩
  refine g2_ ?_
  refine cw_ dm ?_
  refine g2_ ?_
  refine ⟨d9, m.kind, rfl, ?_⟩
  rw [hk]
  repeat first | simp -implicitDefEqProofs only [go_sem, aa, Option.isSome_none] | with_reducible first | refine gl_ ?_ | refine ga_ ?_ | refine gn_ ?_
  refine .inl ⟨oF [0, 1, 2, 3, 4, 5, 6, 7, 8, 9] [], by kernel_rfl, ?_⟩
  refine g2_ ?_
  refine cw_ kq ?_
  refine g2_ ?_
  refine .inr (.inr (.inl ⟨oF [0, 4, 1, 5, 2, 6, 3, 7] (oT 8 (oF [9] [])), [8], by kernel_rfl, ?_⟩))
  refine g2_ ?_
  refine ae ?_ rfl
  exact wx_
theorem ajk (c : av) (p : ak) (m : aV) (dr : List UInt32) (hp : okP p) (hto : m.to ≠ p.node) :
  Con2 Tryz.prog 12 [.agg (aJ c), .agg (au p), .agg (ax m), .fz 1 (dr.map aX)] (· = plR (.tup [.agg (au p), .fz 17 []])) := by
 cases hu : p.up with
 | false => exact sb c p m dr hp hu
 | true =>
 refine Con2.ofEmb ?_
 have hf := aQ p hp
 refine af Ty.mixed Tryz.func12 rfl (by kernel_rfl) (by kernel_rfl) rfl [.cell 8 49, .tmp 9] rfl ?_
 refine g2_ ?_
 refine g2_ ?_
 refine cw_ hf ?_
 refine g2_ ?_
 rw [hu]
 refine g2_ ?_
 rw [show ((m.to.toNat : Int) != (p.node.toNat : Int)) = true from bne_iff_ne.2 (fun h => hto ((ajO _ _).1 h))]
 refine g2_ ?_
 refine ae ?_ rfl
 exact wf_ hu
end Go.Proofs.YtlaefellhnkfbaaGreat.V
