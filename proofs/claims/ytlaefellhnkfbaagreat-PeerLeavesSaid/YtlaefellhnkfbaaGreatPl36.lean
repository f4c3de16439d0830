/-
  Part 36 of the proof of Pl: the engine and the walks, in their order.
-/
import Derived.Test.YtlaefellhnkfbaaGreatPl34
import Derived.Test.YtlaefellhnkfbaaGreatPl35
set_option linter.unusedSimpArgs false
set_option linter.unusedVariables false
set_option maxRecDepth 10000
set_option maxHeartbeats 4000000
namespace Go.Proofs.YtlaefellhnkfbaaGreat.V
open Go.Eng
theorem tMerge_len (l m : List GMember) (self : UInt8) : (tMerge l m self).length = l.length := by simp [tMerge]
theorem okH_learn {p : GPeer} (h : okH p) (t : List GMember) : okH (pLearn p t) := okH_tab h (by rw [tMerge_len]; exact h.g.table) (okRs_lrn h.rs _)
def hWelcome (c : GConf) (p : GPeer) (m : GMsg) : GPeer := { pLearn p m.table with view := sFill (pLearn p m.table).node c.view (pLearn p m.table).view (pUse c (pLearn p m.table) m.list) }
def tWelcome (c : GConf) (p : GPeer) (m : GMsg) : GPeer × List GMsg :=
  let q := pHear c p m.frm m.inc
  if q.2 = true then (pMeet c (hWelcome c q.1 m) [], []) else (q.1, [])
def tLeave (c : GConf) (p : GPeer) (m : GMsg) : GPeer × List GMsg :=
  let q := pHear c p m.frm m.inc
  if q.2 = true then (pMeet c { q.1 with table := tLeft q.1.table m.frm m.inc } [], []) else (q.1, [])
theorem use8 {c : GConf} {p : GPeer} {l : List GDesc} (h1 : l.length ≤ 20) (h2 : ∀ d ∈ l, d.filter.length ≤ 8) : ok8 (pUse c p l) := by
  have h3 := List.length_filter_le (dFine c) l
  have h4 := List.length_filter_le (dCur p) (l.filter (dFine c))
  exact ⟨by show (List.filter (dCur p) (l.filter (dFine c))).length ≤ 100; omega, fun d hd => h2 d (List.mem_filter.1 (List.mem_filter.1 hd).1).1⟩
theorem use_mem {c : GConf} {p : GPeer} {l : List GDesc} {d : GDesc} (h : d ∈ pUse c p l) : d ∈ l := (List.mem_filter.1 (List.mem_filter.1 h).1).1
theorem fill_len2 {self : UInt8} {room : Int} : ∀ (r l : List GDesc), (sFill self room l r).length ≤ l.length + r.length
  | [], l => Nat.le_refl _
  | d :: r, l => by
    rw [sFill]
    have h1 := fill_len2 (self := self) (room := room) r (dPut l d self room).1
    have h2 := put_len (self := self) (l := l) d room
    rw [List.length_cons]
    omega
attribute [local go_sem] zDesc encS encDD fzD plR rowR encK encM encRw encC encP encEv encA z8 z16 z32 z64 encMg encRing encI List.map_cons List.map_nil
theorem take_welcome (c : GConf) (p : GPeer) (m : GMsg) (dr : List UInt32) (hc : c.schema.length ≤ 4) (hcs : ∀ s ∈ c.schema, okS s) (hp : okH p) (hm : okMg m) (hu : p.up = true) (hto : m.to = p.node) (hk : m.kind = 2) :
    Con2 Tryz.prog 12 [.agg (encC c), .agg (encP p), .agg (encMg m), .fz 1 (dr.map enc32D)] (· = plR (.tup [.agg (encP (tWelcome c p m).1), .fz 17 ((tWelcome c p m).2.map encMg)])) := by
  refine Con2.ofEmb ?_
  have hf := pfresh_con p hp.ok
  have hh := phear_con c p m.frm m.inc hp.ok hp.rs
  have hq := okH_hear (c := c) hp m.frm m.inc
  unfold tWelcome
  generalize pHear c p m.frm m.inc = Q at hh hq
  obtain ⟨q, hd⟩ := Q
  simp only at hq hh ⊢
  refine con2_of Ty.mixed Tryz.func12 rfl (by kernel_rfl) (by kernel_rfl) rfl [.cell 8 49, .tmp 9] rfl ?_
  refine g2_ ?_
  refine g2_ ?_
  refine CallS.eqW hf ws_ (.inl ws_) ?_
  refine g2_ ?_
  rw [hu, hto]
  repeat first | simp -implicitDefEqProofs only [go_sem, vc2_blk, bne_self_eq_false] | with_reducible first | refine gl_ ?_ | refine ga_ ?_ | refine gn_ ?_
  refine CallS.eqW hh (by simp -implicitDefEqProofs only [go_sem, vc2_blk, hu, hto]) (.inl ws_) ?_
  refine g2_ ?_
  cases hd with
  | false =>
    refine g2_ ?_
    refine ret_emb ?_ rfl
    repeat first | simp -implicitDefEqProofs only [go_sem, vc2_blk, Bool.false_eq_true, if_false] | with_reducible refine gl_ ?_
  | true =>
    refine g2_ ?_
    refine .inl ⟨[(1, false), (2, false), (0, true), (3, false), (4, false), (5, false), (6, false), (7, false), (8, false)], by kernel_rfl, ?_⟩
    refine g2_ ?_
    refine CallS.eqW kinds_con ws_ (.inl ws_) ?_
    refine g2_ ?_
    refine ⟨mapFn108, m.kind, rfl, ?_⟩
    rw [show lkF kindsT m.kind = some 101 by rw [hk]; rfl]
    refine g2_ ?_
    have hl := okH_learn hq m.table
    have k1 := plearn_con q m.table hq.g.ok (by have := hq.g.table; omega) (by have := hm.table; omega) hq.rs
    have k2 := puse_con c (pLearn q m.table) m.list (by omega) hl.g.ok hm.ds
    have k3 := sfill2 (pLearn q m.table).view (pUse c (pLearn q m.table) m.list) (pLearn q m.table).node c.view hl.v8 (use8 hm.list hm.f8) hl.vw
    have kq := pmeet_con c (hWelcome c q m) [] hc hcs (okG_view hl.g (by
        refine Nat.le_trans (fill_len2 _ _) ?_
        have h1 := (use8 (c := c) (p := pLearn q m.table) hm.list hm.f8).1
        have h2 := hl.v8.1
        omega) (fun x hx => by
      rcases fill_mem _ _ x hx with h | h
      · exact hq.g.view x h
      · exact hm.fs2 x (use_mem h))) ⟨by simp, by simp⟩ (by simp)
    unfold hWelcome at kq ⊢
    generalize pLearn q m.table = p1 at k1 k2 k3 kq ⊢
    generalize sFill p1.node c.view p1.view (pUse c p1 m.list) = V at k3 kq ⊢
    generalize pUse c p1 m.list = U at k2 k3
    refine CallS.inline Ty.mixed Tryz.func101 rfl (by kernel_rfl) (by kernel_rfl) rfl [] rfl (Vc2.of ?_)
    refine g2_ ?_
    refine g2_ ?_
    refine .inl ⟨[(0, false), (1, false), (5, false), (2, false), (6, false), (3, false), (7, false), (4, false), (8, false), (9, false), (10, false), (11, false), (12, false), (13, false)], by kernel_rfl, ?_⟩
    refine g2_ ?_
    refine CallS.eqW k1 ws_ (.inl ws_) ?_
    refine g2_ ?_
    refine .inl ⟨[(0, false), (1, false), (6, false), (10, false), (14, false), (20, false), (25, false), (2, false), (7, false), (11, false), (15, false), (21, false), (26, false), (3, false), (8, false), (12, false), (16, false), (22, false), (27, false), (4, false), (9, false), (13, false), (17, false), (23, false), (28, false), (5, false), (18, false), (24, false), (29, false), (19, true), (30, false), (31, false), (32, false), (33, false), (34, false)], by kernel_rfl, ?_⟩
    refine g2_ ?_
    refine CallS.eqW k2 ws_ (.inl ws_) ?_
    refine g2_ ?_
    refine CallS.eqW k3 ws_ (.inl ws_) ?_
    refine g2_ ?_
    refine .inl ⟨[(0, false), (1, false), (2, false), (3, false), (4, false), (5, false), (6, false), (7, false), (8, false), (9, false)], by kernel_rfl, ?_⟩
    refine g2_ ?_
    refine CallS.eqW kq ws_ (.inl ws_) ?_
    refine g2_ ?_
    refine .inr (.inr (.inl ⟨[(0, false), (4, false), (1, false), (5, false), (2, false), (6, false), (3, false), (7, false), (8, true), (9, false)], [8], by kernel_rfl, ?_⟩))
    refine g2_ ?_
    refine ret_emb ?_ rfl
    repeat first | simp -implicitDefEqProofs only [go_sem, vc2_blk, if_true, List.map_nil] | with_reducible refine gl_ ?_
theorem take_leave (c : GConf) (p : GPeer) (m : GMsg) (dr : List UInt32) (hc : c.schema.length ≤ 4) (hcs : ∀ s ∈ c.schema, okS s) (hp : okH p) (hm : okMg m) (hu : p.up = true) (hto : m.to = p.node) (hk : m.kind = 9) :
    Con2 Tryz.prog 12 [.agg (encC c), .agg (encP p), .agg (encMg m), .fz 1 (dr.map enc32D)] (· = plR (.tup [.agg (encP (tLeave c p m).1), .fz 17 ((tLeave c p m).2.map encMg)])) := by
  refine Con2.ofEmb ?_
  have hf := pfresh_con p hp.ok
  have hh := phear_con c p m.frm m.inc hp.ok hp.rs
  have hq := okH_hear (c := c) hp m.frm m.inc
  unfold tLeave
  generalize pHear c p m.frm m.inc = Q at hh hq
  obtain ⟨q, hd⟩ := Q
  simp only at hq hh ⊢
  refine con2_of Ty.mixed Tryz.func12 rfl (by kernel_rfl) (by kernel_rfl) rfl [.cell 8 49, .tmp 9] rfl ?_
  refine g2_ ?_
  refine g2_ ?_
  refine CallS.eqW hf ws_ (.inl ws_) ?_
  refine g2_ ?_
  rw [hu, hto]
  repeat first | simp -implicitDefEqProofs only [go_sem, vc2_blk, bne_self_eq_false] | with_reducible first | refine gl_ ?_ | refine ga_ ?_ | refine gn_ ?_
  refine CallS.eqW hh (by simp -implicitDefEqProofs only [go_sem, vc2_blk, hu, hto]) (.inl ws_) ?_
  refine g2_ ?_
  cases hd with
  | false =>
    refine g2_ ?_
    refine ret_emb ?_ rfl
    repeat first | simp -implicitDefEqProofs only [go_sem, vc2_blk, Bool.false_eq_true, if_false] | with_reducible refine gl_ ?_
  | true =>
    refine g2_ ?_
    refine .inl ⟨[(1, false), (2, false), (0, true), (3, false), (4, false), (5, false), (6, false), (7, false), (8, false)], by kernel_rfl, ?_⟩
    refine g2_ ?_
    refine CallS.eqW kinds_con ws_ (.inl ws_) ?_
    refine g2_ ?_
    refine ⟨mapFn108, m.kind, rfl, ?_⟩
    rw [show lkF kindsT m.kind = some 107 by rw [hk]; rfl]
    refine g2_ ?_
    have ht : (tLeft q.table m.frm m.inc).length = q.table.length := by simp [tLeft]
    have hg := hq.g.table
    have k1 := pleft_con q.table m.frm m.inc (by omega)
    have kq := pmeet_con c { q with table := tLeft q.table m.frm m.inc } [] hc hcs (okG_tab hq.g (by rw [ht]; exact hg) hq.rs) ⟨by simp, by simp⟩ (by simp)
    generalize tLeft q.table m.frm m.inc = T at k1 kq ⊢
    refine CallS.inline Ty.mixed Tryz.func107 rfl (by kernel_rfl) (by kernel_rfl) rfl [] rfl (Vc2.of ?_)
    refine g2_ ?_
    refine g2_ ?_
    refine .inl ⟨[(0, false), (1, false), (6, false), (11, false), (2, false), (7, false), (12, false), (3, false), (8, false), (13, false), (4, false), (9, false), (14, false), (5, false), (10, false), (15, false), (16, false), (17, false), (18, false), (19, false), (20, false)], by kernel_rfl, ?_⟩
    refine g2_ ?_
    refine CallS.eqW k1 ws_ (.inl ws_) ?_
    refine g2_ ?_
    refine .inl ⟨[(0, false), (1, false), (2, false), (3, false), (4, false), (5, false), (6, false), (7, false), (8, false), (9, false)], by kernel_rfl, ?_⟩
    refine g2_ ?_
    refine CallS.eqW kq ws_ (.inl ws_) ?_
    refine g2_ ?_
    refine .inr (.inr (.inl ⟨[(0, false), (4, false), (1, false), (5, false), (2, false), (6, false), (3, false), (7, false), (8, true), (9, false)], [8], by kernel_rfl, ?_⟩))
    refine g2_ ?_
    refine ret_emb ?_ rfl
    repeat first | simp -implicitDefEqProofs only [go_sem, vc2_blk, if_true, List.map_nil] | with_reducible refine gl_ ?_
end Go.Proofs.YtlaefellhnkfbaaGreat.V

set_option maxRecDepth 10000
set_option maxHeartbeats 4000000
namespace Go.Proofs.YtlaefellhnkfbaaGreat.V
open Go.Eng
theorem okP_meet {c : GConf} {p : GPeer} {l : List GDesc} (hp : okG p) (hl : okDs l) (hl2 : ∀ d ∈ l, okF d) : okG (pMeet c p l) := by
  obtain ⟨m1, m2⟩ := meet_ok (c := c) hp hl hl2
  have m2 := m2 c.near
  have u2 := (m2.u p.node).1
  have hv := m2.ds (pCur p p.view) (by simp)
  have hv2 := m2.f (pCur p p.view) (by simp)
  have hn := m2.ds (fNear p.filter p.node c.near [pCur p p.view, pCur p p.near, rList (rCur p p.ring), pUse c p l]) (by simp)
  have hn2 := m2.f (fNear p.filter p.node c.near [pCur p p.view, pCur p p.near, rList (rCur p p.ring), pUse c p l]) (by simp)
  have near : ∀ far here known, known ≠ [] → nearestR far here c.schema known ∈ known := fun far here known h => by
    have hb := nearK_lt (far := far) (here := here) (dom := c.schema) h known.length
    rw [nearestR, List.getD_eq_getElem?_getD, List.getElem?_eq_getElem hb]; exact List.getElem_mem hb
  have hr : okF (pMeet c p l).ring.succ ∧ okF (pMeet c p l).ring.pred := by
    show okF (rChoose _ _ _).succ ∧ okF (rChoose _ _ _).pred
    unfold rChoose
    split
    · exact ⟨okF_z, okF_z⟩
    · rename_i h
      exact ⟨u2 _ (near _ _ _ h), u2 _ (near _ _ _ h)⟩
  exact ⟨⟨hp.ok.filter, hv, hn, hr.1.1, hr.2.1, hp.ok.sent, hp.ok.table, hp.ok.heard, hp.ok.rows, hp.ok.reports, hp.ok.evs, hp.ok.pulls⟩, hp.filter, hv2, hn2, hr.1, hr.2, hp.table⟩
attribute [local go_sem] zDesc encS encDD fzD plR rowR encK encM encRw encC encP encEv encA z8 z16 z32 z64 encMg encRing encI List.map_cons List.map_nil
end Go.Proofs.YtlaefellhnkfbaaGreat.V
