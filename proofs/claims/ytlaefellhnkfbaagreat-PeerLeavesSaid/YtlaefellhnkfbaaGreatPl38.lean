/-
  Part 38 of the proof of Pl: the engine and the walks, in their order.
-/
import Derived.Test.YtlaefellhnkfbaaGreatPl15
import Derived.Test.YtlaefellhnkfbaaGreatPl27
import Derived.Test.YtlaefellhnkfbaaGreatPl34
import Derived.Test.YtlaefellhnkfbaaGreatPl36
import Derived.Test.YtlaefellhnkfbaaGreatPl37
set_option linter.unusedSimpArgs false
set_option linter.unusedVariables false
set_option maxRecDepth 10000
set_option maxHeartbeats 4000000
namespace Go.Proofs.YtlaefellhnkfbaaGreat.V
open Go.Eng
def pAged (c : GConf) (p : GPeer) : GPeer :=
  let w := wTick p.wait
  { p with view := if w.2.2 = true then dDrop (dOlder p.view) w.2.1 else dOlder p.view, near := dOlder p.near, ring := rOlder p.ring, table := tTick p.table p.node c.suspect, wait := w.1 }
def kAsk (c : GConf) (p : GPeer) (dr : List UInt32) : GPeer × List GMsg :=
  let a := cAsk2 p.view (pSelf p) c.swap dr
  if p.wait.some = false ∧ a.2.2 = true then ({ p with wait := wStart a.1 2 a.2.1 }, [{ pMsg p 3 a.1 with list := a.2.1 }]) else (p, [])
def kDrawn (c : GConf) (dr : List UInt32) : UInt32 := if 0 ≤ c.swap ∧ c.swap < (dr.length : Int) then dr.getD c.swap.toNat 0 else 0
def kTell (c : GConf) (p : GPeer) (dr : List UInt32) (links : List UInt8) : List GMsg :=
  if links = [] then [] else [{ pMsg p 5 (links.getD ((kDrawn c dr).toNat % links.length) 0) with list := pWith p.near (pSelf p) }]
def kProbe (p : GPeer) : List GMsg := if p.ring.hs = true then [{ pMsg p 6 p.ring.succ.node with list := [pSelf p] }] else []
def kBeat (p : GPeer) (d : GDesc) : GMsg := { pMsg p 8 d.node with table := p.table }
def pTick (c : GConf) (p : GPeer) (dr : List UInt32) (L : List UInt8) : GPeer × List GMsg :=
  let q := kAsk c (pMeet c (pAged c p) []) dr
  (q.1, ((q.2 ++ kTell c q.1 dr L) ++ kProbe q.1) ++ (rList q.1.ring).map (kBeat q.1))
theorem older_f (d : GDesc) : d.older.filter = d.filter := by
  unfold GDesc.older; split <;> rfl
theorem okF_older {d : GDesc} (h : okF d) : okF d.older := by
  unfold okF; rw [older_f]; exact h
theorem older_mem {l : List GDesc} {d : GDesc} (h : d ∈ dOlder l) : ∃ e ∈ l, d = e.older := by
  obtain ⟨e, h1, h2⟩ := List.mem_map.1 h
  exact ⟨e, h1, h2.symm⟩
theorem okDs_older {l : List GDesc} (h : okDs l) : okDs (dOlder l) := ⟨by rw [dOlder, List.length_map]; exact h.1, fun d hd => by
  obtain ⟨e, h1, rfl⟩ := older_mem hd
  rw [older_f]; exact h.2 e h1⟩
theorem okG_aged {c : GConf} {p : GPeer} (hp : okG p) (hw : ok8 p.wait.sent) : okG (pAged c p) := by
  have hv : ∀ d ∈ dOlder p.view, okF d := fun d hd => by
    obtain ⟨e, h1, rfl⟩ := older_mem hd
    exact okF_older (hp.view e h1)
  have hn : ∀ d ∈ dOlder p.near, okF d := fun d hd => by
    obtain ⟨e, h1, rfl⟩ := older_mem hd
    exact okF_older (hp.near e h1)
  have hv2 : ∀ d ∈ (pAged c p).view, okF d := fun d hd => by
    unfold pAged at hd
    simp only at hd
    split at hd
    · exact hv d (List.mem_filter.1 hd).1
    · exact hv d hd
  have hv3 : (pAged c p).view.length ≤ 1000 := by
    have h1 := (okDs_older hp.ok.view).1
    unfold pAged
    simp only
    split
    · exact Nat.le_trans (List.length_filter_le _ _) h1
    · exact h1
  have hs : okF (rOlder p.ring).succ := by
    unfold rOlder; simp only; split
    · exact okF_older hp.succ
    · exact okF_z
  have hpr : okF (rOlder p.ring).pred := by
    unfold rOlder; simp only; split
    · exact okF_older hp.pred
    · exact okF_z
  have hwt : okDs (wTick p.wait).1.sent := by
    unfold wTick
    split
    · split
      · exact ⟨Nat.zero_le _, fun d hd => by cases hd⟩
      · exact hw.toDs
    · exact ⟨Nat.zero_le _, fun d hd => by cases hd⟩
  have ht : (tTick p.table p.node c.suspect).length = p.table.length := by simp [tTick]
  exact ⟨⟨hp.ok.filter, ⟨hv3, fun d hd => (hv2 d hd).1⟩, okDs_older hp.ok.near, hs.1, hpr.1, hwt, by show (tTick p.table p.node c.suspect).length ≤ 1000; rw [ht]; exact hp.ok.table, hp.ok.heard, hp.ok.rows, hp.ok.reports, hp.ok.evs, hp.ok.pulls⟩,
    hp.filter, hv2, hn, hs, hpr, by show (tTick p.table p.node c.suspect).length ≤ 12; rw [ht]; exact hp.table⟩
theorem okP_wait {p : GPeer} (h : okP p) {w : GW} (hw : okDs w.sent) : okP { p with wait := w } :=
  ⟨h.filter, h.view, h.near, h.succ, h.pred, hw, h.table, h.heard, h.rows, h.reports, h.evs, h.pulls⟩
theorem okDs_with {l : List GDesc} {d : GDesc} (hl : l.length ≤ 1000 ∧ ∀ d ∈ l, d.filter.length ≤ 1000) (hd : d.filter.length ≤ 1000) (hl9 : l.length ≤ 900 := by omega) : okDs (pWith l d) := by
  refine ⟨?_, fun x hx => ?_⟩
  · simp only [pWith, List.length_append, List.length_cons, List.length_take, List.length_drop]; omega
  · simp only [pWith, List.mem_append, List.mem_cons] at hx
    rcases hx with h | h | h
    · exact hl.2 x (List.mem_of_mem_take h)
    · rw [h]; exact hd
    · exact hl.2 x (List.mem_of_mem_drop h)
def zMc : List DV := [.v (.int .u8 0), .v (.int .u8 0), .v (.int .u16 0), .v (.int .u8 0), .v (.slice none 0 0), .v (.slice none 0 0), .v (.int .u8 0), .v (.int .u16 0), .v (.int .u32 0), .v (.slice none 0 0), .v (.slice none 0 0), .v (.int .u8 0), .v (.int .u8 0), .v (.int .u16 0), .v (.int .u32 0), .v (.slice none 0 0), .v (.slice none 0 0)]
attribute [local go_sem] zDesc encS encDD fzD plR rowR encK encM encRw encC encP encEv encA z8 z16 z32 z64 encMg encRing encI encW List.map_cons List.map_nil
theorem tick_con (c : GConf) (p : GPeer) (dr : List UInt32) (L : List UInt8) (hc : c.schema.length ≤ 4) (hcs : ∀ s ∈ c.schema, okS s) (hp : okH p) (hu : p.up = true) (hsw : c.swap ≤ 9223372036854775807) (hdr : dr.length ≤ 1000) (hws : ok8 p.wait.sent)
    (hL : Con2 Tryz.prog 14 [.agg (encP (kAsk c (pMeet c (pAged c p) []) dr).1)] (· = plR (.fz 1 (L.map encBD)))) (hLn : L.length ≤ 1000)
    (w1 : (wTick p.wait).2.2 = false) (w2 : (wTick p.wait).1.some = false) (w3 : (cAsk2 (pMeet c (pAged c p) []).view (pSelf (pMeet c (pAged c p) [])) c.swap dr).2.2 = true) (w4 : L ≠ []) (w5 : 0 ≤ c.swap ∧ c.swap < (dr.length : Int)) (w6 : (pMeet c (pAged c p) []).ring.hs = true)
    (hsent : ∀ to sent ok, cAsk2 (pMeet c (pAged c p) []).view (pSelf (pMeet c (pAged c p) [])) c.swap dr = (to, sent, ok) → ok8 sent) (v8 : ok8 (pMeet c (pAged c p) []).view) (f8 : p.filter.length ≤ 8) :
    Con2 Tryz.prog 20 [.agg (encC c), .agg (encP p), .fz 1 (dr.map enc32D)] (· = plR (.tup [.agg (encP (pTick c p dr L).1), .fz 17 ((pTick c p dr L).2.map encMg)])) := by
  refine Con2.ofEmb ?_
  have k0 := pfresh_con p hp.ok
  have k1 : Con2 Tryz.prog 56 [fzD p.view] (· = plR (fzD (dOlder p.view))) := row_fz (older_con p.view hp.ok.view)
  have k2 : Con2 Tryz.prog 56 [fzD p.near] (· = plR (fzD (dOlder p.near))) := row_fz (older_con p.near hp.ok.near)
  have k3 := rolder_con p.ring hp.ok.succ hp.ok.pred
  have k4 := ptick_con p.table p.node c.suspect (by have := hp.g.table; omega)
  have k5 := stick2 p.wait hws
  refine con2_of Ty.mixed Tryz.func20 rfl (by kernel_rfl) (by kernel_rfl) rfl [.cell 6 49, .tmp 7] rfl ?_
  refine g2_ ?_
  refine g2_ ?_
  refine CallS.eqW k0 ws_ (.inl ws_) ?_
  refine g2_ ?_
  rw [hu]
  refine g2_ ?_
  refine CallS.eqW k1 ws_ (.inl ws_) ?_
  refine g2_ ?_
  refine CallS.eqW k2 ws_ (.inl ws_) ?_
  refine g2_ ?_
  refine CallS.eqW k3 ws_ (.inl ws_) ?_
  refine g2_ ?_
  refine CallS.eqW k4 ws_ (.inl ws_) ?_
  refine g2_ ?_
  refine CallS.eqW k5 ws_ (.inl ws_) ?_
  refine g2_ ?_
  have kd : Con2 Tryz.prog 60 [fzD (dOlder p.view), .v (.int .u8 (wTick p.wait).2.1.toNat)] (· = plR (fzD (dDrop (dOlder p.view) (wTick p.wait).2.1))) := row_fz (drop_con (dOlder p.view) (vw_older hp.vw).2 _ (okDs_older hp.ok.view))
  have hg2 := okG_aged (c := c) hp.g hws
  have k6 := pmeet_con c (pAged c p) [] hc hcs hg2 ⟨by simp, by simp⟩ (by simp)
  have hg3 := okP_meet (c := c) (l := []) hg2 ⟨by simp, by simp⟩ (by simp)
  have hag : encP (pAged c p) = encP { p with view := dOlder p.view, near := dOlder p.near, ring := rOlder p.ring, table := tTick p.table p.node c.suspect, wait := (wTick p.wait).1 } := by
    unfold pAged; simp only [w1, Bool.false_eq_true, if_false]
  rw [hag] at k6
  have hw3 : (pMeet c (pAged c p) []).wait.some = false := w2
  have hf3 : (pMeet c (pAged c p) []).filter = p.filter := rfl
  have hR1 : (pTick c p dr L).1 = (kAsk c (pMeet c (pAged c p) []) dr).1 := rfl
  rw [hR1]
  generalize hR : (pTick c p dr L).2 = R
  clear hR1
  unfold pTick kAsk at *
  rw [hw3] at hL hR ⊢
  generalize hq : pMeet c (pAged c p) [] = q at *
  have hn9 : q.near.length ≤ 900 := by rw [← hq]; exact Nat.le_trans fNear_len (Nat.le_trans ((meet_ok (c := c) hg2 (l := []) ⟨by simp, by simp⟩ (by simp)).1.u _).2 (by omega))
  have k7 := pself_con q hg3.ok
  have k8 := cask2 q.view (pSelf q) c.swap dr v8 (by show q.filter.length ≤ 8; rw [hf3]; exact f8) hdr hsw
  generalize cAsk2 q.view (pSelf q) c.swap dr = a at *
  obtain ⟨to, sent, ok⟩ := a
  simp only at w3 k8 hL hR ⊢
  subst w3
  rw [if_pos ⟨trivial, rfl⟩] at hL hR ⊢
  simp only at hL hR ⊢
  refine g2_ ?_
  rw [w1]
  refine g2_ ?_
  refine .inl ⟨[(0, false), (1, false), (2, false), (4, false), (3, true), (5, false), (6, false), (7, false)], by kernel_rfl, ?_⟩
  refine g2_ ?_
  refine CallS.eqW k6 (by simp -implicitDefEqProofs only [go_sem, vc2_blk, hu]) (.inl ws_) ?_
  repeat first | simp -implicitDefEqProofs only [go_sem, vc2_blk, hw3] | with_reducible first | refine gl_ ?_ | refine ga_ ?_ | refine gn_ ?_
  have hs8 : ok8 sent := hsent _ _ _ rfl
  have k9 := sstart2 to 2 sent hs8
  obtain ⟨M1, hM1⟩ : ∃ M, M = pMsg q 3 to := ⟨_, rfl⟩
  have hM1t : M1.table = [] := by rw [hM1]; rfl
  have k10 : Con2 Tryz.prog 43 [.agg (encP { q with wait := wStart to 2 sent }), .v (.int .u8 (UInt8.toNat 3)), .v (.int .u8 to.toNat)] (· = plR (.agg (encMg M1))) := by rw [hM1]; exact pmsg_con { q with wait := wStart to 2 sent } 3 to
  rw [← hM1] at hR
  have k11 := copyF_con sent hs8.toDs
  have k12 := cloneM_con [] (by simp)
  refine CallS.inline Ty.mixed Tryz.func61 rfl (by kernel_rfl) (by kernel_rfl) rfl [] rfl (Vc2.of ?_)
  refine g2_ ?_
  refine g2_ ?_
  refine .inl ⟨[(0, false), (5, false), (10, false), (15, false), (1, false), (6, false), (11, false), (16, false), (2, false), (7, false), (12, false), (17, false), (3, false), (8, false), (13, false), (18, false), (4, false), (14, false), (9, true), (19, false), (20, false), (21, false), (22, false), (23, false), (24, false), (25, false), (26, false)], by kernel_rfl, ?_⟩
  refine g2_ ?_
  refine CallS.eqW k7 (by simp -implicitDefEqProofs only [go_sem, vc2_blk, hw3]) (.inl ws_) ?_
  refine g2_ ?_
  refine CallS.eqW k8 (by simp -implicitDefEqProofs only [go_sem, vc2_blk, hw3]) (.inl ws_) ?_
  refine g2_ ?_
  refine CallS.eqW k9 ws_ (.inl ws_) ?_
  refine g2_ ?_
  refine CallS.inline Ty.mixed Tryz.func63 rfl (by kernel_rfl) (by kernel_rfl) rfl [] rfl (Vc2.of ?_)
  refine g2_ ?_
  refine g2_ ?_
  refine CallS.eqW k10 ws_ (.inl ws_) ?_
  refine g2_ ?_
  refine CallS.eqW k11 ws_ (.inl ws_) ?_
  refine g2_ ?_
  refine CallS.eqW k12 ws_ (.inl ws_) ?_
  refine g2_ ?_
  refine .inl ⟨[(0, false), (1, false), (5, false), (2, false), (3, false), (4, false), (6, true), (7, false), (8, false), (9, false), (10, false)], by kernel_rfl, ?_⟩
  refine g2_ ?_
  have hLp : 0 < L.length := List.length_pos_iff.2 w4
  obtain ⟨sw, hsw2⟩ : ∃ sw : Nat, c.swap = sw := ⟨c.swap.toNat, by omega⟩
  have hswl : sw < dr.length := by omega
  have hdg : (dr.map enc32D)[sw]? = some [.v (.int .u32 dr[sw].toNat)] := by rw [List.getElem?_map, List.getElem?_eq_getElem hswl]; rfl
  have hkd : kDrawn c dr = dr[sw] := by
    rw [kDrawn, if_pos w5, hsw2, Int.toNat_natCast, List.getD_eq_getElem?_getD, List.getElem?_eq_getElem hswl]; rfl
  have hmod : dr[sw].toNat % L.length < L.length := Nat.mod_lt _ hLp
  have hlg : (L.map encBD)[dr[sw].toNat % L.length]? = some [.v (.int .u8 (L.getD (dr[sw].toNat % L.length) 0).toNat)] := by
    rw [List.getElem?_map, List.getD_eq_getElem?_getD, List.getElem?_eq_getElem hmod]; rfl
  refine CallS.inline Ty.mixed Tryz.func62 rfl (by kernel_rfl) (by kernel_rfl) rfl [] rfl (Vc2.of ?_)
  refine g2_ ?_
  refine g2_ ?_
  refine CallS.eqW hL ws_ (.inl ws_) ?_
  repeat first | simp -implicitDefEqProofs only [go_sem, vc2_blk, List.length_map] | with_reducible first | refine gl_ ?_ | refine ga_ ?_ | refine gn_ ?_
  rw [show ((L.length : Int) == 0) = false from beq_eq_false_iff_ne.2 (by omega)]
  refine g2_ ?_
  refine .inl ⟨[(0, false), (1, false), (2, false), (3, false), (4, false), (5, false), (6, false), (7, false), (12, false), (8, false), (13, false), (9, false), (14, false), (10, false), (15, false), (11, false), (16, false), (17, false), (18, false)], by kernel_rfl, ?_⟩
  refine g2_ ?_
  rw [show decide (0 ≤ c.swap) = true from decide_eq_true w5.1]
  repeat first | simp -implicitDefEqProofs only [go_sem, vc2_blk, List.length_map] | with_reducible first | refine gl_ ?_ | refine ga_ ?_ | refine gn_ ?_
  rw [show decide (c.swap < (dr.length : Int)) = true from decide_eq_true w5.2]
  refine g2_ ?_
  refine .inl ⟨[(0, false), (4, false), (1, false), (5, false), (2, false), (6, false), (3, false), (7, false), (8, false), (9, false), (10, false), (11, false)], by kernel_rfl, ?_⟩
  repeat first | simp -implicitDefEqProofs only [go_sem, vc2_blk, hsw2, hdg, List.length_map, Int.toNat_natCast] | with_reducible first | refine gl_ ?_ | refine ga_ ?_ | refine gn_ ?_
  have hd32 := dr[sw].toNat_lt
  refine ar_i64 (by omega) ?_
  refine g2_ ?_
  rw [bin_remN (a := dr[sw].toNat) (b := L.length) rfl rfl hLp]
  repeat first | simp -implicitDefEqProofs only [go_sem, vc2_blk, hlg, List.length_map, Int.toNat_natCast] | with_reducible first | refine gl_ ?_ | refine ga_ ?_ | refine gn_ ?_
  have hto : L.getD ((kDrawn c dr).toNat % L.length) 0 = L.getD (dr[sw].toNat % L.length) 0 := by rw [hkd]
  have hkt : kTell c { q with wait := wStart to 2 sent } dr L = [{ pMsg q 5 (L.getD (dr[sw].toNat % L.length) 0) with list := pWith q.near (pSelf q) }] := by
    rw [kTell, if_neg w4, hto]; rfl
  rw [hkt] at hR
  generalize L.getD (dr[sw].toNat % L.length) 0 = to2 at hlg hR ⊢
  have k13 := pself_con { q with wait := wStart to 2 sent } (okP_wait hg3.ok (show okDs sent from hs8.toDs))
  have k14 := pwith_con q.near (pSelf q) hg3.ok.near hg3.ok.filter
  obtain ⟨M2, hM2⟩ : ∃ M, M = pMsg q 5 to2 := ⟨_, rfl⟩
  have hM2t : M2.table = [] := by rw [hM2]; rfl
  have k15 : Con2 Tryz.prog 43 [.agg (encP { q with wait := wStart to 2 sent }), .v (.int .u8 (UInt8.toNat 5)), .v (.int .u8 to2.toNat)] (· = plR (.agg (encMg M2))) := by rw [hM2]; exact pmsg_con { q with wait := wStart to 2 sent } 5 to2
  rw [← hM2] at hR
  have k16 := copyF_con (pWith q.near (pSelf q)) (okDs_with hg3.ok.near hg3.ok.filter hn9)
  generalize pWith q.near (pSelf q) = W at k14 k16 hR
  refine .inl ⟨[(0, false), (1, false), (2, false), (7, false), (3, false), (8, false), (4, false), (9, false), (5, false), (10, false), (6, false), (11, true), (12, false), (13, false)], by kernel_rfl, ?_⟩
  refine g2_ ?_
  refine CallS.eqW k13 ws_ (.inl ws_) ?_
  refine g2_ ?_
  refine CallS.eqW k14 (by simp -implicitDefEqProofs only [go_sem, vc2_blk, pSelf]) (.inl ws_) ?_
  refine g2_ ?_
  refine CallS.inline Ty.mixed Tryz.func63 rfl (by kernel_rfl) (by kernel_rfl) rfl [] rfl (Vc2.of ?_)
  refine g2_ ?_
  refine g2_ ?_
  refine CallS.eqW k15 ws_ (.inl ws_) ?_
  refine g2_ ?_
  refine CallS.eqW k16 ws_ (.inl ws_) ?_
  refine g2_ ?_
  refine CallS.eqW k12 ws_ (.inl ws_) ?_
  refine g2_ ?_
  refine .inl ⟨[(0, false), (1, false), (5, false), (2, false), (3, false), (4, false), (6, true), (7, false), (8, false), (9, false), (10, false)], by kernel_rfl, ?_⟩
  repeat first | simp -implicitDefEqProofs only [go_sem, vc2_blk, w6] | with_reducible first | refine gl_ ?_ | refine ga_ ?_ | refine gn_ ?_
  have hkp : kProbe { q with wait := wStart to 2 sent } = [{ pMsg q 6 q.ring.succ.node with list := [pSelf q] }] := by
    rw [kProbe, if_pos w6]; rfl
  rw [hkp] at hR
  have k17 := copyF_con [pSelf q] ⟨by simp, fun d hd => by rw [List.mem_singleton.1 hd]; exact hg3.ok.filter⟩
  obtain ⟨M3, hM3⟩ : ∃ M, M = pMsg q 6 q.ring.succ.node := ⟨_, rfl⟩
  have hM3t : M3.table = [] := by rw [hM3]; rfl
  have k18 : Con2 Tryz.prog 43 [.agg (encP { q with wait := wStart to 2 sent }), .v (.int .u8 (UInt8.toNat 6)), .v (.int .u8 q.ring.succ.node.toNat)] (· = plR (.agg (encMg M3))) := by rw [hM3]; exact pmsg_con { q with wait := wStart to 2 sent } 6 q.ring.succ.node
  rw [← hM3] at hR
  have k19 := rlist_con q.ring hg3.ok.succ hg3.ok.pred
  refine .inl ⟨[(0, false), (1, false), (8, false), (2, false), (9, false), (3, false), (10, false), (4, false), (11, false), (5, false), (6, false), (7, false), (12, true), (13, true), (14, false)], by kernel_rfl, ?_⟩
  refine g2_ ?_
  refine CallS.eqW k13 (by simp -implicitDefEqProofs only [go_sem, vc2_blk, w6]) (.inl ws_) ?_
  refine g2_ ?_
  refine CallS.inline Ty.mixed Tryz.func63 rfl (by kernel_rfl) (by kernel_rfl) rfl [] rfl (Vc2.of ?_)
  refine g2_ ?_
  refine g2_ ?_
  refine CallS.eqW k18 (by simp -implicitDefEqProofs only [go_sem, vc2_blk, w6]) (.inl ws_) ?_
  refine g2_ ?_
  refine CallS.eqW k17 (by simp -implicitDefEqProofs only [go_sem, vc2_blk, pSelf]) (.inl ws_) ?_
  refine g2_ ?_
  refine CallS.eqW k12 ws_ (.inl ws_) ?_
  refine g2_ ?_
  refine .inl ⟨[(0, false), (1, false), (5, false), (2, false), (3, false), (4, false), (6, true), (7, false), (8, false), (9, false), (10, false)], by kernel_rfl, ?_⟩
  refine g2_ ?_
  refine CallS.eqW k19 (by simp -implicitDefEqProofs only [go_sem, vc2_blk, w6]) (.inl ws_) ?_
  repeat first | simp -implicitDefEqProofs only [go_sem, vc2_blk, List.length_map] | with_reducible first | refine gl_ ?_ | refine ga_ ?_ | refine gn_ ?_
  have k20 : ∀ d : GDesc, Con2 Tryz.prog 43 [.agg (encP { q with wait := wStart to 2 sent }), .v (.int .u8 (UInt8.toNat 8)), .v (.int .u8 d.node.toNat)] (· = plR (.agg (encMg (pMsg q 8 d.node)))) := fun d => pmsg_con { q with wait := wStart to 2 sent } 8 d.node
  have k21 := copyF_con [] ⟨by simp, by simp⟩
  have k22 := cloneM_con (q.table.map encM) (by have := hg3.table; rw [List.length_map]; omega)
  have hrl := rList_len q.ring
  have hrL : rList ({ q with wait := wStart to 2 sent } : GPeer).ring = rList q.ring := rfl
  rw [hrL] at hR
  generalize rList q.ring = B at k19 hrl hR ⊢
  obtain ⟨Bt, hBt⟩ : ∃ Bt : GDesc → GMsg, Bt = kBeat { q with wait := wStart to 2 sent } := ⟨_, rfl⟩
  have hBe : ∀ d, encMg (Bt d) = encMg { pMsg q 8 d.node with table := q.table } := fun d => by rw [hBt]; rfl
  rw [← hBt] at hR
  obtain ⟨SA, hSA⟩ : ∃ SA : Nat → List GMsg, SA = fun k => [{ M1 with list := sent }] ++ [{ M2 with list := W }] ++ [{ M3 with list := [pSelf q] }] ++ (B.take k).map Bt := ⟨_, rfl⟩
  have hS0 : (SA 0).map encMg = [encMg { M1 with list := sent, table := [] }, encMg { M2 with list := W, table := [] }, encMg { M3 with list := [pSelf q], table := [] }] := by
    rw [hSA]; simp [encMg, hM1t, hM2t, hM3t]
  have hS0l : (SA 0).length = 3 := by rw [hSA]; rfl
  have hSn : ∀ k (hk : k < B.length), SA (k + 1) = SA k ++ [Bt B[k]] := fun k hk => by
    rw [hSA]; simp only
    rw [List.take_add_one, List.getElem?_eq_getElem hk, List.map_append, ← List.append_assoc]; rfl
  have hSl : ∀ k, (SA k).length ≤ 5 := fun k => by
    rw [hSA]; simp only [List.length_append, List.length_cons, List.length_nil, List.length_map, List.length_take]; omega
  have hSe : SA B.length = R := by
    rw [hSA, ← hR]
    show _ ++ (B.take B.length).map Bt = _
    rw [List.take_of_length_le (Nat.le_refl _)]
  clear hSA hR
  refine vc2_rangeA B.length (fun k => [(95, .unk)]) (fun _ => []) (fun k => [(1, .arr 67 17 ((SA k).map encMg) false), (0, .var 105 (encC c ++ (encP { q with wait := wStart to 2 sent } ++ (zMc ++ [.fz 1 (dr.map enc32D), .v (.bool false), .rf 1 0 (SA k).length]))))]) 2 (fun _ => True) (le2_of [(1, .to 7), (0, .to 0)] ?_) trivial (fun g k => by first | rfl | ((try (with_reducible refine leK2_refl ?_)); simp -implicitDefEqProofs only [go_sem, vc2_blk]; repeat ((with_reducible refine leK2_refl ?_); simp -implicitDefEqProofs only [go_sem, vc2_blk]))) (by omega) (fun g => by simp -implicitDefEqProofs only [go_sem, vc2_blk]) (fun k hk _ => ?_) (fun _ => ?_)
  · repeat first | simp -implicitDefEqProofs only [go_sem, vc2_blk, hS0, hS0l, hM1t, hM2t, hM3t, hsw2, w6, List.length_cons, List.length_nil, List.append_eq, List.cons_append, List.nil_append, List.append_nil, zMc, pSelf] | with_reducible refine gl_ ?_
    first | rfl | trace_state
  · have hAl := hSl k
    have hbe := hBe B[k]
    have kk := k20 B[k]
    have hsl : (SA (k + 1)).length = (SA k).length + 1 := by rw [hSn k hk]; simp
    have hsm : (SA (k + 1)).map encMg = (SA k).map encMg ++ [encMg { pMsg q 8 B[k].node with table := q.table }] := by rw [hSn k hk, List.map_append, List.map_cons, List.map_nil, hbe]
    repeat first | simp -implicitDefEqProofs only [go_sem, vc2_blk, mapE_get hk, zMc, List.append_eq, List.cons_append, List.nil_append] | with_reducible first | refine gl_ ?_ | refine ga_ ?_ | refine gn_ ?_
    generalize B[k] = d at hbe kk hsm
    have hM4 : (pMsg q 8 d.node).list = [] := rfl
    generalize pMsg q 8 d.node = M4 at kk hsm hM4
    refine .inl ⟨[(0, false), (1, false), (3, false), (2, false), (4, false), (5, false), (6, false), (7, false), (8, false)], by kernel_rfl, ?_⟩
    refine g2_ ?_
    refine CallS.inline Ty.mixed Tryz.func63 rfl (by kernel_rfl) (by kernel_rfl) rfl [] rfl (Vc2.of ?_)
    refine g2_ ?_
    refine g2_ ?_
    refine CallS.eqW kk ws_ (.inl ws_) ?_
    refine g2_ ?_
    refine CallS.eqW k21 ws_ (.inl ws_) ?_
    refine g2_ ?_
    refine CallS.eqW k22 ws_ (.inl ws_) ?_
    refine g2_ ?_
    refine .inl ⟨[(0, false), (1, false), (5, false), (2, false), (3, false), (4, false), (6, true), (7, false), (8, false), (9, false), (10, false)], by kernel_rfl, ?_⟩
    repeat first | simp -implicitDefEqProofs only [go_sem, vc2_blk, List.length_map] | with_reducible first | refine gl_ ?_ | refine ga_ ?_ | refine gn_ ?_
    refine ⟨k + 1, le2_of [(1, .to 3), (0, .to 0)] ?_, rfl⟩
    repeat first | simp -implicitDefEqProofs only [go_sem, vc2_blk, hsm, hsl, hM4, zMc, List.append_eq, List.cons_append, List.nil_append] | with_reducible refine gl_ ?_
    first | done | rfl | trace_state
  · rw [hSe]
    repeat first | simp -implicitDefEqProofs only [go_sem, vc2_blk, zMc, List.append_eq, List.cons_append, List.nil_append] | with_reducible first | refine gl_ ?_ | refine ga_ ?_ | refine gn_ ?_
    refine .inr (.inr (.inl ⟨[(0, false), (4, false), (1, false), (5, false), (2, false), (6, false), (3, false), (7, false), (8, true), (9, false)], [6], by kernel_rfl, ?_⟩))
    refine g2_ ?_
    refine ret_emb ?_ rfl
    repeat first | simp -implicitDefEqProofs only [go_sem, vc2_blk, w6] | with_reducible refine gl_ ?_
end Go.Proofs.YtlaefellhnkfbaaGreat.V

set_option maxRecDepth 10000
set_option maxHeartbeats 4000000
namespace Go.Eng
def ltU (a b : UInt8) : Bool := decide (a < b)
def cStep (acc : List UInt8) (x : UInt8) : List UInt8 := if acc.getLast? = some x then acc else acc ++ [x]
def cmpG (l : List UInt8) : List UInt8 := l.foldl cStep []
theorem cmpG_snoc {l : List UInt8} {j : Nat} (h : j < l.length) : cmpG (l.take (j + 1)) = cStep (cmpG (l.take j)) l[j] := by
  rw [cmpG, List.take_add_one, List.getElem?_eq_getElem h, List.foldl_append]; rfl
theorem cmpG_last {l : List UInt8} : ∀ {j : Nat} (h : j < l.length), (cmpG (l.take (j + 1))).getLast? = some l[j] := by
  intro j h
  rw [cmpG_snoc h, cStep]
  split
  · assumption
  · simp
theorem cmpG_len (l : List UInt8) : ∀ j, (cmpG (l.take j)).length ≤ j
  | 0 => by simp [cmpG]
  | j + 1 => by
    have ih := cmpG_len l j
    by_cases h : j < l.length
    · rw [cmpG_snoc h, cStep]
      split
      · omega
      · rw [List.length_append]; simp; omega
    · rw [List.take_of_length_le (by omega)] at ih ⊢
      omega
theorem cmpG_eq {l : List UInt8} {j : Nat} (h : j + 1 < l.length) (he : l[j + 1] = l[j]) : cmpG (l.take (j + 1 + 1)) = cmpG (l.take (j + 1)) := by
  rw [cmpG_snoc h, cStep, if_pos (by rw [cmpG_last (by omega), he])]
theorem cmpG_ne {l : List UInt8} {j : Nat} (h : j + 1 < l.length) (he : l[j + 1] ≠ l[j]) : cmpG (l.take (j + 1 + 1)) = cmpG (l.take (j + 1)) ++ [l[j + 1]] := by
  rw [cmpG_snoc h, cStep, if_neg (by rw [cmpG_last (by omega)]; simpa using fun e => he e.symm)]
def cRow (l : List UInt8) (j : Nat) : List UInt8 := cmpG (l.take j) ++ l.drop (cmpG (l.take j)).length
theorem cRow_len {l : List UInt8} {j : Nat} (h : j ≤ l.length) : (cRow l j).length = l.length := by
  have := cmpG_len l j
  rw [cRow, List.length_append, List.length_drop]; omega
theorem cRow_at {l : List UInt8} {j i : Nat} (h1 : (cmpG (l.take j)).length ≤ i) : (cRow l j)[i]? = l[i]? := by
  rw [cRow, List.getElem?_append_right h1, List.getElem?_drop]; congr 1; omega
theorem cRow_set {l : List UInt8} {j : Nat} (h : j + 1 < l.length) (he : l[j + 1] ≠ l[j]) (hc : (cmpG (l.take (j + 1))).length < l.length) : (cRow l (j + 1)).set (cmpG (l.take (j + 1))).length l[j + 1] = cRow l (j + 1 + 1) := by
  rw [cRow, cRow, cmpG_ne h he]
  generalize cmpG (l.take (j + 1)) = C at hc
  rw [List.set_append_right _ _ (Nat.le_refl _), Nat.sub_self, List.drop_eq_getElem_cons hc, List.set_cons_zero, List.append_assoc, List.length_append]; rfl
def uLinks (p : GPeer) : List UInt8 := [p.view, p.near, rList p.ring].flatten.map (·.node)
def nLinks (p : GPeer) : List UInt8 := cmpG (isortG ltU (uLinks p))
end Go.Eng
namespace Go.Proofs.YtlaefellhnkfbaaGreat.V
open Go.Eng
attribute [local go_sem] zDesc encS encDD fzD plR rowR encK encM encRw encC encP encEv encA z8 z16 z32 z64 c00 encMg encRing encI List.map_cons List.map_nil encBD
@[local go_sem] theorem clrOk5 : clrOk Tryz.prog 5 = true := by kernel_rfl
theorem cless_con (a b : Nat) : Con2 Tryz.prog 188 [.v (.int .u8 a), .v (.int .u8 b)] (· = plR (.v (.bool (decide ((a : Int) < (b : Int)))))) := by
  refine con2_of Ty.mixed Tryz.func188 rfl (by kernel_rfl) (by kernel_rfl) rfl [.tmp 4] rfl ?_
  refine g2_ ?_
  refine g2_ ?_
  refine CallS.eq (nan8_con a) ws_ (.inl ws_) ?_
  refine g2_ ?_
  exact ⟨_, rfl, le2_of [] ws_⟩
theorem cl8_con (a b : UInt8) : Con2 Tryz.prog 188 [.v (.int .u8 a.toNat), .v (.int .u8 b.toNat)] (· = plR (.v (.bool (decide ((a.toNat : Int) < (b.toNat : Int)))))) := cless_con a.toNat b.toNat
theorem lnk_ins (l : List UInt8) (hl : l.length ≤ 12) {L0 : List (List DV)}{ρ σ nb K} (hk : K (.tup []) ⟨ρ, σ, [(1, .arr 5 1 ((isortG ltU l).map encBD) false), (0, .arr 32 1 L0 false)], 2, nb⟩) :
    CallS Tryz.prog false 182 [.rf 1 0 l.length, .v (.int .i64 0), .v (.int .i64 l.length)] ⟨ρ, σ, [(1, .arr 5 1 (l.map encBD) false), (0, .arr 32 1 L0 false)], 2, nb⟩ K := by
  refine CallS.inline Ty.mixed Tryz.func182 rfl (by kernel_rfl) (by kernel_rfl) rfl [] rfl (Vc2.of ?_)
  refine g2_ ?_
  refine g2_ ?_
  refine vc2_forA (γ := Nat) (fun i => [(6, .d (.v (.int .i64 (i : Nat))))]) (fun _ => []) (fun i => [(1, .arr 5 1 ((isortG ltU (l.take i) ++ l.drop i).map encBD) false), (0, .arr 32 1 L0 false)]) 2 (fun i => 1 ≤ i ∧ (l.length < i → i = 1)) (fun i => l.length + 1 - i) 1 (le2_of [] ?_) ⟨by omega, by omega⟩ (fun i hi => ?_)
  · have e : isortG ltU (l.take 1) ++ l.drop 1 = l := by
      cases l with
      | nil => rfl
      | cons x r => rfl
    repeat first | simp -implicitDefEqProofs only [go_sem, vc2_blk, e] | with_reducible refine gl_ ?_
    first | rfl | exact ⟨rfl, rfl⟩ | trace_state
  obtain ⟨hi1, hi2⟩ := hi
  refine g2_ ?_
  by_cases hlt : i < l.length
  · rw [decide_eq_true (show (i : Int) < (l.length : Int) by omega)]
    refine g2_ ?_
    obtain ⟨P, hP⟩ : ∃ P, P = isortG ltU (l.take i) := ⟨_, rfl⟩
    have hPl : P.length = i := by rw [hP, isortG_len, List.length_take]; omega
    obtain ⟨x, hx⟩ : ∃ x, x = l[i] := ⟨_, rfl⟩
    have hnext : insAt ltU x P i ≤ i → putAt P x (insAt ltU x P i) ++ l.drop (i + 1) = isortG ltU (l.take (i + 1)) ++ l.drop (i + 1) := by
      intro _; rw [isortG_succ hlt, ← hP, ← hx, insG, hPl]
    have h0 : isortG ltU (l.take i) ++ l.drop i = putAt P x i ++ l.drop (i + 1) := by
      rw [← hP, hx]; have := putAt_self P hlt hPl; rwa [hPl] at this
    rw [h0]
    generalize hD : l.drop (i + 1) = rest at hnext
    have r1 : ∀ j, j ≤ i → ((putAt P x j ++ rest).map encBD)[j]? = some (encBD x) := fun j hj => by
      rw [List.getElem?_map, List.getElem?_append_left (by rw [putAt_len]; omega), putAt_at (by omega)]; rfl
    have r2 : ∀ j, (hj : j < i) → ((putAt P x (j + 1) ++ rest).map encBD)[j]? = some (encBD (P[j]'(by omega))) := fun j hj => by
      rw [List.getElem?_map, List.getElem?_append_left (by rw [putAt_len]; omega), putAt_before (by omega)]; rfl
    have r3 : ∀ j, ((putAt P x j ++ rest).map encBD).length = l.length := fun j => by
      rw [List.length_map, List.length_append, putAt_len, ← hD, List.length_drop]; omega
    have r4 : ∀ j, (hj : j < i) → ((((putAt P x (j + 1) ++ rest).map encBD).set (j + 1) (encBD (P[j]'(by omega)))).set j (encBD x)) = (putAt P x j ++ rest).map encBD := fun j hj => by
      rw [← List.map_set, ← List.map_set, List.set_append_left _ _ (by rw [putAt_len]; omega), List.set_append_left _ _ (by rw [List.length_set, putAt_len]; omega), putAt_swap (by omega)]
    refine vc2_forA (γ := Nat) (fun j => [(7, .d (.v (.int .i64 (j : Nat))))]) (fun _ => []) (fun j => [(1, .arr 5 1 ((putAt P x j ++ rest).map encBD) false), (0, .arr 32 1 L0 false)]) 2 (fun j => j ≤ i ∧ insAt ltU x P j = insAt ltU x P i) (fun j => j) i (le2_of [] ?_) ⟨Nat.le_refl _, rfl⟩ (fun j hj => ?_)
    · ((try (with_reducible refine leK2_refl ?_)); simp -implicitDefEqProofs only [go_sem, vc2_blk]; repeat ((with_reducible refine leK2_refl ?_); simp -implicitDefEqProofs only [go_sem, vc2_blk]))
      first | done | rfl | exact ⟨rfl, rfl⟩ | trace_state
    obtain ⟨hj1, hj2⟩ := hj
    cases j with
    | zero =>
      rw [← hj2] at hnext
      refine g2_ ?_
      refine .inl ⟨[(0, false), (1, false), (2, false), (3, false), (4, false), (5, false), (8, false), (9, false), (6, false), (10, false), (7, false), (11, false), (12, false), (13, false), (14, false)], by kernel_rfl, ?_⟩
      refine g2_ ?_
      rw [show decide ((0 : Int) < 0) = false from rfl]
      have hz : putAt P x 0 ++ rest = isortG ltU (l.take (i + 1)) ++ l.drop (i + 1) := by rw [hD]; exact hnext (Nat.zero_le _)
      rw [hz]
      refine g2_ ?_
      refine ⟨i + 1, le2_of [] ?_, ⟨by omega, by omega⟩, by omega⟩
      refine g2_ ?_
      rfl
    | succ j =>
      have hjP : j < P.length := by omega
      have hcc := cl8_con x P[j]
      have q1 := r1 (j + 1) hj1
      have q2 := r2 j (by omega)
      have q3 := r3 (j + 1)
      have q4 := r4 j (by omega)
      generalize q6 : (putAt P x (j + 1) ++ rest).map encBD = R at q1 q2 q3 q4
      have q5 : ∀ v, (R.set (j + 1) v)[j]? = some (encBD P[j]) := fun v => by rw [List.getElem?_set_ne (by omega)]; exact q2
      simp only [encBD] at q1 q2 q4 q5
      refine g2_ ?_
      refine .inl ⟨[(0, false), (1, false), (2, false), (3, false), (4, false), (5, false), (8, false), (9, false), (6, false), (10, false), (7, false), (11, false), (12, false), (13, false), (14, false)], by kernel_rfl, ?_⟩
      refine g2_ ?_
      rw [show decide ((0 : Int) < ((j + 1 : Nat) : Int)) = true from decide_eq_true (by omega)]
      have e1 : ((j + 1 : Nat) : Int) - 1 = (j : Nat) := by omega
      repeat first | simp -implicitDefEqProofs only [go_sem, vc2_blk, q1, q2, q3, e1, Int.toNat_natCast] | with_reducible first | refine gl_ ?_ | refine ga_ ?_ | refine gn_ ?_
      refine CallS.eq hcc ws_ (.inl ws_) ?_
      refine g2_ ?_
      by_cases hc : (x.toNat : Int) < (P[j].toNat : Int)
      · rw [decide_eq_true hc]
        have hs : insAt ltU x P (j + 1) = insAt ltU x P j := insAt_step hjP (decide_eq_true ((u8_lt _ _).1 hc))
        refine g2_ ?_
        refine .inl ⟨[(0, false), (1, false), (2, false), (3, false), (5, false), (6, false), (10, false), (11, false), (4, false), (7, false), (12, false), (8, false), (13, false), (9, false), (14, false), (15, false), (16, false), (17, false)], by kernel_rfl, ?_⟩
        repeat first | simp -implicitDefEqProofs only [go_sem, vc2_blk, q1, q2, q3, q5, e1, Int.toNat_natCast, List.contains_nil] | with_reducible first | refine gl_ ?_ | refine ga_ ?_ | refine gn_ ?_
        refine ⟨j, le2_of [] ?_, ⟨by omega, by omega⟩, by omega⟩
        rw [← q4]
        exact ws_
      · rw [decide_eq_false hc]
        have hs : insAt ltU x P (j + 1) = j + 1 := insAt_stop hjP (decide_eq_false (fun h => hc ((u8_lt _ _).2 h)))
        rw [← hj2, hs] at hnext
        rw [← q6, hnext hj1, ← hD]
        refine g2_ ?_
        refine ⟨i + 1, le2_of [] ?_, ⟨by omega, by omega⟩, by omega⟩
        refine g2_ ?_
        rfl
  · rw [decide_eq_false (show ¬ (i : Int) < (l.length : Int) by omega)]
    have e : isortG ltU (l.take i) ++ l.drop i = isortG ltU l := by
      by_cases h : l.length = 0
      · have := List.eq_nil_of_length_eq_zero h; subst this; simp
      · rw [List.take_of_length_le (by omega), List.drop_eq_nil_of_le (by omega), List.append_nil]
    rw [e]
    refine g2_ ?_
    exact hk
theorem lnk_pdq (l : List UInt8) (m : Int) (hl : l.length ≤ 12) {L0 : List (List DV)}{ρ σ nb K} (hk : K (.tup []) ⟨ρ, σ, [(1, .arr 5 1 ((isortG ltU l).map encBD) false), (0, .arr 32 1 L0 false)], 2, nb⟩) :
    CallS Tryz.prog false 114 [.rf 1 0 l.length, .v (.int .i64 0), .v (.int .i64 l.length), .v (.int .i64 m)] ⟨ρ, σ, [(1, .arr 5 1 (l.map encBD) false), (0, .arr 32 1 L0 false)], 2, nb⟩ K := by
  refine CallS.inline Ty.mixed Tryz.func114 rfl (by kernel_rfl) (by kernel_rfl) rfl [] rfl (Vc2.of ?_)
  refine g2_ ?_
  refine g2_ ?_
  refine vc2_forA (γ := Unit) (fun _ => []) (fun _ => []) (fun _ => [(1, .arr 5 1 (l.map encBD) false), (0, .arr 32 1 L0 false)]) 2 (fun _ => True) (fun _ => 0) () (le2_of [] ws_) trivial (fun i hi => ?_)
  refine g2_ ?_
  rw [show decide ((l.length : Int) - 0 ≤ 12) = true from decide_eq_true (by omega)]
  refine g2_ ?_
  refine lnk_ins l hl ?_
  refine g2_ ?_
  exact hk
theorem lnk_sort (l : List UInt8) (hl : l.length ≤ 12) {L0 : List (List DV)}{ρ σ nb K} (hk : K (.tup []) ⟨ρ, σ, [(1, .arr 5 1 ((isortG ltU l).map encBD) false), (0, .arr 32 1 L0 false)], 2, nb⟩) :
    CallS Tryz.prog false 49 [.rf 1 0 l.length] ⟨ρ, σ, [(1, .arr 5 1 (l.map encBD) false), (0, .arr 32 1 L0 false)], 2, nb⟩ K := by
  refine CallS.inline Ty.mixed Tryz.func49 rfl (by kernel_rfl) (by kernel_rfl) rfl [] rfl (Vc2.of ?_)
  refine g2_ ?_
  refine g2_ ?_
  refine ar_u64 (by omega) ?_
  refine g2_ ?_
  refine CallS.eq (blen_con l.length hl) ws_ (.inl ws_) ?_
  refine g2_ ?_
  refine lnk_pdq l _ hl ?_
  refine g2_ ?_
  exact hk
theorem lnk_cmp (l : List UInt8) (hl : l.length ≤ 1000) {L0 : List (List DV)} {ρ σ nb K} (hk : K (.rf 1 0 (cmpG l).length) ⟨ρ, σ, [(1, .arr 5 1 ((cmpG l).map encBD) false), (0, .arr 32 1 L0 false)], 2, nb⟩) :
    CallS Tryz.prog false 50 [.rf 1 0 l.length] ⟨ρ, σ, [(1, .arr 5 1 (l.map encBD) false), (0, .arr 32 1 L0 false)], 2, nb⟩ K := by
  refine CallS.inline Ty.mixed Tryz.func50 rfl (by kernel_rfl) (by kernel_rfl) rfl [.tmp 2] rfl (Vc2.of ?_)
  refine g2_ ?_
  refine g2_ ?_
  by_cases h2 : (l.length : Int) < 2
  · have e : cmpG l = l := by
      match l, h2 with
      | [], _ => rfl
      | [x], _ => rfl
      | x :: y :: r, h => simp at h; omega
    rw [e] at hk
    rw [decide_eq_true h2]
    refine g2_ ?_
    exact hk
  rw [decide_eq_false h2]
  refine g2_ ?_
  refine vc2_forA (γ := Nat) (fun j => [(3, .d (.v (.int .i64 ((j + 1 : Nat) : Int))))]) (fun _ => []) (fun j => [(1, .arr 5 1 (l.map encBD) false), (0, .arr 32 1 L0 false)]) 2 (fun j => j + 1 ≤ l.length ∧ cmpG (l.take (j + 1)) = l.take (j + 1)) (fun j => l.length - j) 0 (le2_of [] ?_) ⟨by omega, ?_⟩ (fun j hj => ?_)
  · refine g2_ ?_
    first | done | rfl | exact ⟨rfl, rfl⟩ | trace_state
  · cases l with
    | nil => simp at h2
    | cons x r => rfl
  obtain ⟨hj1, hj2⟩ := hj
  refine g2_ ?_
  by_cases h3 : j + 1 < l.length
  · rw [decide_eq_true (show ((j + 1 : Nat) : Int) < (l.length : Int) by omega)]
    have g1 : (l.map encBD)[j + 1]? = some [.v (.int .u8 l[j + 1].toNat)] := by rw [List.getElem?_map, List.getElem?_eq_getElem h3]; rfl
    have g2 : (l.map encBD)[j]? = some [.v (.int .u8 (l[j]'(by omega)).toNat)] := by rw [List.getElem?_map, List.getElem?_eq_getElem (by omega)]; rfl
    have e1 : ((j + 1 : Nat) : Int) - 1 = (j : Nat) := by omega
    refine g2_ ?_
    refine .inl ⟨[(0, false), (1, false), (4, false), (5, false), (2, false), (6, false), (3, false), (7, false), (8, false), (9, false)], by kernel_rfl, ?_⟩
    repeat first | simp -implicitDefEqProofs only [go_sem, vc2_blk, g1, g2, e1, List.length_map] | with_reducible first | refine gl_ ?_ | refine ga_ ?_ | refine gn_ ?_
    by_cases h4 : l[j + 1] = l[j]
    · rw [show ((l[j + 1].toNat : Int) == (l[j].toNat : Int)) = true by rw [h4]; exact beq_self_eq_true _]
      repeat first | simp -implicitDefEqProofs only [go_sem, vc2_blk, List.length_map] | with_reducible first | refine gl_ ?_ | refine ga_ ?_ | refine gn_ ?_
      have b0 : cmpG (l.take (j + 1 + 0 + 1)) = l.take (j + 1) := (cmpG_eq h3 h4).trans hj2
      have b1 : cRow l (j + 1 + 0 + 1) = l := by rw [cRow, b0, List.length_take, Nat.min_eq_left (by omega), List.take_append_drop]
      have b2 : (cmpG (l.take (j + 1 + 0 + 1))).length = j + 1 := by rw [b0, List.length_take]; omega
      refine vc2_forA (γ := Nat) (fun k => [(5, .d (.v (.int .i64 ((k + 1 : Nat) : Int)))), (3, .d (.v (.int .i64 (cmpG (l.take (j + 1 + k + 1))).length)))]) (fun _ => []) (fun k => [(1, .arr 5 1 ((cRow l (j + 1 + k + 1)).map encBD) false), (0, .arr 32 1 L0 false)]) 2 (fun k => j + 1 + k + 1 ≤ l.length ∧ (cmpG (l.take (j + 1 + k + 1))).length ≤ j + 1 + k) (fun k => l.length - k) 0 (le2_of [] ?_) ⟨by omega, by rw [b2]; omega⟩ (fun k hk2 => ?_)
      · repeat first | simp -implicitDefEqProofs only [go_sem, vc2_blk, b1, b2] | with_reducible refine gl_ ?_
        first | done | rfl | exact ⟨rfl, rfl⟩ | trace_state
      obtain ⟨hk1, hk3⟩ := hk2
      have hRl : ((cRow l (j + 1 + k + 1)).map encBD).length = l.length := by rw [List.length_map, cRow_len hk1]
      refine g2_ ?_
      by_cases h5 : k + 1 < l.length - (j + 1)
      · rw [decide_eq_true (show ((k + 1 : Nat) : Int) < ((l.length - (j + 1) : Nat) : Int) by omega)]
        have hq : j + 1 + k + 1 < l.length := by omega
        have g3 : ((cRow l (j + 1 + k + 1)).map encBD)[j + 1 + (k + 1)]? = some [.v (.int .u8 l[j + 1 + k + 1].toNat)] := by rw [List.getElem?_map, cRow_at (by omega), List.getElem?_eq_getElem (by omega)]; rfl
        have g4 : ((cRow l (j + 1 + k + 1)).map encBD)[j + 1 + k]? = some [.v (.int .u8 (l[j + 1 + k]'(by omega)).toNat)] := by rw [List.getElem?_map, cRow_at hk3, List.getElem?_eq_getElem (by omega)]; rfl
        have e5 : ((k + 1 : Nat) : Int) - 1 = (k : Nat) := by omega
        have hset : l[j + 1 + k + 1] ≠ l[j + 1 + k] → ((cRow l (j + 1 + k + 1)).map encBD).set (cmpG (l.take (j + 1 + k + 1))).length [.v (.int .u8 l[j + 1 + k + 1].toNat)] = (cRow l (j + 1 + k + 1 + 1)).map encBD := fun h => by
          rw [← cRow_set hq h (by omega), List.map_set]; rfl
        have hcn : l[j + 1 + k + 1] ≠ l[j + 1 + k] → (cmpG (l.take (j + 1 + k + 1 + 1))).length = (cmpG (l.take (j + 1 + k + 1))).length + 1 := fun h => by rw [cmpG_ne hq h, List.length_append]; rfl
        have hce : l[j + 1 + k + 1] = l[j + 1 + k] → cmpG (l.take (j + 1 + k + 1 + 1)) = cmpG (l.take (j + 1 + k + 1)) := cmpG_eq hq
        have hcr : l[j + 1 + k + 1] = l[j + 1 + k] → cRow l (j + 1 + k + 1 + 1) = cRow l (j + 1 + k + 1) := fun h => by rw [cRow, cRow, hce h]
        refine g2_ ?_
        refine .inl ⟨[(0, false), (1, false), (4, false), (5, false), (2, false), (6, false), (3, false), (7, false), (8, false), (9, false)], by kernel_rfl, ?_⟩
        repeat first | simp -implicitDefEqProofs only [go_sem, vc2_blk, g3, g4, e5, List.length_map, hRl] | with_reducible first | refine gl_ ?_ | refine ga_ ?_ | refine gn_ ?_
        by_cases h6 : l[j + 1 + k + 1] = l[j + 1 + k]
        · rw [show ((l[j + 1 + k + 1].toNat : Int) != (l[j + 1 + k].toNat : Int)) = false by rw [h6]; exact bne_self_eq_false _]
          refine g2_ ?_
          refine ⟨k + 1, le2_of [] ?_, ⟨by omega, by rw [show j + 1 + (k + 1) + 1 = j + 1 + k + 1 + 1 by omega, hce h6]; omega⟩, by omega⟩
          rw [show j + 1 + (k + 1) + 1 = j + 1 + k + 1 + 1 by omega, hce h6, hcr h6]
          refine g2_ ?_
          rfl
        · rw [show ((l[j + 1 + k + 1].toNat : Int) != (l[j + 1 + k].toNat : Int)) = true from bne_iff_ne.2 (fun h => h6 (UInt8.toNat_inj.1 (by omega)))]
          have hcl : (cmpG (l.take (j + 1 + k + 1))).length < l.length := by omega
          have gC : ((cRow l (j + 1 + k + 1)).map encBD)[(cmpG (l.take (j + 1 + k + 1))).length]? = some [.v (.int .u8 l[(cmpG (l.take (j + 1 + k + 1))).length].toNat)] := by rw [List.getElem?_map, cRow_at (Nat.le_refl _), List.getElem?_eq_getElem hcl]; rfl
          have hs6 := hset h6
          have hc6 := hcn h6
          repeat first | simp -implicitDefEqProofs only [go_sem, vc2_blk, g3, g4, gC, e5, List.length_map, hRl, List.contains_nil] | with_reducible first | refine gl_ ?_ | refine ga_ ?_ | refine gn_ ?_
          refine ⟨k + 1, le2_of [] ?_, ⟨by omega, by rw [show j + 1 + (k + 1) + 1 = j + 1 + k + 1 + 1 by omega, hc6]; omega⟩, by omega⟩
          rw [show j + 1 + (k + 1) + 1 = j + 1 + k + 1 + 1 by omega, ← hs6, hc6]
          refine g2_ ?_
          exact ⟨rfl, rfl, rfl, rfl⟩
      · rw [decide_eq_false (show ¬ ((k + 1 : Nat) : Int) < ((l.length - (j + 1) : Nat) : Int) by omega)]
        have eN : l.take (j + 1 + k + 1) = l := List.take_of_length_le (by omega)
        have eR : (cRow l (j + 1 + k + 1)).map encBD = (cmpG l ++ l.drop (cmpG l).length).map encBD := by rw [cRow, eN]
        have eL : (cmpG l).length < l.length := by rw [eN] at hk3; omega
        have eT : List.take (cmpG l).length ((cmpG l ++ l.drop (cmpG l).length).map encBD) = (cmpG l).map encBD := by rw [← List.map_take, List.take_left]
        rw [eN, eR]
        rw [eR] at hRl
        repeat first | simp -implicitDefEqProofs only [go_sem, vc2_blk, hRl] | with_reducible first | refine gl_ ?_ | refine ga_ ?_ | refine gn_ ?_
        rw [Nat.sub_zero, eT]
        exact hk
    · rw [show ((l[j + 1].toNat : Int) == (l[j].toNat : Int)) = false from beq_eq_false_iff_ne.2 (fun h => h4 (UInt8.toNat_inj.1 (by omega)))]
      refine g2_ ?_
      refine ⟨j + 1, le2_of [] ?_, ⟨by omega, ?_⟩, by omega⟩
      · refine g2_ ?_
        rfl
      · rw [cmpG_ne h3 h4, hj2]
        rw [List.take_add_one (i := j + 1), List.getElem?_eq_getElem h3]; rfl
  · rw [decide_eq_false (show ¬ ((j + 1 : Nat) : Int) < (l.length : Int) by omega)]
    have e : cmpG l = l := by
      have := hj2
      rw [List.take_of_length_le (by omega)] at this
      exact this
    rw [e] at hk
    refine g2_ ?_
    exact hk
theorem links_con (p : GPeer) (h1 : p.view.length ≤ 300) (h2 : p.near.length ≤ 300) (h4 : p.ring.succ.filter.length ≤ 1000) (h5 : p.ring.pred.filter.length ≤ 1000) (h12 : (uLinks p).length ≤ 12) : Con2 Tryz.prog 14 [.agg (encP p)] (· = plR (.fz 1 ((nLinks p).map encBD))) := by
  refine Con2.ofEmb ?_
  have hr := rlist_con p.ring h4 h5
  have hrl := rList_len p.ring
  have el : uLinks p = [p.view, p.near, rList p.ring].flatten.map (·.node) := rfl
  unfold nLinks
  generalize rList p.ring = B at hr hrl el
  obtain ⟨L, hL⟩ : ∃ L : List (List GDesc), L = [p.view, p.near, B] := ⟨_, rfl⟩
  rw [← hL] at el
  have hLl : L.length = 3 := by rw [hL]; rfl
  have hge : ∀ k (hk : k < 3), ([[fzD p.view], [fzD p.near], [fzD B]] : List (List DV))[k]? = some [fzD (L[k]'(by omega))] := fun k hk => by
    subst hL
    match k, hk with
    | 0, _ => rfl
    | 1, _ => rfl
    | 2, _ => rfl
  have hll : ∀ k (hk : k < 3), (L[k]'(by omega)).length ≤ 300 := fun k hk => by
    subst hL
    match k, hk with
    | 0, _ => exact h1
    | 1, _ => exact h2
    | 2, _ => exact Nat.le_trans hrl (by omega)
  refine con2_of Ty.mixed Tryz.func14 rfl (by kernel_rfl) (by kernel_rfl) rfl [.tmp 2] rfl ?_
  refine g2_ ?_
  refine g2_ ?_
  refine .inl ⟨[(0, false), (2, false), (4, false), (9, false), (1, false), (3, false), (5, false), (6, true), (7, false), (8, false)], by kernel_rfl, ?_⟩
  refine g2_ ?_
  refine CallS.eq hr ws_ (.inl ws_) ?_
  refine g2_ ?_
  refine vc2_rangeA 3 (fun k => [(3, .d (.rf 1 0 ((L.take k).flatten.map (·.node)).length))]) (fun _ => []) (fun k => [(1, .arr 5 1 (((L.take k).flatten.map (·.node)).map encBD) false), (0, .arr 32 1 [[fzD p.view], [fzD p.near], [fzD B]] false)]) 2 (fun k => True) (le2_of [(1, .nil 1), (0, .to 0)] ?_) trivial (fun g k => by first | rfl | ((try (with_reducible refine leK2_refl ?_)); simp -implicitDefEqProofs only [go_sem, vc2_blk]; repeat ((with_reducible refine leK2_refl ?_); simp -implicitDefEqProofs only [go_sem, vc2_blk]))) (by omega) (fun g => by simp -implicitDefEqProofs only [go_sem, vc2_blk]) (fun k hk hF => ?_) (fun hF => ?_)
  · repeat first | simp -implicitDefEqProofs only [go_sem, vc2_blk, List.take_zero, List.flatten_nil] | with_reducible refine gl_ ?_
    first | done | rfl | exact ⟨rfl, rfl⟩ | trace_state
  · have hg := hge k hk
    have hl := hll k hk
    have hsn : (L.take (k + 1)).flatten = (L.take k).flatten ++ L[k] := by rw [List.take_add_one, List.getElem?_eq_getElem (by omega), List.flatten_append]; simp
    generalize L[k] = lk at hg hl hsn
    have hfl : (L.take k).flatten.length ≤ 900 := by
      rw [hL]
      match k, hk with
      | 0, _ => simp
      | 1, _ => simp; omega
      | 2, _ => simp; omega
    simp only [fzD] at hg
    repeat first | simp -implicitDefEqProofs only [go_sem, vc2_blk, hg] | with_reducible first | refine gl_ ?_ | refine ga_ ?_ | refine gn_ ?_
    refine vc2_rangeA lk.length (fun j => [(3, .d (.rf 1 0 (((L.take k).flatten ++ lk.take j).map (·.node)).length))]) (fun _ => []) (fun j => [(1, .arr 5 1 ((((L.take k).flatten ++ lk.take j).map (·.node)).map encBD) false), (0, .arr 32 1 [[fzD p.view], [fzD p.near], [fzD B]] false)]) 2 (fun j => True) (le2_of [(1, .to 1), (0, .to 0)] ?_) trivial (fun g j => by first | rfl | ((try (with_reducible refine leK2_refl ?_)); simp -implicitDefEqProofs only [go_sem, vc2_blk]; repeat ((with_reducible refine leK2_refl ?_); simp -implicitDefEqProofs only [go_sem, vc2_blk]))) (by omega) (fun g => by simp -implicitDefEqProofs only [go_sem, vc2_blk]) (fun j hj _ => ?_) (fun _ => ?_)
    · repeat first | simp -implicitDefEqProofs only [go_sem, vc2_blk, List.take_zero, List.append_nil] | with_reducible refine gl_ ?_
      first | done | rfl | exact ⟨rfl, rfl⟩ | trace_state
    · have hs2 : (L.take k).flatten ++ lk.take (j + 1) = ((L.take k).flatten ++ lk.take j) ++ [lk[j]] := by rw [List.take_add_one, List.getElem?_eq_getElem hj, List.append_assoc]; rfl
      have hfl2 : ((L.take k).flatten ++ lk.take j).length ≤ 1200 := by rw [List.length_append, List.length_take]; omega
      generalize (L.take k).flatten ++ lk.take j = A at hs2 hfl2
      repeat first | simp -implicitDefEqProofs only [go_sem, vc2_blk, mapE_get hj] | with_reducible first | refine gl_ ?_ | refine ga_ ?_ | refine gn_ ?_
      generalize lk[j] = d at hs2
      repeat first | simp -implicitDefEqProofs only [go_sem, vc2_blk, List.length_map] | with_reducible first | refine gl_ ?_ | refine ga_ ?_ | refine gn_ ?_
      refine ⟨j + 1, le2_of [(1, .to 3), (0, .to 0)] ?_, rfl⟩
      repeat first | simp -implicitDefEqProofs only [go_sem, vc2_blk, hs2, List.length_append, List.map_append, List.map_cons, List.map_nil] | with_reducible refine gl_ ?_
    · rw [List.take_of_length_le (Nat.le_refl lk.length), ← hsn]
      refine g2_ ?_
      refine ⟨k + 1, le2_of [(1, .to 1), (0, .to 0)] ?_, rfl⟩
      exact ws_
  · rw [List.take_of_length_le (show L.length ≤ 3 by omega), ← el]
    refine g2_ ?_
    refine lnk_sort (uLinks p) h12 ?_
    have h13 : (isortG ltU (uLinks p)).length = (uLinks p).length := isortG_len
    refine g2_ ?_
    rw [← h13]
    refine lnk_cmp (isortG ltU (uLinks p)) (by omega) ?_
    refine g2_ ?_
    refine ret_emb ?_ rfl
    exact ws_
end Go.Proofs.YtlaefellhnkfbaaGreat.V

set_option maxRecDepth 10000
set_option maxHeartbeats 4000000
namespace Go.Proofs.YtlaefellhnkfbaaGreat.V
open Go.Eng
def plainC (n : Int) : GConf := ⟨n, [⟨0, 9⟩], 3, 2, 2, 2, 3, 8, 4, 3, 3, 4, 60, 200, 100⟩
theorem okH_meet {c : GConf} {p : GPeer} {l : List GDesc} (hp : okH p) (hl : okDs l) (hl2 : ∀ d ∈ l, okF d) : okH (pMeet c p l) :=
  ⟨okP_meet hp.g hl hl2, hp.rs, ⟨Nat.le_trans (List.length_filter_le _ _) hp.v8.1, fun d hd => hp.v8.2 d (List.mem_filter.1 hd).1⟩, ⟨fun d hd => hp.vw.1 d (List.mem_filter.1 hd).1, hp.vw.2.filter _⟩⟩
theorem okH_new (c : GConf) (node : UInt8) : okH (pNew c node) := by
  have h := okP_new c node
  refine ⟨⟨h, fun s hs => absurd (show s ∈ ([] : List GSpan) from hs) List.not_mem_nil, fun d hd => absurd (show d ∈ ([] : List GDesc) from hd) List.not_mem_nil, fun d hd => absurd (show d ∈ ([] : List GDesc) from hd) List.not_mem_nil, okF_z, okF_z, ?_⟩, ?_, ⟨Nat.zero_le _, fun d hd => absurd (show d ∈ ([] : List GDesc) from hd) List.not_mem_nil⟩, vw_nil _⟩
  · simp only [pNew, List.length_replicate]; omega
  · refine ⟨?_, fun r hr => ?_⟩
    · simp only [pNew, List.length_replicate]; omega
    · simp only [pNew, List.mem_replicate] at hr
      rw [hr.2, blankK_len]; omega
theorem okH_inc {p : GPeer} (h : okH p) {i : UInt16} {b : Bool} {t : List GMember} (ht : t.length ≤ 12) : okH { p with inc := i, up := b, table := t } :=
  ⟨⟨⟨h.g.ok.filter, h.g.ok.view, h.g.ok.near, h.g.ok.succ, h.g.ok.pred, h.g.ok.sent, by show t.length ≤ 1000; omega, h.g.ok.heard, h.g.ok.rows, h.g.ok.reports, h.g.ok.evs, h.g.ok.pulls⟩, h.g.filter, h.g.view, h.g.near, h.g.succ, h.g.pred, ht⟩, h.rs, h.v8, h.vw⟩
theorem okH_start (c : GConf) (p : GPeer) (hp : okH p) : okH (pStart c p).1 := by
  unfold pStart
  split
  · exact hp
  · split
    · exact hp
    · refine okH_inc (okH_new c p.node) ?_
      rw [List.length_set]
      simp only [pNew, List.length_replicate]; omega
attribute [local go_sem] zDesc encS encDD fzD plR rowR encK encM encRw encC encP encEv encA z8 z16 z32 z64 encMg encRing encI encW List.map_cons List.map_nil
theorem plain_con (n : Int) : Con2 Tryz.prog 42 [.v (.int .i64 n)] (· = plR (.agg (encC (plainC n)))) := by
  refine Con2.ofEmb ?_
  refine con2_of Ty.mixed Tryz.func42 rfl (by kernel_rfl) (by kernel_rfl) rfl [.cell 2 26] rfl ?_
  refine g2_ ?_
  refine g2_ ?_
  refine ret_emb ?_ rfl
  repeat first | simp -implicitDefEqProofs only [go_sem, vc2_blk, plainC] | with_reducible refine gl_ ?_
  rfl
def awC : GConf := plainC 2
def awA : GPeer := (pStart awC (pNew awC 0)).1
def awB : GPeer := (pStart awC (pNew awC 1)).1
def awM : GMsg := { pMsg awB 1 0 with list := [pSelf awB] }
def awA1 : GPeer := (tJoin awC awA awM).1
def awW : GMsg := ⟨2, 0, 1, 1, [⟨0, 1, 0, []⟩], [⟨1, 1, 0⟩, ⟨1, 1, 0⟩], zEvt, 0, ⟨0, 0, 0⟩, [], []⟩
def awB1 : GPeer := (tWelcome awC awB awW).1
def awQ : GPeer := pMeet awC (pAged awC awB1) []
def awS : GPeer := (kAsk awC awQ [1, 2, 3]).1
def awL : List UInt8 := nLinks awS
theorem aw1 : pStart awC (pNew awC 0) = (awA, 0) := by kernel_rfl
theorem aw2 : pStart awC (pNew awC 1) = (awB, 0) := by kernel_rfl
theorem aw3 : awA.up = true := by kernel_rfl
theorem aw4 : awB.up = true := by kernel_rfl
theorem aw5 : pJoin awC awB 0 = ([awM], 0) := by kernel_rfl
theorem aw6 : (tJoin awC awA awM).2 = [awW] := by kernel_rfl
theorem aw7 : awA1.view = [⟨1, 1, 0, []⟩] := by kernel_rfl
theorem aw8 : (tWelcome awC awB awW).2 = [] := by kernel_rfl
theorem aw10 : awQ.view = [⟨0, 1, 1, []⟩] := by kernel_rfl
theorem aw11 : awL = [0] := by kernel_rfl
theorem aw12 : awQ.ring.hs = true := by kernel_rfl
theorem aw13 : (pTick awC awB1 [1, 2, 3] awL).2.map (fun m => (m.kind, m.to, m.frm, m.inc)) = [(3, 0, 1, 1), (5, 0, 1, 1), (6, 0, 1, 1), (8, 0, 1, 1)] := by kernel_rfl
theorem aw14 : cAsk2 awQ.view (pSelf awQ) awC.swap [1, 2, 3] = (0, [⟨1, 1, 0, []⟩], true) := by kernel_rfl
end Go.Proofs.YtlaefellhnkfbaaGreat.V

set_option maxRecDepth 10000
set_option maxHeartbeats 4000000
namespace Go.Proofs.YtlaefellhnkfbaaGreat.V
open Go.Eng
attribute [local go_sem] zDesc encS encDD fzD plR rowR encK encM encRw encC encP encEv encA z8 z16 z32 z64 encMg encRing encI encW List.map_cons List.map_nil
theorem leave_con (c : GConf) (p : GPeer) (L : List UInt8) (hp : okP p) (hu : p.up = true) (hL : Con2 Tryz.prog 14 [.agg (encP p)] (· = plR (.fz 1 (L.map encBD)))) (hLn : L.length ≤ 1000) :
    Con2 Tryz.prog 13 [.agg (encC c), .agg (encP p)] (· = plR (.tup [.agg (encP (pDown c p)), .fz 17 ((L.map (pMsg p 9)).map encMg), .v (.int .i64 0)])) := by
  refine Con2.ofEmb ?_
  have kd := pdown_con c p
  have km := fun to => pmsg_con p 9 to
  obtain ⟨f, hf⟩ : ∃ f : UInt8 → GMsg, f = pMsg p 9 := ⟨_, rfl⟩
  rw [← hf] at km ⊢
  generalize pDown c p = D at kd ⊢
  refine con2_of Ty.mixed Tryz.func13 rfl (by kernel_rfl) (by kernel_rfl) rfl [.cell 4 49, .tmp 5, .tmp 6] rfl ?_
  ((try (with_reducible refine leK2_refl ?_)); simp -implicitDefEqProofs only [go_sem, vc2_blk]; repeat ((with_reducible refine leK2_refl ?_); simp -implicitDefEqProofs only [go_sem, vc2_blk]))
  ((try (with_reducible refine leK2_refl ?_)); (try simp -implicitDefEqProofs only [go_sem, vc2_blk]); repeat ((first | (with_reducible refine leK2_refl ?_) | (with_reducible refine ar_i64 (by omega) ?_) | (with_reducible refine And.intro (by omega) ?_)); (try simp -implicitDefEqProofs only [go_sem, vc2_blk])))
  rw [hu]
  ((try (with_reducible refine leK2_refl ?_)); (try simp -implicitDefEqProofs only [go_sem, vc2_blk]); repeat ((first | (with_reducible refine leK2_refl ?_) | (with_reducible refine ar_i64 (by omega) ?_) | (with_reducible refine And.intro (by omega) ?_)); (try simp -implicitDefEqProofs only [go_sem, vc2_blk])))
  refine CallS.eqW hL (by simp -implicitDefEqProofs only [go_sem, vc2_blk, hu]) (.inl (by simp -implicitDefEqProofs only [go_sem, vc2_blk])) ?_
  repeat first | simp -implicitDefEqProofs only [go_sem, vc2_blk, List.length_map] | with_reducible first | refine gl_ ?_ | refine ga_ ?_ | refine gn_ ?_
  refine vc2_rangeA L.length (fun k => [(7, .d (.rf 0 0 ((L.take k).map f).length))]) (fun _ => []) (fun k => [(0, .arr 67 17 (((L.take k).map f).map encMg) false)]) 1 (fun _ => True) (le2_of [(0, .nil 17)] ?_) trivial (fun g k => by simp -implicitDefEqProofs only [go_sem, vc2_blk]) (by omega) (fun g => by simp -implicitDefEqProofs only [go_sem, vc2_blk]) (fun k hk _ => ?_) (fun _ => ?_)
  · repeat first | simp -implicitDefEqProofs only [go_sem, vc2_blk, List.take_zero] | with_reducible refine gl_ ?_
    first | done | rfl | exact ⟨rfl, rfl⟩ | trace_state
  · have hg : (L.map encBD)[k]? = some [.v (.int .u8 L[k].toNat)] := by rw [List.getElem?_map, List.getElem?_eq_getElem hk]; rfl
    have hsn : (L.take (k + 1)).map f = (L.take k).map f ++ [f L[k]] := by rw [List.take_add_one, List.getElem?_eq_getElem hk, List.map_append]; rfl
    have hsl : (L.take (k + 1)).length = ((L.take k).map f).length + 1 := by have := congrArg List.length hsn; rw [List.length_map, List.length_append] at this; exact this
    have hsl2 : ((L.take k).map f).length ≤ 1000 := by rw [List.length_map, List.length_take]; omega
    have kk := km L[k]
    generalize (L.take k).map f = A at hsn hsl hsl2
    generalize f L[k] = x at hsn kk
    repeat first | simp -implicitDefEqProofs only [go_sem, vc2_blk, hg] | with_reducible first | refine gl_ ?_ | refine ga_ ?_ | refine gn_ ?_
    refine CallS.eqW kk (by simp -implicitDefEqProofs only [go_sem, vc2_blk, hu]) (.inl (by simp -implicitDefEqProofs only [go_sem, vc2_blk])) ?_
    repeat first | simp -implicitDefEqProofs only [go_sem, vc2_blk, List.length_map] | with_reducible first | refine gl_ ?_ | refine ga_ ?_ | refine gn_ ?_
    refine ⟨k + 1, le2_of [(0, .to 2)] ?_, rfl⟩
    repeat first | simp -implicitDefEqProofs only [go_sem, vc2_blk, hsn, hsl, List.map_append, List.length_append] | with_reducible refine gl_ ?_
    trace_state
  · rw [List.take_of_length_le (Nat.le_refl L.length)]
    have hsl3 : (L.map f).length ≤ 1000 := by rw [List.length_map]; omega
    generalize L.map f = A at hsl3 ⊢
    ((try (with_reducible refine leK2_refl ?_)); (try simp -implicitDefEqProofs only [go_sem, vc2_blk]); repeat ((first | (with_reducible refine leK2_refl ?_) | (with_reducible refine ar_i64 (by omega) ?_) | (with_reducible refine And.intro (by omega) ?_)); (try simp -implicitDefEqProofs only [go_sem, vc2_blk])))
    refine CallS.eqW kd (by simp -implicitDefEqProofs only [go_sem, vc2_blk, hu]) (.inl (by simp -implicitDefEqProofs only [go_sem, vc2_blk])) ?_
    ((try (with_reducible refine leK2_refl ?_)); (try simp -implicitDefEqProofs only [go_sem, vc2_blk]); repeat ((first | (with_reducible refine leK2_refl ?_) | (with_reducible refine ar_i64 (by omega) ?_) | (with_reducible refine And.intro (by omega) ?_)); (try simp -implicitDefEqProofs only [go_sem, vc2_blk])))
    refine ret_emb ?_ rfl
    ((try (with_reducible refine leK2_refl ?_)); simp -implicitDefEqProofs only [go_sem, vc2_blk]; repeat ((with_reducible refine leK2_refl ?_); simp -implicitDefEqProofs only [go_sem, vc2_blk]))
    trace_state
theorem take_unheard (c : GConf) (p : GPeer) (m : GMsg) (dr : List UInt32) (hp : okP p) (hr : okRs p.reports) (hu : p.up = true) (hto : m.to = p.node) (hh : pHear c p m.frm m.inc = (p, false)) :
    Con2 Tryz.prog 12 [.agg (encC c), .agg (encP p), .agg (encMg m), .fz 1 (dr.map enc32D)] (· = plR (.tup [.agg (encP p), .fz 17 []])) := by
  refine Con2.ofEmb ?_
  have hf := pfresh_con p hp
  have k := phear_con c p m.frm m.inc hp hr
  rw [hh] at k
  refine con2_of Ty.mixed Tryz.func12 rfl (by kernel_rfl) (by kernel_rfl) rfl [.cell 8 49, .tmp 9] rfl ?_
  refine g2_ ?_
  refine g2_ ?_
  refine CallS.eqW hf ws_ (.inl ws_) ?_
  refine g2_ ?_
  rw [hu, hto]
  repeat first | simp -implicitDefEqProofs only [go_sem, vc2_blk, bne_self_eq_false] | with_reducible first | refine gl_ ?_ | refine ga_ ?_ | refine gn_ ?_
  refine CallS.eqW k (by simp -implicitDefEqProofs only [go_sem, vc2_blk, hu, hto]) (.inl ws_) ?_
  refine g2_ ?_
  refine ret_emb ?_ rfl
  repeat first | simp -implicitDefEqProofs only [go_sem, vc2_blk, hu] | with_reducible refine gl_ ?_
end Go.Proofs.YtlaefellhnkfbaaGreat.V

set_option maxRecDepth 10000
namespace Go.Proofs.YtlaefellhnkfbaaGreat.V
open Go.Eng
def d01 : GDesc := ⟨0, 1, 0, []⟩
def d11 : GDesc := ⟨1, 1, 0, []⟩
theorem nearestR_one (far : UInt16 → UInt16 → UInt16) (here : UInt16) (dom : List GSpan) (d : GDesc) : nearestR far here dom [d] = d := by
  have h0 : nearK far here dom [d] 0 = (0, far here (rPlace dom d)) := rfl
  have h : nearK far here dom [d] 1 = (0, far here (rPlace dom d)) := by
    rw [nearK_succ (k := 0) (by simp), h0]
    exact if_neg (by simp)
  show [d].getD (nearK far here dom [d] 1).1 zDesc = d
  rw [h]; rfl
theorem rChoose_one {dom : List GSpan} {self d : GDesc} {ls : List (List GDesc)} (h : nUnion self.node ls = [d]) : rChoose dom self ls = ⟨true, true, d, d⟩ := by
  unfold rChoose
  rw [h, if_neg (by simp), nearestR_one, nearestR_one]
theorem rChoose_nil {dom : List GSpan} {self : GDesc} {ls : List (List GDesc)} (h : nUnion self.node ls = []) : rChoose dom self ls = ⟨false, false, zDesc, zDesc⟩ := by
  unfold rChoose
  rw [if_pos h]
theorem fNear_nil {own : List GSpan} {self : UInt8} {room : Int} {ls : List (List GDesc)} (h : fScored own (nUnion self ls) = []) : fNear own self room ls = [] := by
  unfold fNear
  split
  · rfl
  · rw [h]
    simp [isortG]
theorem pMeet_one {c : GConf} {p : GPeer} {d : GDesc} (hv : p.view = [d]) (hc : dCur p d = true) (hn : p.near = []) (hr : p.ring = ⟨false, false, zDesc, zDesc⟩) (hu : nUnion p.node [[d], [], [], []] = [d]) (hs : fScored p.filter [d] = []) :
    pMeet c p [] = { p with view := [d], near := [], ring := ⟨true, true, d, d⟩ } := by
  have e1 : pCur p p.view = [d] := by rw [hv]; simp [pCur, hc]
  have e2 : pCur p p.near = [] := by rw [hn]; rfl
  have e3 : rList (rCur p p.ring) = [] := by rw [hr]; rfl
  have e4 : pUse c p [] = [] := rfl
  have e5 : fNear p.filter p.node c.near [[d], [], [], []] = [] := fNear_nil (by rw [hu]; exact hs)
  have e6 : rChoose c.schema (pSelf p) [[d], [], [], []] = ⟨true, true, d, d⟩ := rChoose_one hu
  unfold pMeet
  simp only [e1, e2, e3, e4, e5, e6]
theorem pMeet_none {c : GConf} {p : GPeer} {d : GDesc} (hv : p.view = [d]) (hc : dCur p d = false) (hn : p.near = []) (hr : p.ring = ⟨true, true, d, d⟩) :
    pMeet c p [] = { p with view := [], near := [], ring := ⟨false, false, zDesc, zDesc⟩ } := by
  have e1 : pCur p p.view = [] := by rw [hv]; simp [pCur, hc]
  have e2 : pCur p p.near = [] := by rw [hn]; rfl
  have e3 : rList (rCur p p.ring) = [] := by rw [hr]; simp [rCur, hc, rList]
  have e4 : pUse c p [] = [] := rfl
  have hu : ∀ self : UInt8, nUnion self [[], [], [], []] = [] := fun self => by
    show (uFold self zL []).filter _ = []
    exact filter_nil_of (fun x hx => by rw [(List.mem_replicate.1 (show x ∈ List.replicate 256 zDesc from hx)).2]; rfl)
  have e5 : fNear p.filter p.node c.near [[], [], [], []] = [] := fNear_nil (by rw [hu]; rfl)
  have e6 : rChoose c.schema (pSelf p) [[], [], [], []] = ⟨false, false, zDesc, zDesc⟩ := rChoose_nil (hu _)
  unfold pMeet
  simp only [e1, e2, e3, e4, e5, e6]
theorem admit_one {d : GDesc} {self : UInt8} {room : Int} (h1 : d.node ≠ self) (h2 : d.inc ≠ 0) (h3 : 0 < room) : sAdmit [] d self room = [d] := by
  have h : dPut [] d self room = ([d], true) := by
    unfold dPut
    rw [if_neg (by simp [h1, h2])]
    show (if room ≤ (0 : Int) then _ else _) = _
    rw [if_neg (by omega)]; rfl
  unfold sAdmit
  rw [h]; rfl
theorem fill_one {d : GDesc} {self : UInt8} {room : Int} (h1 : d.node ≠ self) (h2 : d.inc ≠ 0) (h3 : 0 < room) : sFill self room [] [d] = [d] := by
  have h : dPut [] d self room = ([d], true) := by
    unfold dPut
    rw [if_neg (by simp [h1, h2])]
    show (if room ≤ (0 : Int) then _ else _) = _
    rw [if_neg (by omega)]; rfl
  rw [sFill, h]; rfl
structure Tab (c : GConf) (p : GPeer) (a b : GMember) : Prop where
  len : (p.table.length : Int) = c.nodes
  a : p.table[0]? = some a
  b : p.table[1]? = some b
theorem hear_yes {c : GConf} {p : GPeer} {node : UInt8} {inc : UInt16} {m : GMember} (h1 : (node.toNat : Int) < c.nodes) (hl : (p.table.length : Int) = c.nodes) (h2 : node ≠ p.node) (h3 : inc ≠ 0) (hm : p.table[node.toNat]? = some m) (h4 : ¬ inc < m.inc) (h5 : ¬ (inc = m.inc ∧ m.state = 3)) :
    pHear c p node inc = ({ p with table := tHeard p.table node inc, reports := if m.inc < inc then rForget p.reports node else p.reports }, true) := by
  unfold pHear
  rw [if_neg (by simp [h2, h3]; omega), hm]
  simp only
  rw [if_neg (by simp only [not_or]; exact ⟨h4, h5⟩)]
theorem hear_no {c : GConf} {p : GPeer} {node : UInt8} {inc : UInt16} {m : GMember} (hm : p.table[node.toNat]? = some m) (h5 : inc = m.inc ∧ m.state = 3) : pHear c p node inc = (p, false) := by
  unfold pHear
  split
  · rfl
  · rw [hm]
    simp only
    rw [if_pos (.inr h5)]
theorem heard_get {l : List GMember} {i : UInt8} {inc : UInt16} {k : Nat} : (tHeard l i inc)[k]? = (l[k]?).map (if i.toNat = k then mHeard inc else id) := by
  unfold tHeard
  rw [List.getElem?_modify]
  cases l[k]? <;> (split <;> rfl)
structure Sh (c : GConf) (p : GPeer) (nd : UInt8) (i : UInt16) (v : List GDesc) (r : GRing) (a b : GMember) : Prop where
  h : okH p
  node : p.node = nd
  inc : p.inc = i
  up : p.up = true
  filter : p.filter = []
  view : p.view = v
  near : p.near = []
  ring : p.ring = r
  tab : Tab c p a b
def zR : GRing := ⟨false, false, zDesc, zDesc⟩
theorem new_len {c : GConf} (h2 : 2 ≤ c.nodes) (h12 : c.nodes ≤ 12) (nd : UInt8) : ((pNew c nd).table.length : Int) = c.nodes := by
  simp only [pNew, List.length_replicate]; omega
theorem new_get {c : GConf} (h2 : 2 ≤ c.nodes) (h12 : c.nodes ≤ 12) (nd : UInt8) {k : Nat} (hk : k < 2) : (pNew c nd).table[k]? = some ⟨0, 0, 0⟩ := by
  simp only [pNew]
  rw [List.getElem?_replicate, if_pos (by omega)]
theorem start_sh {c : GConf} (h2 : 2 ≤ c.nodes) (h12 : c.nodes ≤ 12) {p : GPeer} (hp : p.up = false) (hi : p.inc ≠ 65535) (i : UInt16) (hi2 : p.inc + 1 = i) (hnd : p.node = 0 ∨ p.node = 1) :
    (pStart c p).2 = 0 ∧ Sh c (pStart c p).1 p.node i [] zR (if p.node = 0 then ⟨i, 1, 0⟩ else ⟨0, 0, 0⟩) (if p.node = 1 then ⟨i, 1, 0⟩ else ⟨0, 0, 0⟩) := by
  have hlen := new_len h2 h12 p.node
  have e : pStart c p = ({ pNew c p.node with inc := i, up := true, table := (pNew c p.node).table.set p.node.toNat ⟨i, 1, 0⟩ }, 0) := by
    unfold pStart
    rw [if_neg (by simp [hp]), if_neg hi, hi2]
  have hok : okH (pStart c p).1 := by
    rw [e]
    refine okH_inc (okH_new c p.node) ?_
    rw [List.length_set]; omega
  rw [e] at hok ⊢
  refine ⟨rfl, hok, rfl, rfl, rfl, rfl, rfl, rfl, rfl, ⟨by show ((List.set _ _ _).length : Int) = _; rw [List.length_set]; exact hlen, ?_, ?_⟩⟩
  · show ((pNew c p.node).table.set p.node.toNat ⟨i, 1, 0⟩)[0]? = _
    rcases hnd with h | h
    · rw [h, if_pos rfl]
      exact List.getElem?_set_self (by have := new_len h2 h12 0; rw [show (0 : UInt8).toNat = 0 from rfl]; omega)
    · rw [h, if_neg (by decide), List.getElem?_set_ne (by decide)]
      exact new_get h2 h12 1 (by omega)
  · show ((pNew c p.node).table.set p.node.toNat ⟨i, 1, 0⟩)[1]? = _
    rcases hnd with h | h
    · rw [h, if_neg (by decide), List.getElem?_set_ne (by decide)]
      exact new_get h2 h12 0 (by omega)
    · rw [h, if_pos rfl]
      exact List.getElem?_set_self (by have := new_len h2 h12 1; rw [show (1 : UInt8).toNat = 1 from rfl]; omega)
theorem okH_view1 {p : GPeer} (h : okH p) {d : GDesc} (h1 : d.node ≠ p.node) (h2 : d.inc ≠ 0) (h3 : d.filter = []) : okH { p with view := [d] } := by
  refine ⟨okG_view h.g (by simp) ?_, h.rs, ⟨by simp, ?_⟩, ⟨?_, List.pairwise_singleton _ _⟩⟩
  · intro x hx
    rw [List.mem_singleton.1 hx]
    exact ⟨by rw [h3]; simp, by rw [h3]; simp⟩
  · intro x hx
    rw [List.mem_singleton.1 hx, h3]; simp
  · intro x hx
    rw [List.mem_singleton.1 hx]
    exact ⟨h1, h2⟩
theorem join_sh {c : GConf} (h2 : 2 ≤ c.nodes) (h12 : c.nodes ≤ 12) (hv : 1 ≤ c.view) {p : GPeer} {j i : UInt16} {a m1 : GMember} (hp : Sh c p 0 j [] zR a m1) (hi : i ≠ 0) (h4 : ¬ i < m1.inc) (h5 : ¬ (i = m1.inc ∧ m1.state = 3)) (hmh : mHeard i m1 = ⟨i, 1, 0⟩)
    {M : GMsg} (hf : M.frm = 1) (hmi : M.inc = i) (hl : M.list = [⟨1, i, 0, []⟩]) (hu : nUnion 0 [[⟨1, i, 0, []⟩], [], [], []] = [⟨1, i, 0, []⟩]) :
    ∃ P W, tJoin c p M = (P, [W]) ∧ Sh c P 0 j [⟨1, i, 0, []⟩] ⟨true, true, ⟨1, i, 0, []⟩, ⟨1, i, 0, []⟩⟩ a ⟨i, 1, 0⟩ ∧ W.kind = 2 ∧ W.frm = 0 ∧ W.inc = j ∧ W.to = 1 ∧ W.list = [⟨0, j, 0, []⟩] ∧ W.table = P.table := by
  have hnd := hp.node
  have hh := hear_yes (c := c) (p := p) (node := 1) (inc := i) (m := m1) (by show (1 : Int) < _; omega) hp.tab.len (by rw [hnd]; decide) hi hp.tab.b h4 h5
  have hq : okH (pHear c p 1 i).1 := okH_hear hp.h 1 i
  unfold tJoin
  rw [hf, hmi]
  rw [hh] at hq ⊢
  obtain ⟨q, hqe⟩ : ∃ q, q = { p with table := tHeard p.table 1 i, reports := if m1.inc < i then rForget p.reports 1 else p.reports } := ⟨_, rfl⟩
  rw [← hqe] at hq ⊢
  have q1 : q.node = 0 := by rw [hqe]; exact hnd
  have q2 : q.view = [] := by rw [hqe]; exact hp.view
  have q3 : q.near = [] := by rw [hqe]; exact hp.near
  have q4 : q.ring = zR := by rw [hqe]; exact hp.ring
  have q5 : q.filter = [] := by rw [hqe]; exact hp.filter
  have q6 : q.inc = j := by rw [hqe]; exact hp.inc
  have q7 : q.up = true := by rw [hqe]; exact hp.up
  have q8 : (q.table.length : Int) = c.nodes := by rw [hqe]; show ((tHeard p.table 1 i).length : Int) = _; rw [tHeard_len]; exact hp.tab.len
  have q9 : q.table[1]? = some ⟨i, 1, 0⟩ := by
    rw [hqe]; show (tHeard p.table 1 i)[1]? = _
    rw [heard_get, hp.tab.b, if_pos (show (1 : UInt8).toNat = 1 from rfl), Option.map_some, hmh]
  have q10 : q.table[0]? = some a := by
    rw [hqe]; show (tHeard p.table 1 i)[0]? = _
    rw [heard_get, hp.tab.a, if_neg (by decide), Option.map_some, id]
  have hfine : dFine c ⟨1, i, 0, []⟩ = true := by
    have hi1 : 1 ≤ i.toNat := by
      have : i.toNat ≠ 0 := fun h => hi (UInt16.toNat_inj.1 h)
      omega
    simp only [dFine, Bool.and_eq_true, decide_eq_true_eq]
    exact ⟨⟨by show (1 : Int) < _; omega, by show (1 : Int) ≤ (i.toNat : Int); omega⟩, rfl⟩
  have hj : hJoin c q M = ({ q with view := [⟨1, i, 0, []⟩] }, [{ pMsg q 2 1 with list := [⟨0, j, 0, []⟩], table := q.table }]) := by
    unfold hJoin
    rw [hl]
    simp only
    rw [if_pos ⟨hf.symm, hmi.symm, hfine⟩, q2, q1, hf, admit_one (show (1 : UInt8) ≠ 0 by decide) hi (by omega)]
    rw [show pSelf q = ⟨0, j, 0, []⟩ by rw [pSelf, q1, q6, q5]]
    rfl
  simp only [if_true]
  rw [hj]
  have hcur : dCur { q with view := [⟨1, i, 0, []⟩] } ⟨1, i, 0, []⟩ = true := by
    unfold dCur
    rw [if_neg (show ¬ (1 : UInt8) = q.node by rw [q1]; decide)]
    show (match q.table[1]? with | none => false | some m => _) = true
    rw [q9]
    simp
  have hm := pMeet_one (c := c) (p := { q with view := [⟨1, i, 0, []⟩] }) (d := ⟨1, i, 0, []⟩) rfl hcur q3 q4 (by show nUnion q.node _ = _; rw [q1]; exact hu) (by show fScored q.filter _ = _; rw [q5]; rfl)
  have hokm : okH (pMeet c { q with view := [⟨1, i, 0, []⟩] } []) := okH_meet (okH_view1 hq (by rw [q1]; exact (show (1 : UInt8) ≠ 0 by decide)) hi rfl) ⟨by simp, by simp⟩ (by simp)
  refine ⟨_, _, rfl, ⟨hokm, ?_, ?_, ?_, ?_, ?_, ?_, ?_, ⟨?_, ?_, ?_⟩⟩, rfl, ?_, ?_, rfl, rfl, rfl⟩
  all_goals simp only [hm, pMsg]
  all_goals first | exact q1 | exact q6 | exact q7 | exact q5 | exact q8 | exact q9 | exact q10 | rfl
theorem merge_get {l m : List GMember} {self : UInt8} {k : Nat} : (tMerge l m self)[k]? = (l[k]?).map (mMg m self k) := by
  rw [tMerge, List.getElem?_mapIdx]
theorem left_get {l : List GMember} {i : UInt8} {inc : UInt16} {k : Nat} : (tLeft l i inc)[k]? = (l[k]?).map (if i.toNat = k then mLeft inc else id) := by
  unfold tLeft
  rw [List.getElem?_modify]
  cases l[k]? <;> (split <;> rfl)
theorem welcome_sh {c : GConf} (h2 : 2 ≤ c.nodes) (h12 : c.nodes ≤ 12) (hv : 1 ≤ c.view) {p : GPeer} {j : UInt16} {b : GMember} (hp : Sh c p 1 j [] zR ⟨0, 0, 0⟩ b)
    {M : GMsg} (hf : M.frm = 0) (hmi : M.inc = 1) (hl : M.list = [d01]) (ht : M.table[0]? = some ⟨1, 1, 0⟩) :
    ∃ P, tWelcome c p M = (P, []) ∧ Sh c P 1 j [d01] ⟨true, true, d01, d01⟩ ⟨1, 1, 0⟩ b := by
  have hnd := hp.node
  have hh := hear_yes (c := c) (p := p) (node := 0) (inc := 1) (m := ⟨0, 0, 0⟩) (by show (0 : Int) < _; omega) hp.tab.len (by rw [hnd]; decide) (by decide) hp.tab.a (by decide) (by decide)
  have hq : okH (pHear c p 0 1).1 := okH_hear hp.h 0 1
  unfold tWelcome
  rw [hf, hmi]
  rw [hh] at hq ⊢
  have hq2 := okH_learn hq M.table
  unfold hWelcome
  simp only [if_true]
  obtain ⟨q, hqe⟩ : ∃ q, q = pLearn { p with table := tHeard p.table 0 1, reports := if (0 : UInt16) < 1 then rForget p.reports 0 else p.reports } M.table := ⟨_, rfl⟩
  rw [← hqe] at hq2 ⊢
  have q1 : q.node = 1 := by rw [hqe]; exact hnd
  have q2 : q.view = [] := by rw [hqe]; exact hp.view
  have q3 : q.near = [] := by rw [hqe]; exact hp.near
  have q4 : q.ring = zR := by rw [hqe]; exact hp.ring
  have q5 : q.filter = [] := by rw [hqe]; exact hp.filter
  have q6 : q.inc = j := by rw [hqe]; exact hp.inc
  have q7 : q.up = true := by rw [hqe]; exact hp.up
  have q8 : (q.table.length : Int) = c.nodes := by rw [hqe]; show ((tMerge (tHeard p.table 0 1) M.table p.node).length : Int) = _; rw [tMerge_len, tHeard_len]; exact hp.tab.len
  have q9 : q.table[1]? = some b := by
    rw [hqe]; show (tMerge (tHeard p.table 0 1) M.table p.node)[1]? = _
    rw [merge_get, heard_get, hp.tab.b, if_neg (by decide), Option.map_some, id, Option.map_some]
    unfold mMg
    split
    · rw [hnd, if_neg (by simp)]
    · rfl
  have q10 : q.table[0]? = some ⟨1, 1, 0⟩ := by
    rw [hqe]; show (tMerge (tHeard p.table 0 1) M.table p.node)[0]? = _
    rw [merge_get, heard_get, hp.tab.a, if_pos (show (0 : UInt8).toNat = 0 from rfl), Option.map_some, Option.map_some]
    unfold mMg
    rw [ht]
    simp only
    rw [if_neg (by
      intro h
      have : mNewer ⟨1, 1, 0⟩ (mHeard 1 ⟨0, 0, 0⟩) = true := h.2
      exact absurd this (by decide))]
    rfl
  have hcur0 : ∀ v, dCur { q with view := v } d01 = true := fun v => by
    unfold dCur
    simp only
    rw [if_neg (show ¬ d01.node = q.node by rw [q1]; decide)]
    show (match q.table[0]? with | none => false | some m => _) = true
    rw [q10]
    rfl
  have huse : pUse c q M.list = [d01] := by
    have hfine : dFine c d01 = true := by
      simp only [dFine, Bool.and_eq_true, decide_eq_true_eq]
      exact ⟨⟨by show (0 : Int) < _; omega, by decide⟩, rfl⟩
    have hc0 : dCur q d01 = true := hcur0 q.view
    rw [hl]
    simp [pUse, pFine, pCur, hfine, hc0]
  have hfill : sFill q.node c.view q.view (pUse c q M.list) = [d01] := by rw [huse, q1, q2, fill_one (by decide) (by decide) (by omega)]
  rw [hfill]
  have hm := pMeet_one (c := c) (p := { q with view := [d01] }) (d := d01) rfl (hcur0 _) q3 q4 (by show nUnion q.node _ = _; rw [q1]; kernel_rfl) (by show fScored q.filter _ = _; rw [q5]; rfl)
  have hokm : okH (pMeet c { q with view := [d01] } []) := okH_meet (okH_view1 hq2 (by rw [q1]; decide) (by decide) rfl) ⟨by simp, by simp⟩ (by simp)
  refine ⟨_, rfl, ⟨hokm, ?_, ?_, ?_, ?_, ?_, ?_, ?_, ⟨?_, ?_, ?_⟩⟩⟩
  all_goals simp only [hm]
  all_goals first | exact q1 | exact q6 | exact q7 | exact q5 | exact q8 | exact q9 | exact q10 | rfl
theorem leave_sh {c : GConf} (h2 : 2 ≤ c.nodes) {p : GPeer} {j : UInt16} {a : GMember} (hp : Sh c p 0 j [d11] ⟨true, true, d11, d11⟩ a ⟨1, 1, 0⟩)
    {M : GMsg} (hf : M.frm = 1) (hmi : M.inc = 1) :
    ∃ P, tLeave c p M = (P, []) ∧ Sh c P 0 j [] zR a ⟨1, 3, 0⟩ := by
  have hnd := hp.node
  have hh := hear_yes (c := c) (p := p) (node := 1) (inc := 1) (m := ⟨1, 1, 0⟩) (by show (1 : Int) < _; omega) hp.tab.len (by rw [hnd]; decide) (by decide) hp.tab.b (by decide) (by decide)
  have hq : okH (pHear c p 1 1).1 := okH_hear hp.h 1 1
  unfold tLeave
  rw [hf, hmi]
  rw [hh] at hq ⊢
  simp only [if_true]
  obtain ⟨q, hqe⟩ : ∃ q : GPeer, q = { p with table := tLeft (tHeard p.table 1 1) 1 1, reports := if (1 : UInt16) < 1 then rForget p.reports 1 else p.reports } := ⟨_, rfl⟩
  have hl8 : ((tLeft (tHeard p.table 1 1) 1 1).length : Int) = c.nodes := by
    have : (tLeft (tHeard p.table 1 1) 1 1).length = (tHeard p.table 1 1).length := by simp [tLeft]
    rw [this, tHeard_len]; exact hp.tab.len
  have hl9 : (tLeft (tHeard p.table 1 1) 1 1).length ≤ 12 := by
    have e : (tLeft (tHeard p.table 1 1) 1 1).length = (tHeard p.table 1 1).length := by simp [tLeft]
    rw [e]
    exact hq.g.table
  have hq2 : okH q := by
    rw [hqe]
    exact okH_tab (p := { p with table := tHeard p.table 1 1, reports := if (1 : UInt16) < 1 then rForget p.reports 1 else p.reports }) hq hl9 hq.rs
  rw [← hqe]
  have q1 : q.node = 0 := by rw [hqe]; exact hnd
  have q2 : q.view = [d11] := by rw [hqe]; exact hp.view
  have q3 : q.near = [] := by rw [hqe]; exact hp.near
  have q4 : q.ring = ⟨true, true, d11, d11⟩ := by rw [hqe]; exact hp.ring
  have q5 : q.filter = [] := by rw [hqe]; exact hp.filter
  have q6 : q.inc = j := by rw [hqe]; exact hp.inc
  have q7 : q.up = true := by rw [hqe]; exact hp.up
  have q8 : (q.table.length : Int) = c.nodes := by rw [hqe]; exact hl8
  have q9 : q.table[1]? = some ⟨1, 3, 0⟩ := by
    rw [hqe]; show (tLeft (tHeard p.table 1 1) 1 1)[1]? = _
    rw [left_get, heard_get, hp.tab.b, if_pos (show (1 : UInt8).toNat = 1 from rfl), if_pos (show (1 : UInt8).toNat = 1 from rfl)]
    rfl
  have q10 : q.table[0]? = some a := by
    rw [hqe]; show (tLeft (tHeard p.table 1 1) 1 1)[0]? = _
    rw [left_get, heard_get, hp.tab.a, if_neg (by decide), if_neg (by decide)]
    rfl
  have hcur : dCur q d11 = false := by
    unfold dCur
    rw [if_neg (show ¬ d11.node = q.node by rw [q1]; decide)]
    show (match q.table[1]? with | none => false | some m => _) = false
    rw [q9]
    rfl
  have hm := pMeet_none (c := c) (p := q) (d := d11) q2 hcur q3 q4
  have hokm : okH (pMeet c q []) := okH_meet hq2 ⟨by simp, by simp⟩ (by simp)
  refine ⟨_, rfl, ⟨hokm, ?_, ?_, ?_, ?_, ?_, ?_, ?_, ⟨?_, ?_, ?_⟩⟩⟩
  all_goals simp only [hm]
  all_goals first | exact q1 | exact q6 | exact q7 | exact q5 | exact q8 | exact q9 | exact q10 | rfl
theorem join_msg {c : GConf} (h2 : 2 ≤ c.nodes) {p : GPeer} {i : UInt16} {v : List GDesc} {r : GRing} {a b : GMember} (hp : Sh c p 1 i v r a b) :
    pJoin c p 0 = ([{ pMsg p 1 0 with list := [⟨1, i, 0, []⟩] }], 0) := by
  have e : pSelf p = ⟨1, i, 0, []⟩ := by rw [pSelf, hp.node, hp.inc, hp.filter]
  unfold pJoin
  rw [if_neg (by rw [hp.up]; decide), if_neg (by rw [hp.node]; simp; omega), e]
theorem okMg_one {m : GMsg} {d : GDesc} (h1 : m.list = [d]) (h2 : d.filter = []) (h3 : m.table.length ≤ 20) : okMg m :=
  ⟨by rw [h1]; simp, fun x hx => (by rw [h1] at hx; rw [List.mem_singleton.1 hx, h2]; simp), fun x hx s hs => (by rw [h1] at hx; rw [List.mem_singleton.1 hx, h2] at hs; cases hs), h3⟩
theorem okMg_nil {m : GMsg} (h1 : m.list = []) (h3 : m.table.length ≤ 20) : okMg m :=
  ⟨by rw [h1]; simp, fun x hx => (by rw [h1] at hx; cases hx), fun x hx s hs => (by rw [h1] at hx; cases hx), h3⟩
structure Story (c : GConf) (A B : GPeer) (M : GMsg) (P1 : GPeer) (W : GMsg) (Q1 : GPeer) (P2 : GPeer) : Prop where
  a1 : pStart c (pNew c 0) = (A, 0)
  a2 : A.up = true
  a3 : okH A
  b1 : pStart c (pNew c 1) = (B, 0)
  b2 : B.up = true
  b3 : okH B
  m1 : pJoin c B 0 = ([M], 0)
  m2 : okMg M
  m3 : M.to = A.node
  m4 : M.kind = 1
  p1 : tJoin c A M = (P1, [W])
  p2 : okH P1
  p3 : P1.up = true
  w1 : okMg W
  w2 : W.to = B.node
  w3 : W.kind = 2
  q1 : tWelcome c B W = (Q1, [])
  q2 : okH Q1
  q3 : Q1.up = true
  q4 : uLinks Q1 = [0, 0]
  q5 : Q1.node = 1
  q6 : Q1.inc = 1
  q7 : Q1.view.length ≤ 300 ∧ Q1.near.length ≤ 300
  e1 : okMg (pMsg Q1 9 0)
  e2 : (pMsg Q1 9 0).to = P1.node
  r1 : tLeave c P1 (pMsg Q1 9 0) = (P2, [])
  r2 : Sh c P2 0 1 [] zR ⟨1, 1, 0⟩ ⟨1, 3, 0⟩
theorem story {c : GConf} (h2 : 2 ≤ c.nodes) (h12 : c.nodes ≤ 12) (hv : 1 ≤ c.view) : ∃ A B M P1 W Q1 P2, Story c A B M P1 W Q1 P2 := by
  obtain ⟨a1, hA⟩ := start_sh h2 h12 (p := pNew c 0) rfl (by show ¬ (0 : UInt16) = 65535; decide) 1 rfl (.inl rfl)
  obtain ⟨b1, hB⟩ := start_sh h2 h12 (p := pNew c 1) rfl (by show ¬ (0 : UInt16) = 65535; decide) 1 rfl (.inr rfl)
  have hA : Sh c (pStart c (pNew c 0)).1 0 1 [] zR ⟨1, 1, 0⟩ ⟨0, 0, 0⟩ := hA
  have hB : Sh c (pStart c (pNew c 1)).1 1 1 [] zR ⟨0, 0, 0⟩ ⟨1, 1, 0⟩ := hB
  have ea : pStart c (pNew c 0) = ((pStart c (pNew c 0)).1, 0) := by rw [← a1]
  have eb : pStart c (pNew c 1) = ((pStart c (pNew c 1)).1, 0) := by rw [← b1]
  generalize (pStart c (pNew c 0)).1 = A at hA ea
  generalize (pStart c (pNew c 1)).1 = B at hB eb
  have hM := join_msg h2 hB
  obtain ⟨P1, W, hP, hS1, w1, w2, w3, w4, w5, w6⟩ := join_sh h2 h12 hv hA (i := 1) (by decide) (by decide) (by decide) (by decide) (M := { pMsg B 1 0 with list := [⟨1, 1, 0, []⟩] }) hB.node hB.inc rfl (by kernel_rfl)
  obtain ⟨Q1, hQ, hS2⟩ := welcome_sh h2 h12 hv hB (M := W) w2 w3 w5 (by rw [w6]; exact hS1.tab.a)
  obtain ⟨P2, hR, hS3⟩ := leave_sh h2 (p := P1) (j := 1) (a := ⟨1, 1, 0⟩) hS1 (M := pMsg Q1 9 0) hS2.node hS2.inc
  exact ⟨A, B, _, P1, W, Q1, P2, {
    a1 := ea, a2 := hA.up, a3 := hA.h, b1 := eb, b2 := hB.up, b3 := hB.h, m1 := hM
    m2 := okMg_one rfl rfl (by simp [pMsg])
    m3 := hA.node.symm, m4 := rfl, p1 := hP, p2 := hS1.h, p3 := hS1.up
    w1 := okMg_one w5 rfl (by rw [w6]; have := hS1.h.g.table; omega)
    w2 := by rw [w4, hB.node]
    w3 := w1, q1 := hQ, q2 := hS2.h, q3 := hS2.up
    q4 := by unfold uLinks; rw [hS2.view, hS2.near, hS2.ring]; rfl
    q5 := hS2.node, q6 := hS2.inc
    q7 := ⟨by rw [hS2.view]; simp, by rw [hS2.near]; simp⟩
    e1 := okMg_nil rfl (by simp [pMsg])
    e2 := hS1.node.symm, r1 := hR, r2 := hS3 }⟩
theorem story2 {c : GConf} (h2 : 2 ≤ c.nodes) (h12 : c.nodes ≤ 12) (hv : 1 ≤ c.view) {Q1 P2 : GPeer} (h5 : Q1.node = 1) (h6 : Q1.inc = 1) (hP : Sh c P2 0 1 [] zR ⟨1, 1, 0⟩ ⟨1, 3, 0⟩) :
    ∃ C M P3 W, pStart c (pDown c Q1) = (C, 0) ∧ okH C ∧ C.inc = 2 ∧ pJoin c C 0 = ([M], 0) ∧ okMg M ∧ M.to = P2.node ∧ M.kind = 1 ∧ tJoin c P2 M = (P3, [W]) ∧ P3.view = [⟨1, 2, 0, []⟩] ∧ (P3.table.length : Int) = c.nodes ∧ P3.table[1]? = some ⟨2, 1, 0⟩ := by
  have hn : (pDown c Q1).node = 1 := h5
  have hi : (pDown c Q1).inc = 1 := h6
  obtain ⟨a1, hA⟩ := start_sh h2 h12 (p := pDown c Q1) rfl (by rw [hi]; decide) 2 (by rw [hi]; rfl) (.inr hn)
  rw [hn] at hA
  have hA : Sh c (pStart c (pDown c Q1)).1 1 2 [] zR ⟨0, 0, 0⟩ ⟨2, 1, 0⟩ := hA
  have ea : pStart c (pDown c Q1) = ((pStart c (pDown c Q1)).1, 0) := by rw [← a1]
  generalize (pStart c (pDown c Q1)).1 = C at hA ea
  have hM := join_msg h2 hA
  obtain ⟨P3, W, hJ, hS1, w1, w2, w3, w4, w5, w6⟩ := join_sh h2 h12 hv hP (i := 2) (by decide) (by decide) (by decide) (by decide) (M := { pMsg C 1 0 with list := [⟨1, 2, 0, []⟩] }) hA.node hA.inc rfl (by kernel_rfl)
  exact ⟨C, _, P3, W, ea, hA.h, hA.inc, hM, okMg_one rfl rfl (by simp [pMsg]), hP.node.symm, rfl, hJ, hS1.view, hS1.tab.len, hS1.tab.b⟩
end Go.Proofs.YtlaefellhnkfbaaGreat.V

namespace Go.Eng
theorem vc2_rangeS {P : Program} {Q : Exit → DS → Prop} {ρ0 ρ : List (Nat × DSV)} {σ : List (Nat × DLoc)} {H : List (Nat × Row)} {nx nb : Nat} {γ : Type} {body : Code} {id id2 r1 r2 ti tc tj : Nat} {T T2 T3 T4 y1 y2 y3 : TypeId} {p1 p2 p3 : String} {e1 e2 e3 : Array Edge} {yn : Operand}
    (n : Nat) (pre : γ → List (Nat × DSV)) (loc : γ → List (Nat × DLoc)) (Hf : γ → List (Nat × Row)) (nx1 : Nat) (F : Nat → γ → Prop) (g0 : γ)
    (hle : leD (stR ti pre ρ loc Hf nx1 nb 0 g0) ⟨ρ0, σ, H, nx, nb⟩) (hF : F 0 g0)
    (hn : ∀ g k, (stR ti pre ρ loc Hf nx1 nb k g).sv yn = .d (.v (.int .i64 n))) (hmax : n ≤ 9223372036854775807) (hj : ∀ g, lk (pre g ++ ρ) tj = none)
    (hbody : ∀ k g, k < n → F k g → Vc2 P body (RangeB (stR ti pre ρ loc Hf nx1 nb) F k id id2 Q) ⟨(tc, .d (.v (.bool true))) :: (ti, .d (.v (.int .i64 k))) :: (pre g ++ ρ), loc g, Hf g, nx1, nb⟩)
    (hend : ∀ g, F n g → Q .normal ⟨(tc, .d (.v (.bool false))) :: (ti, .d (.v (.int .i64 n))) :: (pre g ++ ρ), loc g, Hf g, nx1, nb⟩) :
    vc2 P (.block id (.loop (.seq (.region r1 [⟨some tc, .binOp .lss T (.tmp ti) yn T2, y1, p1, e1, none⟩].toArray false)
      (.seq (.cond (.tmp tc) .skip (.exit id)) (.seq (.block id2 body)
        (.region r2 [⟨some tj, .binOp .add T3 (.tmp ti) (.const (.int .i64 1)) T4, y2, p2, e2, none⟩, ⟨some ti, .move (.tmp tj), y3, p3, e3, none⟩].toArray false)))))) Q ⟨ρ0, σ, H, nx, nb⟩ := by
  refine ⟨Nat × γ, fun x => stR ti pre ρ loc Hf nx1 nb x.1 x.2, fun x => x.1 ≤ n ∧ F x.1 x.2, fun x => n - x.1, ⟨(0, g0), hle, Nat.zero_le _, hF⟩, ?_⟩
  rintro ⟨k, g⟩ ⟨hk, hF1⟩
  simp only at hk hF1 ⊢
  have hlkti : (stR ti pre ρ loc Hf nx1 nb k g).sv (.tmp ti) = .d (.v (.int .i64 k)) := by
    show (lk ((ti, _) :: _) ti).getD DSV.unk = _
    rw [lk_cons_eq]; rfl
  refine Vc2.seq (Vc2.of ?_)
  rw [vc2_region, vcOps2_cons, vcG2_none, op2_bin, hlkti, hn g k, vcBinS_v, AtP_eq, bin_lss]
  refine ⟨rfl, ?_⟩
  show SeqV2 P _ _ .normal _
  refine Vc2.seq (Vc2.of ?_)
  rw [vc2_cond]
  have hc : (DS.put (stR ti pre ρ loc Hf nx1 nb k g) (some tc) (.d (.v (.bool (decide ((k : Int) < (n : Int))))))).sv (.tmp tc) = .d (.v (.bool (decide (k < n)))) := by
    show (lk ((tc, _) :: _) tc).getD DSV.unk = _
    rw [lk_cons_eq]
    have : decide ((k : Int) < (n : Int)) = decide (k < n) := by simp
    rw [this]; rfl
  rw [hc]
  have hdec : decide ((k : Int) < (n : Int)) = decide (k < n) := by simp
  by_cases hlt : k < n
  · rw [show decide (k < n) = true from by simpa using hlt, CondK2_true, vc2_skip]
    show SeqV2 P _ _ .normal _
    refine Vc2.seq (Vc2.block (Vc2.mono ?_ ?_ (Q := RangeB (stR ti pre ρ loc Hf nx1 nb) F k id id2 Q)))
    · intro e ds2 h
      have key : ∀ ds2, (∃ g', leD (stR ti pre ρ loc Hf nx1 nb k g') ds2 ∧ F (k + 1) g') → Vc2 P (.region r2 [⟨some tj, .binOp .add T3 (.tmp ti) (.const (.int .i64 1)) T4, y2, p2, e2, none⟩, ⟨some ti, .move (.tmp tj), y3, p3, e3, none⟩].toArray false)
          (LoopK2 (fun x : Nat × γ => stR ti pre ρ loc Hf nx1 nb x.1 x.2) (fun x => x.1 ≤ n ∧ F x.1 x.2) (fun x => n - x.1) (k, g) (BlockW2 id Q)) ds2 := by
        rintro ds2 ⟨g', hle', hF'⟩
        refine Vc2.le hle' (Vc2.of ?_)
        have hti : (stR ti pre ρ loc Hf nx1 nb k g').sv (.tmp ti) = .d (.v (.int .i64 k)) := by
          show (lk ((ti, _) :: _) ti).getD DSV.unk = _
          rw [lk_cons_eq]; rfl
        rw [vc2_region, vcOps2_cons, vcG2_none, op2_bin, hti, svd_const, constD_int, vcBinS_v, AtP_eq, bin_add, arith_i64 (by omega)]
        refine ⟨rfl, ?_⟩
        unfold PutD
        rw [vcOps2_cons, vcG2_none, op2_move, vcOps2_nil]
        refine ⟨(k + 1, g'), ?_, ⟨hlt, hF'⟩, by simp; omega⟩
        have htj : (DS.put (stR ti pre ρ loc Hf nx1 nb k g') (some tj) (.d (.v (.int .i64 ((k : Int) + 1))))).sv (.tmp tj) = .d (.v (.int .i64 ((k : Int) + 1))) := by
          show (lk ((tj, _) :: _) tj).getD DSV.unk = _
          rw [lk_cons_eq]; rfl
        rw [htj]
        exact le_next2 (ρ' := []) (hj g')
      cases e with
      | normal => exact key ds2 h
      | exit j =>
        simp only [RangeB] at h
        simp only [BlockK2]
        cases hb : (j == id2) with
        | true => rw [hb] at h; simp only [cond_true] at h ⊢; exact key ds2 h
        | false => rw [hb] at h; simp only [cond_false] at h ⊢; exact h
      | ret => exact h
      | goto l => exact h
      | panic c => exact h
      | outgrown => exact h
    · have h1 := hbody k g hlt hF1
      rw [hdec, show decide (k < n) = true from by simpa using hlt]
      exact h1
  · have hkn : k = n := by omega
    subst hkn
    rw [show decide (k < k) = false from by simp, CondK2_false, vc2_exit]
    show BlockW2 id Q (.exit id) _
    rw [BlockW2_exit, beq_self_eq_true, BlockX_true]
    refine .inl ?_
    rw [show decide ((k : Int) < (k : Int)) = false from by simp]
    exact hend g hF1
theorem vc2_rangeT {P : Program} {Q : Exit → DS → Prop} {ρ0 : List (Nat × DSV)} {σ : List (Nat × DLoc)} {H : List (Nat × Row)} {nx nb : Nat} {body : Code} {id id2 r1 r2 ti tc tj : Nat} {T T2 T3 T4 y1 y2 y3 : TypeId} {p1 p2 p3 : String} {e1 e2 e3 : Array Edge} {yn : Operand}
    (n : Nat) (ρ : List (Nat × DSV)) (pre : Nat → List (Nat × DSV)) (loc : Nat → List (Nat × DLoc)) (Hf : Nat → List (Nat × Row)) (nx1 : Nat) (F : Nat → Prop)
    (hle : leD ⟨(ti, .d (.v (.int .i64 (0 : Nat)))) :: (pre 0 ++ ρ), loc 0, Hf 0, nx1, nb⟩ ⟨ρ0, σ, H, nx, nb⟩) (hF : F 0)
    (hn : ∀ g k, (stR ti pre ρ loc Hf nx1 nb k g).sv yn = .d (.v (.int .i64 n))) (hmax : n ≤ 9223372036854775807) (hj : ∀ g, lk (pre g ++ ρ) tj = none)
    (hbody : ∀ k, k < n → F k → vc2 P body (RangeB (stR ti pre ρ loc Hf nx1 nb) (fun k g => g = k ∧ F k) k id id2 Q) ⟨(tc, .d (.v (.bool true))) :: (ti, .d (.v (.int .i64 k))) :: (pre k ++ ρ), loc k, Hf k, nx1, nb⟩)
    (hend : F n → Q .normal ⟨(tc, .d (.v (.bool false))) :: (ti, .d (.v (.int .i64 n))) :: (pre n ++ ρ), loc n, Hf n, nx1, nb⟩) :
    vc2 P (.block id (.loop (.seq (.region r1 [⟨some tc, .binOp .lss T (.tmp ti) yn T2, y1, p1, e1, none⟩].toArray false)
      (.seq (.cond (.tmp tc) .skip (.exit id)) (.seq (.block id2 body)
        (.region r2 [⟨some tj, .binOp .add T3 (.tmp ti) (.const (.int .i64 1)) T4, y2, p2, e2, none⟩, ⟨some ti, .move (.tmp tj), y3, p3, e3, none⟩].toArray false)))))) Q ⟨ρ0, σ, H, nx, nb⟩ :=
  vc2_rangeS (γ := Nat) n pre loc Hf nx1 (fun k g => g = k ∧ F k) 0 hle ⟨rfl, hF⟩ hn hmax hj (fun k g h1 h2 => Vc2.of (by obtain ⟨h2, h3⟩ := h2; subst h2; exact hbody _ h1 h3)) (fun g h => by obtain ⟨h2, h3⟩ := h; subst h2; exact hend h3)
end Go.Eng

set_option maxRecDepth 10000
set_option maxHeartbeats 4000000
namespace Go.Proofs.YtlaefellhnkfbaaGreat.V
open Go.Eng
attribute [local go_sem] zDesc encS encDD fzD plR rowR encK encM encRw encC encP encEv encA z8 z16 z32 z64 encMg encRing encI encW List.map_cons List.map_nil
theorem nb1 : (((1 : Nat) : Int) != 1) = false := rfl
theorem nb0 : (((0 : Nat) : Int) != 0) = false := rfl
theorem nb2 : (((2 : Nat) : Int) != 2) = false := rfl
theorem nb4 : (((4 : Nat) : Int) != 4) = false := rfl
theorem k16_1 : ((UInt16.toNat 1 : Nat) : Int) = 1 := rfl
attribute [local go_sem] k16_1 nb0 nb1 nb2 nb4 bne_self_eq_false k8_1 k8_2 k8_3 k8_5 k8_6 k8_8 List.length_cons List.length_nil
theorem aw_hA : okH awA := okH_start awC _ (okH_new awC 0)
theorem aw_hB : okH awB := okH_start awC _ (okH_new awC 1)
theorem aw_c : awC.schema.length ≤ 4 := by decide
theorem aw_cs : ∀ s ∈ awC.schema, okS s := by
  intro s hs
  have hs : s ∈ [(⟨0, 9⟩ : GSpan)] := hs
  rw [List.mem_singleton.1 hs]
  exact ⟨by decide, by decide, by decide, by decide⟩
theorem aw_M : okMg awM := by
  have e : awM.list = [⟨1, 1, 0, []⟩] := by kernel_rfl
  have e2 : awM.table = [] := by kernel_rfl
  exact ⟨by rw [e]; simp, by rw [e]; simp, by rw [e]; simp, by rw [e2]; simp⟩
theorem aw_W : okMg awW := ⟨by decide, by simp [awW], by simp [awW], by decide⟩
theorem aw_B1 : okH awB1 := by
  have h : okH (pHear awC awB awW.frm awW.inc).1 := okH_hear aw_hB _ _
  have h2 : okH (pLearn (pHear awC awB awW.frm awW.inc).1 awW.table) := okH_learn h _
  have hv : (hWelcome awC (pHear awC awB awW.frm awW.inc).1 awW).view = [⟨0, 1, 0, []⟩] := by kernel_rfl
  have e : awB1 = pMeet awC (hWelcome awC (pHear awC awB awW.frm awW.inc).1 awW) [] := by kernel_rfl
  rw [e]
  refine okH_meet ⟨okG_view h2.g (by
    have : (hWelcome awC (pHear awC awB awW.frm awW.inc).1 awW).view.length ≤ 1000 := by rw [hv]; simp
    exact this) (by
    have : ∀ d ∈ (hWelcome awC (pHear awC awB awW.frm awW.inc).1 awW).view, okF d := by rw [hv]; simp [okF]
    exact this), h2.rs, by rw [hv]; exact ⟨by simp, by simp⟩, ?_⟩ ⟨by simp, by simp⟩ (by simp)
  rw [hv]
  have e2 : (hWelcome awC (pHear awC awB awW.frm awW.inc).1 awW).node = 1 := by kernel_rfl
  rw [e2]
  exact ⟨by decide, List.pairwise_singleton _ _⟩
theorem aw15 : ∃ r0 r1 r2 r3 : GMsg, (pTick awC awB1 [1, 2, 3] awL).2 = [r0, r1, r2, r3] ∧ (r0.kind = 3 ∧ r0.to = 0 ∧ r0.frm = 1 ∧ r0.inc = 1) ∧ (r1.kind = 5 ∧ r1.to = 0 ∧ r1.frm = 1 ∧ r1.inc = 1) ∧ (r2.kind = 6 ∧ r2.to = 0 ∧ r2.frm = 1 ∧ r2.inc = 1) ∧ (r3.kind = 8 ∧ r3.to = 0 ∧ r3.frm = 1 ∧ r3.inc = 1) := by
  have h := aw13
  generalize (pTick awC awB1 [1, 2, 3] awL).2 = R at h
  have hl := congrArg List.length h
  simp only [List.length_map, List.length_cons, List.length_nil] at hl
  match R, hl, h with
  | [r0, r1, r2, r3], _, h =>
    simp at h
    exact ⟨r0, r1, r2, r3, rfl, h.1, h.2.1, h.2.2.1, h.2.2.2⟩
theorem aw16 : awS.view = [⟨0, 1, 1, []⟩] := by kernel_rfl
theorem aw17 : awS.table = [⟨1, 1, 1⟩, ⟨1, 1, 0⟩] := by kernel_rfl
theorem aw18 : awB1.up = true := by kernel_rfl
theorem aw_links : Con2 Tryz.prog 14 [.agg (encP awS)] (· = plR (.fz 1 (awL.map encBD))) := by
  have e1 : uLinks awS = [0, 0] := by kernel_rfl
  have e2 : awS.near = [] := by kernel_rfl
  have e3 : awS.ring.succ.filter = [] := by kernel_rfl
  have e4 : awS.ring.pred.filter = [] := by kernel_rfl
  exact links_con awS (by rw [aw16]; simp) (by rw [e2]; simp) (by rw [e3]; simp) (by rw [e4]; simp) (by rw [e1]; simp)
theorem aw_tick : Con2 Tryz.prog 20 [.agg (encC awC), .agg (encP awB1), .fz 1 ([1, 2, 3].map enc32D)] (· = plR (.tup [.agg (encP awS), .fz 17 ((pTick awC awB1 [1, 2, 3] awL).2.map encMg)])) := by
  have h1 : ok8 awQ.view := by rw [aw10]; exact ⟨by simp, by simp⟩
  have h2 : awB1.wait.sent = [] := by kernel_rfl
  have h3 : awB1.filter = [] := by kernel_rfl
  refine tick_con awC awB1 [1, 2, 3] awL aw_c aw_cs aw_B1 aw18 (by decide) (by simp) (by rw [h2]; exact ⟨by simp, by simp⟩) aw_links (by rw [aw11]; simp) (by kernel_rfl) (by kernel_rfl) ?_ (by rw [aw11]; simp) (by decide) aw12 ?_ h1 (by rw [h3]; simp)
  · show (cAsk2 awQ.view (pSelf awQ) awC.swap [1, 2, 3]).2.2 = true
    rw [aw14]
  · intro to sent ok h
    have h : cAsk2 awQ.view (pSelf awQ) awC.swap [1, 2, 3] = (to, sent, ok) := h
    rw [aw14] at h
    cases h
    exact ⟨by simp, by simp⟩
theorem awake24_con : Con2 Tryz.prog 9 [] (· = plR (.v (.bool true))) := by
  have c1 : Con2 Tryz.prog 42 [.v (.int .i64 2)] (· = plR (.agg (encC awC))) := plain_con 2
  have c2 : Con2 Tryz.prog 10 [.agg (encC awC), .v (.int .u8 (UInt8.toNat 0))] (· = plR (.tup [.agg (encP awA), .v (.bool true)])) := by
    have h := up_con awC 0
    rw [aw1] at h
    simp only [aw3, decide_true, Bool.and_self] at h
    exact h
  have c3 : Con2 Tryz.prog 10 [.agg (encC awC), .v (.int .u8 (UInt8.toNat 1))] (· = plR (.tup [.agg (encP awB), .v (.bool true)])) := by
    have h := up_con awC 1
    rw [aw2] at h
    simp only [aw4, decide_true, Bool.and_self] at h
    exact h
  have c4 : Con2 Tryz.prog 11 [.agg (encC awC), .agg (encP awB), .v (.int .u8 (UInt8.toNat 0))] (· = plR (.tup [.fz 17 ([awM].map encMg), .v (.int .i64 0)])) := by
    have h := pjoin_con awC awB 0 aw_hB.ok
    rw [aw5] at h
    exact h
  have c5 : Con2 Tryz.prog 12 [.agg (encC awC), .agg (encP awA), .agg (encMg awM), .fz 1 (([] : List UInt32).map enc32D)] (· = plR (.tup [.agg (encP awA1), .fz 17 ([awW].map encMg)])) := by
    have h := take_join awC awA awM [] aw_c aw_cs aw_hA aw_M aw3 (by kernel_rfl) (by kernel_rfl)
    rw [aw6] at h
    exact h
  have c6 : Con2 Tryz.prog 12 [.agg (encC awC), .agg (encP awB), .agg (encMg awW), .fz 1 (([] : List UInt32).map enc32D)] (· = plR (.tup [.agg (encP awB1), .fz 17 (([] : List GMsg).map encMg)])) := by
    have h := take_welcome awC awB awW [] aw_c aw_cs aw_hB aw_W aw4 (by kernel_rfl) (by kernel_rfl)
    rw [aw8] at h
    exact h
  have c7 := aw_tick
  obtain ⟨r0, r1, r2, r3, hR, f0, f1, f2, f3⟩ := aw15
  rw [hR] at c7
  obtain ⟨E, hE⟩ : ∃ E, E = [r0, r1, r2, r3].map encMg := ⟨_, rfl⟩
  have hEl : E.length = 4 := by rw [hE]; rfl
  have hEk : ∀ k, k < 4 → ∃ (kd : Int) (rest : List DV), E[k]? = some (.v (.int .u8 kd) :: .v (.int .u8 1) :: .v (.int .u16 1) :: .v (.int .u8 0) :: rest) ∧ ([[.v (.int .u8 3)], [.v (.int .u8 5)], [.v (.int .u8 6)], [.v (.int .u8 8)]] : List (List DV))[k]? = some [.v (.int .u8 kd)] := by
    intro k hk
    have key : ∀ (r : GMsg) (kd : UInt8), r.kind = kd → r.to = 0 → r.frm = 1 → r.inc = 1 → ∃ rest, encMg r = .v (.int .u8 kd.toNat) :: .v (.int .u8 1) :: .v (.int .u16 1) :: .v (.int .u8 0) :: rest := fun r kd h1 h2 h3 h4 => ⟨_, by rw [encMg, h1, h2, h3, h4]; rfl⟩
    rw [hE]
    match k, hk with
    | 0, _ => obtain ⟨x, hx⟩ := key r0 3 f0.1 f0.2.1 f0.2.2.1 f0.2.2.2; exact ⟨3, x, by rw [List.map_cons, hx]; rfl, rfl⟩
    | 1, _ => obtain ⟨x, hx⟩ := key r1 5 f1.1 f1.2.1 f1.2.2.1 f1.2.2.2; exact ⟨5, x, by rw [List.map_cons, List.map_cons, hx]; rfl, rfl⟩
    | 2, _ => obtain ⟨x, hx⟩ := key r2 6 f2.1 f2.2.1 f2.2.2.1 f2.2.2.2; exact ⟨6, x, by rw [List.map_cons, List.map_cons, List.map_cons, hx]; rfl, rfl⟩
    | 3, _ => obtain ⟨x, hx⟩ := key r3 8 f3.1 f3.2.1 f3.2.2.1 f3.2.2.2; exact ⟨8, x, by rw [List.map_cons, List.map_cons, List.map_cons, List.map_cons, hx]; rfl, rfl⟩
  rw [← hE] at c7
  clear hE
  have hMk : awM.kind = 1 := by kernel_rfl
  have hMt : awM.to = 0 := by kernel_rfl
  have hv1 := aw7
  have hv2 := aw16
  have ht2 := aw17
  generalize awA = A at c2 c5
  generalize awB = B at c3 c4 c6
  generalize awM = M at c4 c5 hMk hMt
  have hWk : awW.kind = 2 := rfl
  have hWl : awW.list = [⟨0, 1, 0, []⟩] := rfl
  generalize awW = W at c5 c6 hWk hWl
  generalize awA1 = A1 at c5 hv1
  generalize awB1 = B1 at c6 c7
  generalize awS = S at c7 hv2 ht2
  have c8 := pright_con awC (by have := aw_c; omega)
  have e8 : cRight awC = true := by kernel_rfl
  rw [e8] at c8
  have c9 : Con2 Tryz.prog 8 [.agg (encC ⟨0, [], 0, 0, 0, 0, 0, 0, 0, 0, 0, 0, 0, 0, 0⟩)] (· = plR (.v (.bool false))) := pright_con ⟨0, [], 0, 0, 0, 0, 0, 0, 0, 0, 0, 0, 0, 0, 0⟩ (by simp)
  generalize awC = C at c1 c2 c3 c4 c5 c6 c7 c8
  refine con2_of Ty.mixed Tryz.func9 rfl (by kernel_rfl) (by kernel_rfl) rfl [.tmp 0] rfl ?_
  refine g2_ ?_
  refine g2_ ?_
  refine CallS.eqW c1 ws_ (.inl ws_) ?_
  refine g2_ ?_
  refine CallS.eqW c2 ws_ (.inl ws_) ?_
  refine g2_ ?_
  refine CallS.eqW c3 ws_ (.inl ws_) ?_
  refine g2_ ?_
  refine CallS.eqW c4 ws_ (.inl ws_) ?_
  repeat first | simp -implicitDefEqProofs only [go_sem, vc2_blk, hMk, hMt] | with_reducible first | refine gl_ ?_ | refine ga_ ?_ | refine gn_ ?_
  refine .inr (.inr (.inl ⟨[(0, false), (1, false), (2, false), (3, false), (4, false), (5, false), (6, false), (7, false), (8, false), (9, false), (10, false)], [], by kernel_rfl, ?_⟩))
  repeat first | simp -implicitDefEqProofs only [go_sem, vc2_blk, hMk, hMt] | with_reducible first | refine gl_ ?_ | refine ga_ ?_ | refine gn_ ?_
  refine CallS.eqW c5 (by simp -implicitDefEqProofs only [go_sem, vc2_blk, hMk, hMt]) (.inl ws_) ?_
  repeat first | simp -implicitDefEqProofs only [go_sem, vc2_blk, hv1, hWk, hWl] | with_reducible first | refine gl_ ?_ | refine ga_ ?_ | refine gn_ ?_
  refine .inr (.inr (.inl ⟨[(0, false), (1, false), (2, false), (3, false), (4, false), (5, false), (6, false), (7, false), (8, false), (9, false), (10, false)], [], by kernel_rfl, ?_⟩))
  refine g2_ ?_
  refine CallS.eqW c6 (by simp -implicitDefEqProofs only [go_sem, vc2_blk, hMk, hMt, hWk, hWl]) (.inl ws_) ?_
  refine g2_ ?_
  refine CallS.eqW c7 (by simp -implicitDefEqProofs only [go_sem, vc2_blk, hMk, hMt, hWk, hWl]; rfl) (.inl ws_) ?_
  repeat first | simp -implicitDefEqProofs only [go_sem, vc2_blk, hv2, ht2, hEl] | with_reducible first | refine gl_ ?_ | refine ga_ ?_ | refine gn_ ?_
  refine vc2_rangeT 4 [(153, .d (.v (.int .i64 ((4 : Nat) : Int)))), (152, .d (.rf 1 0 4)), (6, .d (.fz 17 E)), (1, .loc 1 0)] (fun k => []) (fun _ => [(1, ⟨encC C, 26⟩)]) (fun k => [(1, .arr 5 1 [[.v (.int .u8 3)], [.v (.int .u8 5)], [.v (.int .u8 6)], [.v (.int .u8 8)]] false)]) 2 (fun k => True) (le2_of [] ?_) trivial (fun g k => by first | rfl | ((try (with_reducible refine leK2_refl ?_)); simp -implicitDefEqProofs only [go_sem, vc2_blk]; repeat ((with_reducible refine leK2_refl ?_); simp -implicitDefEqProofs only [go_sem, vc2_blk]))) (by omega) (fun g => by simp -implicitDefEqProofs only [go_sem, vc2_blk]) (fun k hk hF => ?_) (fun hF => ?_)
  · refine g2_ ?_
    first | done | rfl | exact ⟨rfl, rfl⟩ | trace_state
  · obtain ⟨kd, rest, h1, h2⟩ := hEk k hk
    repeat first | simp -implicitDefEqProofs only [go_sem, vc2_blk, h1, h2, hEl] | with_reducible first | refine gl_ ?_ | refine ga_ ?_ | refine gn_ ?_
    refine ⟨k + 1, le2_of [] ?_, rfl⟩
    exact ws_
  · refine g2_ ?_
    refine CallS.eqW c8 ws_ (.inl ws_) ?_
    refine g2_ ?_
    refine CallS.eqW c9 ws_ (.inl ws_) ?_
    refine g2_ ?_
    exact ⟨_, rfl, le2_of [] ws_⟩
end Go.Proofs.YtlaefellhnkfbaaGreat.V

set_option maxRecDepth 10000
set_option maxHeartbeats 8000000
namespace Go.Eng
theorem cRight_more {c : GConf} (h : cRight c = true) : 2 ≤ c.nodes ∧ c.nodes ≤ 12 ∧ 1 ≤ c.view ∧ c.view ≤ 12 ∧ c.schema.length ≤ 4 ∧ 0 ≤ c.swap ∧ c.swap ≤ 12 := by
  simp only [cRight, inR, scRight, Bool.and_eq_true, decide_eq_true_eq] at h
  omega
end Go.Eng
namespace Go.Proofs.YtlaefellhnkfbaaGreat.V
open Go.Eng
attribute [local go_sem] zDesc encS encDD fzD plR rowR encK encM encRw encC encP encEv encA z8 z16 z32 z64 encMg encRing encI encW List.map_cons List.map_nil
theorem eb1 : (((1 : Nat) : Int) == 1) = true := rfl
theorem k16_2 : ((UInt16.toNat 2 : Nat) : Int) = 2 := rfl
attribute [local go_sem] eb1 k16_2 k16_1 nb0 nb1 nb2 nb4 bne_self_eq_false List.length_cons List.length_nil
theorem peerLeaves_con (c : GConf) (ops : List GOp) (hcs : ∀ s ∈ c.schema, okS s) (hsl : c.schema.length ≤ 9223372036854775807) (hol : ops.length ≤ 9223372036854775807) (hops : ∀ o ∈ ops, o.m.list.length ≤ 9223372036854775807 ∧ o.m.table.length ≤ 9223372036854775807) :
    Con2 Tryz.prog 3 [.agg (encC c), .fz 22 (ops.map encOp)] (· = plR (.v (.bool true))) := by
  have haw := awake24_con
  refine con2_of Ty.mixed Tryz.func3 rfl (by kernel_rfl) (by kernel_rfl) rfl [.tmp 4] rfl ?_
  refine g2_ ?_
  refine g2_ ?_
  by_cases g1 : (8 : Int) < (c.schema.length : Int)
  · rw [decide_eq_true g1]
    refine g2_ ?_
    refine CallS.eqW haw ws_ (.inl ws_) ?_
    refine g2_ ?_
    exact ⟨_, rfl, le2_of [] ws_⟩
  rw [decide_eq_false g1]
  refine g2_ ?_
  refine CallS.eqW (pright_con c (by omega)) ws_ (.inl ws_) ?_
  refine g2_ ?_
  cases g2 : cRight c with
  | false =>
    refine g2_ ?_
    refine CallS.eqW haw ws_ (.inl ws_) ?_
    refine g2_ ?_
    exact ⟨_, rfl, le2_of [] ws_⟩
  | true =>
  obtain ⟨h2, h12, hv, _, h4, _, _⟩ := cRight_more g2
  obtain ⟨A, B, M, P1, W, Q1, P2, S⟩ := story h2 h12 hv
  obtain ⟨C, M2, P3, W2, t1, t2, t3, t4, t5, t6, t7, t8, t9, t10, t11⟩ := story2 h2 h12 hv S.q5 S.q6 S.r2
  have c2 : Con2 Tryz.prog 10 [.agg (encC c), .v (.int .u8 (UInt8.toNat 0))] (· = plR (.tup [.agg (encP A), .v (.bool true)])) := by
    have h := up_con c 0
    rw [S.a1] at h
    simp only [S.a2, decide_true, Bool.and_self] at h
    exact h
  have c3 : Con2 Tryz.prog 10 [.agg (encC c), .v (.int .u8 (UInt8.toNat 1))] (· = plR (.tup [.agg (encP B), .v (.bool true)])) := by
    have h := up_con c 1
    rw [S.b1] at h
    simp only [S.b2, decide_true, Bool.and_self] at h
    exact h
  have c4 : Con2 Tryz.prog 11 [.agg (encC c), .agg (encP B), .v (.int .u8 (UInt8.toNat 0))] (· = plR (.tup [.fz 17 ([M].map encMg), .v (.int .i64 0)])) := by
    have h := pjoin_con c B 0 S.b3.ok
    rw [S.m1] at h
    exact h
  have c5 : Con2 Tryz.prog 12 [.agg (encC c), .agg (encP A), .agg (encMg M), .fz 1 (([] : List UInt32).map enc32D)] (· = plR (.tup [.agg (encP P1), .fz 17 ([W].map encMg)])) := by
    have h := take_join c A M [] h4 hcs S.a3 S.m2 S.a2 S.m3 S.m4
    rw [S.p1] at h
    exact h
  have c6 : Con2 Tryz.prog 12 [.agg (encC c), .agg (encP B), .agg (encMg W), .fz 1 (([] : List UInt32).map enc32D)] (· = plR (.tup [.agg (encP Q1), .fz 17 (([] : List GMsg).map encMg)])) := by
    have h := take_welcome c B W [] h4 hcs S.b3 S.w1 S.b2 S.w2 S.w3
    rw [S.q1] at h
    exact h
  have c7 : Con2 Tryz.prog 14 [.agg (encP Q1)] (· = plR (.fz 1 ([(0 : UInt8)].map encBD))) := by
    have h := links_con Q1 S.q7.1 S.q7.2 S.q2.ok.succ S.q2.ok.pred (by rw [S.q4]; simp)
    have e : nLinks Q1 = [0] := by unfold nLinks; rw [S.q4]; rfl
    rw [e] at h
    exact h
  have c8 : Con2 Tryz.prog 13 [.agg (encC c), .agg (encP Q1)] (· = plR (.tup [.agg (encP (pDown c Q1)), .fz 17 (([(0 : UInt8)].map (pMsg Q1 9)).map encMg), .v (.int .i64 0)])) := leave_con c Q1 [0] S.q2.ok S.q3 c7 (by simp)
  have c9 : Con2 Tryz.prog 12 [.agg (encC c), .agg (encP P1), .agg (encMg (pMsg Q1 9 0)), .fz 1 (([] : List UInt32).map enc32D)] (· = plR (.tup [.agg (encP P2), .fz 17 (([] : List GMsg).map encMg)])) := by
    have h := take_leave c P1 (pMsg Q1 9 0) [] h4 hcs S.p2 S.e1 S.p3 S.e2 rfl
    rw [S.r1] at h
    exact h
  have c10 : Con2 Tryz.prog 14 [.agg (encP P2)] (· = plR (.fz 1 [])) :=
    links0 P2 S.r2.view S.r2.near (by rw [S.r2.ring]; rfl) (by rw [S.r2.ring]; simp [zR, zDesc]) (by rw [S.r2.ring]; simp [zR, zDesc])
  have c11 : ∀ (m : GMsg) (dr : List UInt32), m.frm = 1 → m.inc = 1 → m.to = 0 → Con2 Tryz.prog 12 [.agg (encC c), .agg (encP P2), .agg (encMg m), .fz 1 (dr.map enc32D)] (· = plR (.tup [.agg (encP P2), .fz 17 []])) := fun m dr f1 f2 f3 =>
    take_unheard c P2 m dr S.r2.h.ok S.r2.h.rs S.r2.up (by rw [f3, S.r2.node]) (by rw [f1, f2]; exact hear_no S.r2.tab.b ⟨rfl, rfl⟩)
  have c12 := rPeer_con P2 S.r2.h.ok
  have c13 := pstart_con c (pDown c Q1) (okP_inc (okP_new c Q1.node) Q1.inc)
  rw [t1] at c13
  have c14 : Con2 Tryz.prog 11 [.agg (encC c), .agg (encP C), .v (.int .u8 (UInt8.toNat 0))] (· = plR (.tup [.fz 17 ([M2].map encMg), .v (.int .i64 0)])) := by
    have h := pjoin_con c C 0 t2.ok
    rw [t4] at h
    exact h
  have c15 : Con2 Tryz.prog 12 [.agg (encC c), .agg (encP P2), .agg (encMg M2), .fz 1 (([] : List UInt32).map enc32D)] (· = plR (.tup [.agg (encP P3), .fz 17 ([W2].map encMg)])) := by
    have h := take_join c P2 M2 [] h4 hcs S.r2.h t5 S.r2.up t6 t7
    rw [t8] at h
    exact h
  have c16 : Con2 Tryz.prog 18 [fzD P3.view, .v (.int .u8 (UInt8.toNat 1))] (· = plR (.v (.int .i64 0))) := by
    have h := find_con P3.view (by rw [t9]; exact List.pairwise_singleton _ _) 1 (by rw [t9]; simp)
    have e : dFind P3.view 1 = 0 := by rw [t9]; rfl
    rw [e] at h
    exact h
  have hD1 : (pDown c Q1).up = false := rfl
  have hD2 : (pDown c Q1).inc = 1 := S.q6
  have hBy : ([(0 : UInt8)].map (pMsg Q1 9)).map encMg = [encMg (pMsg Q1 9 0)] := rfl
  have hBk : (pMsg Q1 9 0).kind = 9 := rfl
  have hBt : (pMsg Q1 9 0).to = 0 := rfl
  rw [hBy] at c8
  have hl2 : (P2.table.length : Int) = c.nodes := S.r2.tab.len
  have hg2 : (P2.table.map encM)[1]? = some (encM ⟨1, 3, 0⟩) := by rw [List.getElem?_map, S.r2.tab.b]; rfl
  have hg3 : (P3.table.map encM)[1]? = some (encM ⟨2, 1, 0⟩) := by rw [List.getElem?_map, t11]; rfl
  have hl2p : 1 < P2.table.length := by omega
  have hl3p : 1 < P3.table.length := by omega
  clear S t1 t2 t4 t5 t6 t7 t8 c7
  generalize pMsg Q1 9 0 = Y at c8 c9 hBk hBt
  generalize pDown c Q1 = D at c8 c13 hD1 hD2
  simp only [encM] at hg2 hg3
  refine g2_ ?_
  refine CallS.eqW c2 ws_ (.inl ws_) ?_
  refine g2_ ?_
  refine CallS.eqW c3 ws_ (.inl ws_) ?_
  refine g2_ ?_
  refine CallS.eqW c4 ws_ (.inl ws_) ?_
  refine g2_ ?_
  refine .inr (.inr (.inl ⟨[(0, false), (1, false), (2, false), (3, false), (4, false), (5, false), (6, false), (7, false), (8, false), (9, false), (10, false)], [], by kernel_rfl, ?_⟩))
  refine g2_ ?_
  refine CallS.eqW c5 ws_ (.inl ws_) ?_
  refine g2_ ?_
  refine .inl ⟨[(0, false), (1, false), (2, false), (3, false), (4, false), (5, false), (6, false), (7, false), (8, false), (9, false)], by kernel_rfl, ?_⟩
  refine g2_ ?_
  refine CallS.eqW c6 ws_ (.inl ws_) ?_
  refine g2_ ?_
  refine CallS.eqW c8 ws_ (.inl ws_) ?_
  repeat first | simp -implicitDefEqProofs only [go_sem, vc2_blk, hD1, hD2, hBk, hBt] | with_reducible first | refine gl_ ?_ | refine ga_ ?_ | refine gn_ ?_
  have hne2 : ((P2.table.length : Int) != c.nodes) = false := by rw [hl2]; exact bne_self_eq_false _
  have heq3 : ((P3.table.length : Int) == c.nodes) = true := by rw [t10]; exact beq_self_eq_true _
  refine .inl ⟨[(0, false), (1, false), (2, false), (3, false), (4, false), (5, false), (6, false), (7, false), (8, false), (9, false)], by kernel_rfl, ?_⟩
  refine g2_ ?_
  refine CallS.eqW c9 (by simp -implicitDefEqProofs only [go_sem, vc2_blk, hBk, hBt]) (.inl ws_) ?_
  repeat first | simp -implicitDefEqProofs only [go_sem, vc2_blk, List.length_map, hne2, hg2] | with_reducible first | refine gl_ ?_ | refine ga_ ?_ | refine gn_ ?_
  refine CallS.eqW c10 ws_ (.inl ws_) ?_
  repeat first | simp -implicitDefEqProofs only [go_sem, vc2_blk, List.length_map] | with_reducible first | refine gl_ ?_ | refine ga_ ?_ | refine gn_ ?_
  obtain ⟨m, hm⟩ : ∃ m : Nat, m = min ops.length 10 := ⟨_, rfl⟩
  have hmi : (if (10 : Int) < (ops.length : Int) then (10 : Int) else (ops.length : Int)) = (m : Int) := by split <;> omega
  rw [hmi]
  repeat first | simp -implicitDefEqProofs only [go_sem, vc2_blk, List.length_map] | with_reducible first | refine gl_ ?_ | refine ga_ ?_ | refine gn_ ?_
  have hO : List.take (m - 0) (ops.map encOp) = (ops.take m).map encOp := by rw [Nat.sub_zero, List.map_take]
  have hOm : ∀ o ∈ ops.take m, o.m.list.length ≤ 9223372036854775807 ∧ o.m.table.length ≤ 9223372036854775807 := fun o h => hops o (List.mem_of_mem_take h)
  have hOl : (ops.take m).length ≤ 10 := by rw [List.length_take]; omega
  rw [hO]
  generalize ops.take m = O at hOm hOl
  obtain ⟨E, hE⟩ : ∃ E, E = O.map encOp := ⟨_, rfl⟩
  have hEl : E.length = O.length := by rw [hE, List.length_map]
  have hEg : ∀ k (hk : k < O.length), E[k]? = some (encOp O[k]) := fun k hk => by rw [hE, List.getElem?_map, List.getElem?_eq_getElem hk]; rfl
  rw [← hE]
  clear hE
  refine vc2_rangeT O.length [(156, .d (.v (.int .i64 O.length))), (155, .d (.fz 22 E)), (2, .loc 2 0), (5, .loc 5 0), (12, .loc 12 0)] (fun k => []) (fun _ => [(2, ⟨encC c, 26⟩), (5, ⟨encP P2, 49⟩), (12, ⟨encP D, 49⟩)]) (fun k => []) 0 (fun k => True) (le2_of [] ?_) trivial (fun g k => by first | rfl | ((try (with_reducible refine leK2_refl ?_)); simp -implicitDefEqProofs only [go_sem, vc2_blk]; repeat ((with_reducible refine leK2_refl ?_); simp -implicitDefEqProofs only [go_sem, vc2_blk]))) (by omega) (fun g => by simp -implicitDefEqProofs only [go_sem, vc2_blk]) (fun k hk hF => ?_) (fun hF => ?_)
  · repeat first | simp -implicitDefEqProofs only [go_sem, vc2_blk, List.length_map, hEl, hD1, hD2] | with_reducible refine gl_ ?_
    first | done | rfl | exact ⟨rfl, rfl⟩ | trace_state
  · obtain ⟨f1, f2⟩ := hOm _ (List.getElem_mem hk)
    have hfew := few_con O[k] f1 f2
    have hgo := hEg k hk
    generalize O[k] = x at hfew hgo
    unfold encOp at hfew hgo
    obtain ⟨y, hy⟩ : ∃ y : GMsg, y = { x.m with frm := 1, inc := 1, to := 0 } := ⟨_, rfl⟩
    have ct := c11 y x.draws (by rw [hy]) (by rw [hy]) (by rw [hy])
    rw [hy] at ct
    repeat first | simp -implicitDefEqProofs only [go_sem, vc2_blk, hgo, List.append_eq, List.cons_append, List.nil_append] | with_reducible first | refine gl_ ?_ | refine ga_ ?_ | refine gn_ ?_
    refine CallS.eqW hfew (by simp -implicitDefEqProofs only [go_sem, vc2_blk, List.append_eq, List.cons_append, List.nil_append]) (.inl ws_) ?_
    refine g2_ ?_
    cases g3 : fewB x with
    | false =>
      refine g2_ ?_
      refine ⟨k + 1, le2_of [] ?_, rfl⟩
      exact ws_
    | true =>
      refine g2_ ?_
      refine CallS.eqW ct ws_ (.inl ws_) ?_
      refine g2_ ?_
      refine CallS.eqW c12 ws_ (.inl ws_) ?_
      refine g2_ ?_
      refine ⟨k + 1, le2_of [] ?_, rfl⟩
      exact ws_
  · refine g2_ ?_
    refine CallS.eqW c13 ws_ (.inl ws_) ?_
    refine g2_ ?_
    refine CallS.eqW c14 ws_ (.inl ws_) ?_
    repeat first | simp -implicitDefEqProofs only [go_sem, vc2_blk, t3] | with_reducible first | refine gl_ ?_ | refine ga_ ?_ | refine gn_ ?_
    refine .inr (.inr (.inl ⟨[(0, false), (1, false), (2, false), (3, false), (4, false), (5, false), (6, false), (7, false), (8, false), (9, false), (10, false)], [], by kernel_rfl, ?_⟩))
    refine g2_ ?_
    refine CallS.eqW c15 ws_ (.inl ws_) ?_
    refine g2_ ?_
    refine CallS.eqW c16 ws_ (.inl ws_) ?_
    refine g2_ ?_
    rw [show decide ((0 : Int) ≤ 0) = true from rfl]
    repeat first | simp -implicitDefEqProofs only [go_sem, vc2_blk, List.length_map, heq3, hg3] | with_reducible first | refine gl_ ?_ | refine ga_ ?_ | refine gn_ ?_
    refine CallS.eqW haw ws_ (.inl ws_) ?_
    refine g2_ ?_
    exact ⟨_, rfl, le2_of [] ws_⟩
end Go.Proofs.YtlaefellhnkfbaaGreat.V
