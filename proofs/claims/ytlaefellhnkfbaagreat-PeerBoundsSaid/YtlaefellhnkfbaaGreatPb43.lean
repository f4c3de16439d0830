/-
 bF 43 of the proof of Pb: the engine and the walks, in their order.
-/
import Derived.Test.YtlaefellhnkfbaaGreatPb27
import Derived.Test.YtlaefellhnkfbaaGreatPb34
import Derived.Test.YtlaefellhnkfbaaGreatPb37
import Derived.Test.YtlaefellhnkfbaaGreatPb41
import Derived.Test.YtlaefellhnkfbaaGreatPb42
set_option linter.unusedSimpArgs false
set_option linter.unusedVariables false
set_option maxRecDepth 10000
set_option maxHeartbeats 4000000
namespace Go.Proofs.YtlaefellhnkfbaaGreat.V
open Go.Eng
def br (c : av) (p : ak) : ak :=
 let w := fw p.wait
 { p with view := if w.2.2 = true then bb (bz p.view) w.2.1 else bz p.view, near := bz p.near, ring := il p.ring, table := gQ p.table p.node c.suspect, wait := w.1 }
def dy (c : av) (p : ak) (dr : List UInt32) : ak × List aY :=
 let a := ft p.view (aX p) c.swap dr
 if p.wait.some = false ∧ a.2.2 = true then ({ p with wait := j7 a.1 2 a.2.1 }, [{ bP p 3 a.1 with list := a.2.1 }]) else (p, [])
def cN (c : av) (dr : List UInt32) : UInt32 := if 0 ≤ c.swap ∧ c.swap < (dr.length : Int) then dr.getD c.swap.toNat 0 else 0
def gR (c : av) (p : ak) (dr : List UInt32) (links : List UInt8) : List aY :=
 if links = [] then [] else [{ bP p 5 (links.getD ((cN c dr).toNat % links.length) 0) with list := cJ p.near (aX p) }]
def fG (p : ak) : List aY := if p.ring.hs = true then [{ bP p 6 p.ring.succ.node with list := [aX p] }] else []
def uH (p : ak) (d : GDesc) : aY := { bP p 8 d.node with table := p.table }
def d_ (c : av) (p : ak) (dr : List UInt32) (L : List UInt8) : ak × List aY :=
 let q := dy c (aH c (br c p) []) dr
 (q.1, ((q.2 ++ gR c q.1 dr L) ++ fG q.1) ++ (aJ q.1.ring).map (uH q.1))
theorem re (d : GDesc) : d.older.filter = d.filter := by
 unfold GDesc.older; split <;> rfl
theorem je {d : GDesc} (h : okF d) : okF d.older := by
 unfold okF; rw [re]; exact h
theorem jh {l : List GDesc} {d : GDesc} (h : d ∈ bz l) : ∃ e ∈ l, d = e.older := by
 obtain ⟨e, h1, h2⟩ := List.mem_map.1 h
 exact ⟨e, h1, h2.symm⟩
theorem kr {l : List GDesc} (h : bO l) : bO (bz l) := ⟨by rw [bz, List.length_map]; exact h.1, fun d hd => by
 obtain ⟨e, h1, rfl⟩ := jh hd
 rw [re]; exact h.2 e h1⟩
theorem uw {c : av} {p : ak} (hp : okG p) (hw : ok8 p.wait.sent) : okG (br c p) := by
 have hv : ∀ d ∈ bz p.view, okF d := fun d hd => by
  obtain ⟨e, h1, rfl⟩ := jh hd
  exact je (hp.view e h1)
 have hn : ∀ d ∈ bz p.near, okF d := fun d hd => by
  obtain ⟨e, h1, rfl⟩ := jh hd
  exact je (hp.near e h1)
 have hv2 : ∀ d ∈ (br c p).view, okF d := fun d hd => by
  unfold br at hd
  simp only at hd
  split at hd
  ·exact hv d (List.mem_filter.1 hd).1
  ·exact hv d hd
 have hv3 : (br c p).view.length ≤ 1000 := by
  have h1 := (kr hp.ok.view).1
  unfold br
  simp only
  split
  ·exact Nat.le_trans (List.length_filter_le _ _) h1
  ·exact h1
 have hs : okF (il p.ring).succ := by
  unfold il; simp only; split
  ·exact je hp.succ
  ·exact pM
 have hpr : okF (il p.ring).pred := by
  unfold il; simp only; split
  ·exact je hp.pred
  ·exact pM
 have hwt : bO (fw p.wait).1.sent := by
  unfold fw
  split
  ·split
   ·exact ⟨Nat.zero_le _, fun d hd => by cases hd⟩
   ·exact hw.toDs
  ·exact ⟨Nat.zero_le _, fun d hd => by cases hd⟩
 have ht : (gQ p.table p.node c.suspect).length = p.table.length := by simp [gQ]
 exact ⟨⟨hp.ok.filter, ⟨hv3, fun d hd => (hv2 d hd).1⟩, kr hp.ok.near, hs.1, hpr.1, hwt, by show (gQ p.table p.node c.suspect).length ≤ 1000; rw [ht]; exact hp.ok.table, hp.ok.heard, hp.ok.rows, hp.ok.reports, hp.ok.evs, hp.ok.pulls⟩,
  hp.filter, hv2, hn, hs, hpr, by show (gQ p.table p.node c.suspect).length ≤ 12; rw [ht]; exact hp.table⟩
theorem aci {p : ak} (h : okP p) {w : GW} (hw : bO w.sent) : okP { p with wait := w } :=
 ⟨h.filter, h.view, h.near, h.succ, h.pred, hw, h.table, h.heard, h.rows, h.reports, h.evs, h.pulls⟩
theorem abm {l : List GDesc} {d : GDesc} (hl : l.length ≤ 1000 ∧ ∀ d ∈ l, d.filter.length ≤ 1000) (hd : d.filter.length ≤ 1000) (hl9 : l.length ≤ 900 := by omega) : bO (cJ l d) := by
 refine ⟨?_, fun x hx => ?_⟩
 ·simp only [cJ, List.length_append, List.length_cons, List.length_take, List.length_drop]; omega
 ·simp only [cJ, List.mem_append, List.mem_cons] at hx
  rcases hx with h | h | h
  ·exact hl.2 x (List.mem_of_mem_take h)
  ·rw [h]; exact hd
  ·exact hl.2 x (List.mem_of_mem_drop h)
def zMc : List DV := [.v (.int .u8 0), .v (.int .u8 0), .v (.int .u16 0), .v (.int .u8 0), .v (.slice none 0 0), .v (.slice none 0 0), .v (.int .u8 0), .v (.int .u16 0), .v (.int .u32 0), .v (.slice none 0 0), .v (.slice none 0 0), .v (.int .u8 0), .v (.int .u8 0), .v (.int .u16 0), .v (.int .u32 0), .v (.slice none 0 0), .v (.slice none 0 0)]
attribute [local go_sem] aR aP ah fzD plR bB bn aI bC aE aq bm dd z8 z16 z32 z64 ar aT ey iD List.map_cons List.map_nil
end Go.Proofs.YtlaefellhnkfbaaGreat.V

set_option maxRecDepth 10000
set_option maxHeartbeats 40000000
namespace Go.Proofs.YtlaefellhnkfbaaGreat.V
open Go.Eng
attribute [local go_sem] aR aP ah fzD plR bB bn aI bC aE aq bm dd z8 z16 z32 z64 ar aT ey iD List.map_cons List.map_nil
def zPc : List DV := [.v (.int .u8 0), .v (.int .u16 0), .v (.bool false), .v (.slice none 0 0), .v (.slice none 0 0), .v (.slice none 0 0), .v (.bool false), .v (.bool false), .v (.int .u8 0), .v (.int .u16 0), .v (.int .u8 0), .v (.slice none 0 0), .v (.int .u8 0), .v (.int .u16 0), .v (.int .u8 0), .v (.slice none 0 0), .v (.bool false), .v (.int .u8 0), .v (.int .u8 0), .v (.slice none 0 0), .v (.slice none 0 0), .v (.int .u32 0), .v (.slice none 0 0), .v (.int .u32 0), .v (.slice none 0 0), .v (.slice none 0 0), .v (.int .i64 0), .v (.slice none 0 0), .v (.slice none 0 0), .v (.int .i64 0), .v (.int .i64 0), .v (.int .i64 0)]
theorem u9 (c : av) (p : ak) (dr : List UInt32) (L : List UInt8) (hc : c.schema.length ≤ 4) (hcs : ∀ s ∈ c.schema, okS s) (hp : okH p) (hu : p.up = true) (hsw : c.swap ≤ 9223372036854775807) (hdr : dr.length ≤ 1000) (hws : ok8 p.wait.sent)
  (hL : Con2 Tryz.prog 14 [.agg (aq (dy c (aH c (br c p) []) dr).1)] (· = plR (.fz 1 (L.map aU)))) (hLn : L.length ≤ 1000)
  (hsent : ok8 (ft (aH c (br c p) []).view (aX (aH c (br c p) [])) c.swap dr).2.1) (v8 : ok8 (aH c (br c p) []).view) (f8 : p.filter.length ≤ 8) :
  Con2 Tryz.prog 20 [.agg (aE c), .agg (aq p), .fz 1 (dr.map aW)] (· = plR (.tup [.agg (aq (d_ c p dr L).1), .fz 17 ((d_ c p dr L).2.map ar)])) := by
 refine Con2.ofEmb ?_
 have k0 := aM p hp.ok
 have k1 : Con2 Tryz.prog 56 [fzD p.view] (· = plR (fzD (bz p.view))) := hZ (lv p.view hp.ok.view)
 have k2 : Con2 Tryz.prog 56 [fzD p.near] (· = plR (fzD (bz p.near))) := hZ (lv p.near hp.ok.near)
 have k3 := xG p.ring hp.ok.succ hp.ok.pred
 have k4 := abz p.table p.node c.suspect (by have := hp.g.table; omega)
 have k5 := ai7 p.wait hws
 have kd : Con2 Tryz.prog 60 [fzD (bz p.view), .v (.int .u8 (fw p.wait).2.1.toNat)] (· = plR (fzD (bb (bz p.view) (fw p.wait).2.1))) := hZ (oO (bz p.view) (uI hp.vw).2 _ (kr hp.ok.view))
 have hg2 := uw (c := c) hp.g hws
 have k6 := bE c (br c p) [] hc hcs hg2 ⟨by simp, by simp⟩ (by simp)
 have hg3 := kN (c := c) (l := []) hg2 ⟨by simp, by simp⟩ (by simp)
 have hn9 : (aH c (br c p) []).near.length ≤ 900 := Nat.le_trans qx (Nat.le_trans ((qQ (c := c) hg2 (l := []) ⟨by simp, by simp⟩ (by simp)).1.u _).2 (by omega))
 have hf8 : (aX (aH c (br c p) [])).filter.length ≤ 8 := f8
 have k21 := aO [] ⟨by simp, by simp⟩
 have k21b := eS [] (by simp)
 have hT1 : (d_ c p dr L).1 = (dy c (aH c (br c p) []) dr).1 := rfl
 rw [hT1]
 clear hT1
 generalize hR1 : (d_ c p dr L).2 = R
 unfold d_ at hR1
 generalize hq : aH c (br c p) [] = q at *
 simp only at hR1
 generalize hpa : br c p = pa at k6 hq hg2
 refine mn Ty.mixed Tryz.func20 rfl (by kernel_rfl) (by kernel_rfl) rfl [.cell 6 49, .tmp 7] rfl ?_
 refine Vc2.sq ?_
 refine g2_ ?_
 refine Vc2.sq ?_
 refine g2_ ?_
 refine CallS.eqW k0 ws_ (.inl ws_) ?_
 refine g2_ ?_
 refine Vc2.sq ?_
 refine g2_ ?_
 rw [hu]
 refine g2_ ?_
 refine Vc2.sq ?_
 refine g2_ ?_
 refine CallS.eqW k1 ws_ (.inl ws_) ?_
 refine g2_ ?_
 refine Vc2.sq ?_
 refine g2_ ?_
 refine CallS.eqW k2 ws_ (.inl ws_) ?_
 refine g2_ ?_
 refine Vc2.sq ?_
 refine g2_ ?_
 refine CallS.eqW k3 ws_ (.inl ws_) ?_
 refine g2_ ?_
 refine Vc2.sq ?_
 refine g2_ ?_
 refine CallS.eqW k4 ws_ (.inl ws_) ?_
 refine g2_ ?_
 refine Vc2.sq ?_
 refine g2_ ?_
 refine CallS.eqW k5 ws_ (.inl ws_) ?_
 refine g2_ ?_
 refine Vc2.sq ?_
 refine g2_ ?_
 refine Vc2.seqJ (γ := Unit) (fun _ => ⟨[(2, .d (.fz 1 (dr.map aW))), (3, .loc 3 0), (4, .loc 4 0), (6, .loc 6 0), (7, .d (.v (.slice none 0 0)))], [(3, ⟨aE c, 26⟩), (4, ⟨aq pa, 49⟩), (6, ⟨zPc, 49⟩)], [], 0, 0⟩) (fun _ => True) ?_ (fun _ _ => ?_)
 ·refine g2_ ?_
  cases hov : (fw p.wait).2.2 with
  | false =>
   have hag : pa = { p with view := bz p.view, near := bz p.near, ring := il p.ring, table := gQ p.table p.node c.suspect, wait := (fw p.wait).1 } := by
    rw [← hpa]; unfold br; simp only [hov, Bool.false_eq_true, if_false]
   refine g2_ ?_
   refine ⟨(), ac [] ?_⟩
   repeat first | simp -implicitDefEqProofs only [go_sem, aa, hag, hu, zPc] | with_reducible refine gl_ ?_
   first | done | rfl | exact ⟨rfl, rfl⟩ | trace_state
  | true =>
   have hag : pa = { p with view := bb (bz p.view) (fw p.wait).2.1, near := bz p.near, ring := il p.ring, table := gQ p.table p.node c.suspect, wait := (fw p.wait).1 } := by
    rw [← hpa]; unfold br; simp only [hov, if_true]
   refine g2_ ?_
   refine CallS.eqW kd ws_ (.inl ws_) ?_
   refine g2_ ?_
   refine ⟨(), ac [] ?_⟩
   repeat first | simp -implicitDefEqProofs only [go_sem, aa, hag, hu, zPc] | with_reducible refine gl_ ?_
   first | done | rfl | exact ⟨rfl, rfl⟩ | trace_state
 obtain ⟨q2, hq2⟩ : ∃ q2, q2 = (dy c q dr).1 := ⟨_, rfl⟩
 obtain ⟨S1, hS1⟩ : ∃ S1, S1 = (dy c q dr).2 := ⟨_, rfl⟩
 rw [← hq2] at hL hR1 ⊢
 rw [← hS1] at hR1
 have hg4 : okP q2 := by
  rw [hq2]; unfold dy; simp only; split
  ·exact aci hg3.ok hsent.toDs
  ·exact hg3.ok
 have hn9 : q2.near.length ≤ 900 := by
  rw [hq2]; unfold dy; simp only; split
  ·exact hn9
  ·exact hn9
 have htb : q2.table.length ≤ 12 := by
  rw [hq2]; unfold dy; simp only; split
  ·exact hg3.table
  ·exact hg3.table
 have hS1l : S1.length ≤ 1 := by
  rw [hS1]; unfold dy; simp only; split <;> simp
 refine Vc2.sq ?_
 refine g2_ ?_
 refine .inl ⟨oF [0, 1, 2, 4] (oT 3 (oF [5, 6, 7] [])), by kernel_rfl, ?_⟩
 refine g2_ ?_
 refine CallS.eqW k6 ws_ (.inl ws_) ?_
 refine g2_ ?_
 refine Vc2.seqJ (γ := Bool) (fun g => match g with
  | true => ⟨[(11, .d (.pt 0 0)), (6, .loc 6 0), (7, .d (.v (.slice none 0 0)))], [(6, ⟨zPc, 49⟩)], [(1, .arr 67 17 (S1.map ar) false), (0, .var 105 (aE c ++ (aq q2 ++ (zMc ++ [.fz 1 (dr.map aW), .v (.bool false), .rf 1 0 S1.length]))))], 2, 0⟩
  | false => ⟨[(11, .loc 64 0), (6, .loc 6 0), (7, .d (.v (.slice none 0 0)))], [(64, ⟨(aE c ++ (aq q2 ++ (zMc ++ [.fz 1 (dr.map aW), .v (.bool false), .v (.slice none 0 0)]))), 105⟩), (6, ⟨zPc, 49⟩)], [], 0, 0⟩) (fun g => g = true ∨ S1 = []) ?_ (fun g hg => ?_)
 ·refine g2_ ?_
  cases hw3 : q.wait.some with
  | true =>
   have e : dy c q dr = (q, []) := by unfold dy; rw [hw3]; simp
   rw [e] at hq2 hS1
   simp only at hq2 hS1
   refine g2_ ?_
   refine ⟨false, ac [] ?_, .inr hS1⟩
   repeat first | simp -implicitDefEqProofs only [go_sem, aa, hq2, hw3, zMc, zPc] | with_reducible refine gl_ ?_
   first | done | rfl | exact ⟨rfl, rfl⟩ | trace_state
  | false =>
   have k7 := fC q hg3.ok
   have k8 := akY q.view (aX q) c.swap dr v8 hf8 hdr hsw
   generalize hca : ft q.view (aX q) c.swap dr = a at k8 hsent
   obtain ⟨to, sent, ok⟩ := a
   simp only at k8 hsent
   have hkq : dy c q dr = if ok = true then ({ q with wait := j7 to 2 sent }, [{ bP q 3 to with list := sent }]) else (q, []) := by
    unfold dy; rw [hca, hw3]; simp
   rw [hkq] at hq2 hS1
   refine g2_ ?_
   refine CallS.inline Ty.mixed Tryz.func61 rfl (by kernel_rfl) (by kernel_rfl) rfl [] rfl (Vc2.of ?_)
   refine g2_ ?_
   refine g2_ ?_
   refine .inl ⟨oF [0, 5, 10, 15, 1, 6, 11, 16, 2, 7, 12, 17, 3, 8, 13, 18, 4, 14] (oT 9 (oF [19, 20, 21, 22, 23, 24, 25, 26] [])), by kernel_rfl, ?_⟩
   refine g2_ ?_
   refine CallS.eqW k7 (by simp -implicitDefEqProofs only [go_sem, aa, hw3]) (.inl ws_) ?_
   refine g2_ ?_
   refine CallS.eqW k8 (by simp -implicitDefEqProofs only [go_sem, aa, hw3]) (.inl ws_) ?_
   refine g2_ ?_
   cases ok with
   | false =>
    rw [if_neg (by decide)] at hq2 hS1
    simp only at hq2 hS1
    refine g2_ ?_
    rw [hq2, hS1]
    refine ⟨true, ac [(1, .nil 17), (0, .to 0)] ?_, .inl rfl⟩
    repeat first | simp -implicitDefEqProofs only [go_sem, aa, hw3, List.length_nil, List.map_nil, zMc, zPc, List.append_eq, List.cons_append, List.nil_append] | with_reducible refine gl_ ?_
    first | done | rfl | exact ⟨rfl, rfl⟩ | trace_state
   | true =>
    rw [if_pos rfl] at hq2 hS1
    simp only at hq2 hS1
    have k9 := ahM to 2 sent hsent
    have k10 : Con2 Tryz.prog 43 [.agg (aq { q with wait := j7 to 2 sent }), .v (.int .u8 (UInt8.toNat 3)), .v (.int .u8 to.toNat)] (· = plR (.agg (ar (bP q 3 to)))) := eh { q with wait := j7 to 2 sent } 3 to
    have k11 := aO sent hsent.toDs
    have hM1t : (bP q 3 to).table = [] := rfl
    generalize bP q 3 to = M1 at k10 hS1 hM1t
    refine g2_ ?_
    refine CallS.eqW k9 ws_ (.inl ws_) ?_
    refine g2_ ?_
    refine CallS.inline Ty.mixed Tryz.func63 rfl (by kernel_rfl) (by kernel_rfl) rfl [] rfl (Vc2.of ?_)
    refine g2_ ?_
    refine g2_ ?_
    refine CallS.eqW k10 ws_ (.inl ws_) ?_
    refine g2_ ?_
    refine CallS.eqW k11 ws_ (.inl ws_) ?_
    refine g2_ ?_
    refine CallS.eqW k21b ws_ (.inl ws_) ?_
    refine g2_ ?_
    refine .inl ⟨oF [0, 1, 5, 2, 3, 4] (oT 6 (oF [7, 8, 9, 10] [])), by kernel_rfl, ?_⟩
    repeat first | simp -implicitDefEqProofs only [go_sem, aa, List.length_map] | with_reducible first | refine gl_ ?_ | refine ga_ ?_ | refine gn_ ?_
    rw [hq2, hS1]
    refine ⟨true, ac [(1, .to 2), (0, .to 0)] ?_, .inl rfl⟩
    repeat first | simp -implicitDefEqProofs only [go_sem, aa, hw3, hM1t, List.length_cons, List.length_nil, zMc, zPc, List.append_eq, List.cons_append, List.nil_append] | with_reducible refine gl_ ?_
    first | done | rfl | exact ⟨rfl, rfl⟩ | trace_state
 clear hq2 hS1
 have k13 := fC q2 hg4
 have k14 := lS q2.near (aX q2) hg4.near hg4.filter
 have k16 := aO (cJ q2.near (aX q2)) (abm hg4.near hg4.filter hn9)
 have k17 := aO [aX q2] ⟨by simp, fun d hd => by rw [List.mem_singleton.1 hd]; exact hg4.filter⟩
 have k19 := gM q2.ring hg4.succ hg4.pred
 have hrl := dW q2.ring
 have k15 : ∀ to2 : UInt8, Con2 Tryz.prog 43 [.agg (aq q2), .v (.int .u8 (UInt8.toNat 5)), .v (.int .u8 to2.toNat)] (· = plR (.agg (ar (bP q2 5 to2)))) := fun to2 => eh q2 5 to2
 have k18 : Con2 Tryz.prog 43 [.agg (aq q2), .v (.int .u8 (UInt8.toNat 6)), .v (.int .u8 q2.ring.succ.node.toNat)] (· = plR (.agg (ar (bP q2 6 q2.ring.succ.node)))) := eh q2 6 q2.ring.succ.node
 have k20 : ∀ d : GDesc, Con2 Tryz.prog 43 [.agg (aq q2), .v (.int .u8 (UInt8.toNat 8)), .v (.int .u8 d.node.toNat)] (· = plR (.agg (ar (bP q2 8 d.node)))) := fun d => eh q2 8 d.node
 have k22 := eS (q2.table.map aI) (by rw [List.length_map]; omega)
 obtain ⟨S2, hS2⟩ : ∃ S2, S2 = S1 ++ gR c q2 dr L := ⟨_, rfl⟩
 have hR0 : (S2 ++ fG q2) ++ (aJ q2.ring).map (uH q2) = R := by rw [hS2]; exact hR1
 have hS2l : S2.length ≤ 11 := by
  rw [hS2, List.length_append]
  have : (gR c q2 dr L).length ≤ 1 := by unfold gR; split <;> simp
  omega
 generalize aJ q2.ring = B at k19 hrl hR0
 refine Vc2.seqJ (γ := Unit) (fun _ => ⟨[(11, .d (.pt 0 0)), (6, .loc 6 0), (7, .d (.v (.slice none 0 0)))], [(6, ⟨zPc, 49⟩)], [(1, .arr 67 17 (S2.map ar) false), (0, .var 105 (aE c ++ (aq q2 ++ (zMc ++ [.fz 1 (dr.map aW), .v (.bool false), .rf 1 0 S2.length]))))], 2, 0⟩) (fun _ => True) ?_ (fun _ _ => ?_)
 ·match g, hg with
  | true, _ =>
   simp only
   repeat first | simp -implicitDefEqProofs only [go_sem, aa, zMc, zPc, List.append_eq, List.cons_append, List.nil_append] | with_reducible first | refine gl_ ?_ | refine ga_ ?_ | refine gn_ ?_
   refine CallS.inline Ty.mixed Tryz.func62 rfl (by kernel_rfl) (by kernel_rfl) rfl [] rfl ?_
   refine Vc2.sq ?_
   refine g2_ ?_
   refine CallS.eqW hL ws_ (.inl ws_) ?_
   repeat first | simp -implicitDefEqProofs only [go_sem, aa, List.length_map] | with_reducible first | refine gl_ ?_ | refine ga_ ?_ | refine gn_ ?_
   refine Vc2.sq ?_
   repeat first | simp -implicitDefEqProofs only [go_sem, aa, List.length_map] | with_reducible first | refine gl_ ?_ | refine ga_ ?_ | refine gn_ ?_
   by_cases hLe : L = []
   ·have hS2e : S2 = S1 := by rw [hS2, gR, if_pos hLe, List.append_nil]
    rw [show ((L.length : Int) == 0) = true by rw [hLe]; rfl]
    refine g2_ ?_
    rw [hS2e]
    first
     | (refine ⟨(), ac [(1, .to 1), (0, .to 0)] ?_⟩; (focus (repeat first | simp -implicitDefEqProofs only [go_sem, aa, zMc, zPc, List.append_eq, List.cons_append, List.nil_append] | with_reducible refine gl_ ?_; done)))
   have hLp : 0 < L.length := List.length_pos_iff.2 hLe
   rw [show ((L.length : Int) == 0) = false from beq_eq_false_iff_ne.2 (by omega)]
   refine g2_ ?_
   refine Vc2.sq ?_
   refine g2_ ?_
   refine Vc2.seqJ (γ := Unit) (fun _ => ⟨[(0, .d (.pt 0 0)), (2, .d (.fz 1 (L.map aU))), (3, .d (.v (.int .u32 (cN c dr).toNat)))], [], [(1, .arr 67 17 (S1.map ar) false), (0, .var 105 (aE c ++ (aq q2 ++ (zMc ++ [.fz 1 (dr.map aW), .v (.bool false), .rf 1 0 S1.length]))))], 2, 2⟩) (fun _ => True) ?_ (fun _ _ => Vc2.of ?_)
   ·refine g2_ ?_
    refine .inl ⟨oF [0, 1, 2, 3, 4, 5, 6, 7, 12, 8, 13, 9, 14, 10, 15, 11, 16, 17, 18] [], by kernel_rfl, ?_⟩
    refine g2_ ?_
    by_cases h0 : 0 ≤ c.swap
    ·rw [show decide (0 ≤ c.swap) = true from decide_eq_true h0]
     repeat first | simp -implicitDefEqProofs only [go_sem, aa, List.length_map] | with_reducible first | refine gl_ ?_ | refine ga_ ?_ | refine gn_ ?_
     by_cases h1 : c.swap < (dr.length : Int)
     ·obtain ⟨sw, hsw2⟩ : ∃ sw : Nat, c.swap = sw := ⟨c.swap.toNat, by omega⟩
      have hswl : sw < dr.length := by omega
      have hdg : (dr.map aW)[sw]? = some [.v (.int .u32 dr[sw].toNat)] := by rw [List.getElem?_map, List.getElem?_eq_getElem hswl]; rfl
      have hkd : cN c dr = dr[sw] := by
       rw [cN, if_pos ⟨h0, h1⟩, hsw2, Int.toNat_natCast, List.getD_eq_getElem?_getD, List.getElem?_eq_getElem hswl]; rfl
      rw [show decide (c.swap < (dr.length : Int)) = true from decide_eq_true h1]
      refine g2_ ?_
      refine .inl ⟨oF [0, 4, 1, 5, 2, 6, 3, 7, 8, 9, 10, 11] [], by kernel_rfl, ?_⟩
      repeat first | simp -implicitDefEqProofs only [go_sem, aa, hsw2, hdg, List.length_map, Int.toNat_natCast] | with_reducible first | refine gl_ ?_ | refine ga_ ?_ | refine gn_ ?_
      refine ⟨(), ac [] ?_⟩
      repeat first | simp -implicitDefEqProofs only [go_sem, aa, hkd, hsw2, zMc, zPc, List.append_eq, List.cons_append, List.nil_append] | with_reducible refine gl_ ?_
      first | done | rfl | exact ⟨rfl, rfl⟩ | trace_state
     ·have hkd : cN c dr = 0 := by rw [cN, if_neg (fun h => h1 h.2)]
      rw [show decide (c.swap < (dr.length : Int)) = false from decide_eq_false h1]
      refine g2_ ?_
      refine ⟨(), ac [] ?_⟩
      repeat first | simp -implicitDefEqProofs only [go_sem, aa, hkd, zMc, zPc, List.append_eq, List.cons_append, List.nil_append] | with_reducible refine gl_ ?_
      first | done | rfl | exact ⟨rfl, rfl⟩ | trace_state
    ·have hkd : cN c dr = 0 := by rw [cN, if_neg (fun h => h0 h.1)]
     rw [show decide (0 ≤ c.swap) = false from decide_eq_false h0]
     repeat first | simp -implicitDefEqProofs only [go_sem, aa, List.length_map] | with_reducible first | refine gl_ ?_ | refine ga_ ?_ | refine gn_ ?_
     refine ⟨(), ac [] ?_⟩
     repeat first | simp -implicitDefEqProofs only [go_sem, aa, hkd, zMc, zPc, List.append_eq, List.cons_append, List.nil_append] | with_reducible refine gl_ ?_
     first | done | rfl | exact ⟨rfl, rfl⟩ | trace_state
   generalize hkd : cN c dr = dw
   have hmod : dw.toNat % L.length < L.length := Nat.mod_lt _ hLp
   have hlg : (L.map aU)[dw.toNat % L.length]? = some [.v (.int .u8 (L.getD (dw.toNat % L.length) 0).toNat)] := by
    rw [List.getElem?_map, List.getD_eq_getElem?_getD, List.getElem?_eq_getElem hmod]; rfl
   have hkt : gR c q2 dr L = [{ bP q2 5 (L.getD (dw.toNat % L.length) 0) with list := cJ q2.near (aX q2) }] := by
    rw [gR, if_neg hLe, hkd]
   have hd32 := dw.toNat_lt
   repeat first | simp -implicitDefEqProofs only [go_sem, aa, zMc, zPc, List.append_eq, List.cons_append, List.nil_append] | with_reducible first | refine gl_ ?_ | refine ga_ ?_ | refine gn_ ?_
   rw [kK (a := dw.toNat) (b := L.length) rfl rfl hLp]
   repeat first | simp -implicitDefEqProofs only [go_sem, aa, hlg, List.length_map, Int.toNat_natCast] | with_reducible first | refine gl_ ?_ | refine ga_ ?_ | refine gn_ ?_
   generalize L.getD (dw.toNat % L.length) 0 = to2 at hlg hkt ⊢
   have hS2m : S2.map ar = S1.map ar ++ [ar { bP q2 5 to2 with list := cJ q2.near (aX q2) }] := by rw [hS2, hkt, List.map_append]; rfl
   have hS2e : S2.length = S1.length + 1 := by rw [hS2, hkt, List.length_append]; rfl
   have kk := k15 to2
   have hM2t : (bP q2 5 to2).table = [] := rfl
   generalize bP q2 5 to2 = M2 at kk hS2m hM2t
   refine .inl ⟨oF [0, 1, 2, 7, 3, 8, 4, 9, 5, 10, 6] (oT 11 (oF [12, 13] [])), by kernel_rfl, ?_⟩
   refine g2_ ?_
   refine CallS.eqW k13 ws_ (.inl ws_) ?_
   refine g2_ ?_
   refine CallS.eqW k14 (by simp -implicitDefEqProofs only [go_sem, aa, aX]) (.inl ws_) ?_
   refine g2_ ?_
   refine CallS.inline Ty.mixed Tryz.func63 rfl (by kernel_rfl) (by kernel_rfl) rfl [] rfl (Vc2.of ?_)
   refine g2_ ?_
   refine g2_ ?_
   refine CallS.eqW kk ws_ (.inl ws_) ?_
   refine g2_ ?_
   refine CallS.eqW k16 ws_ (.inl ws_) ?_
   refine g2_ ?_
   refine CallS.eqW k21b ws_ (.inl ws_) ?_
   refine g2_ ?_
   refine .inl ⟨oF [0, 1, 5, 2, 3, 4] (oT 6 (oF [7, 8, 9, 10] [])), by kernel_rfl, ?_⟩
   repeat first | simp -implicitDefEqProofs only [go_sem, aa, List.length_map] | with_reducible first | refine gl_ ?_ | refine ga_ ?_ | refine gn_ ?_
   refine ⟨(), ac [(1, .to 3), (0, .to 0)] ?_⟩
   repeat first | simp -implicitDefEqProofs only [go_sem, aa, hS2m, hS2e, hM2t, aX, List.length_append, zMc, zPc, List.append_eq, List.cons_append, List.nil_append] | with_reducible refine gl_ ?_
   first | done | rfl | exact ⟨rfl, rfl⟩ | trace_state
  | false, hg =>
   simp only at hg ⊢
   have hg := hg.resolve_left (by decide)
   repeat first | simp -implicitDefEqProofs only [go_sem, aa, zMc, zPc, List.append_eq, List.cons_append, List.nil_append] | with_reducible first | refine gl_ ?_ | refine ga_ ?_ | refine gn_ ?_
   refine CallS.inline Ty.mixed Tryz.func62 rfl (by kernel_rfl) (by kernel_rfl) rfl [] rfl ?_
   refine Vc2.sq ?_
   refine g2_ ?_
   refine CallS.eqW hL ws_ (.inl ws_) ?_
   repeat first | simp -implicitDefEqProofs only [go_sem, aa, List.length_map] | with_reducible first | refine gl_ ?_ | refine ga_ ?_ | refine gn_ ?_
   refine Vc2.sq ?_
   repeat first | simp -implicitDefEqProofs only [go_sem, aa, List.length_map] | with_reducible first | refine gl_ ?_ | refine ga_ ?_ | refine gn_ ?_
   by_cases hLe : L = []
   ·have hS2e : S2 = S1 := by rw [hS2, gR, if_pos hLe, List.append_nil]
    rw [show ((L.length : Int) == 0) = true by rw [hLe]; rfl]
    refine g2_ ?_
    rw [hS2e]
    first
     | (refine ⟨(), ac [(1, .nil 17), (0, .to 0)] ?_⟩; (focus (repeat first | simp -implicitDefEqProofs only [go_sem, aa, hg, List.map_nil, List.length_nil, zMc, zPc, List.append_eq, List.cons_append, List.nil_append] | with_reducible refine gl_ ?_; done)))
   have hLp : 0 < L.length := List.length_pos_iff.2 hLe
   rw [show ((L.length : Int) == 0) = false from beq_eq_false_iff_ne.2 (by omega)]
   refine g2_ ?_
   refine Vc2.sq ?_
   refine g2_ ?_
   refine Vc2.seqJ (γ := Unit) (fun _ => ⟨[(0, .d (.pt 0 0)), (2, .d (.fz 1 (L.map aU))), (3, .d (.v (.int .u32 (cN c dr).toNat)))], [], [(0, .var 105 (aE c ++ (aq q2 ++ (zMc ++ [.fz 1 (dr.map aW), .v (.bool false), .v (.slice none 0 0)]))))], 1, 1⟩) (fun _ => True) ?_ (fun _ _ => Vc2.of ?_)
   ·refine g2_ ?_
    refine .inl ⟨oF [0, 1, 2, 3, 4, 5, 6, 7, 12, 8, 13, 9, 14, 10, 15, 11, 16, 17, 18] [], by kernel_rfl, ?_⟩
    refine g2_ ?_
    by_cases h0 : 0 ≤ c.swap
    ·rw [show decide (0 ≤ c.swap) = true from decide_eq_true h0]
     repeat first | simp -implicitDefEqProofs only [go_sem, aa, List.length_map] | with_reducible first | refine gl_ ?_ | refine ga_ ?_ | refine gn_ ?_
     by_cases h1 : c.swap < (dr.length : Int)
     ·obtain ⟨sw, hsw2⟩ : ∃ sw : Nat, c.swap = sw := ⟨c.swap.toNat, by omega⟩
      have hswl : sw < dr.length := by omega
      have hdg : (dr.map aW)[sw]? = some [.v (.int .u32 dr[sw].toNat)] := by rw [List.getElem?_map, List.getElem?_eq_getElem hswl]; rfl
      have hkd : cN c dr = dr[sw] := by
       rw [cN, if_pos ⟨h0, h1⟩, hsw2, Int.toNat_natCast, List.getD_eq_getElem?_getD, List.getElem?_eq_getElem hswl]; rfl
      rw [show decide (c.swap < (dr.length : Int)) = true from decide_eq_true h1]
      refine g2_ ?_
      refine .inl ⟨oF [0, 4, 1, 5, 2, 6, 3, 7, 8, 9, 10, 11] [], by kernel_rfl, ?_⟩
      repeat first | simp -implicitDefEqProofs only [go_sem, aa, hsw2, hdg, List.length_map, Int.toNat_natCast] | with_reducible first | refine gl_ ?_ | refine ga_ ?_ | refine gn_ ?_
      refine ⟨(), ac [] ?_⟩
      repeat first | simp -implicitDefEqProofs only [go_sem, aa, hkd, hsw2, zMc, zPc, List.append_eq, List.cons_append, List.nil_append] | with_reducible refine gl_ ?_
      first | done | rfl | exact ⟨rfl, rfl⟩ | trace_state
     ·have hkd : cN c dr = 0 := by rw [cN, if_neg (fun h => h1 h.2)]
      rw [show decide (c.swap < (dr.length : Int)) = false from decide_eq_false h1]
      refine g2_ ?_
      refine ⟨(), ac [] ?_⟩
      repeat first | simp -implicitDefEqProofs only [go_sem, aa, hkd, zMc, zPc, List.append_eq, List.cons_append, List.nil_append] | with_reducible refine gl_ ?_
      first | done | rfl | exact ⟨rfl, rfl⟩ | trace_state
    ·have hkd : cN c dr = 0 := by rw [cN, if_neg (fun h => h0 h.1)]
     rw [show decide (0 ≤ c.swap) = false from decide_eq_false h0]
     repeat first | simp -implicitDefEqProofs only [go_sem, aa, List.length_map] | with_reducible first | refine gl_ ?_ | refine ga_ ?_ | refine gn_ ?_
     refine ⟨(), ac [] ?_⟩
     repeat first | simp -implicitDefEqProofs only [go_sem, aa, hkd, zMc, zPc, List.append_eq, List.cons_append, List.nil_append] | with_reducible refine gl_ ?_
     first | done | rfl | exact ⟨rfl, rfl⟩ | trace_state
   generalize hkd : cN c dr = dw
   have hmod : dw.toNat % L.length < L.length := Nat.mod_lt _ hLp
   have hlg : (L.map aU)[dw.toNat % L.length]? = some [.v (.int .u8 (L.getD (dw.toNat % L.length) 0).toNat)] := by
    rw [List.getElem?_map, List.getD_eq_getElem?_getD, List.getElem?_eq_getElem hmod]; rfl
   have hkt : gR c q2 dr L = [{ bP q2 5 (L.getD (dw.toNat % L.length) 0) with list := cJ q2.near (aX q2) }] := by
    rw [gR, if_neg hLe, hkd]
   have hd32 := dw.toNat_lt
   repeat first | simp -implicitDefEqProofs only [go_sem, aa, zMc, zPc, List.append_eq, List.cons_append, List.nil_append] | with_reducible first | refine gl_ ?_ | refine ga_ ?_ | refine gn_ ?_
   rw [kK (a := dw.toNat) (b := L.length) rfl rfl hLp]
   repeat first | simp -implicitDefEqProofs only [go_sem, aa, hlg, List.length_map, Int.toNat_natCast] | with_reducible first | refine gl_ ?_ | refine ga_ ?_ | refine gn_ ?_
   generalize L.getD (dw.toNat % L.length) 0 = to2 at hlg hkt ⊢
   have hS2m : S2.map ar = S1.map ar ++ [ar { bP q2 5 to2 with list := cJ q2.near (aX q2) }] := by rw [hS2, hkt, List.map_append]; rfl
   have hS2e : S2.length = S1.length + 1 := by rw [hS2, hkt, List.length_append]; rfl
   have kk := k15 to2
   have hM2t : (bP q2 5 to2).table = [] := rfl
   generalize bP q2 5 to2 = M2 at kk hS2m hM2t
   refine .inl ⟨oF [0, 1, 2, 7, 3, 8, 4, 9, 5, 10, 6] (oT 11 (oF [12, 13] [])), by kernel_rfl, ?_⟩
   refine g2_ ?_
   refine CallS.eqW k13 ws_ (.inl ws_) ?_
   refine g2_ ?_
   refine CallS.eqW k14 (by simp -implicitDefEqProofs only [go_sem, aa, aX]) (.inl ws_) ?_
   refine g2_ ?_
   refine CallS.inline Ty.mixed Tryz.func63 rfl (by kernel_rfl) (by kernel_rfl) rfl [] rfl (Vc2.of ?_)
   refine g2_ ?_
   refine g2_ ?_
   refine CallS.eqW kk ws_ (.inl ws_) ?_
   refine g2_ ?_
   refine CallS.eqW k16 ws_ (.inl ws_) ?_
   refine g2_ ?_
   refine CallS.eqW k21b ws_ (.inl ws_) ?_
   refine g2_ ?_
   refine .inl ⟨oF [0, 1, 5, 2, 3, 4] (oT 6 (oF [7, 8, 9, 10] [])), by kernel_rfl, ?_⟩
   repeat first | simp -implicitDefEqProofs only [go_sem, aa, List.length_map] | with_reducible first | refine gl_ ?_ | refine ga_ ?_ | refine gn_ ?_
   refine ⟨(), ac [(1, .to 2), (0, .to 0)] ?_⟩
   repeat first | simp -implicitDefEqProofs only [go_sem, aa, hS2m, hS2e, hM2t, hg, List.map_nil, List.length_nil, aX, List.length_append, zMc, zPc, List.append_eq, List.cons_append, List.nil_append] | with_reducible refine gl_ ?_
   first | done | rfl | exact ⟨rfl, rfl⟩ | trace_state
 obtain ⟨S3, hS3⟩ : ∃ S3, S3 = S2 ++ fG q2 := ⟨_, rfl⟩
 have hR : S3 ++ B.map (uH q2) = R := by rw [hS3]; exact hR0
 have hS3l : S3.length ≤ 12 := by
  rw [hS3, List.length_append]
  have : (fG q2).length ≤ 1 := by unfold fG; split <;> simp
  omega
 refine Vc2.seqJ (γ := Unit) (fun _ => ⟨[(11, .d (.pt 0 0)), (6, .loc 6 0), (7, .d (.v (.slice none 0 0)))], [(6, ⟨zPc, 49⟩)], [(1, .arr 67 17 (S3.map ar) false), (0, .var 105 (aE c ++ (aq q2 ++ (zMc ++ [.fz 1 (dr.map aW), .v (.bool false), .rf 1 0 S3.length]))))], 2, 0⟩) (fun _ => True) ?_ (fun _ _ => ?_)
 ·repeat first | simp -implicitDefEqProofs only [go_sem, aa, zMc, zPc, List.append_eq, List.cons_append, List.nil_append] | with_reducible first | refine gl_ ?_ | refine ga_ ?_ | refine gn_ ?_
  cases hs2 : q2.ring.hs with
  | false =>
   have e : S3 = S2 := by rw [hS3, fG, if_neg (by rw [hs2]; decide), List.append_nil]
   refine g2_ ?_
   rw [e]
   refine ⟨(), ac [(1, .to 1), (0, .to 0)] ?_⟩
   repeat first | simp -implicitDefEqProofs only [go_sem, aa, hs2, zMc, zPc, List.append_eq, List.cons_append, List.nil_append] | with_reducible refine gl_ ?_
   first | done | rfl | exact ⟨rfl, rfl⟩ | trace_state
  | true =>
   have hS3m : S3.map ar = S2.map ar ++ [ar { bP q2 6 q2.ring.succ.node with list := [aX q2] }] := by rw [hS3, fG, if_pos hs2, List.map_append]; rfl
   have hS3e : S3.length = S2.length + 1 := by rw [hS3, fG, if_pos hs2, List.length_append]; rfl
   have hM3t : (bP q2 6 q2.ring.succ.node).table = [] := rfl
   generalize bP q2 6 q2.ring.succ.node = M3 at k18 hS3m hM3t
   refine g2_ ?_
   refine .inl ⟨oF [0, 1, 8, 2, 9, 3, 10, 4, 11, 5, 6, 7] (oT 12 (oT 13 (oF [14] []))), by kernel_rfl, ?_⟩
   refine g2_ ?_
   refine CallS.eqW k13 (by simp -implicitDefEqProofs only [go_sem, aa, hs2]) (.inl ws_) ?_
   refine g2_ ?_
   refine CallS.inline Ty.mixed Tryz.func63 rfl (by kernel_rfl) (by kernel_rfl) rfl [] rfl (Vc2.of ?_)
   refine g2_ ?_
   refine g2_ ?_
   refine CallS.eqW k18 (by simp -implicitDefEqProofs only [go_sem, aa, hs2, aX]) (.inl ws_) ?_
   refine g2_ ?_
   refine CallS.eqW k17 (by simp -implicitDefEqProofs only [go_sem, aa, hs2, aX]) (.inl ws_) ?_
   refine g2_ ?_
   refine CallS.eqW k21b ws_ (.inl ws_) ?_
   refine g2_ ?_
   refine .inl ⟨oF [0, 1, 5, 2, 3, 4] (oT 6 (oF [7, 8, 9, 10] [])), by kernel_rfl, ?_⟩
   repeat first | simp -implicitDefEqProofs only [go_sem, aa, List.length_map] | with_reducible first | refine gl_ ?_ | refine ga_ ?_ | refine gn_ ?_
   refine ⟨(), ac [(1, .to 4), (0, .to 0)] ?_⟩
   repeat first | simp -implicitDefEqProofs only [go_sem, aa, hS3m, hS3e, hM3t, hs2, aX, zMc, zPc, List.append_eq, List.cons_append, List.nil_append] | with_reducible refine gl_ ?_
   first | done | rfl | exact ⟨rfl, rfl⟩ | trace_state
 clear hS3
 obtain ⟨SA, hSA⟩ : ∃ SA : Nat → List aY, SA = fun k => S3 ++ (B.take k).map (uH q2) := ⟨_, rfl⟩
 have hS0 : SA 0 = S3 := by rw [hSA]; simp
 have hSn : ∀ k (hk : k < B.length), SA (k + 1) = SA k ++ [uH q2 B[k]] := fun k hk => by
  rw [hSA]; simp only
  rw [List.take_add_one, List.getElem?_eq_getElem hk, List.map_append, ← List.append_assoc]; rfl
 have hSl : ∀ k, (SA k).length ≤ 20 := fun k => by
  rw [hSA]; simp only [List.length_append, List.length_map, List.length_take]; omega
 have hSe : SA B.length = R := by
  rw [hSA, ← hR]
  show _ ++ (B.take B.length).map _ = _
  rw [List.take_of_length_le (Nat.le_refl _)]
 refine Vc2.of ?_
 repeat first | simp -implicitDefEqProofs only [go_sem, aa, zMc, zPc, List.append_eq, List.cons_append, List.nil_append] | with_reducible first | refine gl_ ?_ | refine ga_ ?_ | refine gn_ ?_
 refine CallS.eqW k19 ws_ (.inl ws_) ?_
 repeat first | simp -implicitDefEqProofs only [go_sem, aa, List.length_map] | with_reducible first | refine gl_ ?_ | refine ga_ ?_ | refine gn_ ?_
 refine iu B.length ([(103, .d (.v (.int .i64 B.length))), (102, .d (.fz 4 (B.map ah)))] ++ [(11, .d (.pt 0 0)), (6, .loc 6 0), (7, .d (.v (.slice none 0 0)))]) (fun k => []) (fun _ => [(6, ⟨zPc, 49⟩)]) (fun k => [(1, .arr 67 17 ((SA k).map ar) false), (0, .var 105 (aE c ++ (aq q2 ++ (zMc ++ [.fz 1 (dr.map aW), .v (.bool false), .rf 1 0 (SA k).length]))))]) 2 (fun _ => True) (ac [(1, .to 1), (0, .to 0)] ?_) trivial (fun g k => by first | rfl | ((try (with_reducible refine ab ?_)); simp -implicitDefEqProofs only [go_sem, aa]; repeat ((with_reducible refine ab ?_); simp -implicitDefEqProofs only [go_sem, aa]))) (by omega) (fun g => by simp -implicitDefEqProofs only [go_sem, aa]) (fun k hk _ => ?_) (fun _ => ?_)
 ·repeat first | simp -implicitDefEqProofs only [go_sem, aa, hS0, zMc, zPc, List.append_eq, List.cons_append, List.nil_append] | with_reducible refine gl_ ?_
  first | done | rfl | exact ⟨rfl, rfl⟩ | trace_state
 ·have hAl := hSl k
  have kk := k20 B[k]
  have hsl : (SA (k + 1)).length = (SA k).length + 1 := by rw [hSn k hk]; simp
  have hsm : (SA (k + 1)).map ar = (SA k).map ar ++ [ar { bP q2 8 B[k].node with table := q2.table }] := by rw [hSn k hk, List.map_append, List.map_cons, List.map_nil]; rfl
  repeat first | simp -implicitDefEqProofs only [go_sem, aa, au hk, zMc, zPc, List.append_eq, List.cons_append, List.nil_append] | with_reducible first | refine gl_ ?_ | refine ga_ ?_ | refine gn_ ?_
  generalize B[k] = d at kk hsm
  have hM4 : (bP q2 8 d.node).list = [] := rfl
  generalize bP q2 8 d.node = M4 at kk hsm hM4
  refine .inl ⟨oF [0, 1, 3, 2, 4, 5, 6, 7, 8] [], by kernel_rfl, ?_⟩
  refine g2_ ?_
  refine CallS.inline Ty.mixed Tryz.func63 rfl (by kernel_rfl) (by kernel_rfl) rfl [] rfl (Vc2.of ?_)
  refine g2_ ?_
  refine g2_ ?_
  refine CallS.eqW kk ws_ (.inl ws_) ?_
  refine g2_ ?_
  refine CallS.eqW k21 ws_ (.inl ws_) ?_
  refine g2_ ?_
  refine CallS.eqW k22 ws_ (.inl ws_) ?_
  refine g2_ ?_
  refine .inl ⟨oF [0, 1, 5, 2, 3, 4] (oT 6 (oF [7, 8, 9, 10] [])), by kernel_rfl, ?_⟩
  repeat first | simp -implicitDefEqProofs only [go_sem, aa, List.length_map] | with_reducible first | refine gl_ ?_ | refine ga_ ?_ | refine gn_ ?_
  refine ⟨k + 1, ac [(1, .to 3), (0, .to 0)] ?_, rfl⟩
  repeat first | simp -implicitDefEqProofs only [go_sem, aa, hsm, hsl, hM4, zMc, zPc, List.append_eq, List.cons_append, List.nil_append] | with_reducible refine gl_ ?_
  first | done | rfl | exact ⟨rfl, rfl⟩ | trace_state
 ·rw [hSe]
  repeat first | simp -implicitDefEqProofs only [go_sem, aa, zPc, zMc, zPc, List.append_eq, List.cons_append, List.nil_append] | with_reducible first | refine gl_ ?_ | refine ga_ ?_ | refine gn_ ?_
  refine .inr (.inr (.inl ⟨oF [0, 4, 1, 5, 2, 6, 3, 7] (oT 8 (oF [9] [])), [6], by kernel_rfl, ?_⟩))
  refine g2_ ?_
  refine ae ?_ rfl
  ((try (with_reducible refine ab ?_)); simp -implicitDefEqProofs only [go_sem, aa]; repeat ((with_reducible refine ab ?_); simp -implicitDefEqProofs only [go_sem, aa]))
  first | done | trace_state
end Go.Proofs.YtlaefellhnkfbaaGreat.V

set_option maxRecDepth 10000
set_option maxHeartbeats 4000000
namespace Go.Proofs.YtlaefellhnkfbaaGreat.V
open Go.Eng
def xW (n : Int) : av := ⟨n, [⟨0, 9⟩], 3, 2, 2, 2, 3, 8, 4, 3, 3, 4, 60, 200, 100⟩
theorem ae3 {c : av} {p : ak} {l : List GDesc} (hp : okH p) (hl : bO l) (hl2 : ∀ d ∈ l, okF d) : okH (aH c p l) :=
 ⟨kN hp.g hl hl2, hp.rs, ⟨Nat.le_trans (List.length_filter_le _ _) hp.v8.1, fun d hd => hp.v8.2 d (List.mem_filter.1 hd).1⟩, ⟨fun d hd => hp.vw.1 d (List.mem_filter.1 hd).1, hp.vw.2.filter _⟩⟩
theorem kB (c : av) (node : UInt8) : okH (bN c node) := by
 have h := yO c node
 refine ⟨⟨h, fun s hs => absurd (show s ∈ ([] : List GSpan) from hs) List.not_mem_nil, fun d hd => absurd (show d ∈ ([] : List GDesc) from hd) List.not_mem_nil, fun d hd => absurd (show d ∈ ([] : List GDesc) from hd) List.not_mem_nil, pM, pM, ?_⟩, ?_, ⟨Nat.zero_le _, fun d hd => absurd (show d ∈ ([] : List GDesc) from hd) List.not_mem_nil⟩, xF _⟩
 ·simp only [bN, List.length_replicate]; omega
 ·refine ⟨?_, fun r hr => ?_⟩
  ·simp only [bN, List.length_replicate]; omega
  ·simp only [bN, List.mem_replicate] at hr
   rw [hr.2, hX]; omega
theorem zt {p : ak} (h : okH p) {i : UInt16} {b : Bool} {t : List am} (ht : t.length ≤ 12) : okH { p with inc := i, up := b, table := t } :=
 ⟨⟨⟨h.g.ok.filter, h.g.ok.view, h.g.ok.near, h.g.ok.succ, h.g.ok.pred, h.g.ok.sent, by show t.length ≤ 1000; omega, h.g.ok.heard, h.g.ok.rows, h.g.ok.reports, h.g.ok.evs, h.g.ok.pulls⟩, h.g.filter, h.g.view, h.g.near, h.g.succ, h.g.pred, ht⟩, h.rs, h.v8, h.vw⟩
theorem lP (c : av) (p : ak) (hp : okH p) : okH (bM c p).1 := by
 unfold bM
 split
 ·exact hp
 ·split
  ·exact hp
  ·refine zt (kB c p.node) ?_
   rw [List.length_set]
   simp only [bN, List.length_replicate]; omega
attribute [local go_sem] aR aP ah fzD plR bB bn aI bC aE aq bm dd z8 z16 z32 z64 ar aT ey iD List.map_cons List.map_nil
theorem aaH (n : Int) : Con2 Tryz.prog 42 [.v (.int .i64 n)] (· = plR (.agg (aE (xW n)))) := by
 refine Con2.ofEmb ?_
 refine af Ty.mixed Tryz.func42 rfl (by kernel_rfl) (by kernel_rfl) rfl [.cell 2 26] rfl ?_
 refine g2_ ?_
 refine g2_ ?_
 refine ae ?_ rfl
 repeat first | simp -implicitDefEqProofs only [go_sem, aa, xW] | with_reducible refine gl_ ?_
 rfl
def awC : av := xW 2
def awA : ak := (bM awC (bN awC 0)).1
def awB : ak := (bM awC (bN awC 1)).1
def awM : aY := { bP awB 1 0 with list := [aX awB] }
def awA1 : ak := (oU awC awA awM).1
def awW : aY := ⟨2, 0, 1, 1, [⟨0, 1, 0, []⟩], [⟨1, 1, 0⟩, ⟨1, 1, 0⟩], aij, 0, ⟨0, 0, 0⟩, [], []⟩
def awB1 : ak := (fU awC awB awW).1
def awQ : ak := aH awC (br awC awB1) []
def awS : ak := (dy awC awQ [1, 2, 3]).1
def awL : List UInt8 := bq awS
theorem aw1 : bM awC (bN awC 0) = (awA, 0) := by kernel_rfl
theorem aw2 : bM awC (bN awC 1) = (awB, 0) := by kernel_rfl
theorem aw3 : awA.up = true := by kernel_rfl
theorem aw4 : awB.up = true := by kernel_rfl
theorem aw5 : eZ awC awB 0 = ([awM], 0) := by kernel_rfl
theorem aw6 : (oU awC awA awM).2 = [awW] := by kernel_rfl
theorem aw7 : awA1.view = [⟨1, 1, 0, []⟩] := by kernel_rfl
theorem aw8 : (fU awC awB awW).2 = [] := by kernel_rfl
theorem amJ : awQ.view = [⟨0, 1, 1, []⟩] := by kernel_rfl
theorem anb : awL = [0] := by kernel_rfl
theorem amY : (d_ awC awB1 [1, 2, 3] awL).2.map (fun m => (m.kind, m.to, m.frm, m.inc)) = [(3, 0, 1, 1), (5, 0, 1, 1), (6, 0, 1, 1), (8, 0, 1, 1)] := by kernel_rfl
theorem amE : ft awQ.view (aX awQ) awC.swap [1, 2, 3] = (0, [⟨1, 1, 0, []⟩], true) := by kernel_rfl
end Go.Proofs.YtlaefellhnkfbaaGreat.V

set_option maxRecDepth 10000
set_option maxHeartbeats 4000000
namespace Go.Proofs.YtlaefellhnkfbaaGreat.V
open Go.Eng
attribute [local go_sem] aR aP ah fzD plR bB bn aI bC aE aq bm dd z8 z16 z32 z64 ar aT ey iD List.map_cons List.map_nil
theorem aaW (c : av) (p : ak) (L : List UInt8) (hp : okP p) (hu : p.up = true) (hL : Con2 Tryz.prog 14 [.agg (aq p)] (· = plR (.fz 1 (L.map aU)))) (hLn : L.length ≤ 1000) :
  Con2 Tryz.prog 13 [.agg (aE c), .agg (aq p)] (· = plR (.tup [.agg (aq (mC c p)), .fz 17 ((L.map (bP p 9)).map ar), .v (.int .i64 0)])) := by
 refine Con2.ofEmb ?_
 have kd := pR c p
 have km := fun to => eh p 9 to
 obtain ⟨f, hf⟩ : ∃ f : UInt8 → aY, f = bP p 9 := ⟨_, rfl⟩
 rw [← hf] at km ⊢
 generalize mC c p = D at kd ⊢
 refine af Ty.mixed Tryz.func13 rfl (by kernel_rfl) (by kernel_rfl) rfl [.cell 4 49, .tmp 5, .tmp 6] rfl ?_
 refine g2_ ?_
 refine g2_ ?_
 rw [hu]
 refine g2_ ?_
 refine CallS.eqW hL (by simp -implicitDefEqProofs only [go_sem, aa, hu]) (.inl ws_) ?_
 repeat first | simp -implicitDefEqProofs only [go_sem, aa, List.length_map] | with_reducible first | refine gl_ ?_ | refine ga_ ?_ | refine gn_ ?_
 refine ax L.length (fun k => [(7, .d (.rf 0 0 ((L.take k).map f).length))]) (fun _ => []) (fun k => [(0, .arr 67 17 (((L.take k).map f).map ar) false)]) 1 (fun _ => True) (ac [(0, .nil 17)] ?_) trivial (fun g k => by simp -implicitDefEqProofs only [go_sem, aa]) (by omega) (fun g => by simp -implicitDefEqProofs only [go_sem, aa]) (fun k hk _ => ?_) (fun _ => ?_)
 ·repeat first | simp -implicitDefEqProofs only [go_sem, aa, List.take_zero] | with_reducible refine gl_ ?_
  first | done | rfl | exact ⟨rfl, rfl⟩ | trace_state
 ·have hg : (L.map aU)[k]? = some [.v (.int .u8 L[k].toNat)] := by rw [List.getElem?_map, List.getElem?_eq_getElem hk]; rfl
  have hsn : (L.take (k + 1)).map f = (L.take k).map f ++ [f L[k]] := by rw [List.take_add_one, List.getElem?_eq_getElem hk, List.map_append]; rfl
  have hsl : (L.take (k + 1)).length = ((L.take k).map f).length + 1 := by have := congrArg List.length hsn; rw [List.length_map, List.length_append] at this; exact this
  have hsl2 : ((L.take k).map f).length ≤ 1000 := by rw [List.length_map, List.length_take]; omega
  have kk := km L[k]
  generalize (L.take k).map f = A at hsn hsl hsl2
  generalize f L[k] = x at hsn kk
  repeat first | simp -implicitDefEqProofs only [go_sem, aa, hg] | with_reducible first | refine gl_ ?_ | refine ga_ ?_ | refine gn_ ?_
  refine CallS.eqW kk (by simp -implicitDefEqProofs only [go_sem, aa, hu]) (.inl ws_) ?_
  repeat first | simp -implicitDefEqProofs only [go_sem, aa, List.length_map] | with_reducible first | refine gl_ ?_ | refine ga_ ?_ | refine gn_ ?_
  refine ⟨k + 1, ac [(0, .to 2)] ?_, rfl⟩
  repeat first | simp -implicitDefEqProofs only [go_sem, aa, hsn, hsl, List.map_append, List.length_append] | with_reducible refine gl_ ?_
 ·rw [List.take_of_length_le (Nat.le_refl L.length)]
  have hsl3 : (L.map f).length ≤ 1000 := by rw [List.length_map]; omega
  generalize L.map f = A at hsl3 ⊢
  refine g2_ ?_
  refine CallS.eqW kd (by simp -implicitDefEqProofs only [go_sem, aa, hu]) (.inl ws_) ?_
  refine g2_ ?_
  refine ae ?_ rfl
  exact ws_
end Go.Proofs.YtlaefellhnkfbaaGreat.V
