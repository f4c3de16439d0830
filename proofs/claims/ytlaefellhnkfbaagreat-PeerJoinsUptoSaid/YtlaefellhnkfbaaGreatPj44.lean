/-
 Part 44 of the proof of Pj: the engine and the walks, in their order.
-/
import Derived.Test.YtlaefellhnkfbaaGreatPj34
import Derived.Test.YtlaefellhnkfbaaGreatPj41
set_option linter.unusedSimpArgs false
set_option linter.unusedVariables false
set_option maxRecDepth 10000
set_option maxHeartbeats 40000000
namespace Go.Proofs.YtlaefellhnkfbaaGreat.V
open Go.Eng
attribute [local go_sem] aO aU ah fzD plR bH bw aM bL aJ au bu dC z8 z16 z32 z64 ax aZ fa i2 List.map_cons List.map_nil
def zPc : List DV := [.v (.int .u8 0), .v (.int .u16 0), .v (.bool false), .v (.slice none 0 0), .v (.slice none 0 0), .v (.slice none 0 0), .v (.bool false), .v (.bool false), .v (.int .u8 0), .v (.int .u16 0), .v (.int .u8 0), .v (.slice none 0 0), .v (.int .u8 0), .v (.int .u16 0), .v (.int .u8 0), .v (.slice none 0 0), .v (.bool false), .v (.int .u8 0), .v (.int .u8 0), .v (.slice none 0 0), .v (.slice none 0 0), .v (.int .u32 0), .v (.slice none 0 0), .v (.int .u32 0), .v (.slice none 0 0), .v (.slice none 0 0), .v (.int .i64 0), .v (.slice none 0 0), .v (.slice none 0 0), .v (.int .i64 0), .v (.int .i64 0), .v (.int .i64 0)]
theorem uP (c : av) (p : ak) (dr : List UInt32) (L : List UInt8) (hc : c.schema.length ≤ 4) (hcs : ∀ s ∈ c.schema, okS s) (hp : okH p) (hu : p.up = true) (hsw : c.swap ≤ 9223372036854775807) (hdr : dr.length ≤ 4000000) (hws : ok8 p.wait.sent)
  (hL : Con2 Tryz.prog 14 [.agg (au (dE c (aH c (bx c p) []) dr).1)] (· = plR (.fz 1 (L.map a_)))) (hLn : L.length ≤ 4000000)
  (hsent : ok8 (fQ (aH c (bx c p) []).view (aT (aH c (bx c p) [])) c.swap dr).2.1) (v8 : ok8 (aH c (bx c p) []).view) (f8 : p.filter.length ≤ 8) :
  Con2 Tryz.prog 20 [.agg (aJ c), .agg (au p), .fz 1 (dr.map aX)] (· = plR (.tup [.agg (au (eZ c p dr L).1), .fz 17 ((eZ c p dr L).2.map ax)])) := by
 refine Con2.ofEmb ?_
 have k0 := aQ p hp.ok
 have k1 : Con2 Tryz.prog 56 [fzD p.view] (· = plR (fzD (bI p.view))) := iG (mX p.view hp.ok.view)
 have k2 : Con2 Tryz.prog 56 [fzD p.near] (· = plR (fzD (bI p.near))) := iG (mX p.near hp.ok.near)
 have k3 := yX p.ring hp.ok.succ hp.ok.pred
 have k4 := ack p.table p.node c.suspect (by have := hp.g.table; omega)
 have k5 := aka p.wait hws
 have kd : Con2 Tryz.prog 60 [fzD (bI p.view), .v (.int .u8 (fR p.wait).2.1.toNat)] (· = plR (fzD (bb (bI p.view) (fR p.wait).2.1))) := iG (p7 (bI p.view) (wM hp.vw).2 _ (kM hp.ok.view))
 have hg2 := uL (c := c) hp.g hws
 have k6 := bN c (bx c p) [] hc hcs hg2 ⟨by simp, by simp⟩ (by simp)
 have hg3 := lI (c := c) (l := []) hg2 ⟨by simp, by simp⟩ (by simp)
 have hn9 : (aH c (bx c p) []).near.length ≤ 3900000 := Nat.le_trans rD (Nat.le_trans ((tw (c := c) hg2 (l := []) ⟨by simp, by simp⟩ (by simp)).1.u _).2 (by omega))
 have hf8 : (aT (aH c (bx c p) [])).filter.length ≤ 8 := f8
 have k21 := aS [] ⟨by simp, by simp⟩
 have k21b := fj [] (by simp)
 have hT1 : (eZ c p dr L).1 = (dE c (aH c (bx c p) []) dr).1 := rfl
 rw [hT1]
 clear hT1
 generalize hR1 : (eZ c p dr L).2 = R
 unfold eZ at hR1
 generalize hq : aH c (bx c p) [] = q at *
 simp only at hR1
 generalize hpa : bx c p = pa at k6 hq hg2
 refine jC Ty.mixed Tryz.func20 rfl (by kernel_rfl) (by kernel_rfl) rfl [.cell 6 49, .tmp 7] rfl ?_
 refine Vc2.sq ?_
 refine g2_ ?_
 refine Vc2.sq ?_
 refine g2_ ?_
 refine cw_ k0 ?_
 refine g2_ ?_
 refine Vc2.sq ?_
 refine g2_ ?_
 rw [hu]
 refine g2_ ?_
 refine Vc2.sq ?_
 refine g2_ ?_
 refine cw_ k1 ?_
 refine g2_ ?_
 refine Vc2.sq ?_
 refine g2_ ?_
 refine cw_ k2 ?_
 refine g2_ ?_
 refine Vc2.sq ?_
 refine g2_ ?_
 refine cw_ k3 ?_
 refine g2_ ?_
 refine Vc2.sq ?_
 refine g2_ ?_
 refine cw_ k4 ?_
 refine g2_ ?_
 refine Vc2.sq ?_
 refine g2_ ?_
 refine cw_ k5 ?_
 refine g2_ ?_
 refine Vc2.sq ?_
 refine g2_ ?_
 refine Vc2.seqJ (γ := Unit) (fun _ => ⟨[(2, .d (.fz 1 (dr.map aX))), (3, .loc 3 0), (4, .loc 4 0), (6, .loc 6 0), (7, .d (.v (.slice none 0 0)))], [(3, ⟨aJ c, 26⟩), (4, ⟨au pa, 49⟩), (6, ⟨zPc, 49⟩)], [], 0, 0⟩) (fun _ => True) ?_ (fun _ _ => ?_)
 ·refine g2_ ?_
  cases hov : (fR p.wait).2.2 with
  | false =>
   have hag : pa = { p with view := bI p.view, near := bI p.near, ring := iK p.ring, table := gy p.table p.node c.suspect, wait := (fR p.wait).1 } := by
    rw [← hpa]; unfold bx; simp only [hov, Bool.false_eq_true, if_false]
   refine g2_ ?_
   refine ⟨(), ab [] ?_⟩
   repeat first | simp -implicitDefEqProofs only [go_sem, aa, hag, hu, zPc] | with_reducible refine gl_ ?_
   first | done | rfl | exact ⟨rfl, rfl⟩
  | true =>
   have hag : pa = { p with view := bb (bI p.view) (fR p.wait).2.1, near := bI p.near, ring := iK p.ring, table := gy p.table p.node c.suspect, wait := (fR p.wait).1 } := by
    rw [← hpa]; unfold bx; simp only [hov, if_true]
   refine g2_ ?_
   refine cw_ kd ?_
   refine g2_ ?_
   refine ⟨(), ab [] ?_⟩
   repeat first | simp -implicitDefEqProofs only [go_sem, aa, hag, hu, zPc] | with_reducible refine gl_ ?_
   first | done | rfl | exact ⟨rfl, rfl⟩
 obtain ⟨q2, hq2⟩ : ∃ q2, q2 = (dE c q dr).1 := ⟨_, rfl⟩
 obtain ⟨S1, hS1⟩ : ∃ S1, S1 = (dE c q dr).2 := ⟨_, rfl⟩
 rw [← hq2] at hL hR1 ⊢
 rw [← hS1] at hR1
 have hg4 : okP q2 := by
  rw [hq2]; unfold dE; simp only; split
  ·exact ad9 hg3.ok hsent.toDs
  ·exact hg3.ok
 have hn9 : q2.near.length ≤ 3900000 := by
  rw [hq2]; unfold dE; simp only; split
  ·exact hn9
  ·exact hn9
 have htb : q2.table.length ≤ 12 := by
  rw [hq2]; unfold dE; simp only; split
  ·exact hg3.table
  ·exact hg3.table
 have hS1l : S1.length ≤ 1 := by
  rw [hS1]; unfold dE; simp only; split <;> simp
 refine Vc2.sq ?_
 refine g2_ ?_
 refine .inl ⟨oF [0, 1, 2, 4] (oT 3 (oF [5, 6, 7] [])), by kernel_rfl, ?_⟩
 refine g2_ ?_
 refine cw_ k6 ?_
 refine g2_ ?_
 refine Vc2.seqJ (γ := Bool) (fun g => match g with
  | true => ⟨[(11, .d (.pt 0 0)), (6, .loc 6 0), (7, .d (.v (.slice none 0 0)))], [(6, ⟨zPc, 49⟩)], [(1, .arr 67 17 (S1.map ax) false), (0, .var 105 (aJ c ++ (au q2 ++ (zMc ++ [.fz 1 (dr.map aX), .v (.bool false), .rf 1 0 S1.length]))))], 2, 0⟩
  | false => ⟨[(11, .loc 64 0), (6, .loc 6 0), (7, .d (.v (.slice none 0 0)))], [(64, ⟨(aJ c ++ (au q2 ++ (zMc ++ [.fz 1 (dr.map aX), .v (.bool false), .v (.slice none 0 0)]))), 105⟩), (6, ⟨zPc, 49⟩)], [], 0, 0⟩) (fun g => g = true ∨ S1 = []) ?_ (fun g hg => ?_)
 ·refine g2_ ?_
  cases hw3 : q.wait.some with
  | true =>
   have e : dE c q dr = (q, []) := by unfold dE; rw [hw3]; simp
   rw [e] at hq2 hS1
   simp only at hq2 hS1
   refine g2_ ?_
   refine ⟨false, ab [] ?_, .inr hS1⟩
   repeat first | simp -implicitDefEqProofs only [go_sem, aa, hq2, hw3, zMc, zPc] | with_reducible refine gl_ ?_
   first | done | rfl | exact ⟨rfl, rfl⟩
  | false =>
   have k7 := fW q hg3.ok
   have k8 := alV q.view (aT q) c.swap dr v8 hf8 hdr hsw
   generalize hca : fQ q.view (aT q) c.swap dr = a at k8 hsent
   obtain ⟨to, sent, ok⟩ := a
   simp only at k8 hsent
   have hkq : dE c q dr = if ok = true then ({ q with wait := kB to 2 sent }, [{ bV q 3 to with list := sent }]) else (q, []) := by
    unfold dE; rw [hca, hw3]; simp
   rw [hkq] at hq2 hS1
   refine g2_ ?_
   refine CallS.inline Ty.mixed Tryz.func61 rfl (by kernel_rfl) (by kernel_rfl) rfl [] rfl (Vc2.of ?_)
   refine g2_ ?_
   refine g2_ ?_
   refine .inl ⟨oF [0, 5, 10, 15, 1, 6, 11, 16, 2, 7, 12, 17, 3, 8, 13, 18, 4, 14] (oT 9 (oF [19, 20, 21, 22, 23, 24, 25, 26] [])), by kernel_rfl, ?_⟩
   refine g2_ ?_
   refine CallS.eqW k7 (wf_ hw3) (.inl ws_) ?_
   refine g2_ ?_
   refine CallS.eqW k8 (wf_ hw3) (.inl ws_) ?_
   refine g2_ ?_
   cases ok with
   | false =>
    rw [if_neg (by decide)] at hq2 hS1
    simp only at hq2 hS1
    refine g2_ ?_
    rw [hq2, hS1]
    refine ⟨true, ab [(1, .nil 17), (0, .to 0)] ?_, .inl rfl⟩
    repeat first | simp -implicitDefEqProofs only [go_sem, aa, hw3, List.length_nil, List.map_nil, zMc, zPc, List.append_eq, List.cons_append, List.nil_append] | with_reducible refine gl_ ?_
    first | done | rfl | exact ⟨rfl, rfl⟩
   | true =>
    rw [if_pos rfl] at hq2 hS1
    simp only at hq2 hS1
    have k9 := aiK to 2 sent hsent
    have k10 : Con2 Tryz.prog 43 [.agg (au { q with wait := kB to 2 sent }), .v (.int .u8 (UInt8.toNat 3)), .v (.int .u8 to.toNat)] (· = plR (.agg (ax (bV q 3 to)))) := eV { q with wait := kB to 2 sent } 3 to
    have k11 := aS sent hsent.toDs
    have hM1t : (bV q 3 to).table = [] := rfl
    generalize bV q 3 to = M1 at k10 hS1 hM1t
    refine g2_ ?_
    refine cw_ k9 ?_
    refine g2_ ?_
    refine CallS.inline Ty.mixed Tryz.func63 rfl (by kernel_rfl) (by kernel_rfl) rfl [] rfl (Vc2.of ?_)
    refine g2_ ?_
    refine g2_ ?_
    refine cw_ k10 ?_
    refine g2_ ?_
    refine cw_ k11 ?_
    refine g2_ ?_
    refine cw_ k21b ?_
    refine g2_ ?_
    refine .inl ⟨oF [0, 1, 5, 2, 3, 4] (oT 6 (oF [7, 8, 9, 10] [])), by kernel_rfl, ?_⟩
    refine gx_ ?_
    rw [hq2, hS1]
    refine ⟨true, ab [(1, .to 2), (0, .to 0)] ?_, .inl rfl⟩
    repeat first | simp -implicitDefEqProofs only [go_sem, aa, hw3, hM1t, List.length_cons, List.length_nil, zMc, zPc, List.append_eq, List.cons_append, List.nil_append] | with_reducible refine gl_ ?_
    first | done | rfl | exact ⟨rfl, rfl⟩
 clear hq2 hS1
 have k13 := fW q2 hg4
 have k14 := mr q2.near (aT q2) hg4.near hg4.filter
 have k16 := aS (bY q2.near (aT q2)) (abj hg4.near hg4.filter hn9)
 have k17 := aS [aT q2] ⟨by simp, fun d hd => by rw [List.mem_singleton.1 hd]; exact hg4.filter⟩
 have k19 := ik q2.ring hg4.succ hg4.pred
 have hrl := eD q2.ring
 have k15 : ∀ to2 : UInt8, Con2 Tryz.prog 43 [.agg (au q2), .v (.int .u8 (UInt8.toNat 5)), .v (.int .u8 to2.toNat)] (· = plR (.agg (ax (bV q2 5 to2)))) := fun to2 => eV q2 5 to2
 have k18 : Con2 Tryz.prog 43 [.agg (au q2), .v (.int .u8 (UInt8.toNat 6)), .v (.int .u8 q2.ring.succ.node.toNat)] (· = plR (.agg (ax (bV q2 6 q2.ring.succ.node)))) := eV q2 6 q2.ring.succ.node
 have k20 : ∀ d : GDesc, Con2 Tryz.prog 43 [.agg (au q2), .v (.int .u8 (UInt8.toNat 8)), .v (.int .u8 d.node.toNat)] (· = plR (.agg (ax (bV q2 8 d.node)))) := fun d => eV q2 8 d.node
 have k22 := fj (q2.table.map aM) (by rw [List.length_map]; omega)
 obtain ⟨S2, hS2⟩ : ∃ S2, S2 = S1 ++ iw c q2 dr L := ⟨_, rfl⟩
 have hR0 : (S2 ++ gD q2) ++ (aN q2.ring).map (uu q2) = R := by rw [hS2]; exact hR1
 have hS2l : S2.length ≤ 11 := by
  rw [hS2, List.length_append]
  have : (iw c q2 dr L).length ≤ 1 := by unfold iw; split <;> simp
  omega
 generalize aN q2.ring = B at k19 hrl hR0
 refine Vc2.seqJ (γ := Unit) (fun _ => ⟨[(11, .d (.pt 0 0)), (6, .loc 6 0), (7, .d (.v (.slice none 0 0)))], [(6, ⟨zPc, 49⟩)], [(1, .arr 67 17 (S2.map ax) false), (0, .var 105 (aJ c ++ (au q2 ++ (zMc ++ [.fz 1 (dr.map aX), .v (.bool false), .rf 1 0 S2.length]))))], 2, 0⟩) (fun _ => True) ?_ (fun _ _ => ?_)
 ·match g, hg with
  | true, _ =>
   simp only
   repeat first | simp -implicitDefEqProofs only [go_sem, aa, zMc, zPc, List.append_eq, List.cons_append, List.nil_append] | with_reducible first | refine gl_ ?_ | refine ga_ ?_ | refine gn_ ?_
   refine CallS.inline Ty.mixed Tryz.func62 rfl (by kernel_rfl) (by kernel_rfl) rfl [] rfl ?_
   refine Vc2.sq ?_
   refine g2_ ?_
   refine cw_ hL ?_
   refine gx_ ?_
   refine Vc2.sq ?_
   refine gx_ ?_
   by_cases hLe : L = []
   ·have hS2e : S2 = S1 := by rw [hS2, iw, if_pos hLe, List.append_nil]
    rw [show ((L.length : Int) == 0) = true by rw [hLe]; rfl]
    refine g2_ ?_
    rw [hS2e]
    first
     | (refine ⟨(), ab [(1, .to 1), (0, .to 0)] ?_⟩; (focus (repeat first | simp -implicitDefEqProofs only [go_sem, aa, zMc, zPc, List.append_eq, List.cons_append, List.nil_append] | with_reducible refine gl_ ?_; done)))
   have hLp : 0 < L.length := List.length_pos_iff.2 hLe
   rw [show ((L.length : Int) == 0) = false from beq_eq_false_iff_ne.2 (by omega)]
   refine g2_ ?_
   refine Vc2.sq ?_
   refine g2_ ?_
   refine Vc2.seqJ (γ := Unit) (fun _ => ⟨[(0, .d (.pt 0 0)), (2, .d (.fz 1 (L.map a_))), (3, .d (.v (.int .u32 (dh c dr).toNat)))], [], [(1, .arr 67 17 (S1.map ax) false), (0, .var 105 (aJ c ++ (au q2 ++ (zMc ++ [.fz 1 (dr.map aX), .v (.bool false), .rf 1 0 S1.length]))))], 2, 2⟩) (fun _ => True) ?_ (fun _ _ => Vc2.of ?_)
   ·refine g2_ ?_
    refine .inl ⟨oF [0, 1, 2, 3, 4, 5, 6, 7, 12, 8, 13, 9, 14, 10, 15, 11, 16, 17, 18] [], by kernel_rfl, ?_⟩
    refine g2_ ?_
    by_cases h0 : 0 ≤ c.swap
    ·rw [show decide (0 ≤ c.swap) = true from decide_eq_true h0]
     refine gx_ ?_
     by_cases h1 : c.swap < (dr.length : Int)
     ·obtain ⟨sw, hsw2⟩ : ∃ sw : Nat, c.swap = sw := ⟨c.swap.toNat, by omega⟩
      have hswl : sw < dr.length := by omega
      have hdg : (dr.map aX)[sw]? = some [.v (.int .u32 dr[sw].toNat)] := by rw [List.getElem?_map, List.getElem?_eq_getElem hswl]; rfl
      have hkd : dh c dr = dr[sw] := by
       rw [dh, if_pos ⟨h0, h1⟩, hsw2, Int.toNat_natCast, List.getD_eq_getElem?_getD, List.getElem?_eq_getElem hswl]; rfl
      rw [show decide (c.swap < (dr.length : Int)) = true from decide_eq_true h1]
      refine g2_ ?_
      refine .inl ⟨oF [0, 4, 1, 5, 2, 6, 3, 7, 8, 9, 10, 11] [], by kernel_rfl, ?_⟩
      refine gg_ hsw2 hdg ?_
      refine ⟨(), ab [] ?_⟩
      repeat first | simp -implicitDefEqProofs only [go_sem, aa, hkd, hsw2, zMc, zPc, List.append_eq, List.cons_append, List.nil_append] | with_reducible refine gl_ ?_
      first | done | rfl | exact ⟨rfl, rfl⟩
     ·have hkd : dh c dr = 0 := by rw [dh, if_neg (fun h => h1 h.2)]
      rw [show decide (c.swap < (dr.length : Int)) = false from decide_eq_false h1]
      refine g2_ ?_
      refine ⟨(), ab [] ?_⟩
      repeat first | simp -implicitDefEqProofs only [go_sem, aa, hkd, zMc, zPc, List.append_eq, List.cons_append, List.nil_append] | with_reducible refine gl_ ?_
      first | done | rfl | exact ⟨rfl, rfl⟩
    ·have hkd : dh c dr = 0 := by rw [dh, if_neg (fun h => h0 h.1)]
     rw [show decide (0 ≤ c.swap) = false from decide_eq_false h0]
     refine gx_ ?_
     refine ⟨(), ab [] ?_⟩
     repeat first | simp -implicitDefEqProofs only [go_sem, aa, hkd, zMc, zPc, List.append_eq, List.cons_append, List.nil_append] | with_reducible refine gl_ ?_
     first | done | rfl | exact ⟨rfl, rfl⟩
   generalize hkd : dh c dr = dw
   have hmod : dw.toNat % L.length < L.length := Nat.mod_lt _ hLp
   have hlg : (L.map a_)[dw.toNat % L.length]? = some [.v (.int .u8 (L.getD (dw.toNat % L.length) 0).toNat)] := by
    rw [List.getElem?_map, List.getD_eq_getElem?_getD, List.getElem?_eq_getElem hmod]; rfl
   have hkt : iw c q2 dr L = [{ bV q2 5 (L.getD (dw.toNat % L.length) 0) with list := bY q2.near (aT q2) }] := by
    rw [iw, if_neg hLe, hkd]
   have hd32 := dw.toNat_lt
   repeat first | simp -implicitDefEqProofs only [go_sem, aa, zMc, zPc, List.append_eq, List.cons_append, List.nil_append] | with_reducible first | refine gl_ ?_ | refine ga_ ?_ | refine gn_ ?_
   rw [jf (a := dw.toNat) (b := L.length) rfl rfl hLp]
   refine gf_ hlg ?_
   generalize L.getD (dw.toNat % L.length) 0 = to2 at hlg hkt ⊢
   have hS2m : S2.map ax = S1.map ax ++ [ax { bV q2 5 to2 with list := bY q2.near (aT q2) }] := by rw [hS2, hkt, List.map_append]; rfl
   have hS2e : S2.length = S1.length + 1 := by rw [hS2, hkt, List.length_append]; rfl
   have kk := k15 to2
   have hM2t : (bV q2 5 to2).table = [] := rfl
   generalize bV q2 5 to2 = M2 at kk hS2m hM2t
   refine .inl ⟨oF [0, 1, 2, 7, 3, 8, 4, 9, 5, 10, 6] (oT 11 (oF [12, 13] [])), by kernel_rfl, ?_⟩
   refine g2_ ?_
   refine cw_ k13 ?_
   refine g2_ ?_
   refine CallS.eqW k14 (by simp -implicitDefEqProofs only [go_sem, aa, aT]) (.inl ws_) ?_
   refine g2_ ?_
   refine CallS.inline Ty.mixed Tryz.func63 rfl (by kernel_rfl) (by kernel_rfl) rfl [] rfl (Vc2.of ?_)
   refine g2_ ?_
   refine g2_ ?_
   refine cw_ kk ?_
   refine g2_ ?_
   refine cw_ k16 ?_
   refine g2_ ?_
   refine cw_ k21b ?_
   refine g2_ ?_
   refine .inl ⟨oF [0, 1, 5, 2, 3, 4] (oT 6 (oF [7, 8, 9, 10] [])), by kernel_rfl, ?_⟩
   refine gx_ ?_
   refine ⟨(), ab [(1, .to 3), (0, .to 0)] ?_⟩
   repeat first | simp -implicitDefEqProofs only [go_sem, aa, hS2m, hS2e, hM2t, aT, List.length_append, zMc, zPc, List.append_eq, List.cons_append, List.nil_append] | with_reducible refine gl_ ?_
   first | done | rfl | exact ⟨rfl, rfl⟩
  | false, hg =>
   simp only at hg ⊢
   have hg := hg.resolve_left (by decide)
   repeat first | simp -implicitDefEqProofs only [go_sem, aa, zMc, zPc, List.append_eq, List.cons_append, List.nil_append] | with_reducible first | refine gl_ ?_ | refine ga_ ?_ | refine gn_ ?_
   refine CallS.inline Ty.mixed Tryz.func62 rfl (by kernel_rfl) (by kernel_rfl) rfl [] rfl ?_
   refine Vc2.sq ?_
   refine g2_ ?_
   refine cw_ hL ?_
   refine gx_ ?_
   refine Vc2.sq ?_
   refine gx_ ?_
   by_cases hLe : L = []
   ·have hS2e : S2 = S1 := by rw [hS2, iw, if_pos hLe, List.append_nil]
    rw [show ((L.length : Int) == 0) = true by rw [hLe]; rfl]
    refine g2_ ?_
    rw [hS2e]
    first
     | (refine ⟨(), ab [(1, .nil 17), (0, .to 0)] ?_⟩; (focus (repeat first | simp -implicitDefEqProofs only [go_sem, aa, hg, List.map_nil, List.length_nil, zMc, zPc, List.append_eq, List.cons_append, List.nil_append] | with_reducible refine gl_ ?_; done)))
   have hLp : 0 < L.length := List.length_pos_iff.2 hLe
   rw [show ((L.length : Int) == 0) = false from beq_eq_false_iff_ne.2 (by omega)]
   refine g2_ ?_
   refine Vc2.sq ?_
   refine g2_ ?_
   refine Vc2.seqJ (γ := Unit) (fun _ => ⟨[(0, .d (.pt 0 0)), (2, .d (.fz 1 (L.map a_))), (3, .d (.v (.int .u32 (dh c dr).toNat)))], [], [(0, .var 105 (aJ c ++ (au q2 ++ (zMc ++ [.fz 1 (dr.map aX), .v (.bool false), .v (.slice none 0 0)]))))], 1, 1⟩) (fun _ => True) ?_ (fun _ _ => Vc2.of ?_)
   ·refine g2_ ?_
    refine .inl ⟨oF [0, 1, 2, 3, 4, 5, 6, 7, 12, 8, 13, 9, 14, 10, 15, 11, 16, 17, 18] [], by kernel_rfl, ?_⟩
    refine g2_ ?_
    by_cases h0 : 0 ≤ c.swap
    ·rw [show decide (0 ≤ c.swap) = true from decide_eq_true h0]
     refine gx_ ?_
     by_cases h1 : c.swap < (dr.length : Int)
     ·obtain ⟨sw, hsw2⟩ : ∃ sw : Nat, c.swap = sw := ⟨c.swap.toNat, by omega⟩
      have hswl : sw < dr.length := by omega
      have hdg : (dr.map aX)[sw]? = some [.v (.int .u32 dr[sw].toNat)] := by rw [List.getElem?_map, List.getElem?_eq_getElem hswl]; rfl
      have hkd : dh c dr = dr[sw] := by
       rw [dh, if_pos ⟨h0, h1⟩, hsw2, Int.toNat_natCast, List.getD_eq_getElem?_getD, List.getElem?_eq_getElem hswl]; rfl
      rw [show decide (c.swap < (dr.length : Int)) = true from decide_eq_true h1]
      refine g2_ ?_
      refine .inl ⟨oF [0, 4, 1, 5, 2, 6, 3, 7, 8, 9, 10, 11] [], by kernel_rfl, ?_⟩
      refine gg_ hsw2 hdg ?_
      refine ⟨(), ab [] ?_⟩
      repeat first | simp -implicitDefEqProofs only [go_sem, aa, hkd, hsw2, zMc, zPc, List.append_eq, List.cons_append, List.nil_append] | with_reducible refine gl_ ?_
      first | done | rfl | exact ⟨rfl, rfl⟩
     ·have hkd : dh c dr = 0 := by rw [dh, if_neg (fun h => h1 h.2)]
      rw [show decide (c.swap < (dr.length : Int)) = false from decide_eq_false h1]
      refine g2_ ?_
      refine ⟨(), ab [] ?_⟩
      repeat first | simp -implicitDefEqProofs only [go_sem, aa, hkd, zMc, zPc, List.append_eq, List.cons_append, List.nil_append] | with_reducible refine gl_ ?_
      first | done | rfl | exact ⟨rfl, rfl⟩
    ·have hkd : dh c dr = 0 := by rw [dh, if_neg (fun h => h0 h.1)]
     rw [show decide (0 ≤ c.swap) = false from decide_eq_false h0]
     refine gx_ ?_
     refine ⟨(), ab [] ?_⟩
     repeat first | simp -implicitDefEqProofs only [go_sem, aa, hkd, zMc, zPc, List.append_eq, List.cons_append, List.nil_append] | with_reducible refine gl_ ?_
     first | done | rfl | exact ⟨rfl, rfl⟩
   generalize hkd : dh c dr = dw
   have hmod : dw.toNat % L.length < L.length := Nat.mod_lt _ hLp
   have hlg : (L.map a_)[dw.toNat % L.length]? = some [.v (.int .u8 (L.getD (dw.toNat % L.length) 0).toNat)] := by
    rw [List.getElem?_map, List.getD_eq_getElem?_getD, List.getElem?_eq_getElem hmod]; rfl
   have hkt : iw c q2 dr L = [{ bV q2 5 (L.getD (dw.toNat % L.length) 0) with list := bY q2.near (aT q2) }] := by
    rw [iw, if_neg hLe, hkd]
   have hd32 := dw.toNat_lt
   repeat first | simp -implicitDefEqProofs only [go_sem, aa, zMc, zPc, List.append_eq, List.cons_append, List.nil_append] | with_reducible first | refine gl_ ?_ | refine ga_ ?_ | refine gn_ ?_
   rw [jf (a := dw.toNat) (b := L.length) rfl rfl hLp]
   refine gf_ hlg ?_
   generalize L.getD (dw.toNat % L.length) 0 = to2 at hlg hkt ⊢
   have hS2m : S2.map ax = S1.map ax ++ [ax { bV q2 5 to2 with list := bY q2.near (aT q2) }] := by rw [hS2, hkt, List.map_append]; rfl
   have hS2e : S2.length = S1.length + 1 := by rw [hS2, hkt, List.length_append]; rfl
   have kk := k15 to2
   have hM2t : (bV q2 5 to2).table = [] := rfl
   generalize bV q2 5 to2 = M2 at kk hS2m hM2t
   refine .inl ⟨oF [0, 1, 2, 7, 3, 8, 4, 9, 5, 10, 6] (oT 11 (oF [12, 13] [])), by kernel_rfl, ?_⟩
   refine g2_ ?_
   refine cw_ k13 ?_
   refine g2_ ?_
   refine CallS.eqW k14 (by simp -implicitDefEqProofs only [go_sem, aa, aT]) (.inl ws_) ?_
   refine g2_ ?_
   refine CallS.inline Ty.mixed Tryz.func63 rfl (by kernel_rfl) (by kernel_rfl) rfl [] rfl (Vc2.of ?_)
   refine g2_ ?_
   refine g2_ ?_
   refine cw_ kk ?_
   refine g2_ ?_
   refine cw_ k16 ?_
   refine g2_ ?_
   refine cw_ k21b ?_
   refine g2_ ?_
   refine .inl ⟨oF [0, 1, 5, 2, 3, 4] (oT 6 (oF [7, 8, 9, 10] [])), by kernel_rfl, ?_⟩
   refine gx_ ?_
   refine ⟨(), ab [(1, .to 2), (0, .to 0)] ?_⟩
   repeat first | simp -implicitDefEqProofs only [go_sem, aa, hS2m, hS2e, hM2t, hg, List.map_nil, List.length_nil, aT, List.length_append, zMc, zPc, List.append_eq, List.cons_append, List.nil_append] | with_reducible refine gl_ ?_
   first | done | rfl | exact ⟨rfl, rfl⟩
 obtain ⟨S3, hS3⟩ : ∃ S3, S3 = S2 ++ gD q2 := ⟨_, rfl⟩
 have hR : S3 ++ B.map (uu q2) = R := by rw [hS3]; exact hR0
 have hS3l : S3.length ≤ 12 := by
  rw [hS3, List.length_append]
  have : (gD q2).length ≤ 1 := by unfold gD; split <;> simp
  omega
 refine Vc2.seqJ (γ := Unit) (fun _ => ⟨[(11, .d (.pt 0 0)), (6, .loc 6 0), (7, .d (.v (.slice none 0 0)))], [(6, ⟨zPc, 49⟩)], [(1, .arr 67 17 (S3.map ax) false), (0, .var 105 (aJ c ++ (au q2 ++ (zMc ++ [.fz 1 (dr.map aX), .v (.bool false), .rf 1 0 S3.length]))))], 2, 0⟩) (fun _ => True) ?_ (fun _ _ => ?_)
 ·repeat first | simp -implicitDefEqProofs only [go_sem, aa, zMc, zPc, List.append_eq, List.cons_append, List.nil_append] | with_reducible first | refine gl_ ?_ | refine ga_ ?_ | refine gn_ ?_
  cases hs2 : q2.ring.hs with
  | false =>
   have e : S3 = S2 := by rw [hS3, gD, if_neg (by rw [hs2]; decide), List.append_nil]
   refine g2_ ?_
   rw [e]
   refine ⟨(), ab [(1, .to 1), (0, .to 0)] ?_⟩
   repeat first | simp -implicitDefEqProofs only [go_sem, aa, hs2, zMc, zPc, List.append_eq, List.cons_append, List.nil_append] | with_reducible refine gl_ ?_
   first | done | rfl | exact ⟨rfl, rfl⟩
  | true =>
   have hS3m : S3.map ax = S2.map ax ++ [ax { bV q2 6 q2.ring.succ.node with list := [aT q2] }] := by rw [hS3, gD, if_pos hs2, List.map_append]; rfl
   have hS3e : S3.length = S2.length + 1 := by rw [hS3, gD, if_pos hs2, List.length_append]; rfl
   have hM3t : (bV q2 6 q2.ring.succ.node).table = [] := rfl
   generalize bV q2 6 q2.ring.succ.node = M3 at k18 hS3m hM3t
   refine g2_ ?_
   refine .inl ⟨oF [0, 1, 8, 2, 9, 3, 10, 4, 11, 5, 6, 7] (oT 12 (oT 13 (oF [14] []))), by kernel_rfl, ?_⟩
   refine g2_ ?_
   refine CallS.eqW k13 (wf_ hs2) (.inl ws_) ?_
   refine g2_ ?_
   refine CallS.inline Ty.mixed Tryz.func63 rfl (by kernel_rfl) (by kernel_rfl) rfl [] rfl (Vc2.of ?_)
   refine g2_ ?_
   refine g2_ ?_
   refine CallS.eqW k18 (by simp -implicitDefEqProofs only [go_sem, aa, hs2, aT]) (.inl ws_) ?_
   refine g2_ ?_
   refine CallS.eqW k17 (by simp -implicitDefEqProofs only [go_sem, aa, hs2, aT]) (.inl ws_) ?_
   refine g2_ ?_
   refine cw_ k21b ?_
   refine g2_ ?_
   refine .inl ⟨oF [0, 1, 5, 2, 3, 4] (oT 6 (oF [7, 8, 9, 10] [])), by kernel_rfl, ?_⟩
   refine gx_ ?_
   refine ⟨(), ab [(1, .to 4), (0, .to 0)] ?_⟩
   repeat first | simp -implicitDefEqProofs only [go_sem, aa, hS3m, hS3e, hM3t, hs2, aT, zMc, zPc, List.append_eq, List.cons_append, List.nil_append] | with_reducible refine gl_ ?_
   first | done | rfl | exact ⟨rfl, rfl⟩
 clear hS3
 obtain ⟨SA, hSA⟩ : ∃ SA : Nat → List aV, SA = fun k => S3 ++ (B.take k).map (uu q2) := ⟨_, rfl⟩
 have hS0 : SA 0 = S3 := by rw [hSA]; simp
 have hSn : ∀ k (hk : k < B.length), SA (k + 1) = SA k ++ [uu q2 B[k]] := fun k hk => by
  rw [hSA]; simp only
  rw [List.take_add_one, List.getElem?_eq_getElem hk, List.map_append, ← List.append_assoc]; rfl
 have hSl : ∀ k, (SA k).length ≤ 20 := fun k => by
  rw [hSA]; simp only [List.length_append, List.length_map, List.length_take]; omega
 have hSe : SA B.length = R := by
  rw [hSA, ← hR]
  show _ ++ (B.take B.length).map _ = _
  rw [List.take_of_length_le (Nat.le_refl _)]
 refine Vc2.of ?_
 repeat first | simp -implicitDefEqProofs only [go_sem, aa, zMc, zPc, List.append_eq, List.cons_append, List.nil_append] | with_reducible first | refine gl_ ?_ | refine ga_ ?_ | refine gn_ ?_
 refine cw_ k19 ?_
 refine gx_ ?_
 refine pY B.length ([(103, .d (.v (.int .i64 B.length))), (102, .d (.fz 4 (B.map ah)))] ++ [(11, .d (.pt 0 0)), (6, .loc 6 0), (7, .d (.v (.slice none 0 0)))]) (fun k => []) (fun _ => [(6, ⟨zPc, 49⟩)]) (fun k => [(1, .arr 67 17 ((SA k).map ax) false), (0, .var 105 (aJ c ++ (au q2 ++ (zMc ++ [.fz 1 (dr.map aX), .v (.bool false), .rf 1 0 (SA k).length]))))]) 2 (fun _ => True) (ab [(1, .to 1), (0, .to 0)] ?_) trivial (fun g k => by first | rfl | (repeat first | simp -implicitDefEqProofs only [go_sem, aa] | with_reducible refine gl_ ?_)) (by omega) (fun g => by simp -implicitDefEqProofs only [go_sem, aa]) (fun k hk _ => ?_) (fun _ => ?_)
 ·repeat first | simp -implicitDefEqProofs only [go_sem, aa, hS0, zMc, zPc, List.append_eq, List.cons_append, List.nil_append] | with_reducible refine gl_ ?_
  first | done | rfl | exact ⟨rfl, rfl⟩
 ·have hAl := hSl k
  have kk := k20 B[k]
  have hsl : (SA (k + 1)).length = (SA k).length + 1 := by rw [hSn k hk]; simp
  have hsm : (SA (k + 1)).map ax = (SA k).map ax ++ [ax { bV q2 8 B[k].node with table := q2.table }] := by rw [hSn k hk, List.map_append, List.map_cons, List.map_nil]; rfl
  repeat first | simp -implicitDefEqProofs only [go_sem, aa, aw hk, zMc, zPc, List.append_eq, List.cons_append, List.nil_append] | with_reducible first | refine gl_ ?_ | refine ga_ ?_ | refine gn_ ?_
  generalize B[k] = d at kk hsm
  have hM4 : (bV q2 8 d.node).list = [] := rfl
  generalize bV q2 8 d.node = M4 at kk hsm hM4
  refine .inl ⟨oF [0, 1, 3, 2, 4, 5, 6, 7, 8] [], by kernel_rfl, ?_⟩
  refine g2_ ?_
  refine CallS.inline Ty.mixed Tryz.func63 rfl (by kernel_rfl) (by kernel_rfl) rfl [] rfl (Vc2.of ?_)
  refine g2_ ?_
  refine g2_ ?_
  refine cw_ kk ?_
  refine g2_ ?_
  refine cw_ k21 ?_
  refine g2_ ?_
  refine cw_ k22 ?_
  refine g2_ ?_
  refine .inl ⟨oF [0, 1, 5, 2, 3, 4] (oT 6 (oF [7, 8, 9, 10] [])), by kernel_rfl, ?_⟩
  refine gx_ ?_
  refine ⟨k + 1, ab [(1, .to 3), (0, .to 0)] ?_, rfl⟩
  repeat first | simp -implicitDefEqProofs only [go_sem, aa, hsm, hsl, hM4, zMc, zPc, List.append_eq, List.cons_append, List.nil_append] | with_reducible refine gl_ ?_
  first | done | rfl | exact ⟨rfl, rfl⟩
 ·rw [hSe]
  repeat first | simp -implicitDefEqProofs only [go_sem, aa, zPc, zMc, zPc, List.append_eq, List.cons_append, List.nil_append] | with_reducible first | refine gl_ ?_ | refine ga_ ?_ | refine gn_ ?_
  refine .inr (.inr (.inl ⟨oF [0, 4, 1, 5, 2, 6, 3, 7] (oT 8 (oF [9] [])), [6], by kernel_rfl, ?_⟩))
  refine g2_ ?_
  refine ae ?_ rfl
  repeat first | simp -implicitDefEqProofs only [go_sem, aa] | with_reducible refine gl_ ?_
  first | done | trace_state
end Go.Proofs.YtlaefellhnkfbaaGreat.V
