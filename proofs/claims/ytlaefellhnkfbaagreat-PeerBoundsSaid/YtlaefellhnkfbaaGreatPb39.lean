/-
 bF 39 of the proof of Pb: the engine and the walks, in their order.
-/
import Derived.Test.YtlaefellhnkfbaaGreatPb29
import Derived.Test.YtlaefellhnkfbaaGreatPb35
import Derived.Test.YtlaefellhnkfbaaGreatPb37
set_option linter.unusedSimpArgs false
set_option linter.unusedVariables false
set_option maxRecDepth 10000
namespace Go.Eng
theorem kW {p : ak} (h : okP p) {v n : List GDesc} {r : fa} (hv : bO v) (hn : bO n) (h1 : r.succ.filter.length ≤ 1000) (h2 : r.pred.filter.length ≤ 1000) : okP { p with view := v, near := n, ring := r } :=
 ⟨h.filter, hv, hn, h1, h2, h.sent, h.table, h.heard, h.rows, h.reports, h.evs, h.pulls⟩
end Go.Eng
namespace Go.Proofs.YtlaefellhnkfbaaGreat.V
open Go.Eng
attribute [local go_sem] aR aP ah fzD plR bB bn aI bC aE aq bm dd z8 z16 z32 z64 ar aT ey kZ List.map_cons List.map_nil
set_option maxHeartbeats 4000000 in
theorem bE (c : av) (p : ak) (l : List GDesc) (hc : c.schema.length ≤ 4) (hcs : ∀ s ∈ c.schema, okS s) (hp : okG p) (hl : bO l) (hl2 : ∀ d ∈ l, okF d) :
  Con2 Tryz.prog 47 [.agg (aE c), .agg (aq p), fzD l] (· = plR (.agg (aq (aH c p l)))) := by
 refine Con2.ofEmb ?_
 obtain ⟨m1, m2⟩ := qQ (c := c) hp hl hl2
 have m2 := m2 c.near
 have u1 := m1.u p.node
 have u2 := m2.u p.node
 have hk := hp.ok
 have k1 : Con2 Tryz.prog 108 [.agg (aq p), fzD p.view] (· = plR (fzD (bk p p.view))) := nQ p p.view hk hk.view
 have k2 : Con2 Tryz.prog 108 [.agg (aq { p with view := bk p p.view }), fzD p.near] (· = plR (fzD (bk p p.near))) := nQ { p with view := bk p p.view } p.near (kW hk (dg hk.view) hk.near hk.succ hk.pred) hk.near
 have k3 : Con2 Tryz.prog 109 [.agg (aq { p with view := bk p p.view, near := bk p p.near }), .agg (ah p.ring.succ)] (· = plR (.v (.bool (cH p p.ring.succ)))) := lK _ _ (kW hk (dg hk.view) (dg hk.near) hk.succ hk.pred)
 have k4 : ∀ hs su, su.filter.length ≤ 1000 → Con2 Tryz.prog 109 [.agg (aq { p with view := bk p p.view, near := bk p p.near, ring := ⟨hs, p.ring.hp, su, p.ring.pred⟩ }), .agg (ah p.ring.pred)] (· = plR (.v (.bool (cH p p.ring.pred)))) := fun hs su h =>
  lK _ _ (kW (r := ⟨hs, p.ring.hp, su, p.ring.pred⟩) hk (dg hk.view) (dg hk.near) h hk.pred)
 have hsf : (bU p p.ring).succ.filter.length ≤ 1000 := by
  simp only [bU]; split
  ·exact Nat.zero_le _
  ·exact hk.succ
 have hpf : (bU p p.ring).pred.filter.length ≤ 1000 := by
  simp only [bU]; split
  ·exact Nat.zero_le _
  ·exact hk.pred
 have k5 := gM (bU p p.ring) hsf hpf
 have k6 : Con2 Tryz.prog 110 [.agg (aE c), .agg (aq { p with view := bk p p.view, near := bk p p.near, ring := bU p p.ring }), fzD l] (· = plR (fzD (cr c p l))) := li c _ l (by omega) (kW hk (dg hk.view) (dg hk.near) hsf hpf) hl
 have k7 := s7 p.filter p.node c.near _ (by simp) m1.ds hk.filter hp.filter u1.1 u1.2
 have k8 : Con2 Tryz.prog 32 [.agg (aq { p with view := bk p p.view, near := cQ p.filter p.node c.near [bk p p.view, bk p p.near, aJ (bU p p.ring), cr c p l], ring := bU p p.ring })] (· = plR (.agg (ah (aX p)))) :=
  fC _ (kW hk (dg hk.view) (m2.ds _ (by simp)) hsf hpf)
 have k9 := sO c.schema (aX p) _ (by simp) m2.ds hc hcs hk.filter hp.filter u2.1 (Nat.le_trans u2.2 (by omega))
 have hres : aH c p l = { p with view := bk p p.view, near := cQ p.filter p.node c.near [bk p p.view, bk p p.near, aJ (bU p p.ring), cr c p l], ring := dv c.schema (aX p) [bk p p.view, cQ p.filter p.node c.near [bk p p.view, bk p p.near, aJ (bU p p.ring), cr c p l], aJ (bU p p.ring), cr c p l] } := rfl
 rw [hres]
 clear hres m1 m2 u1 u2 hsf hpf
 generalize dv c.schema (aX p) [bk p p.view, cQ p.filter p.node c.near [bk p p.view, bk p p.near, aJ (bU p p.ring), cr c p l], aJ (bU p p.ring), cr c p l] = R at k9
 generalize cQ p.filter p.node c.near [bk p p.view, bk p p.near, aJ (bU p p.ring), cr c p l] = N at k7 k8 k9
 generalize cr c p l = M at k6 k7 k9
 generalize aJ (bU p p.ring) = B at k5 k7 k9
 generalize aX p = S at k8 k9
 generalize bk p p.view = v at k1 k2 k3 k4 k6 k7 k8 k9
 generalize bk p p.near = n at k2 k3 k4 k6 k7 k8
 have hr : ∀ a b s q, bU p p.ring = ⟨a, b, s, q⟩ → bU p p.ring = ⟨a, b, s, q⟩ := fun _ _ _ _ h => h
 unfold bU at hr
 generalize hR : bU p p.ring = r at k5 k6 k8
 unfold bU at hR
 clear hr
 refine af Ty.mixed Tryz.func47 rfl (by kernel_rfl) (by kernel_rfl) rfl [.cell 6 49] rfl ?_
 refine g2_ ?_
 refine g2_ ?_
 refine CallS.eqW k1 ws_ (.inl ws_) ?_
 refine g2_ ?_
 refine CallS.eqW k2 ws_ (.inl ws_) ?_
 refine g2_ ?_
 cases h1 : p.ring.hs with
 | false =>
  refine g2_ ?_
  cases h3 : p.ring.hp with
  | false =>
   obtain rfl : r = ⟨false, false, p.ring.succ, p.ring.pred⟩ := by rw [← hR]; simp [h1, h3]
   refine g2_ ?_
   refine CallS.eqW k5 ws_ (.inl ws_) ?_
   refine g2_ ?_
   refine CallS.eqW k6 ws_ (.inl ws_) ?_
   refine g2_ ?_
   refine CallS.eqW k7 ws_ (.inl ws_) ?_
   refine g2_ ?_
   refine .inr (.inl ⟨(.fl 0 (.fl 2 (.fl 4 (.fl 6 (.fl 8 (.fl 9 (.fl 1 (.fl 5 (.fl 7 (.eff 3 true (.eff 10 true (.eff 11 false (.fl 12 (.eff 13 false .done .no)) .no) .no) (.eff 10 true (.eff 3 true (.eff 11 false (.fl 12 (.eff 13 false .done .no)) .no) .no) .no))))))))))), by kernel_rfl, ?_⟩)
   refine g2_ ?_
   repeat' (first
    | (with_reducible refine And.intro ?_ ?_)
    | (refine CallS.eqW k8 ?_ (.inl ?_) ?_; (focus (((try (with_reducible refine ab ?_)); simp -implicitDefEqProofs only [go_sem, aa]; repeat ((with_reducible refine ab ?_); simp -implicitDefEqProofs only [go_sem, aa])); done)); (focus (((try (with_reducible refine ab ?_)); simp -implicitDefEqProofs only [go_sem, aa]; repeat ((with_reducible refine ab ?_); simp -implicitDefEqProofs only [go_sem, aa])); done)); refine g2_ ?_)
    | (refine CallS.eqW k9 ?_ (.inl ?_) ?_; (focus (((try (with_reducible refine ab ?_)); simp -implicitDefEqProofs only [go_sem, aa]; repeat ((with_reducible refine ab ?_); simp -implicitDefEqProofs only [go_sem, aa])); done)); (focus (((try (with_reducible refine ab ?_)); simp -implicitDefEqProofs only [go_sem, aa]; repeat ((with_reducible refine ab ?_); simp -implicitDefEqProofs only [go_sem, aa])); done)); refine g2_ ?_)
    | (with_reducible refine ab ?_; refine g2_ ?_))
   all_goals
    refine ae ?_ rfl
    exact ws_
  | true =>
   have k4' := k4 false p.ring.succ hk.succ
   rw [h3] at k4'
   refine g2_ ?_
   refine CallS.eqW k4' ws_ (.inl ws_) ?_
   refine g2_ ?_
   cases h4 : cH p p.ring.pred with
   | true =>
    obtain rfl : r = ⟨false, true, p.ring.succ, p.ring.pred⟩ := by rw [← hR]; simp [h1, h3, h4]
    refine g2_ ?_
    refine CallS.eqW k5 ws_ (.inl ws_) ?_
    refine g2_ ?_
    refine CallS.eqW k6 ws_ (.inl ws_) ?_
    refine g2_ ?_
    refine CallS.eqW k7 ws_ (.inl ws_) ?_
    refine g2_ ?_
    refine .inr (.inl ⟨(.fl 0 (.fl 2 (.fl 4 (.fl 6 (.fl 8 (.fl 9 (.fl 1 (.fl 5 (.fl 7 (.eff 3 true (.eff 10 true (.eff 11 false (.fl 12 (.eff 13 false .done .no)) .no) .no) (.eff 10 true (.eff 3 true (.eff 11 false (.fl 12 (.eff 13 false .done .no)) .no) .no) .no))))))))))), by kernel_rfl, ?_⟩)
    refine g2_ ?_
    repeat' (first
     | (with_reducible refine And.intro ?_ ?_)
     | (refine CallS.eqW k8 ?_ (.inl ?_) ?_; (focus (((try (with_reducible refine ab ?_)); simp -implicitDefEqProofs only [go_sem, aa]; repeat ((with_reducible refine ab ?_); simp -implicitDefEqProofs only [go_sem, aa])); done)); (focus (((try (with_reducible refine ab ?_)); simp -implicitDefEqProofs only [go_sem, aa]; repeat ((with_reducible refine ab ?_); simp -implicitDefEqProofs only [go_sem, aa])); done)); refine g2_ ?_)
     | (refine CallS.eqW k9 ?_ (.inl ?_) ?_; (focus (((try (with_reducible refine ab ?_)); simp -implicitDefEqProofs only [go_sem, aa]; repeat ((with_reducible refine ab ?_); simp -implicitDefEqProofs only [go_sem, aa])); done)); (focus (((try (with_reducible refine ab ?_)); simp -implicitDefEqProofs only [go_sem, aa]; repeat ((with_reducible refine ab ?_); simp -implicitDefEqProofs only [go_sem, aa])); done)); refine g2_ ?_)
     | (with_reducible refine ab ?_; refine g2_ ?_))
    all_goals
     refine ae ?_ rfl
     exact ws_
   | false =>
    obtain rfl : r = ⟨false, false, p.ring.succ, aR⟩ := by rw [← hR]; simp [h1, h3, h4]
    refine g2_ ?_
    refine CallS.eqW k5 ws_ (.inl ws_) ?_
    refine g2_ ?_
    refine CallS.eqW k6 ws_ (.inl ws_) ?_
    refine g2_ ?_
    refine CallS.eqW k7 ws_ (.inl ws_) ?_
    refine g2_ ?_
    refine .inr (.inl ⟨(.fl 0 (.fl 2 (.fl 4 (.fl 6 (.fl 8 (.fl 9 (.fl 1 (.fl 5 (.fl 7 (.eff 3 true (.eff 10 true (.eff 11 false (.fl 12 (.eff 13 false .done .no)) .no) .no) (.eff 10 true (.eff 3 true (.eff 11 false (.fl 12 (.eff 13 false .done .no)) .no) .no) .no))))))))))), by kernel_rfl, ?_⟩)
    refine g2_ ?_
    repeat' (first
     | (with_reducible refine And.intro ?_ ?_)
     | (refine CallS.eqW k8 ?_ (.inl ?_) ?_; (focus (((try (with_reducible refine ab ?_)); simp -implicitDefEqProofs only [go_sem, aa]; repeat ((with_reducible refine ab ?_); simp -implicitDefEqProofs only [go_sem, aa])); done)); (focus (((try (with_reducible refine ab ?_)); simp -implicitDefEqProofs only [go_sem, aa]; repeat ((with_reducible refine ab ?_); simp -implicitDefEqProofs only [go_sem, aa])); done)); refine g2_ ?_)
     | (refine CallS.eqW k9 ?_ (.inl ?_) ?_; (focus (((try (with_reducible refine ab ?_)); simp -implicitDefEqProofs only [go_sem, aa]; repeat ((with_reducible refine ab ?_); simp -implicitDefEqProofs only [go_sem, aa])); done)); (focus (((try (with_reducible refine ab ?_)); simp -implicitDefEqProofs only [go_sem, aa]; repeat ((with_reducible refine ab ?_); simp -implicitDefEqProofs only [go_sem, aa])); done)); refine g2_ ?_)
     | (with_reducible refine ab ?_; refine g2_ ?_))
    all_goals
     refine ae ?_ rfl
     exact ws_
 | true =>
  refine g2_ ?_
  refine CallS.eqW k3 (by simp -implicitDefEqProofs only [go_sem, aa, h1]) (.inl ws_) ?_
  refine g2_ ?_
  cases h2 : cH p p.ring.succ with
  | true =>
   refine g2_ ?_
   cases h3 : p.ring.hp with
   | false =>
    obtain rfl : r = ⟨true, false, p.ring.succ, p.ring.pred⟩ := by rw [← hR]; simp [h1, h2, h3]
    refine g2_ ?_
    refine CallS.eqW k5 ws_ (.inl ws_) ?_
    refine g2_ ?_
    refine CallS.eqW k6 ws_ (.inl ws_) ?_
    refine g2_ ?_
    refine CallS.eqW k7 ws_ (.inl ws_) ?_
    refine g2_ ?_
    refine .inr (.inl ⟨(.fl 0 (.fl 2 (.fl 4 (.fl 6 (.fl 8 (.fl 9 (.fl 1 (.fl 5 (.fl 7 (.eff 3 true (.eff 10 true (.eff 11 false (.fl 12 (.eff 13 false .done .no)) .no) .no) (.eff 10 true (.eff 3 true (.eff 11 false (.fl 12 (.eff 13 false .done .no)) .no) .no) .no))))))))))), by kernel_rfl, ?_⟩)
    refine g2_ ?_
    repeat' (first
     | (with_reducible refine And.intro ?_ ?_)
     | (refine CallS.eqW k8 ?_ (.inl ?_) ?_; (focus (((try (with_reducible refine ab ?_)); simp -implicitDefEqProofs only [go_sem, aa]; repeat ((with_reducible refine ab ?_); simp -implicitDefEqProofs only [go_sem, aa])); done)); (focus (((try (with_reducible refine ab ?_)); simp -implicitDefEqProofs only [go_sem, aa]; repeat ((with_reducible refine ab ?_); simp -implicitDefEqProofs only [go_sem, aa])); done)); refine g2_ ?_)
     | (refine CallS.eqW k9 ?_ (.inl ?_) ?_; (focus (((try (with_reducible refine ab ?_)); simp -implicitDefEqProofs only [go_sem, aa]; repeat ((with_reducible refine ab ?_); simp -implicitDefEqProofs only [go_sem, aa])); done)); (focus (((try (with_reducible refine ab ?_)); simp -implicitDefEqProofs only [go_sem, aa]; repeat ((with_reducible refine ab ?_); simp -implicitDefEqProofs only [go_sem, aa])); done)); refine g2_ ?_)
     | (with_reducible refine ab ?_; refine g2_ ?_))
    all_goals
     refine ae ?_ rfl
     exact ws_
   | true =>
    have k4' := k4 true p.ring.succ hk.succ
    rw [h3] at k4'
    refine g2_ ?_
    refine CallS.eqW k4' ws_ (.inl ws_) ?_
    refine g2_ ?_
    cases h4 : cH p p.ring.pred with
    | true =>
     obtain rfl : r = ⟨true, true, p.ring.succ, p.ring.pred⟩ := by rw [← hR]; simp [h1, h2, h3, h4]
     refine g2_ ?_
     refine CallS.eqW k5 ws_ (.inl ws_) ?_
     refine g2_ ?_
     refine CallS.eqW k6 ws_ (.inl ws_) ?_
     refine g2_ ?_
     refine CallS.eqW k7 ws_ (.inl ws_) ?_
     refine g2_ ?_
     refine .inr (.inl ⟨(.fl 0 (.fl 2 (.fl 4 (.fl 6 (.fl 8 (.fl 9 (.fl 1 (.fl 5 (.fl 7 (.eff 3 true (.eff 10 true (.eff 11 false (.fl 12 (.eff 13 false .done .no)) .no) .no) (.eff 10 true (.eff 3 true (.eff 11 false (.fl 12 (.eff 13 false .done .no)) .no) .no) .no))))))))))), by kernel_rfl, ?_⟩)
     refine g2_ ?_
     repeat' (first
      | (with_reducible refine And.intro ?_ ?_)
      | (refine CallS.eqW k8 ?_ (.inl ?_) ?_; (focus (((try (with_reducible refine ab ?_)); simp -implicitDefEqProofs only [go_sem, aa]; repeat ((with_reducible refine ab ?_); simp -implicitDefEqProofs only [go_sem, aa])); done)); (focus (((try (with_reducible refine ab ?_)); simp -implicitDefEqProofs only [go_sem, aa]; repeat ((with_reducible refine ab ?_); simp -implicitDefEqProofs only [go_sem, aa])); done)); refine g2_ ?_)
      | (refine CallS.eqW k9 ?_ (.inl ?_) ?_; (focus (((try (with_reducible refine ab ?_)); simp -implicitDefEqProofs only [go_sem, aa]; repeat ((with_reducible refine ab ?_); simp -implicitDefEqProofs only [go_sem, aa])); done)); (focus (((try (with_reducible refine ab ?_)); simp -implicitDefEqProofs only [go_sem, aa]; repeat ((with_reducible refine ab ?_); simp -implicitDefEqProofs only [go_sem, aa])); done)); refine g2_ ?_)
      | (with_reducible refine ab ?_; refine g2_ ?_))
     all_goals
      refine ae ?_ rfl
      exact ws_
    | false =>
     obtain rfl : r = ⟨true, false, p.ring.succ, aR⟩ := by rw [← hR]; simp [h1, h2, h3, h4]
     refine g2_ ?_
     refine CallS.eqW k5 ws_ (.inl ws_) ?_
     refine g2_ ?_
     refine CallS.eqW k6 ws_ (.inl ws_) ?_
     refine g2_ ?_
     refine CallS.eqW k7 ws_ (.inl ws_) ?_
     refine g2_ ?_
     refine .inr (.inl ⟨(.fl 0 (.fl 2 (.fl 4 (.fl 6 (.fl 8 (.fl 9 (.fl 1 (.fl 5 (.fl 7 (.eff 3 true (.eff 10 true (.eff 11 false (.fl 12 (.eff 13 false .done .no)) .no) .no) (.eff 10 true (.eff 3 true (.eff 11 false (.fl 12 (.eff 13 false .done .no)) .no) .no) .no))))))))))), by kernel_rfl, ?_⟩)
     refine g2_ ?_
     repeat' (first
      | (with_reducible refine And.intro ?_ ?_)
      | (refine CallS.eqW k8 ?_ (.inl ?_) ?_; (focus (((try (with_reducible refine ab ?_)); simp -implicitDefEqProofs only [go_sem, aa]; repeat ((with_reducible refine ab ?_); simp -implicitDefEqProofs only [go_sem, aa])); done)); (focus (((try (with_reducible refine ab ?_)); simp -implicitDefEqProofs only [go_sem, aa]; repeat ((with_reducible refine ab ?_); simp -implicitDefEqProofs only [go_sem, aa])); done)); refine g2_ ?_)
      | (refine CallS.eqW k9 ?_ (.inl ?_) ?_; (focus (((try (with_reducible refine ab ?_)); simp -implicitDefEqProofs only [go_sem, aa]; repeat ((with_reducible refine ab ?_); simp -implicitDefEqProofs only [go_sem, aa])); done)); (focus (((try (with_reducible refine ab ?_)); simp -implicitDefEqProofs only [go_sem, aa]; repeat ((with_reducible refine ab ?_); simp -implicitDefEqProofs only [go_sem, aa])); done)); refine g2_ ?_)
      | (with_reducible refine ab ?_; refine g2_ ?_))
     all_goals
      refine ae ?_ rfl
      exact ws_
  | false =>
   refine g2_ ?_
   cases h3 : p.ring.hp with
   | false =>
    obtain rfl : r = ⟨false, false, aR, p.ring.pred⟩ := by rw [← hR]; simp [h1, h2, h3]
    refine g2_ ?_
    refine CallS.eqW k5 ws_ (.inl ws_) ?_
    refine g2_ ?_
    refine CallS.eqW k6 ws_ (.inl ws_) ?_
    refine g2_ ?_
    refine CallS.eqW k7 ws_ (.inl ws_) ?_
    refine g2_ ?_
    refine .inr (.inl ⟨(.fl 0 (.fl 2 (.fl 4 (.fl 6 (.fl 8 (.fl 9 (.fl 1 (.fl 5 (.fl 7 (.eff 3 true (.eff 10 true (.eff 11 false (.fl 12 (.eff 13 false .done .no)) .no) .no) (.eff 10 true (.eff 3 true (.eff 11 false (.fl 12 (.eff 13 false .done .no)) .no) .no) .no))))))))))), by kernel_rfl, ?_⟩)
    refine g2_ ?_
    repeat' (first
     | (with_reducible refine And.intro ?_ ?_)
     | (refine CallS.eqW k8 ?_ (.inl ?_) ?_; (focus (((try (with_reducible refine ab ?_)); simp -implicitDefEqProofs only [go_sem, aa]; repeat ((with_reducible refine ab ?_); simp -implicitDefEqProofs only [go_sem, aa])); done)); (focus (((try (with_reducible refine ab ?_)); simp -implicitDefEqProofs only [go_sem, aa]; repeat ((with_reducible refine ab ?_); simp -implicitDefEqProofs only [go_sem, aa])); done)); refine g2_ ?_)
     | (refine CallS.eqW k9 ?_ (.inl ?_) ?_; (focus (((try (with_reducible refine ab ?_)); simp -implicitDefEqProofs only [go_sem, aa]; repeat ((with_reducible refine ab ?_); simp -implicitDefEqProofs only [go_sem, aa])); done)); (focus (((try (with_reducible refine ab ?_)); simp -implicitDefEqProofs only [go_sem, aa]; repeat ((with_reducible refine ab ?_); simp -implicitDefEqProofs only [go_sem, aa])); done)); refine g2_ ?_)
     | (with_reducible refine ab ?_; refine g2_ ?_))
    all_goals
     refine ae ?_ rfl
     exact ws_
   | true =>
    have k4' := k4 false aR (Nat.zero_le _)
    rw [h3] at k4'
    refine g2_ ?_
    refine CallS.eqW k4' ws_ (.inl ws_) ?_
    refine g2_ ?_
    cases h4 : cH p p.ring.pred with
    | true =>
     obtain rfl : r = ⟨false, true, aR, p.ring.pred⟩ := by rw [← hR]; simp [h1, h2, h3, h4]
     refine g2_ ?_
     refine CallS.eqW k5 ws_ (.inl ws_) ?_
     refine g2_ ?_
     refine CallS.eqW k6 ws_ (.inl ws_) ?_
     refine g2_ ?_
     refine CallS.eqW k7 ws_ (.inl ws_) ?_
     refine g2_ ?_
     refine .inr (.inl ⟨(.fl 0 (.fl 2 (.fl 4 (.fl 6 (.fl 8 (.fl 9 (.fl 1 (.fl 5 (.fl 7 (.eff 3 true (.eff 10 true (.eff 11 false (.fl 12 (.eff 13 false .done .no)) .no) .no) (.eff 10 true (.eff 3 true (.eff 11 false (.fl 12 (.eff 13 false .done .no)) .no) .no) .no))))))))))), by kernel_rfl, ?_⟩)
     refine g2_ ?_
     repeat' (first
      | (with_reducible refine And.intro ?_ ?_)
      | (refine CallS.eqW k8 ?_ (.inl ?_) ?_; (focus (((try (with_reducible refine ab ?_)); simp -implicitDefEqProofs only [go_sem, aa]; repeat ((with_reducible refine ab ?_); simp -implicitDefEqProofs only [go_sem, aa])); done)); (focus (((try (with_reducible refine ab ?_)); simp -implicitDefEqProofs only [go_sem, aa]; repeat ((with_reducible refine ab ?_); simp -implicitDefEqProofs only [go_sem, aa])); done)); refine g2_ ?_)
      | (refine CallS.eqW k9 ?_ (.inl ?_) ?_; (focus (((try (with_reducible refine ab ?_)); simp -implicitDefEqProofs only [go_sem, aa]; repeat ((with_reducible refine ab ?_); simp -implicitDefEqProofs only [go_sem, aa])); done)); (focus (((try (with_reducible refine ab ?_)); simp -implicitDefEqProofs only [go_sem, aa]; repeat ((with_reducible refine ab ?_); simp -implicitDefEqProofs only [go_sem, aa])); done)); refine g2_ ?_)
      | (with_reducible refine ab ?_; refine g2_ ?_))
     all_goals
      refine ae ?_ rfl
      exact ws_
    | false =>
     obtain rfl : r = ⟨false, false, aR, aR⟩ := by rw [← hR]; simp [h1, h2, h3, h4]
     refine g2_ ?_
     refine CallS.eqW k5 ws_ (.inl ws_) ?_
     refine g2_ ?_
     refine CallS.eqW k6 ws_ (.inl ws_) ?_
     refine g2_ ?_
     refine CallS.eqW k7 ws_ (.inl ws_) ?_
     refine g2_ ?_
     refine .inr (.inl ⟨(.fl 0 (.fl 2 (.fl 4 (.fl 6 (.fl 8 (.fl 9 (.fl 1 (.fl 5 (.fl 7 (.eff 3 true (.eff 10 true (.eff 11 false (.fl 12 (.eff 13 false .done .no)) .no) .no) (.eff 10 true (.eff 3 true (.eff 11 false (.fl 12 (.eff 13 false .done .no)) .no) .no) .no))))))))))), by kernel_rfl, ?_⟩)
     refine g2_ ?_
     repeat' (first
      | (with_reducible refine And.intro ?_ ?_)
      | (refine CallS.eqW k8 ?_ (.inl ?_) ?_; (focus (((try (with_reducible refine ab ?_)); simp -implicitDefEqProofs only [go_sem, aa]; repeat ((with_reducible refine ab ?_); simp -implicitDefEqProofs only [go_sem, aa])); done)); (focus (((try (with_reducible refine ab ?_)); simp -implicitDefEqProofs only [go_sem, aa]; repeat ((with_reducible refine ab ?_); simp -implicitDefEqProofs only [go_sem, aa])); done)); refine g2_ ?_)
      | (refine CallS.eqW k9 ?_ (.inl ?_) ?_; (focus (((try (with_reducible refine ab ?_)); simp -implicitDefEqProofs only [go_sem, aa]; repeat ((with_reducible refine ab ?_); simp -implicitDefEqProofs only [go_sem, aa])); done)); (focus (((try (with_reducible refine ab ?_)); simp -implicitDefEqProofs only [go_sem, aa]; repeat ((with_reducible refine ab ?_); simp -implicitDefEqProofs only [go_sem, aa])); done)); refine g2_ ?_)
      | (with_reducible refine ab ?_; refine g2_ ?_))
     all_goals
      refine ae ?_ rfl
      exact ws_
end Go.Proofs.YtlaefellhnkfbaaGreat.V

set_option maxRecDepth 10000
set_option maxHeartbeats 4000000
namespace Go.Proofs.YtlaefellhnkfbaaGreat.V
open Go.Eng
structure okH (p : ak) : Prop where
 g : okG p
 rs : kR p.reports
 v8 : ok8 p.view
 vw : Vw p.node p.view
theorem okH.ok {p : ak} (h : okH p) : okP p := h.g.ok
theorem wq (l : List am) (i : UInt8) (inc : UInt16) : (gy l i inc).length = l.length := by simp [gy]
theorem afJ {p : ak} (h : okP p) {t : List am} {r : List (List da)} (ht : t.length ≤ 1000) (hr : kR r) : okP { p with table := t, reports := r } :=
 ⟨h.filter, h.view, h.near, h.succ, h.pred, h.sent, ht, h.heard, h.rows, ⟨by have := hr.1; show r.length ≤ 1000; omega, hr.2⟩, h.evs, h.pulls⟩
theorem yo {p : ak} (h : okG p) {t : List am} {r : List (List da)} (ht : t.length ≤ 12) (hr : kR r) : okG { p with table := t, reports := r } :=
 ⟨afJ h.ok (by omega) hr, h.filter, h.view, h.near, h.succ, h.pred, ht⟩
theorem ss {p : ak} (h : okH p) {t : List am} {r : List (List da)} (ht : t.length ≤ 12) (hr : kR r) : okH { p with table := t, reports := r } :=
 ⟨yo h.g ht hr, hr, h.v8, h.vw⟩
theorem cR {c : av} {p : ak} (h : okH p) (node : UInt8) (inc : UInt16) : okH (aL c p node inc).1 := by
 have ht := h.g.table
 unfold aL
 split
 ·exact h
 ·split
  ·exact h
  ·split
   ·exact h
   ·refine ss h (by rw [wq]; exact ht) ?_
    split
    ·exact i_ h.rs
    ·exact h.rs
def dJ (c : av) (p : ak) (m : aY) : ak × List aY :=
 match m.list with
 | [d] => if d.node = m.frm ∧ d.inc = m.inc ∧ fq c d = true then ({ p with view := eM p.view d p.node c.view }, [{ bP p 2 m.frm with list := cJ p.view (aX p), table := p.table }]) else (p, [])
 | _ => (p, [])
def oU (c : av) (p : ak) (m : aY) : ak × List aY :=
 let q := aL c p m.frm m.inc
 if q.2 = true then (aH c (dJ c q.1 m).1 [], (dJ c q.1 m).2) else (q.1, [])
structure okMg (m : aY) : Prop where
 list : m.list.length ≤ 20
 f8 : ∀ d ∈ m.list, d.filter.length ≤ 8
 fs : ∀ d ∈ m.list, ∀ s ∈ d.filter, okS s
 table : m.table.length ≤ 20
theorem okMg.ds {m : aY} (h : okMg m) : bO m.list := ⟨by have := h.list; omega, fun d hd => by have := h.f8 d hd; omega⟩
theorem okMg.fs2 {m : aY} (h : okMg m) : ∀ d ∈ m.list, okF d := fun d hd => ⟨by have := h.f8 d hd; omega, h.fs d hd⟩
theorem aib (a b : UInt8) : ((a.toNat : Int) = (b.toNat : Int)) ↔ a = b := ⟨fun h => UInt8.toNat_inj.1 (by omega), fun h => by rw [h]⟩
theorem ai9 (a b : UInt16) : ((a.toNat : Int) = (b.toNat : Int)) ↔ a = b := ⟨fun h => UInt16.toNat_inj.1 (by omega), fun h => by rw [h]⟩
theorem lZ {l : List GDesc} {x d : GDesc} {self : UInt8} {room : Int} (h : x ∈ eM l d self room) : x ∈ l ∨ x = d := by
 unfold eM at h
 split at h
 ·exact put_mem x h
 ·split at h
  ·exact .inl h
  ·split at h
   ·exact .inl h
   ·split at h
    ·rcases put_mem x h with h | h
     ·exact .inl (List.mem_filter.1 h).1
     ·exact .inr h
    ·exact .inl h
theorem aaV {l : List GDesc} {d : GDesc} {self : UInt8} {room : Int} : (eM l d self room).length ≤ l.length + 1 := by
 unfold eM
 split
 ·exact gr d room
 ·split
  ·exact Nat.le_succ _
  ·split
   ·exact Nat.le_succ _
   ·split
    ·refine Nat.le_trans (gr d _) ?_
     have := List.length_filter_le (fun e : GDesc => !decide (e.node = (‹GDesc›).node)) l
     exact Nat.succ_le_succ (List.length_filter_le _ _)
    ·exact Nat.le_succ _
theorem i3 {p : ak} (h : okG p) {v : List GDesc} (h1 : v.length ≤ 1000) (h2 : ∀ d ∈ v, okF d) : okG { p with view := v } :=
 ⟨⟨h.ok.filter, ⟨h1, fun d hd => (h2 d hd).1⟩, h.ok.near, h.ok.succ, h.ok.pred, h.ok.sent, h.ok.table, h.ok.heard, h.ok.rows, h.ok.reports, h.ok.evs, h.ok.pulls⟩, h.filter, h2, h.near, h.succ, h.pred, h.table⟩
end Go.Proofs.YtlaefellhnkfbaaGreat.V
namespace Go.Proofs.YtlaefellhnkfbaaGreat.V
open Go.Eng
attribute [local go_sem] aR aP ah fzD plR bB bn aI bC aE aq bm dd z8 z16 z32 z64 ar aT ey List.map_cons List.map_nil
theorem pE (c : av) (p : ak) (m : aY) (dr : List UInt32) (hc : c.schema.length ≤ 4) (hcs : ∀ s ∈ c.schema, okS s) (hp : okH p) (hm : okMg m) (hu : p.up = true) (hto : m.to = p.node) (hk : m.kind = 1) :
  Con2 Tryz.prog 12 [.agg (aE c), .agg (aq p), .agg (ar m), .fz 1 (dr.map aW)] (· = plR (.tup [.agg (aq (oU c p m).1), .fz 17 ((oU c p m).2.map ar)])) := by
 refine Con2.ofEmb ?_
 have hf := aM p hp.ok
 have hh := cG c p m.frm m.inc hp.ok hp.rs
 have hq := cR (c := c) hp m.frm m.inc
 unfold oU
 generalize aL c p m.frm m.inc = Q at hh hq
 obtain ⟨q, hd⟩ := Q
 simp only at hq hh ⊢
 refine af Ty.mixed Tryz.func12 rfl (by kernel_rfl) (by kernel_rfl) rfl [.cell 8 49, .tmp 9] rfl ?_
 refine g2_ ?_
 refine g2_ ?_
 refine CallS.eqW hf ws_ (.inl ws_) ?_
 refine g2_ ?_
 rw [hu, hto]
 repeat first | simp -implicitDefEqProofs only [go_sem, aa, bne_self_eq_false] | with_reducible first | refine gl_ ?_ | refine ga_ ?_ | refine gn_ ?_
 refine CallS.eqW hh (by simp -implicitDefEqProofs only [go_sem, aa, hu, hto]) (.inl ws_) ?_
 refine g2_ ?_
 cases hd with
 | false =>
  refine g2_ ?_
  refine ae ?_ rfl
  repeat first | simp -implicitDefEqProofs only [go_sem, aa, Bool.false_eq_true, if_false] | with_reducible refine gl_ ?_
 | true =>
  refine g2_ ?_
  refine .inl ⟨oF [1, 2] (oT 0 (oF [3, 4, 5, 6, 7, 8] [])), by kernel_rfl, ?_⟩
  refine g2_ ?_
  refine CallS.eqW cS ws_ (.inl ws_) ?_
  refine g2_ ?_
  refine ⟨dI, m.kind, rfl, ?_⟩
  rw [show lkF eb m.kind = some 100 by rw [hk]; rfl]
  refine g2_ ?_
  have kq := bE c q [] hc hcs hq.g ⟨by simp, by simp⟩ (by simp)
  have hfin := qF c m.list (by omega) hm.ds
  have hmf := hm.f8
  have hmi := hm.fs
  cases hml : m.list with
  | nil =>
   rw [show dJ c q m = (q, []) by rw [dJ, hml]]
   refine CallS.inline Ty.mixed Tryz.func100 rfl (by kernel_rfl) (by kernel_rfl) rfl [] rfl (Vc2.of ?_)
   refine g2_ ?_
   refine g2_ ?_
   refine .inl ⟨oF [0, 1, 2, 3, 4, 8, 5, 9, 6, 10, 7, 11, 12, 13, 14, 15, 16, 20, 17, 21, 18, 22, 19, 23, 24, 25, 26] [], by kernel_rfl, ?_⟩
   repeat first | simp -implicitDefEqProofs only [go_sem, aa, List.length_nil, c00] | with_reducible first | refine gl_ ?_ | refine ga_ ?_ | refine gn_ ?_
   refine .inl ⟨oF [0, 1, 2, 3, 4, 5, 6, 7, 8, 9] [], by kernel_rfl, ?_⟩
   refine g2_ ?_
   refine CallS.eqW kq ws_ (.inl ws_) ?_
   refine g2_ ?_
   refine .inr (.inr (.inl ⟨oF [0, 4, 1, 5, 2, 6, 3, 7] (oT 8 (oF [9] [])), [8], by kernel_rfl, ?_⟩))
   refine g2_ ?_
   refine ae ?_ rfl
   repeat first | simp -implicitDefEqProofs only [go_sem, aa, if_true] | with_reducible refine gl_ ?_
  | cons d r =>
   cases r with
   | cons e r =>
    have hlen : ((r.length + 1 + 1 : Nat) : Int) ≠ 1 := by omega
    rw [show dJ c q m = (q, []) by rw [dJ, hml]]
    refine CallS.inline Ty.mixed Tryz.func100 rfl (by kernel_rfl) (by kernel_rfl) rfl [] rfl (Vc2.of ?_)
    refine g2_ ?_
    refine g2_ ?_
    refine .inl ⟨oF [0, 1, 2, 3, 4, 8, 5, 9, 6, 10, 7, 11, 12, 13, 14, 15, 16, 20, 17, 21, 18, 22, 19, 23, 24, 25, 26] [], by kernel_rfl, ?_⟩
    repeat first | simp -implicitDefEqProofs only [go_sem, aa, List.length_cons] | with_reducible first | refine gl_ ?_ | refine ga_ ?_ | refine gn_ ?_
    rw [show (((r.length + 1 + 1 : Nat) : Int) != 1) = true from bne_iff_ne.2 hlen]
    refine g2_ ?_
    refine .inl ⟨oF [0, 1, 2, 3, 4, 5, 6, 7, 8, 9] [], by kernel_rfl, ?_⟩
    refine g2_ ?_
    refine CallS.eqW kq ws_ (.inl ws_) ?_
    refine g2_ ?_
    refine .inr (.inr (.inl ⟨oF [0, 4, 1, 5, 2, 6, 3, 7] (oT 8 (oF [9] [])), [8], by kernel_rfl, ?_⟩))
    refine g2_ ?_
    refine ae ?_ rfl
    repeat first | simp -implicitDefEqProofs only [go_sem, aa, if_true] | with_reducible refine gl_ ?_
   | nil =>
    rw [hml] at hfin hmf hmi
    have hd8 := hmf d (by simp)
    have hdi := hmi d (by simp)
    refine CallS.inline Ty.mixed Tryz.func100 rfl (by kernel_rfl) (by kernel_rfl) rfl [] rfl (Vc2.of ?_)
    refine g2_ ?_
    refine g2_ ?_
    refine .inl ⟨oF [0, 1, 2, 3, 4, 8, 5, 9, 6, 10, 7, 11, 12, 13, 14, 15, 16, 20, 17, 21, 18, 22, 19, 23, 24, 25, 26] [], by kernel_rfl, ?_⟩
    repeat first | simp -implicitDefEqProofs only [go_sem, aa, List.length_cons, List.length_nil] | with_reducible first | refine gl_ ?_ | refine ga_ ?_ | refine gn_ ?_
    rw [show (((0 + 1 : Nat) : Int) != 1) = false from rfl]
    refine g2_ ?_
    by_cases e1 : d.node = m.frm
    ·rw [show ((d.node.toNat : Int) != (m.frm.toNat : Int)) = false by rw [e1]; exact bne_self_eq_false _]
     refine g2_ ?_
     by_cases e2 : d.inc = m.inc
     ·rw [show ((d.inc.toNat : Int) != (m.inc.toNat : Int)) = false by rw [e2]; exact bne_self_eq_false _]
      refine g2_ ?_
      refine CallS.eqW hfin ws_ (.inl ws_) ?_
      cases e3 : fq c d with
      | true =>
       have ef : fZ c [d] = [d] := by simp [fZ, e3]
       rw [ef]
       have hj : dJ c q m = ({ q with view := eM q.view d q.node c.view }, [{ bP q 2 m.frm with list := cJ q.view (aX q), table := q.table }]) := by simp [dJ, hml, e1, e2, e3]
       rw [hj]
       have ks := fC q hq.g.ok
       have kw := lS q.view (aX q) hq.g.ok.view hq.g.ok.filter
       have km := eh q 2 m.frm
       have hwl : bO (cJ q.view (aX q)) := by
        refine ⟨?_, fun x hx => ?_⟩
        ·have h1 := hq.v8.1
         simp only [cJ, List.length_append, List.length_cons, List.length_take, List.length_drop]; omega
        ·simp only [cJ, List.mem_append, List.mem_cons] at hx
         rcases hx with h | h | h
         ·exact hq.g.ok.view.2 x (List.mem_of_mem_take h)
         ·rw [h]; exact hq.g.ok.filter
         ·exact hq.g.ok.view.2 x (List.mem_of_mem_drop h)
       have kc := aO (cJ q.view (aX q)) hwl
       have kt := eS (q.table.map aI) (by have := hq.g.table; rw [List.length_map]; omega)
       have ka := ag9 q.view d q.node c.view hq.v8 hd8 hq.vw
       have kq' := bE c { q with view := eM q.view d q.node c.view } [] hc hcs (i3 hq.g (Nat.le_trans aaV (by have := hq.v8.1; omega)) (fun x hx => by
        rcases lZ hx with h | h
        ·exact hq.g.view x h
        ·rw [h]; exact ⟨by omega, hdi⟩)) ⟨by simp, by simp⟩ (by simp)
       clear kq
       have kq := kq'
       clear kq'
       generalize eM q.view d q.node c.view = V at ka kq ⊢
       generalize cJ q.view (aX q) = Wl at kw kc ⊢
       generalize aX q = S at ks kw
       generalize hM : bP q 2 m.frm = M at km ⊢
       repeat first | simp -implicitDefEqProofs only [go_sem, aa, List.length_cons, List.length_nil] | with_reducible first | refine gl_ ?_ | refine ga_ ?_ | refine gn_ ?_
       rw [show (((1 : Nat) : Int) == 0) = false from rfl]
       refine g2_ ?_
       refine .inl ⟨oF [0, 1, 6, 11, 17, 2, 7, 12, 18, 3, 8, 13, 19, 4, 9, 14, 20, 5, 10, 21] (oT 15 (oT 16 (oF [22] []))), by kernel_rfl, ?_⟩
       refine g2_ ?_
       refine CallS.eqW ks ws_ (.inl ws_) ?_
       refine g2_ ?_
       refine CallS.eqW kw ws_ (.inl ws_) ?_
       refine g2_ ?_
       refine CallS.inline Ty.mixed Tryz.func63 rfl (by kernel_rfl) (by kernel_rfl) rfl [] rfl (Vc2.of ?_)
       refine g2_ ?_
       refine g2_ ?_
       refine CallS.eqW km ws_ (.inl ws_) ?_
       refine g2_ ?_
       refine CallS.eqW kc ws_ (.inl ws_) ?_
       refine g2_ ?_
       refine CallS.eqW kt ws_ (.inl ws_) ?_
       refine g2_ ?_
       refine .inl ⟨oF [0, 1, 5, 2, 3, 4] (oT 6 (oF [7, 8, 9, 10] [])), by kernel_rfl, ?_⟩
       refine g2_ ?_
       refine .inl ⟨oF [0, 1, 6, 9, 14, 2, 7, 10, 15, 3, 8, 11, 16, 4, 12, 17, 5, 13, 18, 19, 20, 21, 22, 23] [], by kernel_rfl, ?_⟩
       refine g2_ ?_
       refine CallS.eqW ka ws_ (.inl ws_) ?_
       refine g2_ ?_
       refine .inl ⟨oF [0, 1, 2, 3, 4, 5, 6, 7, 8, 9] [], by kernel_rfl, ?_⟩
       refine g2_ ?_
       refine CallS.eqW kq ws_ (.inl ws_) ?_
       refine g2_ ?_
       refine .inr (.inr (.inl ⟨oF [0, 4, 1, 5, 2, 6, 3, 7] (oT 8 (oF [9] [])), [8], by kernel_rfl, ?_⟩))
       refine g2_ ?_
       refine ae ?_ rfl
       repeat first | simp -implicitDefEqProofs only [go_sem, aa, if_true] | with_reducible refine gl_ ?_
      | false =>
       have ef : fZ c [d] = [] := by simp [fZ, e3]
       have hj : dJ c q m = (q, []) := by simp [dJ, hml, e3]
       rw [ef, hj]
       repeat first | simp -implicitDefEqProofs only [go_sem, aa, List.length_nil, c00] | with_reducible first | refine gl_ ?_ | refine ga_ ?_ | refine gn_ ?_
       refine .inl ⟨oF [0, 1, 2, 3, 4, 5, 6, 7, 8, 9] [], by kernel_rfl, ?_⟩
       refine g2_ ?_
       refine CallS.eqW kq ws_ (.inl ws_) ?_
       refine g2_ ?_
       refine .inr (.inr (.inl ⟨oF [0, 4, 1, 5, 2, 6, 3, 7] (oT 8 (oF [9] [])), [8], by kernel_rfl, ?_⟩))
       refine g2_ ?_
       refine ae ?_ rfl
       repeat first | simp -implicitDefEqProofs only [go_sem, aa, if_true] | with_reducible refine gl_ ?_
     ·have hj : dJ c q m = (q, []) := by simp [dJ, hml, e2]
      rw [hj, show ((d.inc.toNat : Int) != (m.inc.toNat : Int)) = true from bne_iff_ne.2 (fun h => e2 ((ai9 _ _).1 h))]
      refine g2_ ?_
      refine .inl ⟨oF [0, 1, 2, 3, 4, 5, 6, 7, 8, 9] [], by kernel_rfl, ?_⟩
      refine g2_ ?_
      refine CallS.eqW kq ws_ (.inl ws_) ?_
      refine g2_ ?_
      refine .inr (.inr (.inl ⟨oF [0, 4, 1, 5, 2, 6, 3, 7] (oT 8 (oF [9] [])), [8], by kernel_rfl, ?_⟩))
      refine g2_ ?_
      refine ae ?_ rfl
      repeat first | simp -implicitDefEqProofs only [go_sem, aa, if_true] | with_reducible refine gl_ ?_
    ·have hj : dJ c q m = (q, []) := by simp [dJ, hml, e1]
     rw [hj, show ((d.node.toNat : Int) != (m.frm.toNat : Int)) = true from bne_iff_ne.2 (fun h => e1 ((aib _ _).1 h))]
     refine g2_ ?_
     refine .inl ⟨oF [0, 1, 2, 3, 4, 5, 6, 7, 8, 9] [], by kernel_rfl, ?_⟩
     refine g2_ ?_
     refine CallS.eqW kq ws_ (.inl ws_) ?_
     refine g2_ ?_
     refine .inr (.inr (.inl ⟨oF [0, 4, 1, 5, 2, 6, 3, 7] (oT 8 (oF [9] [])), [8], by kernel_rfl, ?_⟩))
     refine g2_ ?_
     refine ae ?_ rfl
     repeat first | simp -implicitDefEqProofs only [go_sem, aa, if_true] | with_reducible refine gl_ ?_
end Go.Proofs.YtlaefellhnkfbaaGreat.V
