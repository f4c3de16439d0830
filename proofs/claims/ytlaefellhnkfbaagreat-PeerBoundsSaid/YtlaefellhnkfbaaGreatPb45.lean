/-
 bF 45 of the proof of Pb: the engine and the walks, in their order.
-/
import Derived.Test.YtlaefellhnkfbaaGreatPb28
import Derived.Test.YtlaefellhnkfbaaGreatPb37
set_option linter.unusedSimpArgs false
set_option linter.unusedVariables false
set_option maxRecDepth 10000
set_option maxHeartbeats 4000000
namespace Go.Proofs.YtlaefellhnkfbaaGreat.V
open Go.Eng
structure Win (c : av) (p : ak) : Prop where
 table : (p.table.length : Int) = c.nodes
 rows : (p.rows.length : Int) = c.nodes
 heard : (p.heard.length : Int) = c.nodes
 view : dk p.view p.node c.view = true
 near : dk p.near p.node c.near = true
 cur : ∀ l ∈ [p.view, p.near, aJ p.ring], ∀ d ∈ l, cH p d = true
 ovl : ∀ d ∈ p.near, 0 < nw p.filter d.filter
 ring : p.ring.hs = p.ring.hp ∨ 0 < p.view.length
theorem p4 {p : ak} {d : GDesc} (h : cH p d = true) : d.node ≠ p.node ∧ ∃ m, p.table[d.node.toNat]? = some m ∧ (m.inc < d.inc ∨ (d.inc = m.inc ∧ m.state = 1)) := by
 unfold cH at h
 split at h
 ·cases h
 ·rename_i h1
  split at h
  ·cases h
  ·rename_i m hm
   exact ⟨h1, m, hm, by simpa using h⟩
attribute [local go_sem] aR aP ah fzD plR bB bn aI bC aE aq bm dd z8 z16 z32 z64 ar aT ey iD List.map_cons List.map_nil
theorem vR (c : av) (p : ak) (hp : okG p) (hw : Win c p) : Con2 Tryz.prog 39 [.agg (aE c), .agg (aq p)] (· = plR (.v (.bool true))) := by
 have hk := hp.ok
 have k1 := pI p.view p.node c.view (by have := hk.view.1; omega)
 have k2 := pI p.near p.node c.near (by have := hk.near.1; omega)
 rw [hw.view] at k1
 rw [hw.near] at k2
 have k3 := gM p.ring hk.succ hk.pred
 have hrl := dW p.ring
 have hcur := hw.cur
 generalize aJ p.ring = B at k3 hrl hcur
 obtain ⟨L, hL⟩ : ∃ L : List (List GDesc), L = [p.view, p.near, B] := ⟨_, rfl⟩
 rw [← hL] at hcur
 have hLl : L.length = 3 := by rw [hL]; rfl
 have hge : ∀ k (hk : k < 3), ([[fzD p.view], [fzD p.near], [fzD B]] : List (List DV))[k]? = some [fzD (L[k]'(by omega))] := fun k hk => by
  subst hL
  match k, hk with
  | 0, _ => rfl
  | 1, _ => rfl
  | 2, _ => rfl
 have hll : ∀ k (hk : k < 3), (L[k]'(by omega)).length ≤ 1000 := fun k hk2 => by
  subst hL
  match k, hk2 with
  | 0, _ => exact hk.view.1
  | 1, _ => exact hk.near.1
  | 2, _ => exact Nat.le_trans hrl (by omega)
 have ht := hw.table
 have hr := hw.rows
 have hh := hw.heard
 have htn : ((p.table.length : Int) != c.nodes) = false := by rw [ht]; exact bne_self_eq_false _
 have hrn : ((p.rows.length : Int) != c.nodes) = false := by rw [hr]; exact bne_self_eq_false _
 have hhn : ((p.heard.length : Int) != c.nodes) = false := by rw [hh]; exact bne_self_eq_false _
 refine af Ty.mixed Tryz.func39 rfl (by kernel_rfl) (by kernel_rfl) rfl [.tmp 4] rfl ?_
 refine g2_ ?_
 repeat first | simp -implicitDefEqProofs only [go_sem, aa, List.length_map, htn] | with_reducible first | refine gl_ ?_ | refine ga_ ?_ | refine gn_ ?_
 refine CallS.eqW k1 ws_ (.inl ws_) ?_
 repeat first | simp -implicitDefEqProofs only [go_sem, aa, List.length_map, htn] | with_reducible first | refine gl_ ?_ | refine ga_ ?_ | refine gn_ ?_
 refine CallS.eqW k2 ws_ (.inl ws_) ?_
 repeat first | simp -implicitDefEqProofs only [go_sem, aa, List.length_map, hrn, hhn] | with_reducible first | refine gl_ ?_ | refine ga_ ?_ | refine gn_ ?_
 refine .inl ⟨oF [0, 2, 4, 9, 1, 3, 5] (oT 6 (oF [7, 8] [])), by kernel_rfl, ?_⟩
 refine g2_ ?_
 refine CallS.eqW k3 ws_ (.inl ws_) ?_
 refine g2_ ?_
 refine ax 3 (fun k => []) (fun _ => []) (fun k => [(0, .arr 32 1 [[fzD p.view], [fzD p.near], [fzD B]] false)]) 1 (fun k => True) (ac [(0, .to 0)] ?_) trivial (fun g k => by first | rfl | ((try (with_reducible refine ab ?_)); simp -implicitDefEqProofs only [go_sem, aa]; repeat ((with_reducible refine ab ?_); simp -implicitDefEqProofs only [go_sem, aa]))) (by omega) (fun g => by simp -implicitDefEqProofs only [go_sem, aa]) (fun k hk3 hF => ?_) (fun hF => ?_)
 ·refine g2_ ?_
  first | done | rfl | exact ⟨rfl, rfl⟩ | trace_state
 ·have hg := hge k hk3
  have hl := hll k hk3
  have hcu := hcur L[k] (List.getElem_mem _)
  generalize L[k] = lk at hg hl hcu
  simp only [fzD] at hg
  repeat first | simp -implicitDefEqProofs only [go_sem, aa, hg] | with_reducible first | refine gl_ ?_ | refine ga_ ?_ | refine gn_ ?_
  refine ax lk.length (fun j => []) (fun _ => []) (fun j => [(0, .arr 32 1 [[fzD p.view], [fzD p.near], [fzD B]] false)]) 1 (fun j => True) (ac [(0, .to 0)] ?_) trivial (fun g j => by first | rfl | ((try (with_reducible refine ab ?_)); simp -implicitDefEqProofs only [go_sem, aa]; repeat ((with_reducible refine ab ?_); simp -implicitDefEqProofs only [go_sem, aa]))) (by omega) (fun g => by simp -implicitDefEqProofs only [go_sem, aa]) (fun j hj _ => ?_) (fun _ => ?_)
  ·refine g2_ ?_
   first | done | rfl | exact ⟨rfl, rfl⟩ | trace_state
  ·obtain ⟨d1, m, hm, d2⟩ := p4 (hcu lk[j] (List.getElem_mem hj))
   repeat first | simp -implicitDefEqProofs only [go_sem, aa, au hj] | with_reducible first | refine gl_ ?_ | refine ga_ ?_ | refine gn_ ?_
   generalize lk[j] = d at d1 hm d2
   have hlt : d.node.toNat < p.table.length := (List.getElem?_eq_some_iff.1 hm).1
   have hgm : (p.table.map aI)[d.node.toNat]? = some (aI m) := by rw [List.getElem?_map, hm]; rfl
   simp only [aI] at hgm
   rw [co, decide_eq_false d1]
   have hnl := d.node.toNat_lt
   refine g2_ ?_
   rw [show decide (c.nodes ≤ (d.node.toNat : Int)) = false from decide_eq_false (by omega)]
   repeat first | simp -implicitDefEqProofs only [go_sem, aa, hgm, List.length_map, Int.toNat_natCast] | with_reducible first | refine gl_ ?_ | refine ga_ ?_ | refine gn_ ?_
   rw [show decide ((d.inc.toNat : Int) < (m.inc.toNat : Int)) = false from decide_eq_false (fun h => by
    have h1 := (fR _ _).1 h
    rcases d2 with h2 | ⟨h2, _⟩
    ·exact absurd (UInt16.lt_trans h1 h2) (UInt16.lt_irrefl _)
    ·rw [h2] at h1; exact absurd h1 (UInt16.lt_irrefl _))]
   refine g2_ ?_
   rw [eX]
   by_cases he : d.inc = m.inc
   ·rw [decide_eq_true he]
    have hst : m.state = 1 := by
     rcases d2 with h2 | ⟨_, h2⟩
     ·rw [he] at h2; exact absurd h2 (UInt16.lt_irrefl _)
     ·exact h2
    refine g2_ ?_
    rw [show ((m.state.toNat : Int) != 1) = false by rw [hst]; rfl]
    refine g2_ ?_
    refine ⟨j + 1, ac [(0, .to 0)] ?_, rfl⟩
    exact ws_
   ·rw [decide_eq_false he]
    refine g2_ ?_
    refine ⟨j + 1, ac [(0, .to 0)] ?_, rfl⟩
    exact ws_
  ·refine g2_ ?_
   refine ⟨k + 1, ac [(0, .to 0)] ?_, rfl⟩
   exact ws_
 ·have hnn := hk.near.1
  repeat first | simp -implicitDefEqProofs only [go_sem, aa, List.length_map] | with_reducible first | refine gl_ ?_ | refine ga_ ?_ | refine gn_ ?_
  refine ax p.near.length (fun j => []) (fun _ => []) (fun k => [(0, .arr 32 1 [[fzD p.view], [fzD p.near], [fzD B]] false)]) 1 (fun j => True) (ac [(0, .to 0)] ?_) trivial (fun g j => by first | rfl | ((try (with_reducible refine ab ?_)); simp -implicitDefEqProofs only [go_sem, aa]; repeat ((with_reducible refine ab ?_); simp -implicitDefEqProofs only [go_sem, aa]))) (by omega) (fun g => by simp -implicitDefEqProofs only [go_sem, aa]) (fun j hj _ => ?_) (fun _ => ?_)
  ·refine g2_ ?_
   first | done | rfl | exact ⟨rfl, rfl⟩ | trace_state
  ·have hd := hp.near _ (List.getElem_mem hj)
   have ho := hw.ovl _ (List.getElem_mem hj)
   have kv := ym p.filter p.near[j].filter (by have := hk.filter; omega) (by have := hd.1; omega) hp.filter hd.2
   repeat first | simp -implicitDefEqProofs only [go_sem, aa, au hj] | with_reducible first | refine gl_ ?_ | refine ga_ ?_ | refine gn_ ?_
   generalize p.near[j] = d at ho kv
   refine CallS.eqW kv ws_ (.inl ws_) ?_
   refine g2_ ?_
   rw [show ((nw p.filter d.filter : Int) == 0) = false from beq_eq_false_iff_ne.2 (by omega)]
   refine g2_ ?_
   refine ⟨j + 1, ac [(0, .to 0)] ?_, rfl⟩
   exact ws_
  ·refine g2_ ?_
   rcases hw.ring with h | h
   ·rw [show (p.ring.hs == p.ring.hp) = true by rw [h]; exact beq_self_eq_true _]
    refine g2_ ?_
    exact ⟨_, rfl, ac [] ws_⟩
   ·by_cases h2 : (p.ring.hs == p.ring.hp) = true
    ·rw [h2]
     refine g2_ ?_
     exact ⟨_, rfl, ac [] ws_⟩
    ·rw [show (p.ring.hs == p.ring.hp) = false by simpa using h2]
     refine g2_ ?_
     rw [decide_eq_true (show (0 : Int) < (p.view.length : Int) by omega)]
     exact ⟨_, rfl, ac [] ws_⟩
end Go.Proofs.YtlaefellhnkfbaaGreat.V
