/-
 Part 46 of the proof of Pj: the engine and the walks, in their order.
-/
import Derived.Test.YtlaefellhnkfbaaGreatPj28
import Derived.Test.YtlaefellhnkfbaaGreatPj37
set_option linter.unusedSimpArgs false
set_option linter.unusedVariables false
set_option maxRecDepth 10000
set_option maxHeartbeats 4000000
namespace Go.Proofs.YtlaefellhnkfbaaGreat.V
open Go.Eng
structure Win (c : av) (p : ak) : Prop where
 table : (p.table.length : Int) = c.nodes
 rows : (p.rows.length : Int) = c.nodes
 heard : (p.heard.length : Int) = c.nodes
 view : dM p.view p.node c.view = true
 near : dM p.near p.node c.near = true
 cur : ∀ l ∈ [p.view, p.near, aN p.ring], ∀ d ∈ l, b_ p d = true
 ovl : ∀ d ∈ p.near, 0 < pG p.filter d.filter
 ring : p.ring.hs = p.ring.hp ∨ 0 < p.view.length
theorem mw {p : ak} {d : GDesc} (h : b_ p d = true) : d.node ≠ p.node ∧ ∃ m, p.table[d.node.toNat]? = some m ∧ (m.inc < d.inc ∨ (d.inc = m.inc ∧ m.state = 1)) := by
 unfold b_ at h
 split at h
 ·cases h
 ·rename_i h1
  split at h
  ·cases h
  ·rename_i m hm
   exact ⟨h1, m, hm, by simpa using h⟩
attribute [local go_sem] aO aU ah fzD plR bH bw aM bL aJ au bu dC z8 z16 z32 z64 ax aZ fa i2 List.map_cons List.map_nil
theorem oV (c : av) (p : ak) (hp : okG p) (hw : Win c p) : Con2 Tryz.prog 39 [.agg (aJ c), .agg (au p)] (· = plR (.v (.bool true))) := by
 have hk := hp.ok
 have k1 := rZ p.view p.node c.view (by have := hk.view.1; omega)
 have k2 := rZ p.near p.node c.near (by have := hk.near.1; omega)
 rw [hw.view] at k1
 rw [hw.near] at k2
 have k3 := ik p.ring hk.succ hk.pred
 have hrl := eD p.ring
 have hcur := hw.cur
 generalize aN p.ring = B at k3 hrl hcur
 obtain ⟨L, hL⟩ : ∃ L : List (List GDesc), L = [p.view, p.near, B] := ⟨_, rfl⟩
 rw [← hL] at hcur
 have hLl : L.length = 3 := by rw [hL]; rfl
 have hge : ∀ k (hk : k < 3), ([[fzD p.view], [fzD p.near], [fzD B]] : List (List DV))[k]? = some [fzD (L[k]'(by omega))] := fun k hk => by
  subst hL
  match k, hk with
  | 0, _ => rfl
  | 1, _ => rfl
  | 2, _ => rfl
 have hll : ∀ k (hk : k < 3), (L[k]'(by omega)).length ≤ 4000000 := fun k hk2 => by
  subst hL
  match k, hk2 with
  | 0, _ => exact hk.view.1
  | 1, _ => exact hk.near.1
  | 2, _ => exact Nat.le_trans hrl (by omega)
 have ht := hw.table
 have hr := hw.rows
 have hh := hw.heard
 have htn : ((p.table.length : Int) != c.nodes) = false := by rw [ht]; exact bne_self_eq_false _
 have hrn : ((p.rows.length : Int) != c.nodes) = false := by rw [hr]; exact bne_self_eq_false _
 have hhn : ((p.heard.length : Int) != c.nodes) = false := by rw [hh]; exact bne_self_eq_false _
 refine af Ty.mixed Tryz.func39 rfl (by kernel_rfl) (by kernel_rfl) rfl [.tmp 4] rfl ?_
 refine g2_ ?_
 refine gf_ htn ?_
 refine cw_ k1 ?_
 refine gf_ htn ?_
 refine cw_ k2 ?_
 refine gg_ hrn hhn ?_
 refine .inl ⟨oF [0, 2, 4, 9, 1, 3, 5] (oT 6 (oF [7, 8] [])), by kernel_rfl, ?_⟩
 refine g2_ ?_
 refine cw_ k3 ?_
 refine g2_ ?_
 refine aB 3 (fun k => []) (fun _ => []) (fun k => [(0, .arr 32 1 [[fzD p.view], [fzD p.near], [fzD B]] false)]) 1 (fun k => True) (ab [(0, .to 0)] ?_) trivial (fun g k => by first | rfl | (repeat first | simp -implicitDefEqProofs only [go_sem, aa] | with_reducible refine gl_ ?_)) (by omega) (fun g => by simp -implicitDefEqProofs only [go_sem, aa]) (fun k hk3 hF => ?_) (fun hF => ?_)
 ·refine g2_ ?_
  first | done | rfl | exact ⟨rfl, rfl⟩
 ·have hg := hge k hk3
  have hl := hll k hk3
  have hcu := hcur L[k] (List.getElem_mem _)
  generalize L[k] = lk at hg hl hcu
  simp only [fzD] at hg
  refine gf_ hg ?_
  refine aB lk.length (fun j => []) (fun _ => []) (fun j => [(0, .arr 32 1 [[fzD p.view], [fzD p.near], [fzD B]] false)]) 1 (fun j => True) (ab [(0, .to 0)] ?_) trivial (fun g j => by first | rfl | (repeat first | simp -implicitDefEqProofs only [go_sem, aa] | with_reducible refine gl_ ?_)) (by omega) (fun g => by simp -implicitDefEqProofs only [go_sem, aa]) (fun j hj _ => ?_) (fun _ => ?_)
  ·refine g2_ ?_
   first | done | rfl | exact ⟨rfl, rfl⟩
  ·obtain ⟨d1, m, hm, d2⟩ := mw (hcu lk[j] (List.getElem_mem hj))
   repeat first | simp -implicitDefEqProofs only [go_sem, aa, aw hj] | with_reducible first | refine gl_ ?_ | refine ga_ ?_ | refine gn_ ?_
   generalize lk[j] = d at d1 hm d2
   have hlt : d.node.toNat < p.table.length := (List.getElem?_eq_some_iff.1 hm).1
   have hgm : (p.table.map aM)[d.node.toNat]? = some (aM m) := by rw [List.getElem?_map, hm]; rfl
   simp only [aM] at hgm
   rw [cM, decide_eq_false d1]
   have hnl := d.node.toNat_lt
   refine g2_ ?_
   rw [show decide (c.nodes ≤ (d.node.toNat : Int)) = false from decide_eq_false (by omega)]
   refine gf_ hgm ?_
   rw [show decide ((d.inc.toNat : Int) < (m.inc.toNat : Int)) = false from decide_eq_false (fun h => by
    have h1 := (gH _ _).1 h
    rcases d2 with h2 | ⟨h2, _⟩
    ·exact absurd (UInt16.lt_trans h1 h2) (UInt16.lt_irrefl _)
    ·rw [h2] at h1; exact absurd h1 (UInt16.lt_irrefl _))]
   refine g2_ ?_
   rw [fA]
   by_cases he : d.inc = m.inc
   ·rw [decide_eq_true he]
    have hst : m.state = 1 := by
     rcases d2 with h2 | ⟨_, h2⟩
     ·rw [he] at h2; exact absurd h2 (UInt16.lt_irrefl _)
     ·exact h2
    refine g2_ ?_
    rw [show ((m.state.toNat : Int) != 1) = false by rw [hst]; rfl]
    refine g2_ ?_
    refine ⟨j + 1, ab [(0, .to 0)] ?_, rfl⟩
    exact ws_
   ·rw [decide_eq_false he]
    refine g2_ ?_
    refine ⟨j + 1, ab [(0, .to 0)] ?_, rfl⟩
    exact ws_
  ·refine g2_ ?_
   refine ⟨k + 1, ab [(0, .to 0)] ?_, rfl⟩
   exact ws_
 ·have hnn := hk.near.1
  refine gx_ ?_
  refine aB p.near.length (fun j => []) (fun _ => []) (fun k => [(0, .arr 32 1 [[fzD p.view], [fzD p.near], [fzD B]] false)]) 1 (fun j => True) (ab [(0, .to 0)] ?_) trivial (fun g j => by first | rfl | (repeat first | simp -implicitDefEqProofs only [go_sem, aa] | with_reducible refine gl_ ?_)) (by omega) (fun g => by simp -implicitDefEqProofs only [go_sem, aa]) (fun j hj _ => ?_) (fun _ => ?_)
  ·refine g2_ ?_
   first | done | rfl | exact ⟨rfl, rfl⟩
  ·have hd := hp.near _ (List.getElem_mem hj)
   have ho := hw.ovl _ (List.getElem_mem hj)
   have kv := aaN p.filter p.near[j].filter (by have := hk.filter; omega) (by have := hd.1; omega) hp.filter hd.2
   repeat first | simp -implicitDefEqProofs only [go_sem, aa, aw hj] | with_reducible first | refine gl_ ?_ | refine ga_ ?_ | refine gn_ ?_
   generalize p.near[j] = d at ho kv
   refine cw_ kv ?_
   refine g2_ ?_
   rw [show ((pG p.filter d.filter : Int) == 0) = false from beq_eq_false_iff_ne.2 (by omega)]
   refine g2_ ?_
   refine ⟨j + 1, ab [(0, .to 0)] ?_, rfl⟩
   exact ws_
  ·refine g2_ ?_
   rcases hw.ring with h | h
   ·rw [show (p.ring.hs == p.ring.hp) = true by rw [h]; exact beq_self_eq_true _]
    refine g2_ ?_
    exact ⟨_, rfl, ab [] ws_⟩
   ·by_cases h2 : (p.ring.hs == p.ring.hp) = true
    ·rw [h2]
     refine g2_ ?_
     exact ⟨_, rfl, ab [] ws_⟩
    ·rw [show (p.ring.hs == p.ring.hp) = false by simpa using h2]
     refine g2_ ?_
     rw [decide_eq_true (show (0 : Int) < (p.view.length : Int) by omega)]
     exact ⟨_, rfl, ab [] ws_⟩
end Go.Proofs.YtlaefellhnkfbaaGreat.V
