/-
 Part 45 of the proof of Pj: the engine and the walks, in their order.
-/
import Derived.Test.YtlaefellhnkfbaaGreatPj41
import Derived.Test.YtlaefellhnkfbaaGreatPj43
import Derived.Test.YtlaefellhnkfbaaGreatPj44
set_option linter.unusedSimpArgs false
set_option linter.unusedVariables false
set_option maxRecDepth 10000
set_option maxHeartbeats 4000000
namespace Go.Proofs.YtlaefellhnkfbaaGreat.V
open Go.Eng
def eO (dr : List UInt32) (c : av) (p : ak) (m : aV) : ak × List aV :=
 if p.up = false ∨ m.to ≠ p.node then (p, [])
 else if m.kind = 1 then nj c p m
 else if m.kind = 2 then fE c p m
 else if m.kind = 3 then l5 dr c p m
 else if m.kind = 4 then j3 c p m
 else if m.kind = 5 ∨ m.kind = 7 then kT c p m
 else if m.kind = 6 then tU c p m
 else if m.kind = 8 then zZ c p m
 else if m.kind = 9 then p_ c p m
 else tx c p m
theorem uF : ∀ n : Fin 256, (n.val = 1 ∨ n.val = 2 ∨ n.val = 3 ∨ n.val = 4 ∨ n.val = 5 ∨ n.val = 6 ∨ n.val = 7 ∨ n.val = 8 ∨ n.val = 9) ∨ lkF eM (UInt8.ofNat n.val) = none := of_decide_eq_true (by kernel_rfl)
theorem wW {k : UInt8} (h1 : k ≠ 1) (h2 : k ≠ 2) (h3 : k ≠ 3) (h4 : k ≠ 4) (h5 : k ≠ 5) (h6 : k ≠ 6) (h7 : k ≠ 7) (h8 : k ≠ 8) (h9 : k ≠ 9) : lkF eM k = none := by
 have e : ∀ n : Nat, n < 256 → k.toNat = n → k = UInt8.ofNat n := fun n hn h => by rw [← h]; exact (UInt8.ofNat_toNat).symm
 have hk := k.toNat_lt
 rcases uF ⟨k.toNat, hk⟩ with h | h
 ·simp only at h
  rcases h with h | h | h | h | h | h | h | h | h
  ·exact absurd (e 1 (by omega) h) h1
  ·exact absurd (e 2 (by omega) h) h2
  ·exact absurd (e 3 (by omega) h) h3
  ·exact absurd (e 4 (by omega) h) h4
  ·exact absurd (e 5 (by omega) h) h5
  ·exact absurd (e 6 (by omega) h) h6
  ·exact absurd (e 7 (by omega) h) h7
  ·exact absurd (e 8 (by omega) h) h8
  ·exact absurd (e 9 (by omega) h) h9
 ·have e2 : UInt8.ofNat k.toNat = k := UInt8.ofNat_toNat
  simp only at h
  rw [e2] at h
  exact h
theorem take_all (c : av) (p : ak) (m : aV) (dr : List UInt32) (hc : c.schema.length ≤ 4) (hcs : ∀ s ∈ c.schema, okS s) (hp : okH p) (hm : okMg m) (hdr : dr.length ≤ 4000000) (hws : ok8 p.wait.sent) :
  Con2 Tryz.prog 12 [.agg (aJ c), .agg (au p), .agg (ax m), .fz 1 (dr.map aX)] (· = plR (.tup [.agg (au (eO dr c p m).1), .fz 17 ((eO dr c p m).2.map ax)])) := by
 unfold eO
 by_cases h0 : p.up = false ∨ m.to ≠ p.node
 ·rw [if_pos h0]
  rcases h0 with h | h
  ·exact sb c p m dr hp.ok h
  ·exact ajk c p m dr hp.ok h
 rw [if_neg h0]
 have hu : p.up = true := by
  cases h : p.up with
  | true => rfl
  | false => exact absurd (.inl h) h0
 have hto : m.to = p.node := Classical.byContradiction fun h => h0 (.inr h)
 by_cases k1 : m.kind = 1
 ·rw [if_pos k1]; exact se c p m dr hc hcs hp hm hu hto k1
 rw [if_neg k1]
 by_cases k2 : m.kind = 2
 ·rw [if_pos k2]; exact lF c p m dr hc hcs hp hm hu hto k2
 rw [if_neg k2]
 by_cases k3 : m.kind = 3
 ·rw [if_pos k3]; exact t0 c p m dr hc hcs hp hm hu hto k3 hdr
 rw [if_neg k3]
 by_cases k4 : m.kind = 4
 ·rw [if_pos k4]; exact qB c p m dr hc hcs hp hm hu hto k4 hws
 rw [if_neg k4]
 by_cases k5 : m.kind = 5 ∨ m.kind = 7
 ·rw [if_pos k5]
  rcases k5 with k | k
  ·exact acm c p m dr hc hcs hp hm hu hto k
  ·exact acD c p m dr hc hcs hp hm hu hto k
 rw [if_neg k5]
 by_cases k6 : m.kind = 6
 ·rw [if_pos k6]; exact xB c p m dr hc hcs hp hm hu hto k6
 rw [if_neg k6]
 by_cases k8 : m.kind = 8
 ·rw [if_pos k8]; exact acG c p m dr hc hcs hp hm hu hto k8
 rw [if_neg k8]
 by_cases k9 : m.kind = 9
 ·rw [if_pos k9]; exact xv c p m dr hc hcs hp hm hu hto k9
 rw [if_neg k9]
 exact yN c p m dr hc hcs hp hu hto (wW k1 k2 k3 k4 (fun h => k5 (.inl h)) k6 (fun h => k5 (.inr h)) k8 k9)
def eG (c : av) (p : ak) (o : GOp) : ak × List aV × Int :=
 if o.what = 0 then ((bf c p).1, [], (bf c p).2)
 else if o.what = 1 then (nw c p, [], 0)
 else if o.what = 2 then (if p.up = false then p else if (bz c.schema o.filter).2 = 0 then aH c { p with filter := (bz c.schema o.filter).1 } [] else p, [], if p.up = false then 53 else (bz c.schema o.filter).2)
 else if o.what = 3 then (p, (eB c p o.node).1, (eB c p o.node).2)
 else if o.what = 4 then (if p.up = false then p else nw c p, if p.up = false then [] else (bG p).map (bV p 9), if p.up = false then 53 else 0)
 else if o.what = 5 then (if p.up = false then p else (eZ c p o.draws (bG (dE c (aH c (bx c p) []) o.draws).1)).1, if p.up = false then [] else (eZ c p o.draws (bG (dE c (aH c (bx c p) []) o.draws).1)).2, 0)
 else if o.what = 6 then (aH c (aI c p o.node o.inc).1 [], [], 0)
 else if o.what = 7 then (aH c p o.m.list, [], 0)
 else ((eO o.draws c p o.m).1, (eO o.draws c p o.m).2, 0)
attribute [local go_sem] aO aU ah fzD plR bH bw aM bL aJ au bu dC z8 z16 z32 z64 ax aZ fa i2 List.map_cons List.map_nil
theorem aee (c : av) (p : ak) (o : GOp) (hc : c.schema.length ≤ 4) (hcs : ∀ s ∈ c.schema, okS s) (hp : okH p) (hm : okMg o.m) (hdr : o.draws.length ≤ 4000000) (hf : o.filter.length ≤ 1048576) (hws : ok8 p.wait.sent) (hsw : c.swap ≤ 9223372036854775807) (f8 : p.filter.length ≤ 8)
  (hn : okG { p with filter := (bz c.schema o.filter).1 })
  (hL1 : Con2 Tryz.prog 14 [.agg (au p)] (· = plR (.fz 1 ((bG p).map a_)))) (hL1n : (bG p).length ≤ 4000000)
  (hL2 : p.up = true → Con2 Tryz.prog 14 [.agg (au (dE c (aH c (bx c p) []) o.draws).1)] (· = plR (.fz 1 ((bG (dE c (aH c (bx c p) []) o.draws).1).map a_)))) (hL2n : p.up = true → (bG (dE c (aH c (bx c p) []) o.draws).1).length ≤ 4000000)
  (hsent : p.up = true → ok8 (fQ (aH c (bx c p) []).view (aT (aH c (bx c p) [])) c.swap o.draws).2.1) (v8 : p.up = true → ok8 (aH c (bx c p) []).view) :
  Con2 Tryz.prog 26 [.agg (aJ c), .agg (au p), .agg (dV o)] (· = plR (.tup [.agg (au (eG c p o).1), .fz 17 ((eG c p o).2.1.map ax), .v (.int .i64 (eG c p o).2.2)])) := by
 refine Con2.ofEmb ?_
 have k0 := ov c p hp.ok
 have k1 := qF c p
 have k2 : Con2 Tryz.prog 21 [.agg (aJ c), .agg (au p), fzS o.filter] (· = plR (.tup [.agg (au (if p.up = false then p else if (bz c.schema o.filter).2 = 0 then aH c { p with filter := (bz c.schema o.filter).1 } [] else p)), .v (.int .i64 (if p.up = false then 53 else (bz c.schema o.filter).2))])) := by
  by_cases hu : p.up = false
  ·rw [if_pos hu, if_pos hu]; exact adq c p o.filter hp.ok hu
  ·rw [if_neg hu, if_neg hu]; exact adJ c p o.filter hc hcs hp.g (by omega) hn (by simpa using hu)
 have k3 := mJ c p o.node hp.ok
 have k4 : Con2 Tryz.prog 13 [.agg (aJ c), .agg (au p)] (· = plR (.tup [.agg (au (if p.up = false then p else nw c p)), .fz 17 ((if p.up = false then [] else (bG p).map (bV p 9)).map ax), .v (.int .i64 (if p.up = false then 53 else 0))])) := by
  cases hu : p.up with
  | false => rw [if_pos rfl, if_pos rfl, if_pos rfl]; exact yu c p hp.ok hu
  | true => rw [if_neg (by decide), if_neg (by decide), if_neg (by decide)]; exact acC c p _ hp.ok hu hL1 hL1n
 have k5 : Con2 Tryz.prog 20 [.agg (aJ c), .agg (au p), .fz 1 (o.draws.map aX)] (· = plR (.tup [.agg (au (if p.up = false then p else (eZ c p o.draws (bG (dE c (aH c (bx c p) []) o.draws).1)).1)), .fz 17 ((if p.up = false then [] else (eZ c p o.draws (bG (dE c (aH c (bx c p) []) o.draws).1)).2).map ax)])) := by
  cases hu : p.up with
  | false => rw [if_pos rfl, if_pos rfl]; exact aa5 c p o.draws hp.ok hu
  | true => rw [if_neg (by decide), if_neg (by decide)]; exact uP c p o.draws _ hc hcs hp hu hsw hdr hws (hL2 hu) (hL2n hu) (hsent hu) (v8 hu) f8
 have k6 := afe c p o.node o.inc hp.ok hp.rs
 have hh := di (c := c) hp o.node o.inc
 have k6b := vv c (aI c p o.node o.inc).1 [] hc hcs hh.g ⟨by simp, by simp⟩ (by simp)
 have k7 := vv c p o.m.list hc hcs hp.g hm.ds hm.fs2
 have k8 := take_all c p o.m o.draws hc hcs hp hm hdr hws
 have hR : eG c p o = eG c p o := rfl
 conv at hR => rhs; unfold eG
 generalize eG c p o = R at hR ⊢
 have hw := o.what.toNat_lt
 unfold dV
 refine af Ty.mixed Tryz.func26 rfl (by kernel_rfl) (by kernel_rfl) rfl [.cell 6 49, .tmp 7, .tmp 8] rfl ?_
 refine g2_ ?_
 refine gx_ ?_
 by_cases w0 : o.what = 0
 ·rw [if_pos w0] at hR
  rw [show ((o.what.toNat : Int) == 0) = true by rw [w0]; rfl, hR]
  refine g2_ ?_
  refine cw_ k0 ?_
  refine g2_ ?_
  refine ae ?_ rfl
  repeat first | simp -implicitDefEqProofs only [go_sem, aa, List.map_nil] | with_reducible refine gl_ ?_
  first | done | trace_state
 rw [if_neg w0] at hR
 rw [show ((o.what.toNat : Int) == 0) = false from beq_eq_false_iff_ne.2 (fun h => w0 (UInt8.toNat_inj.1 (by rw [show (0 : UInt8).toNat = 0 from rfl]; omega)))]
 refine g2_ ?_
 by_cases w1 : o.what = 1
 ·rw [if_pos w1] at hR
  rw [show ((o.what.toNat : Int) == 1) = true by rw [w1]; rfl, hR]
  refine g2_ ?_
  refine cw_ k1 ?_
  refine g2_ ?_
  refine ae ?_ rfl
  repeat first | simp -implicitDefEqProofs only [go_sem, aa, List.map_nil] | with_reducible refine gl_ ?_
  first | done | trace_state
 rw [if_neg w1] at hR
 rw [show ((o.what.toNat : Int) == 1) = false from beq_eq_false_iff_ne.2 (fun h => w1 (UInt8.toNat_inj.1 (by rw [show (1 : UInt8).toNat = 1 from rfl]; omega)))]
 refine g2_ ?_
 by_cases w2 : o.what = 2
 ·rw [if_pos w2] at hR
  rw [show ((o.what.toNat : Int) == 2) = true by rw [w2]; rfl, hR]
  refine g2_ ?_
  refine cw_ k2 ?_
  refine g2_ ?_
  refine ae ?_ rfl
  repeat first | simp -implicitDefEqProofs only [go_sem, aa, List.map_nil] | with_reducible refine gl_ ?_
  first | done | trace_state
 rw [if_neg w2] at hR
 rw [show ((o.what.toNat : Int) == 2) = false from beq_eq_false_iff_ne.2 (fun h => w2 (UInt8.toNat_inj.1 (by rw [show (2 : UInt8).toNat = 2 from rfl]; omega)))]
 refine g2_ ?_
 by_cases w3 : o.what = 3
 ·rw [if_pos w3] at hR
  rw [show ((o.what.toNat : Int) == 3) = true by rw [w3]; rfl, hR]
  refine g2_ ?_
  refine cw_ k3 ?_
  refine g2_ ?_
  refine ae ?_ rfl
  repeat first | simp -implicitDefEqProofs only [go_sem, aa, List.map_nil] | with_reducible refine gl_ ?_
  first | done | trace_state
 rw [if_neg w3] at hR
 rw [show ((o.what.toNat : Int) == 3) = false from beq_eq_false_iff_ne.2 (fun h => w3 (UInt8.toNat_inj.1 (by rw [show (3 : UInt8).toNat = 3 from rfl]; omega)))]
 refine g2_ ?_
 by_cases w4 : o.what = 4
 ·rw [if_pos w4] at hR
  rw [show ((o.what.toNat : Int) == 4) = true by rw [w4]; rfl, hR]
  refine g2_ ?_
  refine cw_ k4 ?_
  refine g2_ ?_
  refine ae ?_ rfl
  repeat first | simp -implicitDefEqProofs only [go_sem, aa, List.map_nil] | with_reducible refine gl_ ?_
  first | done | trace_state
 rw [if_neg w4] at hR
 rw [show ((o.what.toNat : Int) == 4) = false from beq_eq_false_iff_ne.2 (fun h => w4 (UInt8.toNat_inj.1 (by rw [show (4 : UInt8).toNat = 4 from rfl]; omega)))]
 refine g2_ ?_
 by_cases w5 : o.what = 5
 ·rw [if_pos w5] at hR
  rw [show ((o.what.toNat : Int) == 5) = true by rw [w5]; rfl, hR]
  refine g2_ ?_
  refine cw_ k5 ?_
  refine g2_ ?_
  refine ae ?_ rfl
  repeat first | simp -implicitDefEqProofs only [go_sem, aa, List.map_nil] | with_reducible refine gl_ ?_
  first | done | trace_state
 rw [if_neg w5] at hR
 rw [show ((o.what.toNat : Int) == 5) = false from beq_eq_false_iff_ne.2 (fun h => w5 (UInt8.toNat_inj.1 (by rw [show (5 : UInt8).toNat = 5 from rfl]; omega)))]
 refine g2_ ?_
 by_cases w6 : o.what = 6
 ·rw [if_pos w6] at hR
  rw [show ((o.what.toNat : Int) == 6) = true by rw [w6]; rfl, hR]
  refine g2_ ?_
  refine cw_ k6 ?_
  refine g2_ ?_
  refine cw_ k6b ?_
  refine g2_ ?_
  refine ae ?_ rfl
  repeat first | simp -implicitDefEqProofs only [go_sem, aa, List.map_nil] | with_reducible refine gl_ ?_
  first | done | trace_state
 rw [if_neg w6] at hR
 rw [show ((o.what.toNat : Int) == 6) = false from beq_eq_false_iff_ne.2 (fun h => w6 (UInt8.toNat_inj.1 (by rw [show (6 : UInt8).toNat = 6 from rfl]; omega)))]
 refine g2_ ?_
 by_cases w7 : o.what = 7
 ·rw [if_pos w7] at hR
  rw [show ((o.what.toNat : Int) == 7) = true by rw [w7]; rfl, hR]
  refine g2_ ?_
  refine cw_ k7 ?_
  refine g2_ ?_
  refine ae ?_ rfl
  repeat first | simp -implicitDefEqProofs only [go_sem, aa, List.map_nil] | with_reducible refine gl_ ?_
  first | done | trace_state
 rw [if_neg w7] at hR
 rw [show ((o.what.toNat : Int) == 7) = false from beq_eq_false_iff_ne.2 (fun h => w7 (UInt8.toNat_inj.1 (by rw [show (7 : UInt8).toNat = 7 from rfl]; omega)))]
 refine g2_ ?_
 rw [hR]
 refine cw_ k8 ?_
 refine g2_ ?_
 refine ae ?_ rfl
 repeat first | simp -implicitDefEqProofs only [go_sem, aa, List.map_nil] | with_reducible refine gl_ ?_
 first | done | trace_state
end Go.Proofs.YtlaefellhnkfbaaGreat.V
