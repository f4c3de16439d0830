/-
 bF 42 of the proof of Pb: the engine and the walks, in their order.
-/
import Derived.Test.YtlaefellhnkfbaaGreatPb27
import Derived.Test.YtlaefellhnkfbaaGreatPb29
import Derived.Test.YtlaefellhnkfbaaGreatPb35
import Derived.Test.YtlaefellhnkfbaaGreatPb37
set_option linter.unusedSimpArgs false
set_option linter.unusedVariables false
set_option maxRecDepth 10000
set_option maxHeartbeats 4000000
namespace Go.Eng
def mUp (m : am) : Bool := decide (m.state = 1) || decide (m.state = 2)
def mQ (m : am) : am := if m.quiet < 255 then { m with quiet := m.quiet + 1 } else m
def lR (after : Int) (m : am) : Bool := decide (m.state = 1) && decide (after ≤ (m.quiet.toNat : Int))
def mTk (self : UInt8) (after : Int) (i : Nat) (m : am) : am := if i = self.toNat ∨ mUp m = false then m else if lR after (mQ m) = true then { mQ m with state := 2 } else mQ m
def gQ (l : List am) (self : UInt8) (after : Int) : List am := l.mapIdx (mTk self after)
def qI (l : List am) (self : UInt8) (after : Int) (i : Nat) : List UInt8 := match l[i]? with
 | some m => if i = self.toNat ∨ mUp m = false then [] else if lR after (mQ m) = true then [UInt8.ofNat i] else []
 | none => []
def jM (l : List am) (self : UInt8) (after : Int) : Nat → List UInt8
 | 0 => []
 | k + 1 => jM l self after k ++ qI l self after k
def ep (l : List am) (self : UInt8) (after : Int) (k : Nat) : List am := l.mapIdx fun i x => if i < k then mTk self after i x else x
theorem afO {l : List am} {self : UInt8} {after : Int} : ep l self after 0 = l := by
 apply List.ext_getElem?
 intro i
 rw [ep, List.getElem?_mapIdx]
 cases l[i]? <;> rfl
theorem ab3 {l : List am} {self : UInt8} {after : Int} : ep l self after l.length = gQ l self after := by
 apply List.ext_getElem?
 intro i
 rw [ep, gQ, List.getElem?_mapIdx, List.getElem?_mapIdx]
 cases h : l[i]? with
 | none => rfl
 | some x => simp [(List.getElem?_eq_some_iff.1 h).1]
theorem qp {l : List am} {self : UInt8} {after : Int} {k : Nat} : (ep l self after k).length = l.length := by simp [ep]
theorem aaO {l : List am} {self : UInt8} {after : Int} {k : Nat} (h : k < l.length) : (ep l self after k)[k]? = some l[k] := by
 rw [ep, List.getElem?_mapIdx, List.getElem?_eq_getElem h]; simp
theorem abB {l : List am} {self : UInt8} {after : Int} {k : Nat} (h : k < l.length) : (ep l self after k).set k (mTk self after k l[k]) = ep l self after (k + 1) := by
 apply List.ext_getElem?
 intro i
 rw [List.getElem?_set]
 by_cases e : k = i
 ·subst e
  rw [if_pos rfl, if_pos (by rw [qp]; exact h), ep, List.getElem?_mapIdx, List.getElem?_eq_getElem h]; simp
 ·rw [if_neg e, ep, ep, List.getElem?_mapIdx, List.getElem?_mapIdx]
  cases l[i]? with
  | none => rfl
  | some x =>
   simp only [Option.map_some]
   by_cases h2 : i < k
   ·rw [if_pos h2, if_pos (by omega)]
   ·rw [if_neg h2, if_neg (by omega)]
theorem lQ {α : Type} {l : List α} {k : Nat} {x : α} (h : l[k]? = some x) : l.set k x = l := by
 obtain ⟨h1, rfl⟩ := List.getElem?_eq_some_iff.1 h
 exact List.set_getElem_self h1
theorem pX (l : List am) (self : UInt8) (after : Int) : ∀ k, (jM l self after k).length ≤ k
 | 0 => Nat.le_refl _
 | k + 1 => by
  have ih := pX l self after k
  have : (qI l self after k).length ≤ 1 := by
   unfold qI
   split
   ·split
    ·simp
    ·split <;> simp
   ·simp
  rw [jM, List.length_append]; omega
def il (r : fa) : fa := ⟨r.hs, r.hp, if r.hs = true then r.succ.older else aR, if r.hp = true then r.pred.older else aR⟩
end Go.Eng
namespace Go.Proofs.YtlaefellhnkfbaaGreat.V
open Go.Eng
attribute [local go_sem] aR aP ah fzD plR bB bn aI bC aE aq bm dd z8 z16 z32 z64 ar aT ey List.map_cons List.map_nil
theorem uB (m : am) : Con2 Tryz.prog 123 [.agg (aI m)] (· = plR (.v (.bool (mUp m)))) := by
 have e1 : ((m.state.toNat : Int) == 1) = decide (m.state = 1) := co m.state 1
 have e2 : ((m.state.toNat : Int) == 2) = decide (m.state = 2) := co m.state 2
 refine af Ty.mixed Tryz.func123 rfl (by kernel_rfl) (by kernel_rfl) rfl [.tmp 2] rfl ?_
 refine g2_ ?_
 repeat first | simp -implicitDefEqProofs only [go_sem, aa, e1, e2] | with_reducible first | refine gl_ ?_ | refine ga_ ?_ | refine gn_ ?_
 by_cases h : m.state = 1
 ·have e : mUp m = true := by simp [mUp, h]
  rw [decide_eq_true h, e]
  refine g2_ ?_
  exact ⟨_, rfl, ac [] ws_⟩
 ·have e : mUp m = decide (m.state = 2) := by simp [mUp, h]
  rw [decide_eq_false h, e]
  repeat first | simp -implicitDefEqProofs only [go_sem, aa, e2] | with_reducible first | refine gl_ ?_ | refine ga_ ?_ | refine gn_ ?_
  exact ⟨_, rfl, ac [] (by simp -implicitDefEqProofs only [go_sem, aa, e2])⟩
theorem mv (d : GDesc) (hd : d.filter.length ≤ 1000) : Con2 Tryz.prog 122 [.agg (ah d)] (· = plR (.agg (ah d.older))) := by
 refine Con2.ofEmb ?_
 have hc : Con2 Tryz.prog 56 [fzD [d]] (· = plR (fzD [d.older])) := hZ (lv [d] ⟨by simp, by simp [hd]⟩)
 generalize d.older = e at hc
 refine af Ty.mixed Tryz.func122 rfl (by kernel_rfl) (by kernel_rfl) rfl [.cell 2 34] rfl ?_
 refine g2_ ?_
 refine g2_ ?_
 refine CallS.eqW hc ws_ (.inl ws_) ?_
 repeat first | simp -implicitDefEqProofs only [go_sem, aa, List.length_cons, List.length_nil] | with_reducible first | refine gl_ ?_ | refine ga_ ?_ | refine gn_ ?_
 rw [show (((1 : Nat) : Int) == 1) = true from rfl]
 repeat first | simp -implicitDefEqProofs only [go_sem, aa, List.length_cons, List.length_nil, List.getElem?_cons_zero] | with_reducible first | refine gl_ ?_ | refine ga_ ?_ | refine gn_ ?_
 refine ae ?_ rfl
 exact ws_
theorem xG (r : fa) (h1 : r.succ.filter.length ≤ 1000) (h2 : r.pred.filter.length ≤ 1000) : Con2 Tryz.prog 57 [.agg (aT r)] (· = plR (.agg (aT (il r)))) := by
 refine Con2.ofEmb ?_
 have k1 := mv r.succ h1
 have k2 := mv r.pred h2
 obtain ⟨a, b, s, p⟩ := r
 unfold il
 simp only at k1 k2 ⊢
 generalize s.older = s' at k1
 generalize p.older = p' at k2
 refine af Ty.mixed Tryz.func57 rfl (by kernel_rfl) (by kernel_rfl) rfl [.cell 2 36] rfl ?_
 refine g2_ ?_
 refine g2_ ?_
 cases a with
 | true =>
  refine g2_ ?_
  refine CallS.eqW k1 ws_ (.inl ws_) ?_
  refine g2_ ?_
  cases b with
  | true =>
   refine g2_ ?_
   refine CallS.eqW k2 ws_ (.inl ws_) ?_
   refine g2_ ?_
   refine ae ?_ rfl
   repeat first | simp -implicitDefEqProofs only [go_sem, aa, if_true] | with_reducible refine gl_ ?_
  | false =>
   refine g2_ ?_
   refine ae ?_ rfl
   repeat first | simp -implicitDefEqProofs only [go_sem, aa, if_true, if_false, Bool.false_eq_true] | with_reducible refine gl_ ?_
 | false =>
  refine g2_ ?_
  cases b with
  | true =>
   refine g2_ ?_
   refine CallS.eqW k2 ws_ (.inl ws_) ?_
   refine g2_ ?_
   refine ae ?_ rfl
   repeat first | simp -implicitDefEqProofs only [go_sem, aa, if_true, if_false, Bool.false_eq_true] | with_reducible refine gl_ ?_
  | false =>
   refine g2_ ?_
   refine ae ?_ rfl
   repeat first | simp -implicitDefEqProofs only [go_sem, aa, if_true, if_false, Bool.false_eq_true] | with_reducible refine gl_ ?_
theorem abz (l : List am) (self : UInt8) (after : Int) (hl : l.length ≤ 256) : Con2 Tryz.prog 58 [.fz 3 (l.map aI), .v (.int .u8 self.toNat), .v (.int .i64 after)] (· = plR (.tup [.fz 3 ((gQ l self after).map aI), .fz 1 ((jM l self after l.length).map aU)])) := by
 refine Con2.ofEmb ?_
 have hcl := gt (l.map aI) (by rw [List.length_map]; omega)
 refine af Ty.mixed Tryz.func58 rfl (by kernel_rfl) (by kernel_rfl) rfl [.tmp 6, .tmp 7] rfl ?_
 refine g2_ ?_
 refine g2_ ?_
 refine CallS.eqW hcl ws_ (.inl ws_) ?_
 repeat first | simp -implicitDefEqProofs only [go_sem, aa, List.length_map] | with_reducible first | refine gl_ ?_ | refine ga_ ?_ | refine gn_ ?_
 refine ax l.length (fun k => [(9, .d (.rf 1 0 (jM l self after k).length))]) (fun _ => []) (fun k => [(1, .arr 5 1 ((jM l self after k).map aU) false), (0, .arr 71 3 ((ep l self after k).map aI) false)]) 2 (fun _ => True) (ac [(1, .nil 1), (0, .to 0)] ?_) trivial (fun g k => by simp -implicitDefEqProofs only [go_sem, aa]) (by omega) (fun g => by simp -implicitDefEqProofs only [go_sem, aa]) (fun k hk _ => ?_) (fun _ => ?_)
 ·repeat first | simp -implicitDefEqProofs only [go_sem, aa, afO, jM, List.map_nil] | with_reducible refine gl_ ?_
  first | done | rfl | exact ⟨rfl, rfl⟩ | trace_state
 ·have hgl := pX l self after k
  have hself := self.toNat_lt
  have hk8 : (UInt8.ofNat k).toNat = k := by rw [UInt8.toNat_ofNat']; omega
  have hg2 : jM l self after (k + 1) = jM l self after k ++ qI l self after k := rfl
  have hmg : qI l self after k = if k = self.toNat ∨ mUp l[k] = false then [] else if lR after (mQ l[k]) = true then [UInt8.ofNat k] else [] := by rw [qI, List.getElem?_eq_getElem hk]
  have hmt : mTk self after k l[k] = if k = self.toNat ∨ mUp l[k] = false then l[k] else if lR after (mQ l[k]) = true then { mQ l[k] with state := 2 } else mQ l[k] := rfl
  have hho := uB l[k]
  have q1 : ((ep l self after k).map aI)[k]? = some (aI l[k]) := by rw [List.getElem?_map, aaO hk]; rfl
  have q3 : ((ep l self after k).map aI).length = l.length := by rw [List.length_map, qp]
  have q4 : ∀ m', mTk self after k l[k] = m' → ((ep l self after k).map aI).set k (aI m') = (ep l self after (k + 1)).map aI := fun m' h => by
   rw [← abB hk, List.map_set, h]
  generalize (ep l self after k).map aI = R at q1 q3 q4
  have q5 : ∀ v, (R.set k v)[k]? = some v := fun v => by rw [List.getElem?_set_self (by omega)]
  have q7 : R.set k (aI l[k]) = R := lQ q1
  rw [hmg] at hg2
  rw [hmt] at q4
  generalize l[k] = m at hho q1 q4 q7 hg2
  generalize jM l self after k = G at hg2 hgl
  have hqq := m.quiet.toNat_lt
  have es : ((m.state.toNat : Int) == 1) = decide (m.state = 1) := co m.state 1
  simp only [aI] at q1
  repeat first | simp -implicitDefEqProofs only [go_sem, aa, q1, q3] | with_reducible first | refine gl_ ?_ | refine ga_ ?_ | refine gn_ ?_
  by_cases e1 : k = self.toNat
  ·have e : m = (if k = self.toNat ∨ mUp m = false then m else if lR after (mQ m) = true then { mQ m with state := 2 } else mQ m) := (if_pos (.inl e1)).symm
   have hR2 := (q4 m e.symm).symm.trans q7
   rw [if_pos (.inl e1), List.append_nil] at hg2
   rw [show ((k : Int) == (self.toNat : Int)) = true by rw [e1]; exact beq_self_eq_true _]
   refine g2_ ?_
   refine ⟨k + 1, ac [(1, .to 1), (0, .to 0)] ?_, rfl⟩
   repeat first | simp -implicitDefEqProofs only [go_sem, aa, hg2, hR2] | with_reducible refine gl_ ?_
  ·rw [show ((k : Int) == (self.toNat : Int)) = false from beq_eq_false_iff_ne.2 (by omega)]
   repeat first | simp -implicitDefEqProofs only [go_sem, aa, q1, q3] | with_reducible first | refine gl_ ?_ | refine ga_ ?_ | refine gn_ ?_
   refine CallS.eqW hho ws_ (.inl ws_) ?_
   cases e2 : mUp m with
   | false =>
    have e : m = (if k = self.toNat ∨ mUp m = false then m else if lR after (mQ m) = true then { mQ m with state := 2 } else mQ m) := (if_pos (.inr e2)).symm
    have hR2 := (q4 m e.symm).symm.trans q7
    rw [if_pos (.inr e2), List.append_nil] at hg2
    refine g2_ ?_
    refine ⟨k + 1, ac [(1, .to 1), (0, .to 0)] ?_, rfl⟩
    repeat first | simp -implicitDefEqProofs only [go_sem, aa, hg2, hR2] | with_reducible refine gl_ ?_
   | true =>
    have en : ¬ (k = self.toNat ∨ mUp m = false) := by simp [e1, e2]
    rw [if_neg en] at hg2
    rw [if_neg en] at q4
    repeat first | simp -implicitDefEqProofs only [go_sem, aa, q1, q3] | with_reducible first | refine gl_ ?_ | refine ga_ ?_ | refine gn_ ?_
    by_cases e3 : (m.quiet.toNat : Int) < 255
    ·have eq3 : m.quiet < 255 := (gw _ _).1 e3
     have eqq : ((m.quiet + 1).toNat : Int) = (m.quiet.toNat : Int) + 1 := by
      rw [UInt8.toNat_add]
      have : (1 : UInt8).toNat = 1 := rfl
      omega
     have em : mQ m = { m with quiet := m.quiet + 1 } := if_pos eq3
     rw [em] at hg2 q4
     simp only [lR, eqq] at hg2 q4
     rw [decide_eq_true e3]
     repeat first | simp -implicitDefEqProofs only [go_sem, aa, q1, q3] | with_reducible first | refine gl_ ?_ | refine ga_ ?_ | refine gn_ ?_
     refine jF (by omega) ?_
     repeat first | simp -implicitDefEqProofs only [go_sem, aa, q1, q3, q5, es, List.contains_nil] | with_reducible first | refine gl_ ?_ | refine ga_ ?_ | refine gn_ ?_
     by_cases s1 : m.state = 1
     ·rw [decide_eq_true s1]
      repeat first | simp -implicitDefEqProofs only [go_sem, aa, q1, q3, q5, es, List.contains_nil] | with_reducible first | refine gl_ ?_ | refine ga_ ?_ | refine gn_ ?_
      by_cases s2 : after ≤ (m.quiet.toNat : Int) + 1
      ·have e9 : (decide (m.state = 1) && decide (after ≤ (m.quiet.toNat : Int) + 1)) = true := by rw [decide_eq_true s1, decide_eq_true s2]; rfl
       rw [if_pos e9] at hg2
       rw [if_pos e9] at q4
       have hR2 := (q4 _ rfl).symm
       simp only [aI, eqq, show ((UInt8.toNat 2 : Nat) : Int) = 2 from rfl] at hR2
       rw [decide_eq_true s2]
       repeat first | simp -implicitDefEqProofs only [go_sem, aa, q1, q3, q5, es, List.contains_nil, List.set_set] | with_reducible first | refine gl_ ?_ | refine ga_ ?_ | refine gn_ ?_
       rw [show decide ((k : Int) < 256) = true from decide_eq_true (by omega)]
       refine g2_ ?_
       refine jF (by omega) ?_
       repeat first | simp -implicitDefEqProofs only [go_sem, aa, List.length_map] | with_reducible first | refine gl_ ?_ | refine ga_ ?_ | refine gn_ ?_
       refine ⟨k + 1, ac [(1, .to 3), (0, .to 0)] ?_, rfl⟩
       repeat first | simp -implicitDefEqProofs only [go_sem, aa, hg2, hR2, List.length_append, List.map_append, hk8] | with_reducible refine gl_ ?_
       rw [show aU (UInt8.ofNat k) = [.v (.int .u8 (k : Int))] by rw [aU, hk8]]
      ·have e9 : ¬ (decide (m.state = 1) && decide (after ≤ (m.quiet.toNat : Int) + 1)) = true := by rw [decide_eq_false s2]; simp
       rw [if_neg e9, List.append_nil] at hg2
       rw [if_neg e9] at q4
       have hR2 := (q4 _ rfl).symm
       simp only [aI, eqq] at hR2
       skip
       rw [decide_eq_false s2]
       refine g2_ ?_
       refine ⟨k + 1, ac [(1, .to 1), (0, .to 0)] ?_, rfl⟩
       repeat first | simp -implicitDefEqProofs only [go_sem, aa, hg2, hR2] | with_reducible refine gl_ ?_
     ·have e9 : ¬ (decide (m.state = 1) && decide (after ≤ (m.quiet.toNat : Int) + 1)) = true := by rw [decide_eq_false s1]; simp
      rw [if_neg e9, List.append_nil] at hg2
      rw [if_neg e9] at q4
      have hR2 := (q4 _ rfl).symm
      simp only [aI, eqq] at hR2
      skip
      rw [decide_eq_false s1]
      refine g2_ ?_
      refine ⟨k + 1, ac [(1, .to 1), (0, .to 0)] ?_, rfl⟩
      repeat first | simp -implicitDefEqProofs only [go_sem, aa, hg2, hR2] | with_reducible refine gl_ ?_
    ·have em : mQ m = m := if_neg (fun h => e3 ((gw _ _).2 h))
     rw [em] at hg2 q4
     rw [decide_eq_false e3]
     repeat first | simp -implicitDefEqProofs only [go_sem, aa, q1, q3, q5, es, List.contains_nil] | with_reducible first | refine gl_ ?_ | refine ga_ ?_ | refine gn_ ?_
     have eqq : True := trivial
     by_cases s1 : m.state = 1
     ·rw [decide_eq_true s1]
      repeat first | simp -implicitDefEqProofs only [go_sem, aa, q1, q3, q5, es, List.contains_nil] | with_reducible first | refine gl_ ?_ | refine ga_ ?_ | refine gn_ ?_
      by_cases s2 : after ≤ (m.quiet.toNat : Int)
      ·have e9 : lR after m = true := by simp [lR, s1, s2]
       rw [if_pos e9] at hg2
       rw [if_pos e9] at q4
       have hR2 := (q4 _ rfl).symm
       simp only [aI, eqq, show ((UInt8.toNat 2 : Nat) : Int) = 2 from rfl] at hR2
       rw [decide_eq_true s2]
       repeat first | simp -implicitDefEqProofs only [go_sem, aa, q1, q3, q5, es, List.contains_nil, List.set_set] | with_reducible first | refine gl_ ?_ | refine ga_ ?_ | refine gn_ ?_
       rw [show decide ((k : Int) < 256) = true from decide_eq_true (by omega)]
       refine g2_ ?_
       refine jF (by omega) ?_
       repeat first | simp -implicitDefEqProofs only [go_sem, aa, List.length_map] | with_reducible first | refine gl_ ?_ | refine ga_ ?_ | refine gn_ ?_
       refine ⟨k + 1, ac [(1, .to 3), (0, .to 0)] ?_, rfl⟩
       repeat first | simp -implicitDefEqProofs only [go_sem, aa, hg2, hR2, List.length_append, List.map_append, hk8] | with_reducible refine gl_ ?_
       rw [show aU (UInt8.ofNat k) = [.v (.int .u8 (k : Int))] by rw [aU, hk8]]
      ·have e9 : ¬ lR after m = true := by simp [lR]; omega
       rw [if_neg e9, List.append_nil] at hg2
       rw [if_neg e9] at q4
       have hR2 := (q4 _ rfl).symm
       simp only [aI, eqq] at hR2
       rw [show R.set k [.v (.int .u16 m.inc.toNat), .v (.int .u8 m.state.toNat), .v (.int .u8 m.quiet.toNat)] = R from lQ q1] at hR2
       rw [decide_eq_false s2]
       refine g2_ ?_
       refine ⟨k + 1, ac [(1, .to 1), (0, .to 0)] ?_, rfl⟩
       repeat first | simp -implicitDefEqProofs only [go_sem, aa, hg2, hR2] | with_reducible refine gl_ ?_
     ·have e9 : ¬ lR after m = true := by simp [lR, s1]
      rw [if_neg e9, List.append_nil] at hg2
      rw [if_neg e9] at q4
      have hR2 := (q4 _ rfl).symm
      simp only [aI, eqq] at hR2
      rw [show R.set k [.v (.int .u16 m.inc.toNat), .v (.int .u8 m.state.toNat), .v (.int .u8 m.quiet.toNat)] = R from lQ q1] at hR2
      rw [decide_eq_false s1]
      refine g2_ ?_
      refine ⟨k + 1, ac [(1, .to 1), (0, .to 0)] ?_, rfl⟩
      repeat first | simp -implicitDefEqProofs only [go_sem, aa, hg2, hR2] | with_reducible refine gl_ ?_
 ·rw [ab3]
  have ht : (gQ l self after).length = l.length := by simp [gQ]
  refine g2_ ?_
  refine ae ?_ rfl
  repeat first | simp -implicitDefEqProofs only [go_sem, aa, ht] | with_reducible refine gl_ ?_
  rw [List.take_of_length_le (by rw [List.length_map, ht]; exact Nat.le_refl _)]
end Go.Proofs.YtlaefellhnkfbaaGreat.V
