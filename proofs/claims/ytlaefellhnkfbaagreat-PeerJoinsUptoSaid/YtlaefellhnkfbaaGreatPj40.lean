/-
 Part 40 of the proof of Pj: the engine and the walks, in their order.
-/
import Derived.Test.YtlaefellhnkfbaaGreatPj27
import Derived.Test.YtlaefellhnkfbaaGreatPj29
import Derived.Test.YtlaefellhnkfbaaGreatPj35
import Derived.Test.YtlaefellhnkfbaaGreatPj37
set_option linter.unusedSimpArgs false
set_option linter.unusedVariables false
set_option maxRecDepth 10000
set_option maxHeartbeats 4000000
namespace Go.Eng
def mUp (m : ao) : Bool := decide (m.state = 1) || decide (m.state = 2)
def mQ (m : ao) : ao := if m.quiet < 255 then { m with quiet := m.quiet + 1 } else m
def mn (after : Int) (m : ao) : Bool := decide (m.state = 1) && decide (after ≤ (m.quiet.toNat : Int))
def mTk (self : UInt8) (after : Int) (i : Nat) (m : ao) : ao := if i = self.toNat ∨ mUp m = false then m else if mn after (mQ m) = true then { mQ m with state := 2 } else mQ m
def gy (l : List ao) (self : UInt8) (after : Int) : List ao := l.mapIdx (mTk self after)
def rA (l : List ao) (self : UInt8) (after : Int) (i : Nat) : List UInt8 := match l[i]? with
 | some m => if i = self.toNat ∨ mUp m = false then [] else if mn after (mQ m) = true then [UInt8.ofNat i] else []
 | none => []
def j8 (l : List ao) (self : UInt8) (after : Int) : Nat → List UInt8
 | 0 => []
 | k + 1 => j8 l self after k ++ rA l self after k
def eF (l : List ao) (self : UInt8) (after : Int) (k : Nat) : List ao := l.mapIdx fun i x => if i < k then mTk self after i x else x
theorem aiZ {l : List ao} {self : UInt8} {after : Int} : eF l self after 0 = l := by
 apply List.ext_getElem?
 intro i
 rw [eF, List.getElem?_mapIdx]
 cases l[i]? <;> rfl
theorem abd {l : List ao} {self : UInt8} {after : Int} : eF l self after l.length = gy l self after := by
 apply List.ext_getElem?
 intro i
 rw [eF, gy, List.getElem?_mapIdx, List.getElem?_mapIdx]
 cases h : l[i]? with
 | none => rfl
 | some x => simp [(List.getElem?_eq_some_iff.1 h).1]
theorem sh {l : List ao} {self : UInt8} {after : Int} {k : Nat} : (eF l self after k).length = l.length := by simp [eF]
theorem abV {l : List ao} {self : UInt8} {after : Int} {k : Nat} (h : k < l.length) : (eF l self after k)[k]? = some l[k] := by
 rw [eF, List.getElem?_mapIdx, List.getElem?_eq_getElem h]; simp
theorem aa9 {l : List ao} {self : UInt8} {after : Int} {k : Nat} (h : k < l.length) : (eF l self after k).set k (mTk self after k l[k]) = eF l self after (k + 1) := by
 apply List.ext_getElem?
 intro i
 rw [List.getElem?_set]
 by_cases e : k = i
 ·subst e
  rw [if_pos rfl, if_pos (by rw [sh]; exact h), eF, List.getElem?_mapIdx, List.getElem?_eq_getElem h]; simp
 ·rw [if_neg e, eF, eF, List.getElem?_mapIdx, List.getElem?_mapIdx]
  cases l[i]? with
  | none => rfl
  | some x =>
   simp only [Option.map_some]
   by_cases h2 : i < k
   ·rw [if_pos h2, if_pos (by omega)]
   ·rw [if_neg h2, if_neg (by omega)]
theorem mU {α : Type} {l : List α} {k : Nat} {x : α} (h : l[k]? = some x) : l.set k x = l := by
 obtain ⟨h1, rfl⟩ := List.getElem?_eq_some_iff.1 h
 exact List.set_getElem_self h1
theorem rU (l : List ao) (self : UInt8) (after : Int) : ∀ k, (j8 l self after k).length ≤ k
 | 0 => Nat.le_refl _
 | k + 1 => by
  have ih := rU l self after k
  have : (rA l self after k).length ≤ 1 := by
   unfold rA
   split
   ·split
    ·simp
    ·split <;> simp
   ·simp
  rw [j8, List.length_append]; omega
def iK (r : fI) : fI := ⟨r.hs, r.hp, if r.hs = true then r.succ.older else aO, if r.hp = true then r.pred.older else aO⟩
end Go.Eng
namespace Go.Proofs.YtlaefellhnkfbaaGreat.V
open Go.Eng
attribute [local go_sem] aO aU ah fzD plR bH bw aM bL aJ au bu dC z8 z16 z32 z64 ax aZ fa List.map_cons List.map_nil
theorem uO (m : ao) : Con2 Tryz.prog 123 [.agg (aM m)] (· = plR (.v (.bool (mUp m)))) := by
 have e1 : ((m.state.toNat : Int) == 1) = decide (m.state = 1) := cM m.state 1
 have e2 : ((m.state.toNat : Int) == 2) = decide (m.state = 2) := cM m.state 2
 refine af Ty.mixed Tryz.func123 rfl (by kernel_rfl) (by kernel_rfl) rfl [.tmp 2] rfl ?_
 refine g2_ ?_
 refine gg_ e1 e2 ?_
 by_cases h : m.state = 1
 ·have e : mUp m = true := by simp [mUp, h]
  rw [decide_eq_true h, e]
  refine g2_ ?_
  exact ⟨_, rfl, ab [] ws_⟩
 ·have e : mUp m = decide (m.state = 2) := by simp [mUp, h]
  rw [decide_eq_false h, e]
  refine gf_ e2 ?_
  exact ⟨_, rfl, ab [] (wf_ e2)⟩
theorem na (d : GDesc) (hd : d.filter.length ≤ 4000000) : Con2 Tryz.prog 122 [.agg (ah d)] (· = plR (.agg (ah d.older))) := by
 refine Con2.ofEmb ?_
 have hc : Con2 Tryz.prog 56 [fzD [d]] (· = plR (fzD [d.older])) := iG (mX [d] ⟨by simp, by simp [hd]⟩)
 generalize d.older = e at hc
 refine af Ty.mixed Tryz.func122 rfl (by kernel_rfl) (by kernel_rfl) rfl [.cell 2 34] rfl ?_
 refine g2_ ?_
 refine g2_ ?_
 refine cw_ hc ?_
 refine gx_ ?_
 rw [show (((1 : Nat) : Int) == 1) = true from rfl]
 repeat first | simp -implicitDefEqProofs only [go_sem, aa, List.length_cons, List.length_nil, List.getElem?_cons_zero] | with_reducible first | refine gl_ ?_ | refine ga_ ?_ | refine gn_ ?_
 refine ae ?_ rfl
 exact ws_
theorem yX (r : fI) (h1 : r.succ.filter.length ≤ 4000000) (h2 : r.pred.filter.length ≤ 4000000) : Con2 Tryz.prog 57 [.agg (aZ r)] (· = plR (.agg (aZ (iK r)))) := by
 refine Con2.ofEmb ?_
 have k1 := na r.succ h1
 have k2 := na r.pred h2
 obtain ⟨a, b, s, p⟩ := r
 unfold iK
 simp only at k1 k2 ⊢
 generalize s.older = s' at k1
 generalize p.older = p' at k2
 refine af Ty.mixed Tryz.func57 rfl (by kernel_rfl) (by kernel_rfl) rfl [.cell 2 36] rfl ?_
 refine g2_ ?_
 refine g2_ ?_
 cases a with
 | true =>
  refine g2_ ?_
  refine cw_ k1 ?_
  refine g2_ ?_
  cases b with
  | true =>
   refine g2_ ?_
   refine cw_ k2 ?_
   refine g2_ ?_
   refine ae ?_ rfl
   exact wx_
  | false =>
   refine g2_ ?_
   refine ae ?_ rfl
   exact wx_
 | false =>
  refine g2_ ?_
  cases b with
  | true =>
   refine g2_ ?_
   refine cw_ k2 ?_
   refine g2_ ?_
   refine ae ?_ rfl
   exact wx_
  | false =>
   refine g2_ ?_
   refine ae ?_ rfl
   exact wx_
theorem ack (l : List ao) (self : UInt8) (after : Int) (hl : l.length ≤ 256) : Con2 Tryz.prog 58 [.fz 3 (l.map aM), .v (.int .u8 self.toNat), .v (.int .i64 after)] (· = plR (.tup [.fz 3 ((gy l self after).map aM), .fz 1 ((j8 l self after l.length).map a_)])) := by
 refine Con2.ofEmb ?_
 have hcl := gO (l.map aM) (by rw [List.length_map]; omega)
 refine af Ty.mixed Tryz.func58 rfl (by kernel_rfl) (by kernel_rfl) rfl [.tmp 6, .tmp 7] rfl ?_
 refine g2_ ?_
 refine g2_ ?_
 refine cw_ hcl ?_
 refine gx_ ?_
 refine aB l.length (fun k => [(9, .d (.rf 1 0 (j8 l self after k).length))]) (fun _ => []) (fun k => [(1, .arr 5 1 ((j8 l self after k).map a_) false), (0, .arr 71 3 ((eF l self after k).map aM) false)]) 2 (fun _ => True) (ab [(1, .nil 1), (0, .to 0)] ?_) trivial (fun g k => by simp -implicitDefEqProofs only [go_sem, aa]) (by omega) (fun g => by simp -implicitDefEqProofs only [go_sem, aa]) (fun k hk _ => ?_) (fun _ => ?_)
 ·repeat first | simp -implicitDefEqProofs only [go_sem, aa, aiZ, j8, List.map_nil] | with_reducible refine gl_ ?_
  first | done | rfl | exact ⟨rfl, rfl⟩
 ·have hgl := rU l self after k
  have hself := self.toNat_lt
  have hk8 : (UInt8.ofNat k).toNat = k := by rw [UInt8.toNat_ofNat']; omega
  have hg2 : j8 l self after (k + 1) = j8 l self after k ++ rA l self after k := rfl
  have hmg : rA l self after k = if k = self.toNat ∨ mUp l[k] = false then [] else if mn after (mQ l[k]) = true then [UInt8.ofNat k] else [] := by rw [rA, List.getElem?_eq_getElem hk]
  have hmt : mTk self after k l[k] = if k = self.toNat ∨ mUp l[k] = false then l[k] else if mn after (mQ l[k]) = true then { mQ l[k] with state := 2 } else mQ l[k] := rfl
  have hho := uO l[k]
  have q1 : ((eF l self after k).map aM)[k]? = some (aM l[k]) := by rw [List.getElem?_map, abV hk]; rfl
  have q3 : ((eF l self after k).map aM).length = l.length := by rw [List.length_map, sh]
  have q4 : ∀ m', mTk self after k l[k] = m' → ((eF l self after k).map aM).set k (aM m') = (eF l self after (k + 1)).map aM := fun m' h => by
   rw [← aa9 hk, List.map_set, h]
  generalize (eF l self after k).map aM = R at q1 q3 q4
  have q5 : ∀ v, (R.set k v)[k]? = some v := fun v => by rw [List.getElem?_set_self (by omega)]
  have q7 : R.set k (aM l[k]) = R := mU q1
  rw [hmg] at hg2
  rw [hmt] at q4
  generalize l[k] = m at hho q1 q4 q7 hg2
  generalize j8 l self after k = G at hg2 hgl
  have hqq := m.quiet.toNat_lt
  have es : ((m.state.toNat : Int) == 1) = decide (m.state = 1) := cM m.state 1
  simp only [aM] at q1
  refine gg_ q1 q3 ?_
  by_cases e1 : k = self.toNat
  ·have e : m = (if k = self.toNat ∨ mUp m = false then m else if mn after (mQ m) = true then { mQ m with state := 2 } else mQ m) := (if_pos (.inl e1)).symm
   have hR2 := (q4 m e.symm).symm.trans q7
   rw [if_pos (.inl e1), List.append_nil] at hg2
   rw [show ((k : Int) == (self.toNat : Int)) = true by rw [e1]; exact beq_self_eq_true _]
   refine g2_ ?_
   refine ⟨k + 1, ab [(1, .to 1), (0, .to 0)] ?_, rfl⟩
   exact wg_ hg2 hR2
  ·rw [show ((k : Int) == (self.toNat : Int)) = false from beq_eq_false_iff_ne.2 (by omega)]
   refine gg_ q1 q3 ?_
   refine cw_ hho ?_
   cases e2 : mUp m with
   | false =>
    have e : m = (if k = self.toNat ∨ mUp m = false then m else if mn after (mQ m) = true then { mQ m with state := 2 } else mQ m) := (if_pos (.inr e2)).symm
    have hR2 := (q4 m e.symm).symm.trans q7
    rw [if_pos (.inr e2), List.append_nil] at hg2
    refine g2_ ?_
    refine ⟨k + 1, ab [(1, .to 1), (0, .to 0)] ?_, rfl⟩
    exact wg_ hg2 hR2
   | true =>
    have en : ¬ (k = self.toNat ∨ mUp m = false) := by simp [e1, e2]
    rw [if_neg en] at hg2
    rw [if_neg en] at q4
    refine gg_ q1 q3 ?_
    by_cases e3 : (m.quiet.toNat : Int) < 255
    ·have eq3 : m.quiet < 255 := (gQ _ _).1 e3
     have eqq : ((m.quiet + 1).toNat : Int) = (m.quiet.toNat : Int) + 1 := by
      rw [UInt8.toNat_add]
      have : (1 : UInt8).toNat = 1 := rfl
      omega
     have em : mQ m = { m with quiet := m.quiet + 1 } := if_pos eq3
     rw [em] at hg2 q4
     simp only [mn, eqq] at hg2 q4
     rw [decide_eq_true e3]
     refine gg_ q1 q3 ?_
     refine jg (by omega) ?_
     refine gi_ q1 q3 q5 es ?_
     by_cases s1 : m.state = 1
     ·rw [decide_eq_true s1]
      refine gi_ q1 q3 q5 es ?_
      by_cases s2 : after ≤ (m.quiet.toNat : Int) + 1
      ·have e9 : (decide (m.state = 1) && decide (after ≤ (m.quiet.toNat : Int) + 1)) = true := by rw [decide_eq_true s1, decide_eq_true s2]; rfl
       rw [if_pos e9] at hg2
       rw [if_pos e9] at q4
       have hR2 := (q4 _ rfl).symm
       simp only [aM, eqq, show ((UInt8.toNat 2 : Nat) : Int) = 2 from rfl] at hR2
       rw [decide_eq_true s2]
       repeat first | simp -implicitDefEqProofs only [go_sem, aa, q1, q3, q5, es, List.contains_nil, List.set_set] | with_reducible first | refine gl_ ?_ | refine ga_ ?_ | refine gn_ ?_
       rw [show decide ((k : Int) < 256) = true from decide_eq_true (by omega)]
       refine g2_ ?_
       refine jg (by omega) ?_
       refine gx_ ?_
       refine ⟨k + 1, ab [(1, .to 3), (0, .to 0)] ?_, rfl⟩
       repeat first | simp -implicitDefEqProofs only [go_sem, aa, hg2, hR2, List.length_append, List.map_append, hk8] | with_reducible refine gl_ ?_
       rw [show a_ (UInt8.ofNat k) = [.v (.int .u8 (k : Int))] by rw [a_, hk8]]
      ·have e9 : ¬ (decide (m.state = 1) && decide (after ≤ (m.quiet.toNat : Int) + 1)) = true := by rw [decide_eq_false s2]; simp
       rw [if_neg e9, List.append_nil] at hg2
       rw [if_neg e9] at q4
       have hR2 := (q4 _ rfl).symm
       simp only [aM, eqq] at hR2
       skip
       rw [decide_eq_false s2]
       refine g2_ ?_
       refine ⟨k + 1, ab [(1, .to 1), (0, .to 0)] ?_, rfl⟩
       exact wg_ hg2 hR2
     ·have e9 : ¬ (decide (m.state = 1) && decide (after ≤ (m.quiet.toNat : Int) + 1)) = true := by rw [decide_eq_false s1]; simp
      rw [if_neg e9, List.append_nil] at hg2
      rw [if_neg e9] at q4
      have hR2 := (q4 _ rfl).symm
      simp only [aM, eqq] at hR2
      skip
      rw [decide_eq_false s1]
      refine g2_ ?_
      refine ⟨k + 1, ab [(1, .to 1), (0, .to 0)] ?_, rfl⟩
      exact wg_ hg2 hR2
    ·have em : mQ m = m := if_neg (fun h => e3 ((gQ _ _).2 h))
     rw [em] at hg2 q4
     rw [decide_eq_false e3]
     refine gi_ q1 q3 q5 es ?_
     have eqq : True := trivial
     by_cases s1 : m.state = 1
     ·rw [decide_eq_true s1]
      refine gi_ q1 q3 q5 es ?_
      by_cases s2 : after ≤ (m.quiet.toNat : Int)
      ·have e9 : mn after m = true := by simp [mn, s1, s2]
       rw [if_pos e9] at hg2
       rw [if_pos e9] at q4
       have hR2 := (q4 _ rfl).symm
       simp only [aM, eqq, show ((UInt8.toNat 2 : Nat) : Int) = 2 from rfl] at hR2
       rw [decide_eq_true s2]
       repeat first | simp -implicitDefEqProofs only [go_sem, aa, q1, q3, q5, es, List.contains_nil, List.set_set] | with_reducible first | refine gl_ ?_ | refine ga_ ?_ | refine gn_ ?_
       rw [show decide ((k : Int) < 256) = true from decide_eq_true (by omega)]
       refine g2_ ?_
       refine jg (by omega) ?_
       refine gx_ ?_
       refine ⟨k + 1, ab [(1, .to 3), (0, .to 0)] ?_, rfl⟩
       repeat first | simp -implicitDefEqProofs only [go_sem, aa, hg2, hR2, List.length_append, List.map_append, hk8] | with_reducible refine gl_ ?_
       rw [show a_ (UInt8.ofNat k) = [.v (.int .u8 (k : Int))] by rw [a_, hk8]]
      ·have e9 : ¬ mn after m = true := by simp [mn]; omega
       rw [if_neg e9, List.append_nil] at hg2
       rw [if_neg e9] at q4
       have hR2 := (q4 _ rfl).symm
       simp only [aM, eqq] at hR2
       rw [show R.set k [.v (.int .u16 m.inc.toNat), .v (.int .u8 m.state.toNat), .v (.int .u8 m.quiet.toNat)] = R from mU q1] at hR2
       rw [decide_eq_false s2]
       refine g2_ ?_
       refine ⟨k + 1, ab [(1, .to 1), (0, .to 0)] ?_, rfl⟩
       exact wg_ hg2 hR2
     ·have e9 : ¬ mn after m = true := by simp [mn, s1]
      rw [if_neg e9, List.append_nil] at hg2
      rw [if_neg e9] at q4
      have hR2 := (q4 _ rfl).symm
      simp only [aM, eqq] at hR2
      rw [show R.set k [.v (.int .u16 m.inc.toNat), .v (.int .u8 m.state.toNat), .v (.int .u8 m.quiet.toNat)] = R from mU q1] at hR2
      rw [decide_eq_false s1]
      refine g2_ ?_
      refine ⟨k + 1, ab [(1, .to 1), (0, .to 0)] ?_, rfl⟩
      exact wg_ hg2 hR2
 ·rw [abd]
  have ht : (gy l self after).length = l.length := by simp [gy]
  refine g2_ ?_
  refine ae ?_ rfl
  repeat first | simp -implicitDefEqProofs only [go_sem, aa, ht] | with_reducible refine gl_ ?_
  rw [List.take_of_length_le (by rw [List.length_map, ht]; exact Nat.le_refl _)]
end Go.Proofs.YtlaefellhnkfbaaGreat.V
