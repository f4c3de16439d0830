/-
  Part 37 of the proof of Pl: the engine and the walks, in their order.
-/
import Derived.Test.YtlaefellhnkfbaaGreatPl27
import Derived.Test.YtlaefellhnkfbaaGreatPl29
import Derived.Test.YtlaefellhnkfbaaGreatPl32
import Derived.Test.YtlaefellhnkfbaaGreatPl34
set_option linter.unusedSimpArgs false
set_option linter.unusedVariables false
set_option maxRecDepth 10000
set_option maxHeartbeats 4000000
namespace Go.Eng
def mUp (m : GMember) : Bool := decide (m.state = 1) || decide (m.state = 2)
def mQ (m : GMember) : GMember := if m.quiet < 255 then { m with quiet := m.quiet + 1 } else m
def mSus (after : Int) (m : GMember) : Bool := decide (m.state = 1) && decide (after ≤ (m.quiet.toNat : Int))
def mTk (self : UInt8) (after : Int) (i : Nat) (m : GMember) : GMember := if i = self.toNat ∨ mUp m = false then m else if mSus after (mQ m) = true then { mQ m with state := 2 } else mQ m
def tTick (l : List GMember) (self : UInt8) (after : Int) : List GMember := l.mapIdx (mTk self after)
def mGone (l : List GMember) (self : UInt8) (after : Int) (i : Nat) : List UInt8 := match l[i]? with
  | some m => if i = self.toNat ∨ mUp m = false then [] else if mSus after (mQ m) = true then [UInt8.ofNat i] else []
  | none => []
def gTick (l : List GMember) (self : UInt8) (after : Int) : Nat → List UInt8
  | 0 => []
  | k + 1 => gTick l self after k ++ mGone l self after k
def tickK (l : List GMember) (self : UInt8) (after : Int) (k : Nat) : List GMember := l.mapIdx fun i x => if i < k then mTk self after i x else x
theorem tickK_0 {l : List GMember} {self : UInt8} {after : Int} : tickK l self after 0 = l := by
  apply List.ext_getElem?
  intro i
  rw [tickK, List.getElem?_mapIdx]
  cases l[i]? <;> rfl
theorem tickK_end {l : List GMember} {self : UInt8} {after : Int} : tickK l self after l.length = tTick l self after := by
  apply List.ext_getElem?
  intro i
  rw [tickK, tTick, List.getElem?_mapIdx, List.getElem?_mapIdx]
  cases h : l[i]? with
  | none => rfl
  | some x => simp [(List.getElem?_eq_some_iff.1 h).1]
theorem tickK_len {l : List GMember} {self : UInt8} {after : Int} {k : Nat} : (tickK l self after k).length = l.length := by simp [tickK]
theorem tickK_get {l : List GMember} {self : UInt8} {after : Int} {k : Nat} (h : k < l.length) : (tickK l self after k)[k]? = some l[k] := by
  rw [tickK, List.getElem?_mapIdx, List.getElem?_eq_getElem h]; simp
theorem tickK_set {l : List GMember} {self : UInt8} {after : Int} {k : Nat} (h : k < l.length) : (tickK l self after k).set k (mTk self after k l[k]) = tickK l self after (k + 1) := by
  apply List.ext_getElem?
  intro i
  rw [List.getElem?_set]
  by_cases e : k = i
  · subst e
    rw [if_pos rfl, if_pos (by rw [tickK_len]; exact h), tickK, List.getElem?_mapIdx, List.getElem?_eq_getElem h]; simp
  · rw [if_neg e, tickK, tickK, List.getElem?_mapIdx, List.getElem?_mapIdx]
    cases l[i]? with
    | none => rfl
    | some x =>
      simp only [Option.map_some]
      by_cases h2 : i < k
      · rw [if_pos h2, if_pos (by omega)]
      · rw [if_neg h2, if_neg (by omega)]
theorem set_sameG {α : Type} {l : List α} {k : Nat} {x : α} (h : l[k]? = some x) : l.set k x = l := by
  obtain ⟨h1, rfl⟩ := List.getElem?_eq_some_iff.1 h
  exact List.set_getElem_self h1
theorem gTick_len (l : List GMember) (self : UInt8) (after : Int) : ∀ k, (gTick l self after k).length ≤ k
  | 0 => Nat.le_refl _
  | k + 1 => by
    have ih := gTick_len l self after k
    have : (mGone l self after k).length ≤ 1 := by
      unfold mGone
      split
      · split
        · simp
        · split <;> simp
      · simp
    rw [gTick, List.length_append]; omega
def rOlder (r : GRing) : GRing := ⟨r.hs, r.hp, if r.hs = true then r.succ.older else zDesc, if r.hp = true then r.pred.older else zDesc⟩
end Go.Eng
namespace Go.Proofs.YtlaefellhnkfbaaGreat.V
open Go.Eng
attribute [local go_sem] zDesc encS encDD fzD plR rowR encK encM encRw encC encP encEv encA z8 z16 z32 z64 encMg encRing encI List.map_cons List.map_nil
theorem heardOf_con (m : GMember) : Con2 Tryz.prog 123 [.agg (encM m)] (· = plR (.v (.bool (mUp m)))) := by
  have e1 : ((m.state.toNat : Int) == 1) = decide (m.state = 1) := u8_beq m.state 1
  have e2 : ((m.state.toNat : Int) == 2) = decide (m.state = 2) := u8_beq m.state 2
  refine con2_of Ty.mixed Tryz.func123 rfl (by kernel_rfl) (by kernel_rfl) rfl [.tmp 2] rfl ?_
  refine g2_ ?_
  repeat first | simp -implicitDefEqProofs only [go_sem, vc2_blk, e1, e2] | with_reducible first | refine gl_ ?_ | refine ga_ ?_ | refine gn_ ?_
  by_cases h : m.state = 1
  · have e : mUp m = true := by simp [mUp, h]
    rw [decide_eq_true h, e]
    refine g2_ ?_
    exact ⟨_, rfl, le2_of [] ws_⟩
  · have e : mUp m = decide (m.state = 2) := by simp [mUp, h]
    rw [decide_eq_false h, e]
    repeat first | simp -implicitDefEqProofs only [go_sem, vc2_blk, e2] | with_reducible first | refine gl_ ?_ | refine ga_ ?_ | refine gn_ ?_
    exact ⟨_, rfl, le2_of [] (by simp -implicitDefEqProofs only [go_sem, vc2_blk, e2])⟩
theorem rolder1_con (d : GDesc) (hd : d.filter.length ≤ 1000) : Con2 Tryz.prog 122 [.agg (encDD d)] (· = plR (.agg (encDD d.older))) := by
  refine Con2.ofEmb ?_
  have hc : Con2 Tryz.prog 56 [fzD [d]] (· = plR (fzD [d.older])) := row_fz (older_con [d] ⟨by simp, by simp [hd]⟩)
  generalize d.older = e at hc
  refine con2_of Ty.mixed Tryz.func122 rfl (by kernel_rfl) (by kernel_rfl) rfl [.cell 2 34] rfl ?_
  refine g2_ ?_
  refine g2_ ?_
  refine CallS.eqW hc ws_ (.inl ws_) ?_
  repeat first | simp -implicitDefEqProofs only [go_sem, vc2_blk, List.length_cons, List.length_nil] | with_reducible first | refine gl_ ?_ | refine ga_ ?_ | refine gn_ ?_
  rw [show (((1 : Nat) : Int) == 1) = true from rfl]
  repeat first | simp -implicitDefEqProofs only [go_sem, vc2_blk, List.length_cons, List.length_nil, List.getElem?_cons_zero] | with_reducible first | refine gl_ ?_ | refine ga_ ?_ | refine gn_ ?_
  refine ret_emb ?_ rfl
  exact ws_
theorem rolder_con (r : GRing) (h1 : r.succ.filter.length ≤ 1000) (h2 : r.pred.filter.length ≤ 1000) : Con2 Tryz.prog 57 [.agg (encRing r)] (· = plR (.agg (encRing (rOlder r)))) := by
  refine Con2.ofEmb ?_
  have k1 := rolder1_con r.succ h1
  have k2 := rolder1_con r.pred h2
  obtain ⟨a, b, s, p⟩ := r
  unfold rOlder
  simp only at k1 k2 ⊢
  generalize s.older = s' at k1
  generalize p.older = p' at k2
  refine con2_of Ty.mixed Tryz.func57 rfl (by kernel_rfl) (by kernel_rfl) rfl [.cell 2 36] rfl ?_
  refine g2_ ?_
  refine g2_ ?_
  cases a with
  | true =>
    refine g2_ ?_
    refine CallS.eqW k1 ws_ (.inl ws_) ?_
    refine g2_ ?_
    cases b with
    | true =>
      refine g2_ ?_
      refine CallS.eqW k2 ws_ (.inl ws_) ?_
      refine g2_ ?_
      refine ret_emb ?_ rfl
      repeat first | simp -implicitDefEqProofs only [go_sem, vc2_blk, if_true] | with_reducible refine gl_ ?_
    | false =>
      refine g2_ ?_
      refine ret_emb ?_ rfl
      repeat first | simp -implicitDefEqProofs only [go_sem, vc2_blk, if_true, if_false, Bool.false_eq_true] | with_reducible refine gl_ ?_
  | false =>
    refine g2_ ?_
    cases b with
    | true =>
      refine g2_ ?_
      refine CallS.eqW k2 ws_ (.inl ws_) ?_
      refine g2_ ?_
      refine ret_emb ?_ rfl
      repeat first | simp -implicitDefEqProofs only [go_sem, vc2_blk, if_true, if_false, Bool.false_eq_true] | with_reducible refine gl_ ?_
    | false =>
      refine g2_ ?_
      refine ret_emb ?_ rfl
      repeat first | simp -implicitDefEqProofs only [go_sem, vc2_blk, if_true, if_false, Bool.false_eq_true] | with_reducible refine gl_ ?_
theorem ptick_con (l : List GMember) (self : UInt8) (after : Int) (hl : l.length ≤ 256) : Con2 Tryz.prog 58 [.fz 3 (l.map encM), .v (.int .u8 self.toNat), .v (.int .i64 after)] (· = plR (.tup [.fz 3 ((tTick l self after).map encM), .fz 1 ((gTick l self after l.length).map encBD)])) := by
  refine Con2.ofEmb ?_
  have hcl := cloneMR_con (l.map encM) (by rw [List.length_map]; omega)
  refine con2_of Ty.mixed Tryz.func58 rfl (by kernel_rfl) (by kernel_rfl) rfl [.tmp 6, .tmp 7] rfl ?_
  refine g2_ ?_
  refine g2_ ?_
  refine CallS.eqW hcl ws_ (.inl ws_) ?_
  repeat first | simp -implicitDefEqProofs only [go_sem, vc2_blk, List.length_map] | with_reducible first | refine gl_ ?_ | refine ga_ ?_ | refine gn_ ?_
  refine vc2_rangeA l.length (fun k => [(9, .d (.rf 1 0 (gTick l self after k).length))]) (fun _ => []) (fun k => [(1, .arr 5 1 ((gTick l self after k).map encBD) false), (0, .arr 71 3 ((tickK l self after k).map encM) false)]) 2 (fun _ => True) (le2_of [(1, .nil 1), (0, .to 0)] ?_) trivial (fun g k => by simp -implicitDefEqProofs only [go_sem, vc2_blk]) (by omega) (fun g => by simp -implicitDefEqProofs only [go_sem, vc2_blk]) (fun k hk _ => ?_) (fun _ => ?_)
  · repeat first | simp -implicitDefEqProofs only [go_sem, vc2_blk, tickK_0, gTick, List.map_nil] | with_reducible refine gl_ ?_
    first | done | rfl | exact ⟨rfl, rfl⟩ | trace_state
  · have hgl := gTick_len l self after k
    have hself := self.toNat_lt
    have hk8 : (UInt8.ofNat k).toNat = k := by rw [UInt8.toNat_ofNat']; omega
    have hg2 : gTick l self after (k + 1) = gTick l self after k ++ mGone l self after k := rfl
    have hmg : mGone l self after k = if k = self.toNat ∨ mUp l[k] = false then [] else if mSus after (mQ l[k]) = true then [UInt8.ofNat k] else [] := by rw [mGone, List.getElem?_eq_getElem hk]
    have hmt : mTk self after k l[k] = if k = self.toNat ∨ mUp l[k] = false then l[k] else if mSus after (mQ l[k]) = true then { mQ l[k] with state := 2 } else mQ l[k] := rfl
    have hho := heardOf_con l[k]
    have q1 : ((tickK l self after k).map encM)[k]? = some (encM l[k]) := by rw [List.getElem?_map, tickK_get hk]; rfl
    have q3 : ((tickK l self after k).map encM).length = l.length := by rw [List.length_map, tickK_len]
    have q4 : ∀ m', mTk self after k l[k] = m' → ((tickK l self after k).map encM).set k (encM m') = (tickK l self after (k + 1)).map encM := fun m' h => by
      rw [← tickK_set hk, List.map_set, h]
    generalize (tickK l self after k).map encM = R at q1 q3 q4
    have q5 : ∀ v, (R.set k v)[k]? = some v := fun v => by rw [List.getElem?_set_self (by omega)]
    have q7 : R.set k (encM l[k]) = R := set_sameG q1
    rw [hmg] at hg2
    rw [hmt] at q4
    generalize l[k] = m at hho q1 q4 q7 hg2
    generalize gTick l self after k = G at hg2 hgl
    have hqq := m.quiet.toNat_lt
    have es : ((m.state.toNat : Int) == 1) = decide (m.state = 1) := u8_beq m.state 1
    simp only [encM] at q1
    repeat first | simp -implicitDefEqProofs only [go_sem, vc2_blk, q1, q3] | with_reducible first | refine gl_ ?_ | refine ga_ ?_ | refine gn_ ?_
    by_cases e1 : k = self.toNat
    · have e : m = (if k = self.toNat ∨ mUp m = false then m else if mSus after (mQ m) = true then { mQ m with state := 2 } else mQ m) := (if_pos (.inl e1)).symm
      have hR2 := (q4 m e.symm).symm.trans q7
      rw [if_pos (.inl e1), List.append_nil] at hg2
      rw [show ((k : Int) == (self.toNat : Int)) = true by rw [e1]; exact beq_self_eq_true _]
      refine g2_ ?_
      refine ⟨k + 1, le2_of [(1, .to 1), (0, .to 0)] ?_, rfl⟩
      repeat first | simp -implicitDefEqProofs only [go_sem, vc2_blk, hg2, hR2] | with_reducible refine gl_ ?_
    · rw [show ((k : Int) == (self.toNat : Int)) = false from beq_eq_false_iff_ne.2 (by omega)]
      repeat first | simp -implicitDefEqProofs only [go_sem, vc2_blk, q1, q3] | with_reducible first | refine gl_ ?_ | refine ga_ ?_ | refine gn_ ?_
      refine CallS.eqW hho ws_ (.inl ws_) ?_
      cases e2 : mUp m with
      | false =>
        have e : m = (if k = self.toNat ∨ mUp m = false then m else if mSus after (mQ m) = true then { mQ m with state := 2 } else mQ m) := (if_pos (.inr e2)).symm
        have hR2 := (q4 m e.symm).symm.trans q7
        rw [if_pos (.inr e2), List.append_nil] at hg2
        refine g2_ ?_
        refine ⟨k + 1, le2_of [(1, .to 1), (0, .to 0)] ?_, rfl⟩
        repeat first | simp -implicitDefEqProofs only [go_sem, vc2_blk, hg2, hR2] | with_reducible refine gl_ ?_
      | true =>
        have en : ¬ (k = self.toNat ∨ mUp m = false) := by simp [e1, e2]
        rw [if_neg en] at hg2
        rw [if_neg en] at q4
        repeat first | simp -implicitDefEqProofs only [go_sem, vc2_blk, q1, q3] | with_reducible first | refine gl_ ?_ | refine ga_ ?_ | refine gn_ ?_
        by_cases e3 : (m.quiet.toNat : Int) < 255
        · have eq3 : m.quiet < 255 := (u8_lt _ _).1 e3
          have eqq : ((m.quiet + 1).toNat : Int) = (m.quiet.toNat : Int) + 1 := by
            rw [UInt8.toNat_add]
            have : (1 : UInt8).toNat = 1 := rfl
            omega
          have em : mQ m = { m with quiet := m.quiet + 1 } := if_pos eq3
          rw [em] at hg2 q4
          simp only [mSus, eqq] at hg2 q4
          rw [decide_eq_true e3]
          repeat first | simp -implicitDefEqProofs only [go_sem, vc2_blk, q1, q3] | with_reducible first | refine gl_ ?_ | refine ga_ ?_ | refine gn_ ?_
          refine ar_u8 (by omega) ?_
          repeat first | simp -implicitDefEqProofs only [go_sem, vc2_blk, q1, q3, q5, es, List.contains_nil] | with_reducible first | refine gl_ ?_ | refine ga_ ?_ | refine gn_ ?_
          by_cases s1 : m.state = 1
          · rw [decide_eq_true s1]
            repeat first | simp -implicitDefEqProofs only [go_sem, vc2_blk, q1, q3, q5, es, List.contains_nil] | with_reducible first | refine gl_ ?_ | refine ga_ ?_ | refine gn_ ?_
            by_cases s2 : after ≤ (m.quiet.toNat : Int) + 1
            · have e9 : (decide (m.state = 1) && decide (after ≤ (m.quiet.toNat : Int) + 1)) = true := by rw [decide_eq_true s1, decide_eq_true s2]; rfl
              rw [if_pos e9] at hg2
              rw [if_pos e9] at q4
              have hR2 := (q4 _ rfl).symm
              simp only [encM, eqq, show ((UInt8.toNat 2 : Nat) : Int) = 2 from rfl] at hR2
              rw [decide_eq_true s2]
              repeat first | simp -implicitDefEqProofs only [go_sem, vc2_blk, q1, q3, q5, es, List.contains_nil, List.set_set] | with_reducible first | refine gl_ ?_ | refine ga_ ?_ | refine gn_ ?_
              rw [show decide ((k : Int) < 256) = true from decide_eq_true (by omega)]
              refine g2_ ?_
              refine ar_u8 (by omega) ?_
              repeat first | simp -implicitDefEqProofs only [go_sem, vc2_blk, List.length_map] | with_reducible first | refine gl_ ?_ | refine ga_ ?_ | refine gn_ ?_
              refine ⟨k + 1, le2_of [(1, .to 3), (0, .to 0)] ?_, rfl⟩
              repeat first | simp -implicitDefEqProofs only [go_sem, vc2_blk, hg2, hR2, List.length_append, List.map_append, hk8] | with_reducible refine gl_ ?_
              rw [show encBD (UInt8.ofNat k) = [.v (.int .u8 (k : Int))] by rw [encBD, hk8]]
            · have e9 : ¬ (decide (m.state = 1) && decide (after ≤ (m.quiet.toNat : Int) + 1)) = true := by rw [decide_eq_false s2]; simp
              rw [if_neg e9, List.append_nil] at hg2
              rw [if_neg e9] at q4
              have hR2 := (q4 _ rfl).symm
              simp only [encM, eqq] at hR2
              skip
              rw [decide_eq_false s2]
              refine g2_ ?_
              refine ⟨k + 1, le2_of [(1, .to 1), (0, .to 0)] ?_, rfl⟩
              repeat first | simp -implicitDefEqProofs only [go_sem, vc2_blk, hg2, hR2] | with_reducible refine gl_ ?_
          · have e9 : ¬ (decide (m.state = 1) && decide (after ≤ (m.quiet.toNat : Int) + 1)) = true := by rw [decide_eq_false s1]; simp
            rw [if_neg e9, List.append_nil] at hg2
            rw [if_neg e9] at q4
            have hR2 := (q4 _ rfl).symm
            simp only [encM, eqq] at hR2
            skip
            rw [decide_eq_false s1]
            refine g2_ ?_
            refine ⟨k + 1, le2_of [(1, .to 1), (0, .to 0)] ?_, rfl⟩
            repeat first | simp -implicitDefEqProofs only [go_sem, vc2_blk, hg2, hR2] | with_reducible refine gl_ ?_
        · have em : mQ m = m := if_neg (fun h => e3 ((u8_lt _ _).2 h))
          rw [em] at hg2 q4
          rw [decide_eq_false e3]
          repeat first | simp -implicitDefEqProofs only [go_sem, vc2_blk, q1, q3, q5, es, List.contains_nil] | with_reducible first | refine gl_ ?_ | refine ga_ ?_ | refine gn_ ?_
          have eqq : True := trivial
          by_cases s1 : m.state = 1
          · rw [decide_eq_true s1]
            repeat first | simp -implicitDefEqProofs only [go_sem, vc2_blk, q1, q3, q5, es, List.contains_nil] | with_reducible first | refine gl_ ?_ | refine ga_ ?_ | refine gn_ ?_
            by_cases s2 : after ≤ (m.quiet.toNat : Int)
            · have e9 : mSus after m = true := by simp [mSus, s1, s2]
              rw [if_pos e9] at hg2
              rw [if_pos e9] at q4
              have hR2 := (q4 _ rfl).symm
              simp only [encM, eqq, show ((UInt8.toNat 2 : Nat) : Int) = 2 from rfl] at hR2
              rw [decide_eq_true s2]
              repeat first | simp -implicitDefEqProofs only [go_sem, vc2_blk, q1, q3, q5, es, List.contains_nil, List.set_set] | with_reducible first | refine gl_ ?_ | refine ga_ ?_ | refine gn_ ?_
              rw [show decide ((k : Int) < 256) = true from decide_eq_true (by omega)]
              refine g2_ ?_
              refine ar_u8 (by omega) ?_
              repeat first | simp -implicitDefEqProofs only [go_sem, vc2_blk, List.length_map] | with_reducible first | refine gl_ ?_ | refine ga_ ?_ | refine gn_ ?_
              refine ⟨k + 1, le2_of [(1, .to 3), (0, .to 0)] ?_, rfl⟩
              repeat first | simp -implicitDefEqProofs only [go_sem, vc2_blk, hg2, hR2, List.length_append, List.map_append, hk8] | with_reducible refine gl_ ?_
              rw [show encBD (UInt8.ofNat k) = [.v (.int .u8 (k : Int))] by rw [encBD, hk8]]
            · have e9 : ¬ mSus after m = true := by simp [mSus]; omega
              rw [if_neg e9, List.append_nil] at hg2
              rw [if_neg e9] at q4
              have hR2 := (q4 _ rfl).symm
              simp only [encM, eqq] at hR2
              rw [show R.set k [.v (.int .u16 m.inc.toNat), .v (.int .u8 m.state.toNat), .v (.int .u8 m.quiet.toNat)] = R from set_sameG q1] at hR2
              rw [decide_eq_false s2]
              refine g2_ ?_
              refine ⟨k + 1, le2_of [(1, .to 1), (0, .to 0)] ?_, rfl⟩
              repeat first | simp -implicitDefEqProofs only [go_sem, vc2_blk, hg2, hR2] | with_reducible refine gl_ ?_
          · have e9 : ¬ mSus after m = true := by simp [mSus, s1]
            rw [if_neg e9, List.append_nil] at hg2
            rw [if_neg e9] at q4
            have hR2 := (q4 _ rfl).symm
            simp only [encM, eqq] at hR2
            rw [show R.set k [.v (.int .u16 m.inc.toNat), .v (.int .u8 m.state.toNat), .v (.int .u8 m.quiet.toNat)] = R from set_sameG q1] at hR2
            rw [decide_eq_false s1]
            refine g2_ ?_
            refine ⟨k + 1, le2_of [(1, .to 1), (0, .to 0)] ?_, rfl⟩
            repeat first | simp -implicitDefEqProofs only [go_sem, vc2_blk, hg2, hR2] | with_reducible refine gl_ ?_
  · rw [tickK_end]
    have ht : (tTick l self after).length = l.length := by simp [tTick]
    refine g2_ ?_
    refine ret_emb ?_ rfl
    repeat first | simp -implicitDefEqProofs only [go_sem, vc2_blk, ht] | with_reducible refine gl_ ?_
    rw [List.take_of_length_le (by rw [List.length_map, ht]; exact Nat.le_refl _)]
end Go.Proofs.YtlaefellhnkfbaaGreat.V
