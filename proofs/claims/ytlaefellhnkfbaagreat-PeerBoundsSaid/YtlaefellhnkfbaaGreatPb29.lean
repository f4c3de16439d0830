/-
 bF 29 of the proof of Pb: the engine and the walks, in their order.
-/
import Derived.Test.YtlaefellhnkfbaaGreatPb26
import Derived.Test.YtlaefellhnkfbaaGreatPb28
set_option linter.unusedSimpArgs false
set_option linter.unusedVariables false
set_option maxRecDepth 10000
namespace Go.Eng
structure okP (p : ak) : Prop where
 filter : p.filter.length ≤ 1000
 view : bO p.view
 near : bO p.near
 succ : p.ring.succ.filter.length ≤ 1000
 pred : p.ring.pred.filter.length ≤ 1000
 sent : bO p.wait.sent
 table : p.table.length ≤ 1000
 heard : p.heard.length ≤ 1000
 rows : p.rows.length ≤ 1000
 reports : p.reports.length ≤ 1000 ∧ ∀ l ∈ p.reports, l.length ≤ 1000
 evs : p.buf.evs.length ≤ 1000 ∧ ∀ e ∈ p.buf.evs, e.vals.length ≤ 1000 ∧ e.data.length ≤ 1000
 pulls : p.pulls.length ≤ 1000
structure aY where
 kind : UInt8
 frm : UInt8
 inc : UInt16
 to : UInt8
 list : List GDesc
 table : List am
 ev : abA
 hops : UInt8
 origin : da
 marks : List da
 ids : List GID
deriving DecidableEq
def zl (x : GID) : List DV := [.v (.int .u8 x.node.toNat), .v (.int .u16 x.inc.toNat), .v (.int .u32 x.seq.toNat)]
def ar (m : aY) : List DV := [.v (.int .u8 m.kind.toNat), .v (.int .u8 m.frm.toNat), .v (.int .u16 m.inc.toNat), .v (.int .u8 m.to.toNat), fzD m.list, .fz 3 (m.table.map aI),
 .v (.int .u8 m.ev.id.node.toNat), .v (.int .u16 m.ev.id.inc.toNat), .v (.int .u32 m.ev.id.seq.toNat), .fz 1 (m.ev.vals.map ey), .fz 1 (m.ev.data.map aU), .v (.int .u8 m.hops.toNat),
 .v (.int .u8 m.origin.node.toNat), .v (.int .u16 m.origin.inc.toNat), .v (.int .u32 m.origin.seq.toNat), .fz 3 (m.marks.map bn), .fz 3 (m.ids.map zl)]
def aij : abA := ⟨⟨0, 0, 0⟩, [], []⟩
def aX (p : ak) : GDesc := ⟨p.node, p.inc, 0, p.filter⟩
def bP (p : ak) (kind to : UInt8) : aY := ⟨kind, p.node, p.inc, to, [], [], aij, 0, ⟨0, 0, 0⟩, [], []⟩
end Go.Eng
namespace Go.Proofs.YtlaefellhnkfbaaGreat.V
open Go.Eng
attribute [local go_sem] aP ah fzD plR bB bn aI bC aE aq bm dd z8 z16 z32 z64
theorem aO (l : List GDesc) (hl : bO l) : Con2 Tryz.prog 92 [fzD l] (· = plR (fzD l)) := hZ (fN l hl)
theorem wC (e : abA) (h1 : e.vals.length ≤ 1000) (h2 : e.data.length ≤ 1000) : Con2 Tryz.prog 96 [.agg (bm e)] (· = plR (.agg (bm e))) := by
 refine Con2.ofEmb ?_
 refine af Ty.mixed Tryz.func96 rfl (by kernel_rfl) (by kernel_rfl) rfl [.cell 2 63] rfl ?_
 refine g2_ ?_
 refine g2_ ?_
 refine ae ?_ rfl
 exact ws_
theorem fC (p : ak) (hp : okP p) : Con2 Tryz.prog 32 [.agg (aq p)] (· = plR (.agg (ah (aX p)))) := by
 refine Con2.ofEmb ?_
 have hf := hp.filter
 refine af Ty.mixed Tryz.func32 rfl (by kernel_rfl) (by kernel_rfl) rfl [.cell 2 34] rfl ?_
 refine g2_ ?_
 refine g2_ ?_
 refine .inl ⟨oF [0, 2, 4, 1, 3, 5] (oT 6 (oF [7, 8] [])), by kernel_rfl, ?_⟩
 refine g2_ ?_
 refine CallS.eq (gP p.filter (by omega)) ws_ (.inl ws_) ?_
 refine g2_ ?_
 refine ae ?_ rfl
 repeat first | simp -implicitDefEqProofs only [go_sem, aa, aX] | with_reducible refine gl_ ?_
theorem eh (p : ak) (kind to : UInt8) : Con2 Tryz.prog 43 [.agg (aq p), .v (.int .u8 kind.toNat), .v (.int .u8 to.toNat)] (· = plR (.agg (ar (bP p kind to)))) := by
 refine Con2.ofEmb ?_
 refine af Ty.mixed Tryz.func43 rfl (by kernel_rfl) (by kernel_rfl) rfl [.cell 6 67] rfl ?_
 refine g2_ ?_
 refine g2_ ?_
 refine ae ?_ rfl
 repeat first | simp -implicitDefEqProofs only [go_sem, aa, ar, bP, aij, List.map_nil] | with_reducible refine gl_ ?_
theorem aM (p : ak) (hp : okP p) : Con2 Tryz.prog 44 [.agg (aq p)] (· = plR (.agg (aq p))) := by
 refine Con2.ofEmb ?_
 have hfi := hp.filter
 have hsu := hp.succ
 have hpr := hp.pred
 have htb := hp.table
 have hhe := hp.heard
 have hrw := hp.rows
 have hpu := hp.pulls
 obtain ⟨hre, hre2⟩ := hp.reports
 obtain ⟨hev, hev2⟩ := hp.evs
 refine af Ty.mixed Tryz.func44 rfl (by kernel_rfl) (by kernel_rfl) rfl [.cell 2 49] rfl ?_
 refine g2_ ?_
 refine g2_ ?_
 refine CallS.eq (gP p.filter (by omega)) ws_ (.inl ws_) ?_
 refine g2_ ?_
 refine CallS.eq (aO p.view hp.view) ws_ (.inl ws_) ?_
 refine g2_ ?_
 refine CallS.eq (aO p.near hp.near) ws_ (.inl ws_) ?_
 refine g2_ ?_
 refine CallS.eq (gP p.ring.succ.filter (by omega)) ws_ (.inl ws_) ?_
 refine g2_ ?_
 refine CallS.eq (gP p.ring.pred.filter (by omega)) ws_ (.inl ws_) ?_
 refine g2_ ?_
 refine CallS.eq (aO p.wait.sent hp.sent) ws_ (.inl ws_) ?_
 refine g2_ ?_
 refine CallS.eq (eS (p.table.map aI) (by rw [List.length_map]; omega)) ws_ (.inl ws_) ?_
 refine g2_ ?_
 refine CallS.eq (jU (p.heard.map bn) (by rw [List.length_map]; omega)) ws_ (.inl ws_) ?_
 refine g2_ ?_
 refine CallS.eq (xK (p.rows.map bC) (by rw [List.length_map]; omega)) ws_ (.inl ws_) ?_
 refine g2_ ?_
 generalize hL : (p.reports.map fun l => [DV.fz 3 (l.map bn)]) = L
 have hLl : L.length = p.reports.length := by subst hL; rw [List.length_map]
 refine ax p.reports.length (fun k => []) (fun _ => []) (fun k => [(0, .arr 40 1 (fL [.v (.slice none 0 0)] L k) false)]) 1 (fun _ => True) (ac [] ?_) trivial (fun g k => by simp -implicitDefEqProofs only [go_sem, aa]) (by omega) (fun g => by simp -implicitDefEqProofs only [go_sem, aa]) (fun k hk _ => ?_) (fun _ => ?_)
 ·repeat first | simp -implicitDefEqProofs only [go_sem, aa, m5, hLl] | with_reducible refine gl_ ?_
  first | rfl | exact ⟨rfl, rfl⟩
 ·have hk2 : k < L.length := by omega
  have hge : L[k]? = some [DV.fz 3 (p.reports[k].map bn)] := by subst hL; rw [List.getElem?_map, List.getElem?_eq_getElem hk]; rfl
  have hge2 : L[k] = [DV.fz 3 (p.reports[k].map bn)] := by rw [List.getElem?_eq_getElem hk2] at hge; exact Option.some.inj hge
  repeat first | simp -implicitDefEqProofs only [go_sem, aa, hge, d8 hk2, d9 (Nat.le_of_lt hk2), List.contains_nil] | with_reducible first | refine gl_ ?_ | refine ga_ ?_ | refine gn_ ?_
  refine CallS.eq (jU (p.reports[k].map bn) (by rw [List.length_map]; have := hre2 _ (List.getElem_mem hk); omega)) ws_ (.inl ws_) ?_
  repeat first | simp -implicitDefEqProofs only [go_sem, aa, d8 hk2, d9 (Nat.le_of_lt hk2), List.contains_nil] | with_reducible first | refine gl_ ?_ | refine ga_ ?_ | refine gn_ ?_
  refine ⟨k + 1, ac [] ?_, rfl⟩
  refine g2_ ?_
  rw [← jd hk2, hge2]
 ·rw [← hLl]
  repeat first | simp -implicitDefEqProofs only [go_sem, aa, jv] | with_reducible first | refine gl_ ?_ | refine ga_ ?_ | refine gn_ ?_
  generalize hE : p.buf.evs.map bm = M
  have hMl : M.length = p.buf.evs.length := by subst hE; rw [List.length_map]
  refine ax p.buf.evs.length (fun k => []) (fun _ => []) (fun k => [(1, .arr 63 5 (fL [.v (.int .u8 0), .v (.int .u16 0), .v (.int .u32 0), .v (.slice none 0 0), .v (.slice none 0 0)] M k) false), (0, .arr 40 1 L false)]) 2 (fun _ => True) (ac [] ?_) trivial (fun g k => by simp -implicitDefEqProofs only [go_sem, aa]) (by omega) (fun g => by simp -implicitDefEqProofs only [go_sem, aa]) (fun k hk _ => ?_) (fun _ => ?_)
  ·repeat first | simp -implicitDefEqProofs only [go_sem, aa, m5, hMl] | with_reducible refine gl_ ?_
   first | rfl | exact ⟨rfl, rfl⟩
  ·have hk2 : k < M.length := by omega
   have hge : M[k]? = some (bm p.buf.evs[k]) := by subst hE; rw [List.getElem?_map, List.getElem?_eq_getElem hk]; rfl
   have hge2 : M[k] = bm p.buf.evs[k] := by rw [List.getElem?_eq_getElem hk2] at hge; exact Option.some.inj hge
   repeat first | simp -implicitDefEqProofs only [go_sem, aa, hge, d8 hk2, d9 (Nat.le_of_lt hk2), List.contains_nil] | with_reducible first | refine gl_ ?_ | refine ga_ ?_ | refine gn_ ?_
   refine CallS.eq (wC p.buf.evs[k] (hev2 _ (List.getElem_mem hk)).1 (hev2 _ (List.getElem_mem hk)).2) ws_ (.inl ws_) ?_
   repeat first | simp -implicitDefEqProofs only [go_sem, aa, d8 hk2, d9 (Nat.le_of_lt hk2), List.contains_nil] | with_reducible first | refine gl_ ?_ | refine ga_ ?_ | refine gn_ ?_
   refine ⟨k + 1, ac [] ?_, rfl⟩
   refine g2_ ?_
   rw [← jd hk2, hge2]
   rfl
  ·rw [← hMl]
   repeat first | simp -implicitDefEqProofs only [go_sem, aa, jv] | with_reducible first | refine gl_ ?_ | refine ga_ ?_ | refine gn_ ?_
   refine CallS.eq (wY (p.pulls.map dd) (by rw [List.length_map]; omega)) ws_ (.inl ws_) ?_
   refine g2_ ?_
   refine ae ?_ rfl
   subst hL hE
   repeat first | simp -implicitDefEqProofs only [go_sem, aa, List.take_of_length_le (Nat.le_refl _)] | with_reducible refine gl_ ?_
end Go.Proofs.YtlaefellhnkfbaaGreat.V

set_option maxRecDepth 10000
namespace Go.Eng
theorem jg {P : Program} {Q : Exit → DS → Prop} {ds : DS} {a b : Code} {c : Bool} (h1 : c = true → vc2 P a Q ds) (h2 : c = false → vc2 P b Q ds) : fk P (.d (.v (.bool c))) a b Q ds := by
 cases c with
 | true => rw [gp]; exact h1 rfl
 | false => rw [fB]; exact h2 rfl
theorem ad4 {x : UInt16} : ((x.toNat : Int) == 65535) = decide (x = 65535) := by
 have := eX (x := x) (y := 65535)
 exact this
def bM (c : av) (p : ak) : ak × Int :=
 if p.up = true then (p, 54) else if p.inc = 65535 then (p, 55) else
  let q := bN c p.node
  ({ q with inc := p.inc + 1, up := true, table := q.table.set p.node.toNat ⟨p.inc + 1, 1, 0⟩ }, 0)
end Go.Eng
namespace Go.Proofs.YtlaefellhnkfbaaGreat.V
open Go.Eng
attribute [local go_sem] aP ah fzD plR bB bn aI bC aE aq bm dd z8 z16 z32 z64 ar
theorem oI (c : av) (p : ak) (hp : okP p) : Con2 Tryz.prog 17 [.agg (aE c), .agg (aq p)] (· = plR (.tup [.agg (aq (bM c p).1), .v (.int .i64 (bM c p).2)])) := by
 refine Con2.ofEmb ?_
 refine af Ty.mixed Tryz.func17 rfl (by kernel_rfl) (by kernel_rfl) rfl [.cell 4 49, .tmp 5] rfl ?_
 refine g2_ ?_
 refine g2_ ?_
 refine jg (fun hu => ?_) (fun hu => ?_)
 ·have e : bM c p = (p, 54) := by unfold bM; rw [if_pos hu]
  rw [e]
  refine g2_ ?_
  refine CallS.eq (aM p hp) ws_ (.inl ws_) ?_
  refine g2_ ?_
  refine ae ?_ rfl
  exact ws_
 ·refine g2_ ?_
  rw [ad4]
  refine bc (fun h2 => ?_) (fun h2 => ?_)
  ·have e : bM c p = (p, 55) := by unfold bM; rw [if_neg (by simp [hu]), if_pos h2]
   rw [e]
   refine g2_ ?_
   refine CallS.eq (aM p hp) ws_ (.inl ws_) ?_
   refine g2_ ?_
   refine ae ?_ rfl
   exact ws_
  ·refine g2_ ?_
   have hC := aaB c p.node
   have e : bM c p = ({ bN c p.node with inc := p.inc + 1, up := true, table := (bN c p.node).table.set p.node.toNat ⟨p.inc + 1, 1, 0⟩ }, 0) := by
    unfold bM; rw [if_neg (by simp [hu]), if_neg h2]
   have hlen : (bN c p.node).table.length ≤ 12 := by simp [bN]; omega
   rw [e]
   generalize bN c p.node = q at hC hlen
   refine CallS.eq hC ws_ (.inl ws_) ?_
   repeat first | simp -implicitDefEqProofs only [go_sem, aa, List.set_cons_succ, List.set_cons_zero] | with_reducible first | refine gl_ ?_ | refine ga_ ?_ | refine gn_ ?_
   have hinc : p.inc.toNat < 65535 := by
    have h3 := p.inc.toNat_lt
    have : p.inc.toNat ≠ 65535 := fun h => h2 (by apply UInt16.toNat_inj.1; exact h)
    omega
   have hinc2 : ((p.inc + 1 : UInt16).toNat : Int) = (p.inc.toNat : Int) + 1 := by
    rw [UInt16.toNat_add]
    have : (1 : UInt16).toNat = 1 := rfl
    omega
   have hnode := p.node.toNat_lt
   refine o8 (by omega) ?_
   repeat first | simp -implicitDefEqProofs only [go_sem, aa, List.set_cons_succ, List.set_cons_zero, List.length_map] | with_reducible first | refine gl_ ?_ | refine ga_ ?_ | refine gn_ ?_
   refine bc (fun h3 => ?_) (fun h3 => ?_)
   ·have h4 : p.node.toNat < q.table.length := by omega
    repeat first | simp -implicitDefEqProofs only [go_sem, aa, au h4, List.length_map, List.contains_nil] | with_reducible first | refine gl_ ?_ | refine ga_ ?_ | refine gn_ ?_
    refine ae ?_ rfl
    repeat first | simp -implicitDefEqProofs only [go_sem, aa, List.map_set, hinc2, List.length_set, List.length_map, List.take_of_length_le (Nat.le_refl _)] | with_reducible refine gl_ ?_
    rw [List.take_of_length_le (by simp)]
    rfl
   ·rw [List.set_eq_of_length_le (by omega)]
    repeat first | simp -implicitDefEqProofs only [go_sem, aa, List.set_cons_succ, List.set_cons_zero, List.length_map] | with_reducible first | refine gl_ ?_ | refine ga_ ?_ | refine gn_ ?_
    refine ae ?_ rfl
    repeat first | simp -implicitDefEqProofs only [go_sem, aa, hinc2, List.length_map, bS] | with_reducible refine gl_ ?_
end Go.Proofs.YtlaefellhnkfbaaGreat.V

set_option maxRecDepth 10000
namespace Go.Eng
theorem akW : ((UInt8.toNat 1 : Nat) : Int) = 1 := rfl
theorem akR : ((UInt8.toNat 2 : Nat) : Int) = 2 := rfl
theorem ajW : ((UInt8.toNat 3 : Nat) : Int) = 3 := rfl
theorem am1 : ((UInt8.toNat 4 : Nat) : Int) = 4 := rfl
theorem alM : ((UInt8.toNat 5 : Nat) : Int) = 5 := rfl
theorem aj6 : ((UInt8.toNat 6 : Nat) : Int) = 6 := rfl
theorem ane : ((UInt8.toNat 7 : Nat) : Int) = 7 := rfl
theorem ak2 : ((UInt8.toNat 8 : Nat) : Int) = 8 := rfl
theorem am4 : ((UInt8.toNat 9 : Nat) : Int) = 9 := rfl
theorem akN : ((UInt8.toNat 10 : Nat) : Int) = 10 := rfl
theorem aj_ : ((UInt8.toNat 11 : Nat) : Int) = 11 := rfl
theorem alE : ((UInt8.toNat 12 : Nat) : Int) = 12 := rfl
attribute [go_sem] akW akR ajW am1 alM aj6 ane ak2 am4 akN aj_ alE
theorem oH : bO [] := ⟨by simp, by simp⟩
theorem yO (c : av) (node : UInt8) : okP (bN c node) := by
 refine ⟨by simp [bN], oH, oH, by simp [bN, aR], by simp [bN, aR], oH, ?_, ?_, ?_, ?_, by simp [bN], by simp [bN]⟩
 ·simp [bN]; omega
 ·simp [bN]; omega
 ·simp [bN]; omega
 ·refine ⟨by simp [bN]; omega, fun l hl => ?_⟩
  have := List.eq_of_mem_replicate hl
  rw [this, hX]; omega
theorem mP {α : Type} (f : α → α) (l : List α) {i : Nat} (h : i < l.length) : l.modify i f = l.set i (f l[i]) := by
 apply List.ext_getElem?
 intro j
 rw [List.getElem?_modify, List.getElem?_set]
 by_cases e : i = j
 ·subst e; simp [h]
 ·simp [e]
def eZ (c : av) (p : ak) (to : UInt8) : List aY × Int :=
 if p.up = false then ([], 53) else if c.nodes ≤ to.toNat ∨ to = p.node then ([], 2) else ([{ bP p 1 to with list := [aX p] }], 0)
def iE (inc : UInt16) (m : am) : am := if m.inc < inc ∨ (inc = m.inc ∧ 0 < inc ∧ m.state ≠ 3) then ⟨inc, 1, 0⟩ else m
def gy (l : List am) (i : UInt8) (inc : UInt16) : List am := l.modify i.toNat (iE inc)
end Go.Eng
namespace Go.Proofs.YtlaefellhnkfbaaGreat.V
open Go.Eng
attribute [local go_sem] aP ah fzD plR bB bn aI bC aE aq bm dd z8 z16 z32 z64 ar
theorem acw (c : av) (node : UInt8) : Con2 Tryz.prog 10 [.agg (aE c), .v (.int .u8 node.toNat)] (· = plR (.tup [.agg (aq (bM c (bN c node)).1), .v (.bool (decide ((bM c (bN c node)).2 = 0) && (bM c (bN c node)).1.up))])) := by
  refine Con2.ofEmb ?_
  have hs := oI c (bN c node) (yO c node)
  have hn := n8 c node
  generalize bN c node = q at hs hn
  generalize bM c q = r at hs
  obtain ⟨r, e⟩ := r
  refine af Ty.mixed Tryz.func10 rfl (by kernel_rfl) (by kernel_rfl) rfl [.cell 4 49, .tmp 5] rfl ?_
  refine g2_ ?_
  refine g2_ ?_
  refine .inr (.inl ⟨(.fl 0 (.fl 1 (.fl 2 (.eff 3 true (.eff 4 false (.fl 5 (.fl 6 (.fl 7 (.eff 8 true (.eff 9 false (.fl 10 .done) .no) .no)))) (.eff 8 true (.eff 4 false (.fl 5 (.fl 6 (.fl 7 (.eff 9 false (.fl 10 .done) .no)))) .no) .no)) (.eff 8 true (.eff 3 true (.eff 4 false (.fl 5 (.fl 6 (.fl 7 (.eff 9 false (.fl 10 .done) .no)))) .no) .no) .no))))), by kernel_rfl, ?_⟩)
  refine g2_ ?_
  repeat' (first
    | (with_reducible refine And.intro ?_ ?_)
    | (refine CallS.eq hn ?_ (.inl ?_) ?_; (focus (((try (with_reducible refine ab ?_)); simp -implicitDefEqProofs only [go_sem, aa]; repeat ((with_reducible refine ab ?_); simp -implicitDefEqProofs only [go_sem, aa])); done)); (focus (((try (with_reducible refine ab ?_)); simp -implicitDefEqProofs only [go_sem, aa]; repeat ((with_reducible refine ab ?_); simp -implicitDefEqProofs only [go_sem, aa])); done)); refine g2_ ?_)
    | (refine CallS.eq hs ?_ (.inl ?_) ?_; (focus (((try (with_reducible refine ab ?_)); simp -implicitDefEqProofs only [go_sem, aa]; repeat ((with_reducible refine ab ?_); simp -implicitDefEqProofs only [go_sem, aa])); done)); (focus (((try (with_reducible refine ab ?_)); simp -implicitDefEqProofs only [go_sem, aa]; repeat ((with_reducible refine ab ?_); simp -implicitDefEqProofs only [go_sem, aa])); done)); refine g2_ ?_)
    | (with_reducible refine ab ?_; refine g2_ ?_))
  all_goals
    refine .inr (.inr (.inl ⟨oF [0, 1, 2, 3, 4, 5, 6] (oT 7 (oF [8] [])), [4], by kernel_rfl, ?_⟩))
    refine g2_ ?_
    refine nJ (fun h => ?_) (fun h => ?_)
    all_goals
      rw [h]
      refine g2_ ?_
      refine ae ?_ rfl
      first
        | (have h2 : e = 0 := by simpa using h
           repeat first | simp -implicitDefEqProofs only [go_sem, aa, h2] | with_reducible refine gl_ ?_)
        | (have h2 : ¬ e = 0 := by simpa using h
           repeat first | simp -implicitDefEqProofs only [go_sem, aa, h2] | with_reducible refine gl_ ?_)
theorem p6 (c : av) (p : ak) (to : UInt8) (hp : okP p) : Con2 Tryz.prog 11 [.agg (aE c), .agg (aq p), .v (.int .u8 to.toNat)] (· = plR (.tup [.fz 17 ((eZ c p to).1.map ar), .v (.int .i64 (eZ c p to).2)])) := by
 refine Con2.ofEmb ?_
 have hn := p.node.toNat_lt
 have ht := to.toNat_lt
 refine af Ty.mixed Tryz.func11 rfl (by kernel_rfl) (by kernel_rfl) rfl [.tmp 6, .tmp 7] rfl ?_
 refine g2_ ?_
 refine g2_ ?_
 cases hu : p.up with
 | false =>
  have e : eZ c p to = ([], 53) := by unfold eZ; rw [if_pos hu]
  rw [e]
  refine g2_ ?_
  refine ae ?_ rfl
  exact ws_
 | true =>
  refine g2_ ?_
  have hw := eh p 1 to
  have hs := fC p hp
  by_cases h1 : c.nodes ≤ (to.toNat : Int)
  ·have e : eZ c p to = ([], 2) := by unfold eZ; rw [if_neg (by simp [hu]), if_pos (.inl h1)]
   rw [e, decide_eq_true h1]
   refine g2_ ?_
   refine ae ?_ rfl
   exact ws_
  ·rw [decide_eq_false h1]
   refine g2_ ?_
   rw [co]
   refine bc (fun h2 => ?_) (fun h2 => ?_)
   ·have e : eZ c p to = ([], 2) := by unfold eZ; rw [if_neg (by simp [hu]), if_pos (.inr h2)]
    rw [e]
    refine g2_ ?_
    refine ae ?_ rfl
    exact ws_
   ·have e : eZ c p to = ([{ bP p 1 to with list := [aX p] }], 0) := by unfold eZ; rw [if_neg (by simp [hu]), if_neg (by simp [h1, h2])]
    rw [e]
    refine g2_ ?_
    refine CallS.eq hw (by simp -implicitDefEqProofs only [go_sem, aa, hu]) (.inl ws_) ?_
    refine g2_ ?_
    refine CallS.eq hs (by simp -implicitDefEqProofs only [go_sem, aa, hu]) (.inl ws_) ?_
    refine g2_ ?_
    refine ae ?_ rfl
    repeat first | simp -implicitDefEqProofs only [go_sem, aa, bP, aX, List.map_cons, List.map_nil] | with_reducible refine gl_ ?_
theorem gt (l : List (List DV)) (hl : l.length ≤ 1000000) : Con2 Tryz.prog 93 [.fz 3 l] (· = bB 71 3 l) := by
 by_cases h0 : l = []
 ·subst h0
  refine af Ty.mixed Tryz.func93 rfl (by kernel_rfl) (by kernel_rfl) rfl [.tmp 2] rfl ?_
  refine g2_ ?_
  refine g2_ ?_
  refine ⟨fun h => h.elim, fun t => ?_⟩
  cases t with
  | true =>
   refine g2_ ?_
   exact ⟨_, rfl, ac [(0, .nil 3)] ws_⟩
  | false =>
   refine g2_ ?_
   exact ⟨_, rfl, ac [(0, .to 0)] ws_⟩
 ·have hn : 0 < l.length := List.length_pos_iff.2 h0
  refine af Ty.mixed Tryz.func93 rfl (by kernel_rfl) (by kernel_rfl) rfl [.tmp 2] rfl ?_
  refine g2_ ?_
  refine g2_ ?_
  refine ⟨fun _ => ⟨by omega, by omega, _, rfl, ac [(0, .to 0)] ws_⟩, fun h => by omega⟩
theorem vq (l : List am) (i : UInt8) (inc : UInt16) (hl : l.length ≤ 1000) : Con2 Tryz.prog 98 [.fz 3 (l.map aI), .v (.int .u8 i.toNat), .v (.int .u16 inc.toNat)] (· = plR (.fz 3 ((gy l i inc).map aI))) := by
 refine Con2.ofEmb ?_
 have hi := i.toNat_lt
 refine af Ty.mixed Tryz.func98 rfl (by kernel_rfl) (by kernel_rfl) rfl [.tmp 6] rfl ?_
 refine g2_ ?_
 refine g2_ ?_
 refine CallS.inline Ty.mixed Tryz.func159 rfl (by kernel_rfl) (by kernel_rfl) rfl [.tmp 6] rfl (Vc2.of ?_)
 refine g2_ ?_
 refine g2_ ?_
 refine CallS.eq (gt (l.map aI) (by rw [List.length_map]; omega)) ws_ (.inl ws_) ?_
 repeat first | simp -implicitDefEqProofs only [go_sem, aa, List.length_map] | with_reducible first | refine gl_ ?_ | refine ga_ ?_ | refine gn_ ?_
 by_cases h1 : i.toNat < l.length
 ·have e1 : decide ((i.toNat : Int) < (l.length : Int)) = true := decide_eq_true (by omega)
  rw [e1]
  repeat first | simp -implicitDefEqProofs only [go_sem, aa, List.length_map, au h1] | with_reducible first | refine gl_ ?_ | refine ga_ ?_ | refine gn_ ?_
  refine CallS.inline Ty.mixed Tryz.func160 rfl (by kernel_rfl) (by kernel_rfl) rfl [.cell 3 71] rfl (Vc2.of ?_)
  refine g2_ ?_
  refine g2_ ?_
  have e2 : gy l i inc = l.set i.toNat (iE inc l[i.toNat]) := by rw [gy, mP _ _ h1]
  rw [e2]
  generalize l[i.toNat] = m
  rw [eX]
  by_cases hA : inc = m.inc
  ·have hD : decide ((m.inc.toNat : Int) < (inc.toNat : Int)) = false := by rw [hA]; exact decide_eq_false (by omega)
   rw [decide_eq_true hA]
   refine g2_ ?_
   by_cases hB : (0 : Int) < (inc.toNat : Int)
   ·have hB2 : 0 < inc := by rw [UInt16.lt_iff_toNat_lt]; have : (0 : UInt16).toNat = 0 := rfl; omega
    rw [decide_eq_true hB]
    refine g2_ ?_
    by_cases hC : m.state = 3
    ·have hC2 : ((m.state.toNat : Int) != 3) = false := by rw [hC]; rfl
     rw [hC2]
     refine g2_ ?_
     rw [hD]
     repeat first | simp -implicitDefEqProofs only [go_sem, aa, List.length_map, List.contains_nil, au h1] | with_reducible first | refine gl_ ?_ | refine ga_ ?_ | refine gn_ ?_
     refine ae ?_ rfl
     have e3 : iE inc m = m := if_neg (by rw [hA, hC]; simp)
     repeat first | simp -implicitDefEqProofs only [go_sem, aa, e3, List.map_set, List.length_map, List.length_set, List.take_of_length_le (Nat.le_refl _)] | with_reducible refine gl_ ?_
     rw [List.take_of_length_le (by simp)]
    ·have hC2 : ((m.state.toNat : Int) != 3) = true := by
      have : ((m.state.toNat : Int) != (3 : UInt8).toNat) = !decide (m.state = 3) := by rw [bne, co]
      rw [show ((3 : UInt8).toNat : Int) = 3 from rfl] at this
      rw [this, decide_eq_false hC]; rfl
     rw [hC2]
     refine g2_ ?_
     rw [hD]
     repeat first | simp -implicitDefEqProofs only [go_sem, aa, List.length_map, List.contains_nil, au h1] | with_reducible first | refine gl_ ?_ | refine ga_ ?_ | refine gn_ ?_
     refine ae ?_ rfl
     have e3 : iE inc m = ⟨inc, 1, 0⟩ := if_pos (.inr ⟨hA, hB2, hC⟩)
     repeat first | simp -implicitDefEqProofs only [go_sem, aa, e3, List.map_set, List.length_map, List.length_set, List.take_of_length_le (Nat.le_refl _)] | with_reducible refine gl_ ?_
     rw [List.take_of_length_le (by simp)]
   ·have hB2 : ¬ 0 < inc := by rw [UInt16.lt_iff_toNat_lt]; have : (0 : UInt16).toNat = 0 := rfl; omega
    rw [decide_eq_false hB]
    refine g2_ ?_
    rw [hD]
    repeat first | simp -implicitDefEqProofs only [go_sem, aa, List.length_map, List.contains_nil, au h1] | with_reducible first | refine gl_ ?_ | refine ga_ ?_ | refine gn_ ?_
    refine ae ?_ rfl
    have e3 : iE inc m = m := if_neg (by rw [← hA]; simp [hB2])
    repeat first | simp -implicitDefEqProofs only [go_sem, aa, e3, List.map_set, List.length_map, List.length_set, List.take_of_length_le (Nat.le_refl _)] | with_reducible refine gl_ ?_
    rw [List.take_of_length_le (by simp)]
  ·rw [decide_eq_false hA]
   refine g2_ ?_
   by_cases hD : (m.inc.toNat : Int) < (inc.toNat : Int)
   ·rw [decide_eq_true hD]
    have hD2 : m.inc < inc := by rw [UInt16.lt_iff_toNat_lt]; omega
    repeat first | simp -implicitDefEqProofs only [go_sem, aa, List.length_map, List.contains_nil, au h1] | with_reducible first | refine gl_ ?_ | refine ga_ ?_ | refine gn_ ?_
    refine ae ?_ rfl
    have e3 : iE inc m = ⟨inc, 1, 0⟩ := if_pos (.inl hD2)
    repeat first | simp -implicitDefEqProofs only [go_sem, aa, e3, List.map_set, List.length_map, List.length_set, List.take_of_length_le (Nat.le_refl _)] | with_reducible refine gl_ ?_
    rw [List.take_of_length_le (by simp)]
   ·rw [decide_eq_false hD]
    have hD2 : ¬ m.inc < inc := by rw [UInt16.lt_iff_toNat_lt]; omega
    repeat first | simp -implicitDefEqProofs only [go_sem, aa, List.length_map, List.contains_nil, au h1] | with_reducible first | refine gl_ ?_ | refine ga_ ?_ | refine gn_ ?_
    refine ae ?_ rfl
    have e3 : iE inc m = m := if_neg (by simp [hD2, hA])
    repeat first | simp -implicitDefEqProofs only [go_sem, aa, e3, List.map_set, List.length_map, List.length_set, List.take_of_length_le (Nat.le_refl _)] | with_reducible refine gl_ ?_
    rw [List.take_of_length_le (by simp)]
 ·have e1 : decide ((i.toNat : Int) < (l.length : Int)) = false := decide_eq_false (by omega)
  have e2 : gy l i inc = l := by rw [gy, List.modify_eq_self (by omega)]
  rw [e1, e2]
  refine g2_ ?_
  refine ae ?_ rfl
  repeat first | simp -implicitDefEqProofs only [go_sem, aa, List.length_map, List.take_of_length_le (Nat.le_refl _), bS] | with_reducible refine gl_ ?_
end Go.Proofs.YtlaefellhnkfbaaGreat.V

set_option maxRecDepth 10000
namespace Go.Eng
def kR (l : List (List da)) : Prop := l.length ≤ 256 ∧ ∀ r ∈ l, r.length ≤ 1000
def fx (l : List (List da)) : List (List DV) := l.map fun r => [.fz 3 (r.map bn)]
def fy (l : List (List da)) (i : UInt8) : List (List da) := l.set i.toNat (fo l.length)
def aL (c : av) (p : ak) (node : UInt8) (inc : UInt16) : ak × Bool :=
 if c.nodes ≤ node.toNat ∨ p.table.length ≤ node.toNat ∨ node = p.node ∨ inc = 0 then (p, false) else
  match p.table[node.toNat]? with
  | none => (p, false)
  | some m => if inc < m.inc ∨ (inc = m.inc ∧ m.state = 3) then (p, false)
   else ({ p with table := gy p.table node inc, reports := if m.inc < inc then fy p.reports node else p.reports }, true)
theorem pW (x : UInt16) : ((x.toNat : Int) == 0) = decide (x = 0) := eX x 0
theorem ahT (x : UInt8) : ((x.toNat : Int) == 3) = decide (x = 3) := co x 3
theorem aF (l : List (List da)) : (l.map fun r => [DV.fz 3 (r.map bn)]) = fx l := rfl
end Go.Eng
namespace Go.Proofs.YtlaefellhnkfbaaGreat.V
open Go.Eng
attribute [local go_sem] aP ah fzD plR bB bn aI bC aE aq bm dd z8 z16 z32 z64 ar
theorem xj (l : List (List da)) (hl : kR l) : Con2 Tryz.prog 161 [.fz 1 (fx l)] (· = bB 40 1 (fx l)) := by
 obtain ⟨hl1, hl2⟩ := hl
 have hLl : (fx l).length = l.length := by rw [fx, List.length_map]
 have hge0 : ∀ k (hk : k < l.length), (fx l)[k]? = some [DV.fz 3 (l[k].map bn)] := fun k hk => by rw [fx, List.getElem?_map, List.getElem?_eq_getElem hk]; rfl
 generalize fx l = L at hLl hge0
 refine af Ty.mixed Tryz.func161 rfl (by kernel_rfl) (by kernel_rfl) rfl [.tmp 2] rfl ?_
 refine g2_ ?_
 repeat first | simp -implicitDefEqProofs only [go_sem, aa, hLl] | with_reducible first | refine gl_ ?_ | refine ga_ ?_ | refine gn_ ?_
 refine ax l.length (fun k => []) (fun _ => []) (fun k => [(0, .arr 40 1 (fL [.v (.slice none 0 0)] L k) false)]) 1 (fun _ => True) (ac [] ?_) trivial (fun g k => by simp -implicitDefEqProofs only [go_sem, aa]) (by omega) (fun g => by simp -implicitDefEqProofs only [go_sem, aa]) (fun k hk _ => ?_) (fun _ => ?_)
 ·repeat first | simp -implicitDefEqProofs only [go_sem, aa, m5, hLl] | with_reducible refine gl_ ?_
  first | rfl | exact ⟨rfl, rfl⟩
 ·have hk2 : k < L.length := by omega
  have hge := hge0 k hk
  have hge2 : L[k] = [DV.fz 3 (l[k].map bn)] := by rw [List.getElem?_eq_getElem hk2] at hge; exact Option.some.inj hge
  repeat first | simp -implicitDefEqProofs only [go_sem, aa, hge, d8 hk2, d9 (Nat.le_of_lt hk2), List.contains_nil] | with_reducible first | refine gl_ ?_ | refine ga_ ?_ | refine gn_ ?_
  refine CallS.eq (jU (l[k].map bn) (by rw [List.length_map]; have := hl2 _ (List.getElem_mem hk); omega)) ws_ (.inl ws_) ?_
  repeat first | simp -implicitDefEqProofs only [go_sem, aa, d8 hk2, d9 (Nat.le_of_lt hk2), List.contains_nil] | with_reducible first | refine gl_ ?_ | refine ga_ ?_ | refine gn_ ?_
  refine ⟨k + 1, ac [] ?_, rfl⟩
  refine g2_ ?_
  rw [← jd hk2, hge2]
 ·rw [← hLl]
  repeat first | simp -implicitDefEqProofs only [go_sem, aa, jv] | with_reducible first | refine gl_ ?_ | refine ga_ ?_ | refine gn_ ?_
  exact ⟨_, rfl, ac [(0, .to 0)] ws_⟩
theorem nl (l : List (List da)) (i : UInt8) (hl : kR l) : Con2 Tryz.prog 99 [.fz 1 (fx l), .v (.int .u8 i.toNat)] (· = plR (.fz 1 (fx (fy l i)))) := by
 refine Con2.ofEmb ?_
 have hl1 := hl.1
 have hi := i.toNat_lt
 have hLl : (fx l).length = l.length := by rw [fx, List.length_map]
 refine af Ty.mixed Tryz.func99 rfl (by kernel_rfl) (by kernel_rfl) rfl [.tmp 4] rfl ?_
 refine g2_ ?_
 refine g2_ ?_
 refine CallS.eq (xj l hl) ws_ (.inl ws_) ?_
 repeat first | simp -implicitDefEqProofs only [go_sem, aa, hLl] | with_reducible first | refine gl_ ?_ | refine ga_ ?_ | refine gn_ ?_
 refine bc (fun h => ?_) (fun h => ?_)
 ·have h1 : i.toNat < l.length := by omega
  have h2 : i.toNat < (fx l).length := by omega
  have hg := List.getElem?_eq_getElem h2
  have hm : (if (256 : Int) < (l.length : Int) then (256 : Int) else (l.length : Int)) = l.length := if_neg (by omega)
  repeat first | simp -implicitDefEqProofs only [go_sem, aa, hLl, hm] | with_reducible first | refine gl_ ?_ | refine ga_ ?_ | refine gn_ ?_
  refine CallS.eq (pL l.length hl1) ws_ (.inl ws_) ?_
  repeat first | simp -implicitDefEqProofs only [go_sem, aa, hLl, hg, List.contains_nil] | with_reducible first | refine gl_ ?_ | refine ga_ ?_ | refine gn_ ?_
  refine ae ?_ rfl
  repeat first | simp -implicitDefEqProofs only [go_sem, aa, hLl, List.length_set, List.take_of_length_le (Nat.le_refl _)] | with_reducible refine gl_ ?_
  have e1 : (fx l)[i.toNat] = [.fz 3 (l[i.toNat].map bn)] := by simp [fx]
  rw [List.take_of_length_le (by simp [hLl]), e1, fx, fy, List.map_set]
  rfl
 ·have e : fy l i = l := List.set_eq_of_length_le (by omega)
  rw [e]
  refine g2_ ?_
  refine ae ?_ rfl
  repeat first | simp -implicitDefEqProofs only [go_sem, aa, hLl, bS] | with_reducible refine gl_ ?_
  rw [List.take_of_length_le (by omega)]
theorem cG (c : av) (p : ak) (node : UInt8) (inc : UInt16) (hp : okP p) (hr : kR p.reports) : Con2 Tryz.prog 45 [.agg (aE c), .agg (aq p), .v (.int .u8 node.toNat), .v (.int .u16 inc.toNat)] (· = plR (.tup [.agg (aq (aL c p node inc).1), .v (.bool (aL c p node inc).2)])) := by
 refine Con2.ofEmb ?_
 have hi := node.toNat_lt
 have hj := p.node.toNat_lt
 have htb := hp.table
 refine af Ty.mixed Tryz.func45 rfl (by kernel_rfl) (by kernel_rfl) rfl [.cell 8 49, .tmp 9] rfl ?_
 refine g2_ ?_
 repeat first | simp -implicitDefEqProofs only [go_sem, aa, aF] | with_reducible first | refine gl_ ?_ | refine ga_ ?_ | refine gn_ ?_
 by_cases h1 : c.nodes ≤ (node.toNat : Int)
 ·have e : aL c p node inc = (p, false) := if_pos (.inl h1)
  rw [e, decide_eq_true h1]
  repeat first | simp -implicitDefEqProofs only [go_sem, aa, aF] | with_reducible first | refine gl_ ?_ | refine ga_ ?_ | refine gn_ ?_
  refine ae ?_ rfl
  exact ws_
 rw [decide_eq_false h1]
 repeat first | simp -implicitDefEqProofs only [go_sem, aa, aF] | with_reducible first | refine gl_ ?_ | refine ga_ ?_ | refine gn_ ?_
 by_cases h2 : p.table.length ≤ node.toNat
 ·have e : aL c p node inc = (p, false) := if_pos (.inr (.inl h2))
  rw [e, decide_eq_true (show (p.table.length : Int) ≤ (node.toNat : Int) by omega)]
  repeat first | simp -implicitDefEqProofs only [go_sem, aa, aF] | with_reducible first | refine gl_ ?_ | refine ga_ ?_ | refine gn_ ?_
  refine ae ?_ rfl
  exact ws_
 rw [decide_eq_false (show ¬ (p.table.length : Int) ≤ (node.toNat : Int) by omega)]
 repeat first | simp -implicitDefEqProofs only [go_sem, aa, aF] | with_reducible first | refine gl_ ?_ | refine ga_ ?_ | refine gn_ ?_
 rw [co]
 by_cases h3 : node = p.node
 ·have e : aL c p node inc = (p, false) := if_pos (.inr (.inr (.inl h3)))
  rw [e, decide_eq_true h3]
  repeat first | simp -implicitDefEqProofs only [go_sem, aa, aF] | with_reducible first | refine gl_ ?_ | refine ga_ ?_ | refine gn_ ?_
  refine ae ?_ rfl
  exact ws_
 rw [decide_eq_false h3]
 repeat first | simp -implicitDefEqProofs only [go_sem, aa, aF] | with_reducible first | refine gl_ ?_ | refine ga_ ?_ | refine gn_ ?_
 rw [pW]
 refine bc (fun h4 => ?_) (fun h4 => ?_)
 ·have e : aL c p node inc = (p, false) := if_pos (.inr (.inr (.inr h4)))
  rw [e]
  repeat first | simp -implicitDefEqProofs only [go_sem, aa, aF] | with_reducible first | refine gl_ ?_ | refine ga_ ?_ | refine gn_ ?_
  refine ae ?_ rfl
  exact ws_
 have hk : node.toNat < p.table.length := by omega
 repeat first | simp -implicitDefEqProofs only [go_sem, aa, aF, au hk] | with_reducible first | refine gl_ ?_ | refine ga_ ?_ | refine gn_ ?_
 have e0 : aL c p node inc = if inc < p.table[node.toNat].inc ∨ (inc = p.table[node.toNat].inc ∧ p.table[node.toNat].state = 3) then (p, false)
   else ({ p with table := gy p.table node inc, reports := if p.table[node.toNat].inc < inc then fy p.reports node else p.reports }, true) := by
  unfold aL
  rw [if_neg (by simp [h1, h2, h3, h4]), List.getElem?_eq_getElem hk]
 rw [e0]
 have hth := vq p.table node inc htb
 generalize p.table[node.toNat] = m
 by_cases h5 : (inc.toNat : Int) < (m.inc.toNat : Int)
 ·have h6 : inc < m.inc := by rw [UInt16.lt_iff_toNat_lt]; omega
  rw [if_pos (.inl h6), decide_eq_true h5]
  repeat first | simp -implicitDefEqProofs only [go_sem, aa, aF] | with_reducible first | refine gl_ ?_ | refine ga_ ?_ | refine gn_ ?_
  refine ae ?_ rfl
  exact ws_
 have h6 : ¬ inc < m.inc := by rw [UInt16.lt_iff_toNat_lt]; omega
 rw [decide_eq_false h5]
 repeat first | simp -implicitDefEqProofs only [go_sem, aa, aF] | with_reducible first | refine gl_ ?_ | refine ga_ ?_ | refine gn_ ?_
 rw [eX]
 by_cases h7 : inc = m.inc ∧ m.state = 3
 ·rw [if_pos (.inr h7), decide_eq_true h7.1]
  repeat first | simp -implicitDefEqProofs only [go_sem, aa, aF] | with_reducible first | refine gl_ ?_ | refine ga_ ?_ | refine gn_ ?_
  rw [ahT, decide_eq_true h7.2]
  repeat first | simp -implicitDefEqProofs only [go_sem, aa, aF] | with_reducible first | refine gl_ ?_ | refine ga_ ?_ | refine gn_ ?_
  refine ae ?_ rfl
  exact ws_
 rw [if_neg (by simp [h6]; exact fun a b => h7 ⟨a, b⟩)]
 by_cases hA : inc = m.inc
 ·have hs3 : ¬ m.state = 3 := fun h => h7 ⟨hA, h⟩
  have h8 : ¬ (m.inc.toNat : Int) < (inc.toNat : Int) := by rw [hA]; omega
  have h9 : ¬ m.inc < inc := by rw [UInt16.lt_iff_toNat_lt]; omega
  rw [decide_eq_true hA, if_neg h9]
  repeat first | simp -implicitDefEqProofs only [go_sem, aa, aF] | with_reducible first | refine gl_ ?_ | refine ga_ ?_ | refine gn_ ?_
  rw [ahT, decide_eq_false hs3]
  repeat first | simp -implicitDefEqProofs only [go_sem, aa, aF] | with_reducible first | refine gl_ ?_ | refine ga_ ?_ | refine gn_ ?_
  refine CallS.eq hth ws_ (.inl ws_) ?_
  repeat first | simp -implicitDefEqProofs only [go_sem, aa, aF] | with_reducible first | refine gl_ ?_ | refine ga_ ?_ | refine gn_ ?_
  rw [decide_eq_false h8]
  repeat first | simp -implicitDefEqProofs only [go_sem, aa, aF] | with_reducible first | refine gl_ ?_ | refine ga_ ?_ | refine gn_ ?_
  refine ae ?_ rfl
  exact ws_
 ·have h8 : (m.inc.toNat : Int) < (inc.toNat : Int) := by
   have : m.inc.toNat ≠ inc.toNat := fun h => hA (UInt16.toNat_inj.1 h.symm)
   omega
  have h9 : m.inc < inc := by rw [UInt16.lt_iff_toNat_lt]; omega
  rw [decide_eq_false hA, if_pos h9]
  repeat first | simp -implicitDefEqProofs only [go_sem, aa, aF] | with_reducible first | refine gl_ ?_ | refine ga_ ?_ | refine gn_ ?_
  refine CallS.eq hth ws_ (.inl ws_) ?_
  repeat first | simp -implicitDefEqProofs only [go_sem, aa, aF] | with_reducible first | refine gl_ ?_ | refine ga_ ?_ | refine gn_ ?_
  rw [decide_eq_true h8]
  repeat first | simp -implicitDefEqProofs only [go_sem, aa, aF] | with_reducible first | refine gl_ ?_ | refine ga_ ?_ | refine gn_ ?_
  refine CallS.eq (nl p.reports node hr) ws_ (.inl ws_) ?_
  repeat first | simp -implicitDefEqProofs only [go_sem, aa, aF] | with_reducible first | refine gl_ ?_ | refine ga_ ?_ | refine gn_ ?_
  refine ae ?_ rfl
  repeat first | simp -implicitDefEqProofs only [go_sem, aa, aF] | with_reducible refine gl_ ?_
end Go.Proofs.YtlaefellhnkfbaaGreat.V

set_option maxRecDepth 10000
namespace Go.Eng
def cH (p : ak) (d : GDesc) : Bool :=
 if d.node = p.node then false else match p.table[d.node.toNat]? with
  | none => false
  | some m => decide (m.inc < d.inc) || (decide (d.inc = m.inc) && decide (m.state = 1))
def bk (p : ak) (l : List GDesc) : List GDesc := l.filter (cH p)
theorem akx (x : UInt8) : ((x.toNat : Int) == 1) = decide (x = 1) := co x 1
theorem i4 {α : Type} {f : α → Bool} {l : List α} {k : Nat} (h : k < l.length) : (l.take (k + 1)).filter f = (l.take k).filter f ++ (if f l[k] = true then [l[k]] else []) := by
 rw [List.take_add_one, List.getElem?_eq_getElem h, List.filter_append]
 simp only [Option.toList_some, List.filter_cons, List.filter_nil]
theorem lW {α : Type} {f : α → Bool} (l : List α) (k : Nat) : ((l.take k).filter f).length ≤ l.length := by
 have h1 := List.length_filter_le f (l.take k)
 rw [List.length_take] at h1
 omega
theorem dY {f : GDesc → Bool} {l : List GDesc} (h : bO l) : bO (l.filter f) := ⟨Nat.le_trans (List.length_filter_le _ _) h.1, fun d hd => h.2 d (List.mem_filter.1 hd).1⟩
end Go.Eng
namespace Go.Proofs.YtlaefellhnkfbaaGreat.V
open Go.Eng
attribute [local go_sem] aP ah fzD plR bB bn aI bC aE aq bm dd z8 z16 z32 z64 ar
def fq (c : av) (d : GDesc) : Bool := decide ((d.node.toNat : Int) < c.nodes) && decide ((1 : Int) ≤ (d.inc.toNat : Int)) && iG c.schema d.filter
def fZ (c : av) (l : List GDesc) : List GDesc := l.filter (fq c)
theorem abw (c : av) (l : List GDesc) (hc : c.schema.length ≤ 1000) (hl : bO l) : Con2 Tryz.prog 37 [.agg (aE c), fzD l] (· = bB 34 4 ((fZ c l).map ah)) := by
 have hb := hl.1
 refine af Ty.mixed Tryz.func37 rfl (by kernel_rfl) (by kernel_rfl) rfl [.tmp 4] rfl ?_
 refine g2_ ?_
 refine g2_ ?_
 refine ax l.length (fun k => [(5, .d (.rf 0 0 (fZ c (l.take k)).length))]) (fun _ => []) (fun k => [(0, .arr 34 4 ((fZ c (l.take k)).map ah) false)]) 1 (fun _ => True) (ac [(0, .nil 4)] ?_) trivial (fun g k => by simp -implicitDefEqProofs only [go_sem, aa]) (by omega) (fun g => by simp -implicitDefEqProofs only [go_sem, aa]) (fun k hk _ => ?_) (fun _ => ?_)
 ·repeat first | simp -implicitDefEqProofs only [go_sem, aa, List.take_zero, fZ, List.filter_nil] | with_reducible refine gl_ ?_
  first | rfl | exact ⟨rfl, rfl⟩
 ·have hdl := lW (f := fq c) l k
  have hdl2 : (fZ c (l.take k)).length ≤ l.length := hdl
  have hnd := l[k].node.toNat_lt
  have hsn : fZ c (l.take (k + 1)) = fZ c (l.take k) ++ (if fq c l[k] = true then [l[k]] else []) := i4 hk
  have hfr := tM c.schema l[k].filter (by omega) (by have := hl.2 _ (List.getElem_mem hk); omega)
  have hfc := gP l[k].filter (by have := hl.2 _ (List.getElem_mem hk); omega)
  repeat first | simp -implicitDefEqProofs only [go_sem, aa, au hk] | with_reducible first | refine gl_ ?_ | refine ga_ ?_ | refine gn_ ?_
  generalize l[k] = d at hsn hfr hfc hnd
  by_cases h1 : (d.node.toNat : Int) < c.nodes
  ·rw [decide_eq_true h1]
   refine g2_ ?_
   by_cases h2 : (1 : Int) ≤ (d.inc.toNat : Int)
   ·rw [decide_eq_true h2]
    refine g2_ ?_
    refine CallS.eq hfr ws_ (.inl ws_) ?_
    refine g2_ ?_
    cases h3 : iG c.schema d.filter with
    | true =>
     have e : fq c d = true := by simp [fq, h1, h2, h3]
     refine g2_ ?_
     refine CallS.eq hfc ws_ (.inl ws_) ?_
     repeat first | simp -implicitDefEqProofs only [go_sem, aa, List.length_map] | with_reducible first | refine gl_ ?_ | refine ga_ ?_ | refine gn_ ?_
     refine ⟨k + 1, ac [(0, .to 2)] ?_, rfl⟩
     repeat first | simp -implicitDefEqProofs only [go_sem, aa, hsn, e, if_true, List.length_append] | with_reducible refine gl_ ?_
     first | rfl | exact ⟨rfl, by simp [ah]⟩ | simp [ah]
    | false =>
     have e : fq c d = false := by simp [fq, h3]
     refine g2_ ?_
     refine ⟨k + 1, ac [(0, .to 0)] ?_, rfl⟩
     repeat first | simp -implicitDefEqProofs only [go_sem, aa, hsn, e, List.append_nil, if_false] | with_reducible refine gl_ ?_
   ·have e : fq c d = false := by simp [fq, h2]
    rw [decide_eq_false h2]
    refine g2_ ?_
    refine ⟨k + 1, ac [(0, .to 0)] ?_, rfl⟩
    repeat first | simp -implicitDefEqProofs only [go_sem, aa, hsn, e, List.append_nil, if_false] | with_reducible refine gl_ ?_
  ·have e : fq c d = false := by simp [fq, h1]
   rw [decide_eq_false h1]
   refine g2_ ?_
   refine ⟨k + 1, ac [(0, .to 0)] ?_, rfl⟩
   repeat first | simp -implicitDefEqProofs only [go_sem, aa, hsn, e, List.append_nil, if_false] | with_reducible refine gl_ ?_
 ·have he : l.take l.length = l := List.take_of_length_le (by omega)
  refine g2_ ?_
  exact ⟨_, rfl, ac [] (by simp -implicitDefEqProofs only [go_sem, aa, he])⟩
theorem lK (p : ak) (d : GDesc) (hp : okP p) : Con2 Tryz.prog 109 [.agg (aq p), .agg (ah d)] (· = plR (.v (.bool (cH p d)))) := by
 have hnd := d.node.toNat_lt
 have htb := hp.table
 refine af Ty.mixed Tryz.func109 rfl (by kernel_rfl) (by kernel_rfl) rfl [.tmp 4] rfl ?_
 refine g2_ ?_
 refine g2_ ?_
 rw [co]
 by_cases h1 : d.node = p.node
 ·have e : cH p d = false := if_pos h1
  rw [e, decide_eq_true h1]
  refine g2_ ?_
  exact ⟨_, rfl, ac [] ws_⟩
 rw [decide_eq_false h1]
 refine g2_ ?_
 by_cases h2 : p.table.length ≤ d.node.toNat
 ·have e : cH p d = false := by rw [cH, if_neg h1, List.getElem?_eq_none h2]
  rw [e, decide_eq_true (show (p.table.length : Int) ≤ (d.node.toNat : Int) by omega)]
  refine g2_ ?_
  exact ⟨_, rfl, ac [] ws_⟩
 have hk : d.node.toNat < p.table.length := by omega
 rw [decide_eq_false (show ¬ (p.table.length : Int) ≤ (d.node.toNat : Int) by omega)]
 repeat first | simp -implicitDefEqProofs only [go_sem, aa, au hk] | with_reducible first | refine gl_ ?_ | refine ga_ ?_ | refine gn_ ?_
 have e : cH p d = (decide (p.table[d.node.toNat].inc < d.inc) || (decide (d.inc = p.table[d.node.toNat].inc) && decide (p.table[d.node.toNat].state = 1))) := by rw [cH, if_neg h1, List.getElem?_eq_getElem hk]
 rw [e]
 generalize p.table[d.node.toNat] = m
 by_cases h3 : (m.inc.toNat : Int) < (d.inc.toNat : Int)
 ·have h4 : m.inc < d.inc := by rw [UInt16.lt_iff_toNat_lt]; omega
  rw [decide_eq_true h3, decide_eq_true h4]
  refine g2_ ?_
  exact ⟨_, rfl, ac [] (by simp -implicitDefEqProofs only [go_sem, aa, Bool.true_or])⟩
 have h4 : ¬ m.inc < d.inc := by rw [UInt16.lt_iff_toNat_lt]; omega
 rw [decide_eq_false h3, decide_eq_false h4]
 refine g2_ ?_
 rw [eX]
 by_cases h5 : d.inc = m.inc
 ·rw [decide_eq_true h5]
  refine g2_ ?_
  exact ⟨_, rfl, ac [] (by simp -implicitDefEqProofs only [go_sem, aa, akx, Bool.false_or, Bool.true_and])⟩
 ·rw [decide_eq_false h5]
  refine g2_ ?_
  exact ⟨_, rfl, ac [] (by simp -implicitDefEqProofs only [go_sem, aa, Bool.false_or, Bool.false_and])⟩
theorem aeK (p : ak) (l : List GDesc) (hp : okP p) (hl : bO l) : Con2 Tryz.prog 108 [.agg (aq p), fzD l] (· = bB 34 4 ((bk p l).map ah)) := by
 have hb := hl.1
 have hcu := fun d => lK p d hp
 have hP1 : onesD (aq p) = true := by simp -implicitDefEqProofs only [go_sem, aa]
 have hP2 : ldsD true 32 0 (some (aq p)) = some (.agg (aq p)) := by simp -implicitDefEqProofs only [go_sem, aa]
 have hP3 : ∀ r, wkDs r (aq p) (aq p) := by intro r; exact ws_
 have hP4 : ∀ H, embDs H (aq p) = some (aq p) := by intro H; exact ws_
 have hP5 : noPts (aq p) = true := by simp -implicitDefEqProofs only [go_sem, aa]
 generalize aq p = P at hcu hP1 hP2 hP3 hP4 hP5
 refine af Ty.mixed Tryz.func108 rfl (by kernel_rfl) (by kernel_rfl) rfl [.tmp 4] rfl ?_
 ((try (with_reducible refine ab ?_)); simp -implicitDefEqProofs only [go_sem, aa]; repeat ((with_reducible refine ab ?_); simp -implicitDefEqProofs only [go_sem, aa]))
 refine ⟨hP1, ?_⟩
 refine ax l.length (fun k => [(5, .d (.rf 0 0 (bk p (l.take k)).length))]) (fun _ => []) (fun k => [(0, .arr 34 4 ((bk p (l.take k)).map ah) false)]) 1 (fun _ => True) (ac [(0, .nil 4)] ?_) trivial (fun g k => by simp -implicitDefEqProofs only [go_sem, aa]) (by omega) (fun g => by simp -implicitDefEqProofs only [go_sem, aa]) (fun k hk _ => ?_) (fun _ => ?_)
 ·repeat first | simp -implicitDefEqProofs only [go_sem, aa, List.take_zero, bk, List.filter_nil] | with_reducible refine gl_ ?_
  repeat' (first | exact hP3 _ | (with_reducible rfl) | (refine And.intro ?_ ?_) | rfl | (simp [ah]; done))
 ·have hdl2 : (bk p (l.take k)).length ≤ l.length := lW (f := cH p) l k
  have hsn : bk p (l.take (k + 1)) = bk p (l.take k) ++ (if cH p l[k] = true then [l[k]] else []) := i4 hk
  repeat first | simp -implicitDefEqProofs only [go_sem, aa, au hk, hP2] | with_reducible first | refine gl_ ?_ | refine ga_ ?_ | refine gn_ ?_
  refine CallS.eq (hcu l[k]) (by simp -implicitDefEqProofs only [go_sem, aa, hP4]) (.inl (by simp -implicitDefEqProofs only [go_sem, aa, hP5])) ?_
  refine g2_ ?_
  refine jg (fun h => ?_) (fun h => ?_)
  ·repeat first | simp -implicitDefEqProofs only [go_sem, aa, List.length_map] | with_reducible first | refine gl_ ?_ | refine ga_ ?_ | refine gn_ ?_
   refine ⟨k + 1, ac [(0, .to 2)] ?_, rfl⟩
   repeat first | simp -implicitDefEqProofs only [go_sem, aa, hsn, h, if_true, List.length_append] | with_reducible refine gl_ ?_
   repeat' (first | exact hP3 _ | (with_reducible rfl) | (refine And.intro ?_ ?_) | rfl | (simp [ah]; done))
  ·refine g2_ ?_
   refine ⟨k + 1, ac [(0, .to 0)] ?_, rfl⟩
   repeat first | simp -implicitDefEqProofs only [go_sem, aa, hsn, h, if_false, List.append_nil] | with_reducible refine gl_ ?_
   repeat' (first | exact hP3 _ | (with_reducible rfl) | (refine And.intro ?_ ?_) | rfl | (simp [ah]; done))
 ·have he : l.take l.length = l := List.take_of_length_le (by omega)
  refine g2_ ?_
  exact ⟨_, rfl, ac [] (by simp -implicitDefEqProofs only [go_sem, aa, he])⟩
theorem qF (c : av) (l : List GDesc) (hc : c.schema.length ≤ 1000) (hl : bO l) : Con2 Tryz.prog 37 [.agg (aE c), fzD l] (· = plR (fzD (fZ c l))) := hZ (abw c l hc hl)
theorem nQ (p : ak) (l : List GDesc) (hp : okP p) (hl : bO l) : Con2 Tryz.prog 108 [.agg (aq p), fzD l] (· = plR (fzD (bk p l))) := hZ (aeK p l hp hl)
def cr (c : av) (p : ak) (l : List GDesc) : List GDesc := bk p (fZ c l)
theorem li (c : av) (p : ak) (l : List GDesc) (hc : c.schema.length ≤ 1000) (hp : okP p) (hl : bO l) : Con2 Tryz.prog 110 [.agg (aE c), .agg (aq p), fzD l] (· = plR (fzD (cr c p l))) := by
 refine Con2.ofEmb ?_
 have h1 := qF c l hc hl
 have h2 := nQ p (fZ c l) hp (dY hl)
 refine af Ty.mixed Tryz.func110 rfl (by kernel_rfl) (by kernel_rfl) rfl [.tmp 6] rfl ?_
 refine g2_ ?_
 refine g2_ ?_
 refine .inl ⟨oF [0, 1, 2] (oT 3 (oF [4, 5] [])), by kernel_rfl, ?_⟩
 refine g2_ ?_
 refine CallS.eq h1 ws_ (.inl ws_) ?_
 refine g2_ ?_
 refine CallS.eq h2 ws_ (.inl ws_) ?_
 refine g2_ ?_
 refine ae ?_ rfl
 repeat first | simp -implicitDefEqProofs only [go_sem, aa, cr] | with_reducible refine gl_ ?_
end Go.Proofs.YtlaefellhnkfbaaGreat.V

set_option maxRecDepth 10000
namespace Go.Eng
def ic (a b : am) : Bool := if a.inc ≠ b.inc then decide (b.inc < a.inc) else decide (0 < a.inc) && decide (b.state < a.state)
def mMg (m : List am) (self : UInt8) (i : Nat) (x : am) : am :=
 match m[i]? with
 | some y => if i ≠ self.toNat ∧ ic y x = true then ⟨y.inc, y.state, 0⟩ else x
 | none => x
def eD (l m : List am) (self : UInt8) : List am := l.mapIdx (mMg m self)
def dR (l m : List am) (self : UInt8) (k : Nat) : List am := l.mapIdx fun i x => if i < k then mMg m self i x else x
theorem ky {l m : List am} {self : UInt8} {k : Nat} : (dR l m self k).length = l.length := by simp [dR]
theorem adx {l m : List am} {self : UInt8} : dR l m self 0 = l := by
 apply List.ext_getElem?; intro j; simp [dR]
theorem vP {l m : List am} {self : UInt8} {n : Nat} (h : n = min l.length m.length) : dR l m self n = eD l m self := by
 apply List.ext_getElem?; intro j
 simp only [dR, eD, List.getElem?_mapIdx]
 cases hl : l[j]? with
 | none => rfl
 | some x =>
  simp only [Option.map_some, Option.some.injEq]
  split
  ·rfl
  ·have := (List.getElem?_eq_some_iff.1 hl).1
   have : m[j]? = none := List.getElem?_eq_none (by omega)
   rw [mMg, this]
theorem wA {l m : List am} {self : UInt8} {k : Nat} (h : k < l.length) : dR l m self (k + 1) = (dR l m self k).set k (mMg m self k l[k]) := by
 apply List.ext_getElem?; intro j
 rw [List.getElem?_set, ky]
 simp only [dR, List.getElem?_mapIdx]
 by_cases e : k = j
 ·subst e; simp [h]
 ·rw [if_neg e]
  congr 1
  funext x
  have : (j < k + 1) = (j < k) := by rw [eq_iff_iff]; omega
  simp only [this]
theorem nW {l m : List am} {self : UInt8} {k : Nat} (h : k < l.length) : (dR l m self k)[k]? = some l[k] := by
 simp [dR, h]
end Go.Eng
namespace Go.Proofs.YtlaefellhnkfbaaGreat.V
open Go.Eng
attribute [local go_sem] aP ah fzD plR bB bn aI bC aE aq bm dd z8 z16 z32 z64 ar
theorem yi (a b : am) : Con2 Tryz.prog 234 [.agg (aI a), .agg (aI b)] (· = plR (.v (.bool (ic a b)))) := by
 refine af Ty.mixed Tryz.func234 rfl (by kernel_rfl) (by kernel_rfl) rfl [.tmp 4] rfl ?_
 refine g2_ ?_
 refine g2_ ?_
 rw [rN]
 by_cases h : a.inc = b.inc
 ·have e : ic a b = (decide ((0 : Int) < (a.inc.toNat : Int)) && decide ((b.state.toNat : Int) < (a.state.toNat : Int))) := by
   rw [ic, if_neg (by simp [h])]
   have := fR 0 a.inc
   rw [show ((0 : UInt16).toNat : Int) = 0 from rfl] at this
   simp only [gw, this]
  rw [e, decide_eq_true h]
  refine g2_ ?_
  refine nJ (fun h2 => ?_) (fun h2 => ?_)
  all_goals
   rw [h2]
   refine g2_ ?_
   exact ⟨_, rfl, ac [] (by simp -implicitDefEqProofs only [go_sem, aa, Bool.true_and, Bool.false_and])⟩
 ·have e : ic a b = decide ((b.inc.toNat : Int) < (a.inc.toNat : Int)) := by rw [ic, if_pos h]; simp only [fR]
  rw [e, decide_eq_false h]
  refine g2_ ?_
  exact ⟨_, rfl, ac [] ws_⟩
theorem xP (l m : List am) (self : UInt8) (hl : l.length ≤ 1000) (hm : m.length ≤ 1000) : Con2 Tryz.prog 211 [.fz 3 (l.map aI), .fz 3 (m.map aI), .v (.int .u8 self.toNat)] (· = plR (.fz 3 ((eD l m self).map aI))) := by
 refine Con2.ofEmb ?_
 have hself := self.toNat_lt
 have hne := fun a b => yi a b
 refine af Ty.mixed Tryz.func211 rfl (by kernel_rfl) (by kernel_rfl) rfl [.tmp 6] rfl ?_
 refine g2_ ?_
 refine g2_ ?_
 refine CallS.eq (gt (l.map aI) (by rw [List.length_map]; omega)) ws_ (.inl ws_) ?_
 repeat first | simp -implicitDefEqProofs only [go_sem, aa, List.length_map] | with_reducible first | refine gl_ ?_ | refine ga_ ?_ | refine gn_ ?_
 obtain ⟨n, hn⟩ : ∃ n, n = min l.length m.length := ⟨_, rfl⟩
 rw [show (if (m.length : Int) < (l.length : Int) then (m.length : Int) else (l.length : Int)) = (n : Int) by split <;> omega]
 refine ax n (fun k => []) (fun _ => []) (fun k => [(0, .arr 71 3 ((dR l m self k).map aI) false)]) 1 (fun _ => True) (ac [] ?_) trivial (fun g k => by simp -implicitDefEqProofs only [go_sem, aa]) (by omega) (fun g => by simp -implicitDefEqProofs only [go_sem, aa]) (fun k hk _ => ?_) (fun _ => ?_)
 ·repeat first | simp -implicitDefEqProofs only [go_sem, aa, adx] | with_reducible refine gl_ ?_
  first | rfl | exact ⟨rfl, rfl⟩
 ·have hk1 : k < l.length := by omega
  have hk2 : k < m.length := by omega
  refine g2_ ?_
  refine .inl ⟨oF [0, 1, 2, 3, 4, 5, 6, 9, 10, 7, 11, 8, 12, 13, 14] [], by kernel_rfl, ?_⟩
  refine g2_ ?_
  have hse := wA (l := l) (m := m) (self := self) hk1
  have hsame : (dR l m self k).set k l[k] = dR l m self k := by
   apply List.ext_getElem?; intro j
   rw [List.getElem?_set]
   split
   ·subst_vars; rw [nW hk1]; simp [ky, hk1]
   ·rfl
  have hmg : mMg m self k l[k] = if k ≠ self.toNat ∧ ic m[k] l[k] = true then ⟨m[k].inc, m[k].state, 0⟩ else l[k] := by rw [mMg, List.getElem?_eq_getElem hk2]
  by_cases hs : k = self.toNat
  ·rw [show ((k : Int) != (self.toNat : Int)) = false by simp [hs]]
   rw [if_neg (by simp [hs])] at hmg
   rw [hmg, hsame] at hse
   refine g2_ ?_
   refine ⟨k + 1, ac [(0, .to 0)] ?_, rfl⟩
   repeat first | simp -implicitDefEqProofs only [go_sem, aa, hse] | with_reducible refine gl_ ?_
  ·rw [show ((k : Int) != (self.toNat : Int)) = true by simp; omega]
   repeat first | simp -implicitDefEqProofs only [go_sem, aa, au hk1, au hk2] | with_reducible first | refine gl_ ?_ | refine ga_ ?_ | refine gn_ ?_
   refine CallS.eq (hne m[k] l[k]) ws_ (.inl ws_) ?_
   refine g2_ ?_
   cases hnw : ic m[k] l[k] with
   | true =>
    rw [if_pos ⟨hs, hnw⟩] at hmg
    rw [hmg] at hse
    refine g2_ ?_
    refine .inl ⟨oF [0, 1, 2, 3, 7, 8, 4, 9, 5, 10, 6, 11, 12, 13, 14] [], by kernel_rfl, ?_⟩
    have hgt : (List.map aI (dR l m self k))[k]? = some (aI l[k]) := by rw [List.getElem?_map, nW hk1]; rfl
    repeat first | simp -implicitDefEqProofs only [go_sem, aa, au hk2, hgt, List.length_map, ky, List.contains_nil] | with_reducible first | refine gl_ ?_ | refine ga_ ?_ | refine gn_ ?_
    refine ⟨k + 1, ac [(0, .to 0)] ?_, rfl⟩
    repeat first | simp -implicitDefEqProofs only [go_sem, aa, hse, List.map_set] | with_reducible refine gl_ ?_
   | false =>
    rw [if_neg (by simp [hnw])] at hmg
    rw [hmg, hsame] at hse
    refine g2_ ?_
    refine ⟨k + 1, ac [(0, .to 0)] ?_, rfl⟩
    repeat first | simp -implicitDefEqProofs only [go_sem, aa, hse] | with_reducible refine gl_ ?_
 ·refine g2_ ?_
  refine ae ?_ rfl
  rw [vP hn]
  have hlen : (eD l m self).length = l.length := by simp [eD]
  repeat first | simp -implicitDefEqProofs only [go_sem, aa, List.length_map, hlen] | with_reducible refine gl_ ?_
  rw [List.take_of_length_le (by simp [hlen])]
def py (a b : List am) (r : List (List da)) (k : Nat) : List (List da) := (List.range k).foldl (fun r i => match a[i]?, b[i]? with
  | some x, some y => if x.inc < y.inc then fy r (UInt8.ofNat i) else r
  | _, _ => r) r
def cL (p : ak) (t : List am) : ak := { p with table := eD p.table t p.node, reports := py p.table (eD p.table t p.node) p.reports p.table.length }
theorem aar {a b : List am} {r : List (List da)} {k : Nat} (h1 : k < a.length) (h2 : k < b.length) : py a b r (k + 1) = if a[k].inc < b[k].inc then fy (py a b r k) (UInt8.ofNat k) else py a b r k := by
 rw [py, List.range_succ, List.foldl_append]
 simp only [List.foldl_cons, List.foldl_nil, List.getElem?_eq_getElem h1, List.getElem?_eq_getElem h2]
 rfl
theorem i_ {r : List (List da)} {i : UInt8} (h : kR r) : kR (fy r i) := by
 refine ⟨by simp [fy, h.1], fun x hx => ?_⟩
 rcases List.mem_or_eq_of_mem_set hx with h1 | rfl
 ·exact h.2 x h1
 ·rw [hX]; have := h.1; omega
theorem kH {a b : List am} {r : List (List da)} (h : kR r) : ∀ k, kR (py a b r k)
 | 0 => h
 | k + 1 => by
  rw [py, List.range_succ, List.foldl_append]
  have ih := kH (a := a) (b := b) h k
  simp only [List.foldl_cons, List.foldl_nil]
  split
  ·split
   ·exact i_ ih
   ·exact ih
  ·exact ih
theorem ox (p : ak) (t : List am) (hp : okP p) (ht : p.table.length ≤ 256) (htt : t.length ≤ 1000) (hr : kR p.reports) : Con2 Tryz.prog 163 [.agg (aq p), .fz 3 (t.map aI)] (· = plR (.agg (aq (cL p t)))) := by
 refine Con2.ofEmb ?_
 have hme := xP p.table t p.node (by omega) htt
 have hlen : (eD p.table t p.node).length = p.table.length := by simp [eD]
 unfold cL
 generalize eD p.table t p.node = T at hme hlen
 refine af Ty.mixed Tryz.func163 rfl (by kernel_rfl) (by kernel_rfl) rfl [.cell 4 49] rfl ?_
 refine g2_ ?_
 repeat first | simp -implicitDefEqProofs only [go_sem, aa, aF] | with_reducible first | refine gl_ ?_ | refine ga_ ?_ | refine gn_ ?_
 refine CallS.eq hme ws_ (.inl ws_) ?_
 repeat first | simp -implicitDefEqProofs only [go_sem, aa, aF, hlen] | with_reducible first | refine gl_ ?_ | refine ga_ ?_ | refine gn_ ?_
 rw [show (if (p.table.length : Int) < (p.table.length : Int) then (p.table.length : Int) else (p.table.length : Int)) = (p.table.length : Int) by split <;> rfl]
 refine ax p.table.length (fun k => []) (fun k => [(2, ⟨aq { p with table := T, reports := py p.table T p.reports k }, 49⟩)]) (fun k => []) 0 (fun _ => True) (ac [] ?_) trivial (fun g k => by simp -implicitDefEqProofs only [go_sem, aa]) (by omega) (fun g => by simp -implicitDefEqProofs only [go_sem, aa]) (fun k hk _ => ?_) (fun _ => ?_)
 ·repeat first | simp -implicitDefEqProofs only [go_sem, aa, py, List.range_zero, List.foldl_nil, aF] | with_reducible refine gl_ ?_
  rfl
 ·have hk2 : k < T.length := by omega
  have hok := kH (a := p.table) (b := T) hr k
  have hsu := aar (r := p.reports) hk hk2
  repeat first | simp -implicitDefEqProofs only [go_sem, aa, aF] | with_reducible first | refine gl_ ?_ | refine ga_ ?_ | refine gn_ ?_
  refine .inl ⟨oF [0, 2, 6, 7, 1, 8, 3, 9, 4, 10, 5, 11] [], by kernel_rfl, ?_⟩
  repeat first | simp -implicitDefEqProofs only [go_sem, aa, au hk, au hk2, aF] | with_reducible first | refine gl_ ?_ | refine ga_ ?_ | refine gn_ ?_
  have hku : ((UInt8.ofNat k).toNat : Int) = k := by rw [UInt8.toNat_ofNat']; omega
  have hfo := nl (py p.table T p.reports k) (UInt8.ofNat k) hok
  rw [hku] at hfo
  by_cases h : p.table[k].inc < T[k].inc
  ·have h2 : (p.table[k].inc.toNat : Int) < (T[k].inc.toNat : Int) := (fR _ _).2 h
   rw [if_pos h] at hsu
   rw [decide_eq_true h2]
   repeat first | simp -implicitDefEqProofs only [go_sem, aa, aF] | with_reducible first | refine gl_ ?_ | refine ga_ ?_ | refine gn_ ?_
   refine jF (by omega) ?_
   repeat first | simp -implicitDefEqProofs only [go_sem, aa, aF] | with_reducible first | refine gl_ ?_ | refine ga_ ?_ | refine gn_ ?_
   refine CallS.eq hfo ws_ (.inl ws_) ?_
   repeat first | simp -implicitDefEqProofs only [go_sem, aa, aF] | with_reducible first | refine gl_ ?_ | refine ga_ ?_ | refine gn_ ?_
   refine ⟨k + 1, ac [] ?_, rfl⟩
   repeat first | simp -implicitDefEqProofs only [go_sem, aa, hsu, aF] | with_reducible refine gl_ ?_
  ·have h2 : ¬ (p.table[k].inc.toNat : Int) < (T[k].inc.toNat : Int) := fun h3 => h ((fR _ _).1 h3)
   rw [if_neg h] at hsu
   rw [decide_eq_false h2]
   repeat first | simp -implicitDefEqProofs only [go_sem, aa, aF] | with_reducible first | refine gl_ ?_ | refine ga_ ?_ | refine gn_ ?_
   refine ⟨k + 1, ac [] ?_, rfl⟩
   repeat first | simp -implicitDefEqProofs only [go_sem, aa, hsu, aF] | with_reducible refine gl_ ?_
 ·repeat first | simp -implicitDefEqProofs only [go_sem, aa, aF] | with_reducible first | refine gl_ ?_ | refine ga_ ?_ | refine gn_ ?_
  refine ae ?_ rfl
  repeat first | simp -implicitDefEqProofs only [go_sem, aa, aF] | with_reducible refine gl_ ?_
end Go.Proofs.YtlaefellhnkfbaaGreat.V
