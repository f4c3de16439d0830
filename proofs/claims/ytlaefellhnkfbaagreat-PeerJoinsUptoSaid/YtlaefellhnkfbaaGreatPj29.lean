/-
 Part 29 of the proof of Pj: the engine and the walks, in their order.
-/
import Derived.Test.YtlaefellhnkfbaaGreatPj26
import Derived.Test.YtlaefellhnkfbaaGreatPj28
set_option linter.unusedSimpArgs false
set_option linter.unusedVariables false
set_option maxRecDepth 10000
namespace Go.Eng
structure okP (p : ak) : Prop where
 filter : p.filter.length ≤ 4000000
 view : bZ p.view
 near : bZ p.near
 succ : p.ring.succ.filter.length ≤ 4000000
 pred : p.ring.pred.filter.length ≤ 4000000
 sent : bZ p.wait.sent
 table : p.table.length ≤ 4000000
 heard : p.heard.length ≤ 4000000
 rows : p.rows.length ≤ 4000000
 reports : p.reports.length ≤ 4000000 ∧ ∀ l ∈ p.reports, l.length ≤ 4000000
 evs : p.buf.evs.length ≤ 4000000 ∧ ∀ e ∈ p.buf.evs, e.vals.length ≤ 4000000 ∧ e.data.length ≤ 4000000
 pulls : p.pulls.length ≤ 4000000
structure aV where
 kind : UInt8
 frm : UInt8
 inc : UInt16
 to : UInt8
 list : List GDesc
 table : List ao
 ev : aa1
 hops : UInt8
 origin : dv
 marks : List dv
 ids : List GID
deriving DecidableEq
def aaG (x : GID) : List DV := [.v (.int .u8 x.node.toNat), .v (.int .u16 x.inc.toNat), .v (.int .u32 x.seq.toNat)]
def ax (m : aV) : List DV := [.v (.int .u8 m.kind.toNat), .v (.int .u8 m.frm.toNat), .v (.int .u16 m.inc.toNat), .v (.int .u8 m.to.toNat), fzD m.list, .fz 3 (m.table.map aM),
 .v (.int .u8 m.ev.id.node.toNat), .v (.int .u16 m.ev.id.inc.toNat), .v (.int .u32 m.ev.id.seq.toNat), .fz 1 (m.ev.vals.map fa), .fz 1 (m.ev.data.map a_), .v (.int .u8 m.hops.toNat),
 .v (.int .u8 m.origin.node.toNat), .v (.int .u16 m.origin.inc.toNat), .v (.int .u32 m.origin.seq.toNat), .fz 3 (m.marks.map bw), .fz 3 (m.ids.map aaG)]
def akl : aa1 := ⟨⟨0, 0, 0⟩, [], []⟩
def aT (p : ak) : GDesc := ⟨p.node, p.inc, 0, p.filter⟩
def bV (p : ak) (kind to : UInt8) : aV := ⟨kind, p.node, p.inc, to, [], [], akl, 0, ⟨0, 0, 0⟩, [], []⟩
end Go.Eng
namespace Go.Proofs.YtlaefellhnkfbaaGreat.V
open Go.Eng
attribute [local go_sem] aU ah fzD plR bH bw aM bL aJ au bu dC z8 z16 z32 z64
theorem aS (l : List GDesc) (hl : bZ l) : Con2 Tryz.prog 92 [fzD l] (· = plR (fzD l)) := iG (gF l hl)
theorem wQ (e : aa1) (h1 : e.vals.length ≤ 4000000) (h2 : e.data.length ≤ 4000000) : Con2 Tryz.prog 96 [.agg (bu e)] (· = plR (.agg (bu e))) := by
 refine Con2.ofEmb ?_
 refine af Ty.mixed Tryz.func96 rfl (by kernel_rfl) (by kernel_rfl) rfl [.cell 2 63] rfl ?_
 refine g2_ ?_
 refine g2_ ?_
 refine ae ?_ rfl
 exact ws_
theorem fW (p : ak) (hp : okP p) : Con2 Tryz.prog 32 [.agg (au p)] (· = plR (.agg (ah (aT p)))) := by
 refine Con2.ofEmb ?_
 have hf := hp.filter
 refine af Ty.mixed Tryz.func32 rfl (by kernel_rfl) (by kernel_rfl) rfl [.cell 2 34] rfl ?_
 refine g2_ ?_
 refine g2_ ?_
 refine .inl ⟨oF [0, 2, 4, 1, 3, 5] (oT 6 (oF [7, 8] [])), by kernel_rfl, ?_⟩
 refine g2_ ?_
 refine CallS.eq (iB p.filter (by omega)) ws_ (.inl ws_) ?_
 refine g2_ ?_
 refine ae ?_ rfl
 repeat first | simp -implicitDefEqProofs only [go_sem, aa, aT] | with_reducible refine gl_ ?_
theorem eV (p : ak) (kind to : UInt8) : Con2 Tryz.prog 43 [.agg (au p), .v (.int .u8 kind.toNat), .v (.int .u8 to.toNat)] (· = plR (.agg (ax (bV p kind to)))) := by
 refine Con2.ofEmb ?_
 refine af Ty.mixed Tryz.func43 rfl (by kernel_rfl) (by kernel_rfl) rfl [.cell 6 67] rfl ?_
 refine g2_ ?_
 refine g2_ ?_
 refine ae ?_ rfl
 repeat first | simp -implicitDefEqProofs only [go_sem, aa, ax, bV, akl, List.map_nil] | with_reducible refine gl_ ?_
theorem aQ (p : ak) (hp : okP p) : Con2 Tryz.prog 44 [.agg (au p)] (· = plR (.agg (au p))) := by
 refine Con2.ofEmb ?_
 have hfi := hp.filter
 have hsu := hp.succ
 have hpr := hp.pred
 have htb := hp.table
 have hhe := hp.heard
 have hrw := hp.rows
 have hpu := hp.pulls
 obtain ⟨hre, hre2⟩ := hp.reports
 obtain ⟨hev, hev2⟩ := hp.evs
 refine af Ty.mixed Tryz.func44 rfl (by kernel_rfl) (by kernel_rfl) rfl [.cell 2 49] rfl ?_
 refine g2_ ?_
 refine g2_ ?_
 refine CallS.eq (iB p.filter (by omega)) ws_ (.inl ws_) ?_
 refine g2_ ?_
 refine CallS.eq (aS p.view hp.view) ws_ (.inl ws_) ?_
 refine g2_ ?_
 refine CallS.eq (aS p.near hp.near) ws_ (.inl ws_) ?_
 refine g2_ ?_
 refine CallS.eq (iB p.ring.succ.filter (by omega)) ws_ (.inl ws_) ?_
 refine g2_ ?_
 refine CallS.eq (iB p.ring.pred.filter (by omega)) ws_ (.inl ws_) ?_
 refine g2_ ?_
 refine CallS.eq (aS p.wait.sent hp.sent) ws_ (.inl ws_) ?_
 refine g2_ ?_
 refine CallS.eq (fj (p.table.map aM) (by rw [List.length_map]; omega)) ws_ (.inl ws_) ?_
 refine g2_ ?_
 refine CallS.eq (kx (p.heard.map bw) (by rw [List.length_map]; omega)) ws_ (.inl ws_) ?_
 refine g2_ ?_
 refine CallS.eq (xC (p.rows.map bL) (by rw [List.length_map]; omega)) ws_ (.inl ws_) ?_
 refine g2_ ?_
 generalize hL : (p.reports.map fun l => [DV.fz 3 (l.map bw)]) = L
 have hLl : L.length = p.reports.length := by subst hL; rw [List.length_map]
 refine aB p.reports.length (fun k => []) (fun _ => []) (fun k => [(0, .arr 40 1 (ga [.v (.slice none 0 0)] L k) false)]) 1 (fun _ => True) (ab [] ?_) trivial (fun g k => by simp -implicitDefEqProofs only [go_sem, aa]) (by omega) (fun g => by simp -implicitDefEqProofs only [go_sem, aa]) (fun k hk _ => ?_) (fun _ => ?_)
 ·repeat first | simp -implicitDefEqProofs only [go_sem, aa, nX, hLl] | with_reducible refine gl_ ?_
  first | rfl | exact ⟨rfl, rfl⟩
 ·have hk2 : k < L.length := by omega
  have hge : L[k]? = some [DV.fz 3 (p.reports[k].map bw)] := by subst hL; rw [List.getElem?_map, List.getElem?_eq_getElem hk]; rfl
  have hge2 : L[k] = [DV.fz 3 (p.reports[k].map bw)] := by rw [List.getElem?_eq_getElem hk2] at hge; exact Option.some.inj hge
  repeat first | simp -implicitDefEqProofs only [go_sem, aa, hge, ez hk2, eu (Nat.le_of_lt hk2), List.contains_nil] | with_reducible first | refine gl_ ?_ | refine ga_ ?_ | refine gn_ ?_
  refine CallS.eq (kx (p.reports[k].map bw) (by rw [List.length_map]; have := hre2 _ (List.getElem_mem hk); omega)) ws_ (.inl ws_) ?_
  repeat first | simp -implicitDefEqProofs only [go_sem, aa, ez hk2, eu (Nat.le_of_lt hk2), List.contains_nil] | with_reducible first | refine gl_ ?_ | refine ga_ ?_ | refine gn_ ?_
  refine ⟨k + 1, ab [] ?_, rfl⟩
  refine g2_ ?_
  rw [← jL hk2, hge2]
 ·rw [← hLl]
  refine gf_ @jY ?_
  generalize hE : p.buf.evs.map bu = M
  have hMl : M.length = p.buf.evs.length := by subst hE; rw [List.length_map]
  refine aB p.buf.evs.length (fun k => []) (fun _ => []) (fun k => [(1, .arr 63 5 (ga [.v (.int .u8 0), .v (.int .u16 0), .v (.int .u32 0), .v (.slice none 0 0), .v (.slice none 0 0)] M k) false), (0, .arr 40 1 L false)]) 2 (fun _ => True) (ab [] ?_) trivial (fun g k => by simp -implicitDefEqProofs only [go_sem, aa]) (by omega) (fun g => by simp -implicitDefEqProofs only [go_sem, aa]) (fun k hk _ => ?_) (fun _ => ?_)
  ·repeat first | simp -implicitDefEqProofs only [go_sem, aa, nX, hMl] | with_reducible refine gl_ ?_
   first | rfl | exact ⟨rfl, rfl⟩
  ·have hk2 : k < M.length := by omega
   have hge : M[k]? = some (bu p.buf.evs[k]) := by subst hE; rw [List.getElem?_map, List.getElem?_eq_getElem hk]; rfl
   have hge2 : M[k] = bu p.buf.evs[k] := by rw [List.getElem?_eq_getElem hk2] at hge; exact Option.some.inj hge
   repeat first | simp -implicitDefEqProofs only [go_sem, aa, hge, ez hk2, eu (Nat.le_of_lt hk2), List.contains_nil] | with_reducible first | refine gl_ ?_ | refine ga_ ?_ | refine gn_ ?_
   refine CallS.eq (wQ p.buf.evs[k] (hev2 _ (List.getElem_mem hk)).1 (hev2 _ (List.getElem_mem hk)).2) ws_ (.inl ws_) ?_
   repeat first | simp -implicitDefEqProofs only [go_sem, aa, ez hk2, eu (Nat.le_of_lt hk2), List.contains_nil] | with_reducible first | refine gl_ ?_ | refine ga_ ?_ | refine gn_ ?_
   refine ⟨k + 1, ab [] ?_, rfl⟩
   refine g2_ ?_
   rw [← jL hk2, hge2]
   rfl
  ·rw [← hMl]
   refine gf_ @jY ?_
   refine CallS.eq (zd (p.pulls.map dC) (by rw [List.length_map]; omega)) ws_ (.inl ws_) ?_
   refine g2_ ?_
   refine ae ?_ rfl
   subst hL hE
   repeat first | simp -implicitDefEqProofs only [go_sem, aa, List.take_of_length_le (Nat.le_refl _)] | with_reducible refine gl_ ?_
end Go.Proofs.YtlaefellhnkfbaaGreat.V

set_option maxRecDepth 10000
namespace Go.Eng
theorem jD {P : Program} {Q : Exit → DS → Prop} {ds : DS} {a b : Code} {c : Bool} (h1 : c = true → vc2 P a Q ds) (h2 : c = false → vc2 P b Q ds) : fN P (.d (.v (.bool c))) a b Q ds := by
 cases c with
 | true => rw [gP]; exact h1 rfl
 | false => rw [fU]; exact h2 rfl
theorem aeZ {x : UInt16} : ((x.toNat : Int) == 65535) = decide (x = 65535) := by
 have := fA (x := x) (y := 65535)
 exact this
def bf (c : av) (p : ak) : ak × Int :=
 if p.up = true then (p, 54) else if p.inc = 65535 then (p, 55) else
  let q := bh c p.node
  ({ q with inc := p.inc + 1, up := true, table := q.table.set p.node.toNat ⟨p.inc + 1, 1, 0⟩ }, 0)
end Go.Eng
namespace Go.Proofs.YtlaefellhnkfbaaGreat.V
open Go.Eng
attribute [local go_sem] aU ah fzD plR bH bw aM bL aJ au bu dC z8 z16 z32 z64 ax
theorem ov (c : av) (p : ak) (hp : okP p) : Con2 Tryz.prog 17 [.agg (aJ c), .agg (au p)] (· = plR (.tup [.agg (au (bf c p).1), .v (.int .i64 (bf c p).2)])) := by
 refine Con2.ofEmb ?_
 refine af Ty.mixed Tryz.func17 rfl (by kernel_rfl) (by kernel_rfl) rfl [.cell 4 49, .tmp 5] rfl ?_
 refine g2_ ?_
 refine g2_ ?_
 refine jD (fun hu => ?_) (fun hu => ?_)
 ·have e : bf c p = (p, 54) := by unfold bf; rw [if_pos hu]
  rw [e]
  refine g2_ ?_
  refine CallS.eq (aQ p hp) ws_ (.inl ws_) ?_
  refine g2_ ?_
  refine ae ?_ rfl
  exact ws_
 ·refine g2_ ?_
  rw [aeZ]
  refine bm (fun h2 => ?_) (fun h2 => ?_)
  ·have e : bf c p = (p, 55) := by unfold bf; rw [if_neg (by simp [hu]), if_pos h2]
   rw [e]
   refine g2_ ?_
   refine CallS.eq (aQ p hp) ws_ (.inl ws_) ?_
   refine g2_ ?_
   refine ae ?_ rfl
   exact ws_
  ·refine g2_ ?_
   have hC := abZ c p.node
   have e : bf c p = ({ bh c p.node with inc := p.inc + 1, up := true, table := (bh c p.node).table.set p.node.toNat ⟨p.inc + 1, 1, 0⟩ }, 0) := by
    unfold bf; rw [if_neg (by simp [hu]), if_neg h2]
   have hlen : (bh c p.node).table.length ≤ 12 := by simp [bh]; omega
   rw [e]
   generalize bh c p.node = q at hC hlen
   refine CallS.eq hC ws_ (.inl ws_) ?_
   refine gx_ ?_
   have hinc : p.inc.toNat < 65535 := by
    have h3 := p.inc.toNat_lt
    have : p.inc.toNat ≠ 65535 := fun h => h2 (by apply UInt16.toNat_inj.1; exact h)
    omega
   have hinc2 : ((p.inc + 1 : UInt16).toNat : Int) = (p.inc.toNat : Int) + 1 := by
    rw [UInt16.toNat_add]
    have : (1 : UInt16).toNat = 1 := rfl
    omega
   have hnode := p.node.toNat_lt
   refine oO (by omega) ?_
   refine gx_ ?_
   refine bm (fun h3 => ?_) (fun h3 => ?_)
   ·have h4 : p.node.toNat < q.table.length := by omega
    repeat first | simp -implicitDefEqProofs only [go_sem, aa, aw h4, List.length_map, List.contains_nil] | with_reducible first | refine gl_ ?_ | refine ga_ ?_ | refine gn_ ?_
    refine ae ?_ rfl
    repeat first | simp -implicitDefEqProofs only [go_sem, aa, List.map_set, hinc2, List.length_set, List.length_map, List.take_of_length_le (Nat.le_refl _)] | with_reducible refine gl_ ?_
    rw [List.take_of_length_le (by simp)]
    rfl
   ·rw [List.set_eq_of_length_le (by omega)]
    refine gx_ ?_
    refine ae ?_ rfl
    exact wg_ hinc2 @cg
end Go.Proofs.YtlaefellhnkfbaaGreat.V

set_option maxRecDepth 10000
namespace Go.Eng
theorem alU : ((UInt8.toNat 1 : Nat) : Int) = 1 := rfl
theorem alB : ((UInt8.toNat 2 : Nat) : Int) = 2 := rfl
theorem alH : ((UInt8.toNat 3 : Nat) : Int) = 3 := rfl
theorem amj : ((UInt8.toNat 4 : Nat) : Int) = 4 := rfl
theorem ak8 : ((UInt8.toNat 5 : Nat) : Int) = 5 := rfl
theorem ak9 : ((UInt8.toNat 6 : Nat) : Int) = 6 := rfl
theorem amn : ((UInt8.toNat 7 : Nat) : Int) = 7 := rfl
theorem alT : ((UInt8.toNat 8 : Nat) : Int) = 8 := rfl
theorem amb : ((UInt8.toNat 9 : Nat) : Int) = 9 := rfl
theorem alE : ((UInt8.toNat 10 : Nat) : Int) = 10 := rfl
theorem al1 : ((UInt8.toNat 11 : Nat) : Int) = 11 := rfl
theorem ak4 : ((UInt8.toNat 12 : Nat) : Int) = 12 := rfl
attribute [go_sem] alU alB alH amj ak8 ak9 amn alT amb alE al1 ak4
theorem pX : bZ [] := ⟨by simp, by simp⟩
theorem aaz (c : av) (node : UInt8) : okP (bh c node) := by
 refine ⟨by simp [bh], pX, pX, by simp [bh, aO], by simp [bh, aO], pX, ?_, ?_, ?_, ?_, by simp [bh], by simp [bh]⟩
 ·simp [bh]; omega
 ·simp [bh]; omega
 ·simp [bh]; omega
 ·refine ⟨by simp [bh]; omega, fun l hl => ?_⟩
  have := List.eq_of_mem_replicate hl
  rw [this, iW]; omega
theorem nv {α : Type} (f : α → α) (l : List α) {i : Nat} (h : i < l.length) : l.modify i f = l.set i (f l[i]) := by
 apply List.ext_getElem?
 intro j
 rw [List.getElem?_modify, List.getElem?_set]
 by_cases e : i = j
 ·subst e; simp [h]
 ·simp [e]
def eB (c : av) (p : ak) (to : UInt8) : List aV × Int :=
 if p.up = false then ([], 53) else if c.nodes ≤ to.toNat ∨ to = p.node then ([], 2) else ([{ bV p 1 to with list := [aT p] }], 0)
def gm (inc : UInt16) (m : ao) : ao := if m.inc < inc ∨ (inc = m.inc ∧ 0 < inc ∧ m.state ≠ 3) then ⟨inc, 1, 0⟩ else m
def de (l : List ao) (i : UInt8) (inc : UInt16) : List ao := l.modify i.toNat (gm inc)
end Go.Eng
namespace Go.Proofs.YtlaefellhnkfbaaGreat.V
open Go.Eng
attribute [local go_sem] aU ah fzD plR bH bw aM bL aJ au bu dC z8 z16 z32 z64 ax
theorem tY (c : av) (node : UInt8) : Con2 Tryz.prog 10 [.agg (aJ c), .v (.int .u8 node.toNat)] (· = plR (.tup [.agg (au (bf c (bh c node)).1), .v (.bool (decide ((bf c (bh c node)).2 = 0) && (bf c (bh c node)).1.up))])) := by
  refine Con2.ofEmb ?_
  have hs := ov c (bh c node) (aaz c node)
  have hn := vy c node
  generalize bh c node = q at hs hn
  generalize bf c q = r at hs
  obtain ⟨r, e⟩ := r
  refine af Ty.mixed Tryz.func10 rfl (by kernel_rfl) (by kernel_rfl) rfl [.cell 4 49, .tmp 5] rfl ?_
  refine g2_ ?_
  refine g2_ ?_
  refine .inr (.inl ⟨(.fl 0 (.fl 1 (.fl 2 (.eff 3 true (.eff 4 false (.fl 5 (.fl 6 (.fl 7 (.eff 8 true (.eff 9 false (.fl 10 .done) .no) .no)))) (.eff 8 true (.eff 4 false (.fl 5 (.fl 6 (.fl 7 (.eff 9 false (.fl 10 .done) .no)))) .no) .no)) (.eff 8 true (.eff 3 true (.eff 4 false (.fl 5 (.fl 6 (.fl 7 (.eff 9 false (.fl 10 .done) .no)))) .no) .no) .no))))), by kernel_rfl, ?_⟩)
  refine g2_ ?_
  repeat' (first
    | (with_reducible refine And.intro ?_ ?_)
    | (refine CallS.eq hn ?_ (.inl ?_) ?_; (focus ((repeat first | simp -implicitDefEqProofs only [go_sem, aa] | with_reducible refine gl_ ?_); done)); (focus ((repeat first | simp -implicitDefEqProofs only [go_sem, aa] | with_reducible refine gl_ ?_); done)); refine g2_ ?_)
    | (refine CallS.eq hs ?_ (.inl ?_) ?_; (focus ((repeat first | simp -implicitDefEqProofs only [go_sem, aa] | with_reducible refine gl_ ?_); done)); (focus ((repeat first | simp -implicitDefEqProofs only [go_sem, aa] | with_reducible refine gl_ ?_); done)); refine g2_ ?_)
    | (with_reducible refine ay ?_; refine g2_ ?_))
  all_goals
    refine .inr (.inr (.inl ⟨oF [0, 1, 2, 3, 4, 5, 6] (oT 7 (oF [8] [])), [4], by kernel_rfl, ?_⟩))
    refine g2_ ?_
    refine qa (fun h => ?_) (fun h => ?_)
    all_goals
      rw [h]
      refine g2_ ?_
      refine ae ?_ rfl
      first
        | (have h2 : e = 0 := by simpa using h
           repeat first | simp -implicitDefEqProofs only [go_sem, aa, h2] | with_reducible refine gl_ ?_)
        | (have h2 : ¬ e = 0 := by simpa using h
           repeat first | simp -implicitDefEqProofs only [go_sem, aa, h2] | with_reducible refine gl_ ?_)
theorem mJ (c : av) (p : ak) (to : UInt8) (hp : okP p) : Con2 Tryz.prog 11 [.agg (aJ c), .agg (au p), .v (.int .u8 to.toNat)] (· = plR (.tup [.fz 17 ((eB c p to).1.map ax), .v (.int .i64 (eB c p to).2)])) := by
 refine Con2.ofEmb ?_
 have hn := p.node.toNat_lt
 have ht := to.toNat_lt
 refine af Ty.mixed Tryz.func11 rfl (by kernel_rfl) (by kernel_rfl) rfl [.tmp 6, .tmp 7] rfl ?_
 refine g2_ ?_
 refine g2_ ?_
 cases hu : p.up with
 | false =>
  have e : eB c p to = ([], 53) := by unfold eB; rw [if_pos hu]
  rw [e]
  refine g2_ ?_
  refine ae ?_ rfl
  exact ws_
 | true =>
  refine g2_ ?_
  have hw := eV p 1 to
  have hs := fW p hp
  by_cases h1 : c.nodes ≤ (to.toNat : Int)
  ·have e : eB c p to = ([], 2) := by unfold eB; rw [if_neg (by simp [hu]), if_pos (.inl h1)]
   rw [e, decide_eq_true h1]
   refine g2_ ?_
   refine ae ?_ rfl
   exact ws_
  ·rw [decide_eq_false h1]
   refine g2_ ?_
   rw [cM]
   refine bm (fun h2 => ?_) (fun h2 => ?_)
   ·have e : eB c p to = ([], 2) := by unfold eB; rw [if_neg (by simp [hu]), if_pos (.inr h2)]
    rw [e]
    refine g2_ ?_
    refine ae ?_ rfl
    exact ws_
   ·have e : eB c p to = ([{ bV p 1 to with list := [aT p] }], 0) := by unfold eB; rw [if_neg (by simp [hu]), if_neg (by simp [h1, h2])]
    rw [e]
    refine g2_ ?_
    refine CallS.eq hw (wf_ hu) (.inl ws_) ?_
    refine g2_ ?_
    refine CallS.eq hs (wf_ hu) (.inl ws_) ?_
    refine g2_ ?_
    refine ae ?_ rfl
    repeat first | simp -implicitDefEqProofs only [go_sem, aa, bV, aT, List.map_cons, List.map_nil] | with_reducible refine gl_ ?_
theorem gO (l : List (List DV)) (hl : l.length ≤ 5000000) : Con2 Tryz.prog 93 [.fz 3 l] (· = bH 71 3 l) := by
 by_cases h0 : l = []
 ·subst h0
  refine af Ty.mixed Tryz.func93 rfl (by kernel_rfl) (by kernel_rfl) rfl [.tmp 2] rfl ?_
  refine g2_ ?_
  refine g2_ ?_
  refine ⟨fun h => h.elim, fun t => ?_⟩
  cases t with
  | true =>
   refine g2_ ?_
   exact ⟨_, rfl, ab [(0, .nil 3)] ws_⟩
  | false =>
   refine g2_ ?_
   exact ⟨_, rfl, ab [(0, .to 0)] ws_⟩
 ·have hn : 0 < l.length := List.length_pos_iff.2 h0
  refine af Ty.mixed Tryz.func93 rfl (by kernel_rfl) (by kernel_rfl) rfl [.tmp 2] rfl ?_
  refine g2_ ?_
  refine g2_ ?_
  refine ⟨fun _ => ⟨by omega, by omega, _, rfl, ab [(0, .to 0)] ws_⟩, fun h => by omega⟩
theorem xZ (l : List ao) (i : UInt8) (inc : UInt16) (hl : l.length ≤ 4000000) : Con2 Tryz.prog 98 [.fz 3 (l.map aM), .v (.int .u8 i.toNat), .v (.int .u16 inc.toNat)] (· = plR (.fz 3 ((de l i inc).map aM))) := by
 refine Con2.ofEmb ?_
 have hi := i.toNat_lt
 refine af Ty.mixed Tryz.func98 rfl (by kernel_rfl) (by kernel_rfl) rfl [.tmp 6] rfl ?_
 refine g2_ ?_
 refine g2_ ?_
 refine CallS.inline Ty.mixed Tryz.func159 rfl (by kernel_rfl) (by kernel_rfl) rfl [.tmp 6] rfl (Vc2.of ?_)
 refine g2_ ?_
 refine g2_ ?_
 refine CallS.eq (gO (l.map aM) (by rw [List.length_map]; omega)) ws_ (.inl ws_) ?_
 refine gx_ ?_
 by_cases h1 : i.toNat < l.length
 ·have e1 : decide ((i.toNat : Int) < (l.length : Int)) = true := decide_eq_true (by omega)
  rw [e1]
  repeat first | simp -implicitDefEqProofs only [go_sem, aa, List.length_map, aw h1] | with_reducible first | refine gl_ ?_ | refine ga_ ?_ | refine gn_ ?_
  refine CallS.inline Ty.mixed Tryz.func160 rfl (by kernel_rfl) (by kernel_rfl) rfl [.cell 3 71] rfl (Vc2.of ?_)
  refine g2_ ?_
  refine g2_ ?_
  have e2 : de l i inc = l.set i.toNat (gm inc l[i.toNat]) := by rw [de, nv _ _ h1]
  rw [e2]
  generalize l[i.toNat] = m
  rw [fA]
  by_cases hA : inc = m.inc
  ·have hD : decide ((m.inc.toNat : Int) < (inc.toNat : Int)) = false := by rw [hA]; exact decide_eq_false (by omega)
   rw [decide_eq_true hA]
   refine g2_ ?_
   by_cases hB : (0 : Int) < (inc.toNat : Int)
   ·have hB2 : 0 < inc := by rw [UInt16.lt_iff_toNat_lt]; have : (0 : UInt16).toNat = 0 := rfl; omega
    rw [decide_eq_true hB]
    refine g2_ ?_
    by_cases hC : m.state = 3
    ·have hC2 : ((m.state.toNat : Int) != 3) = false := by rw [hC]; rfl
     rw [hC2]
     refine g2_ ?_
     rw [hD]
     repeat first | simp -implicitDefEqProofs only [go_sem, aa, List.length_map, List.contains_nil, aw h1] | with_reducible first | refine gl_ ?_ | refine ga_ ?_ | refine gn_ ?_
     refine ae ?_ rfl
     have e3 : gm inc m = m := if_neg (by rw [hA, hC]; simp)
     repeat first | simp -implicitDefEqProofs only [go_sem, aa, e3, List.map_set, List.length_map, List.length_set, List.take_of_length_le (Nat.le_refl _)] | with_reducible refine gl_ ?_
     rw [List.take_of_length_le (by simp)]
    ·have hC2 : ((m.state.toNat : Int) != 3) = true := by
      have : ((m.state.toNat : Int) != (3 : UInt8).toNat) = !decide (m.state = 3) := by rw [bne, cM]
      rw [show ((3 : UInt8).toNat : Int) = 3 from rfl] at this
      rw [this, decide_eq_false hC]; rfl
     rw [hC2]
     refine g2_ ?_
     rw [hD]
     repeat first | simp -implicitDefEqProofs only [go_sem, aa, List.length_map, List.contains_nil, aw h1] | with_reducible first | refine gl_ ?_ | refine ga_ ?_ | refine gn_ ?_
     refine ae ?_ rfl
     have e3 : gm inc m = ⟨inc, 1, 0⟩ := if_pos (.inr ⟨hA, hB2, hC⟩)
     repeat first | simp -implicitDefEqProofs only [go_sem, aa, e3, List.map_set, List.length_map, List.length_set, List.take_of_length_le (Nat.le_refl _)] | with_reducible refine gl_ ?_
     rw [List.take_of_length_le (by simp)]
   ·have hB2 : ¬ 0 < inc := by rw [UInt16.lt_iff_toNat_lt]; have : (0 : UInt16).toNat = 0 := rfl; omega
    rw [decide_eq_false hB]
    refine g2_ ?_
    rw [hD]
    repeat first | simp -implicitDefEqProofs only [go_sem, aa, List.length_map, List.contains_nil, aw h1] | with_reducible first | refine gl_ ?_ | refine ga_ ?_ | refine gn_ ?_
    refine ae ?_ rfl
    have e3 : gm inc m = m := if_neg (by rw [← hA]; simp [hB2])
    repeat first | simp -implicitDefEqProofs only [go_sem, aa, e3, List.map_set, List.length_map, List.length_set, List.take_of_length_le (Nat.le_refl _)] | with_reducible refine gl_ ?_
    rw [List.take_of_length_le (by simp)]
  ·rw [decide_eq_false hA]
   refine g2_ ?_
   by_cases hD : (m.inc.toNat : Int) < (inc.toNat : Int)
   ·rw [decide_eq_true hD]
    have hD2 : m.inc < inc := by rw [UInt16.lt_iff_toNat_lt]; omega
    repeat first | simp -implicitDefEqProofs only [go_sem, aa, List.length_map, List.contains_nil, aw h1] | with_reducible first | refine gl_ ?_ | refine ga_ ?_ | refine gn_ ?_
    refine ae ?_ rfl
    have e3 : gm inc m = ⟨inc, 1, 0⟩ := if_pos (.inl hD2)
    repeat first | simp -implicitDefEqProofs only [go_sem, aa, e3, List.map_set, List.length_map, List.length_set, List.take_of_length_le (Nat.le_refl _)] | with_reducible refine gl_ ?_
    rw [List.take_of_length_le (by simp)]
   ·rw [decide_eq_false hD]
    have hD2 : ¬ m.inc < inc := by rw [UInt16.lt_iff_toNat_lt]; omega
    repeat first | simp -implicitDefEqProofs only [go_sem, aa, List.length_map, List.contains_nil, aw h1] | with_reducible first | refine gl_ ?_ | refine ga_ ?_ | refine gn_ ?_
    refine ae ?_ rfl
    have e3 : gm inc m = m := if_neg (by simp [hD2, hA])
    repeat first | simp -implicitDefEqProofs only [go_sem, aa, e3, List.map_set, List.length_map, List.length_set, List.take_of_length_le (Nat.le_refl _)] | with_reducible refine gl_ ?_
    rw [List.take_of_length_le (by simp)]
 ·have e1 : decide ((i.toNat : Int) < (l.length : Int)) = false := decide_eq_false (by omega)
  have e2 : de l i inc = l := by rw [de, List.modify_eq_self (by omega)]
  rw [e1, e2]
  refine g2_ ?_
  refine ae ?_ rfl
  repeat first | simp -implicitDefEqProofs only [go_sem, aa, List.length_map, List.take_of_length_le (Nat.le_refl _), cg] | with_reducible refine gl_ ?_
end Go.Proofs.YtlaefellhnkfbaaGreat.V

set_option maxRecDepth 10000
namespace Go.Eng
def lA (l : List (List dv)) : Prop := l.length ≤ 256 ∧ ∀ r ∈ l, r.length ≤ 4000000
def fS (l : List (List dv)) : List (List DV) := l.map fun r => [.fz 3 (r.map bw)]
def ec (l : List (List dv)) (i : UInt8) : List (List dv) := l.set i.toNat (fK l.length)
def aI (c : av) (p : ak) (node : UInt8) (inc : UInt16) : ak × Bool :=
 if c.nodes ≤ node.toNat ∨ p.table.length ≤ node.toNat ∨ node = p.node ∨ inc = 0 then (p, false) else
  match p.table[node.toNat]? with
  | none => (p, false)
  | some m => if inc < m.inc ∨ (inc = m.inc ∧ m.state = 3) then (p, false)
   else ({ p with table := de p.table node inc, reports := if m.inc < inc then ec p.reports node else p.reports }, true)
theorem qY (x : UInt16) : ((x.toNat : Int) == 0) = decide (x = 0) := fA x 0
theorem ad7 (x : UInt8) : ((x.toNat : Int) == 3) = decide (x = 3) := cM x 3
theorem aK (l : List (List dv)) : (l.map fun r => [DV.fz 3 (r.map bw)]) = fS l := rfl
end Go.Eng
namespace Go.Proofs.YtlaefellhnkfbaaGreat.V
open Go.Eng
attribute [local go_sem] aU ah fzD plR bH bw aM bL aJ au bu dC z8 z16 z32 z64 ax
theorem xw (l : List (List dv)) (hl : lA l) : Con2 Tryz.prog 161 [.fz 1 (fS l)] (· = bH 40 1 (fS l)) := by
 obtain ⟨hl1, hl2⟩ := hl
 have hLl : (fS l).length = l.length := by rw [fS, List.length_map]
 have hge0 : ∀ k (hk : k < l.length), (fS l)[k]? = some [DV.fz 3 (l[k].map bw)] := fun k hk => by rw [fS, List.getElem?_map, List.getElem?_eq_getElem hk]; rfl
 generalize fS l = L at hLl hge0
 refine af Ty.mixed Tryz.func161 rfl (by kernel_rfl) (by kernel_rfl) rfl [.tmp 2] rfl ?_
 refine g2_ ?_
 refine gf_ hLl ?_
 refine aB l.length (fun k => []) (fun _ => []) (fun k => [(0, .arr 40 1 (ga [.v (.slice none 0 0)] L k) false)]) 1 (fun _ => True) (ab [] ?_) trivial (fun g k => by simp -implicitDefEqProofs only [go_sem, aa]) (by omega) (fun g => by simp -implicitDefEqProofs only [go_sem, aa]) (fun k hk _ => ?_) (fun _ => ?_)
 ·repeat first | simp -implicitDefEqProofs only [go_sem, aa, nX, hLl] | with_reducible refine gl_ ?_
  first | rfl | exact ⟨rfl, rfl⟩
 ·have hk2 : k < L.length := by omega
  have hge := hge0 k hk
  have hge2 : L[k] = [DV.fz 3 (l[k].map bw)] := by rw [List.getElem?_eq_getElem hk2] at hge; exact Option.some.inj hge
  repeat first | simp -implicitDefEqProofs only [go_sem, aa, hge, ez hk2, eu (Nat.le_of_lt hk2), List.contains_nil] | with_reducible first | refine gl_ ?_ | refine ga_ ?_ | refine gn_ ?_
  refine CallS.eq (kx (l[k].map bw) (by rw [List.length_map]; have := hl2 _ (List.getElem_mem hk); omega)) ws_ (.inl ws_) ?_
  repeat first | simp -implicitDefEqProofs only [go_sem, aa, ez hk2, eu (Nat.le_of_lt hk2), List.contains_nil] | with_reducible first | refine gl_ ?_ | refine ga_ ?_ | refine gn_ ?_
  refine ⟨k + 1, ab [] ?_, rfl⟩
  refine g2_ ?_
  rw [← jL hk2, hge2]
 ·rw [← hLl]
  refine gf_ @jY ?_
  exact ⟨_, rfl, ab [(0, .to 0)] ws_⟩
theorem pS (l : List (List dv)) (i : UInt8) (hl : lA l) : Con2 Tryz.prog 99 [.fz 1 (fS l), .v (.int .u8 i.toNat)] (· = plR (.fz 1 (fS (ec l i)))) := by
 refine Con2.ofEmb ?_
 have hl1 := hl.1
 have hi := i.toNat_lt
 have hLl : (fS l).length = l.length := by rw [fS, List.length_map]
 refine af Ty.mixed Tryz.func99 rfl (by kernel_rfl) (by kernel_rfl) rfl [.tmp 4] rfl ?_
 refine g2_ ?_
 refine g2_ ?_
 refine CallS.eq (xw l hl) ws_ (.inl ws_) ?_
 refine gf_ hLl ?_
 refine bm (fun h => ?_) (fun h => ?_)
 ·have h1 : i.toNat < l.length := by omega
  have h2 : i.toNat < (fS l).length := by omega
  have hg := List.getElem?_eq_getElem h2
  have hm : (if (256 : Int) < (l.length : Int) then (256 : Int) else (l.length : Int)) = l.length := if_neg (by omega)
  refine gg_ hLl hm ?_
  refine CallS.eq (r_ l.length hl1) ws_ (.inl ws_) ?_
  refine gg_ hLl hg ?_
  refine ae ?_ rfl
  repeat first | simp -implicitDefEqProofs only [go_sem, aa, hLl, List.length_set, List.take_of_length_le (Nat.le_refl _)] | with_reducible refine gl_ ?_
  have e1 : (fS l)[i.toNat] = [.fz 3 (l[i.toNat].map bw)] := by simp [fS]
  rw [List.take_of_length_le (by simp [hLl]), e1, fS, ec, List.map_set]
  rfl
 ·have e : ec l i = l := List.set_eq_of_length_le (by omega)
  rw [e]
  refine g2_ ?_
  refine ae ?_ rfl
  repeat first | simp -implicitDefEqProofs only [go_sem, aa, hLl, cg] | with_reducible refine gl_ ?_
  rw [List.take_of_length_le (by omega)]
theorem cY (c : av) (p : ak) (node : UInt8) (inc : UInt16) (hp : okP p) (hr : lA p.reports) : Con2 Tryz.prog 45 [.agg (aJ c), .agg (au p), .v (.int .u8 node.toNat), .v (.int .u16 inc.toNat)] (· = plR (.tup [.agg (au (aI c p node inc).1), .v (.bool (aI c p node inc).2)])) := by
 refine Con2.ofEmb ?_
 have hi := node.toNat_lt
 have hj := p.node.toNat_lt
 have htb := hp.table
 refine af Ty.mixed Tryz.func45 rfl (by kernel_rfl) (by kernel_rfl) rfl [.cell 8 49, .tmp 9] rfl ?_
 refine g2_ ?_
 refine gf_ @aK ?_
 by_cases h1 : c.nodes ≤ (node.toNat : Int)
 ·have e : aI c p node inc = (p, false) := if_pos (.inl h1)
  rw [e, decide_eq_true h1]
  refine gf_ @aK ?_
  refine ae ?_ rfl
  exact ws_
 rw [decide_eq_false h1]
 refine gf_ @aK ?_
 by_cases h2 : p.table.length ≤ node.toNat
 ·have e : aI c p node inc = (p, false) := if_pos (.inr (.inl h2))
  rw [e, decide_eq_true (show (p.table.length : Int) ≤ (node.toNat : Int) by omega)]
  refine gf_ @aK ?_
  refine ae ?_ rfl
  exact ws_
 rw [decide_eq_false (show ¬ (p.table.length : Int) ≤ (node.toNat : Int) by omega)]
 refine gf_ @aK ?_
 rw [cM]
 by_cases h3 : node = p.node
 ·have e : aI c p node inc = (p, false) := if_pos (.inr (.inr (.inl h3)))
  rw [e, decide_eq_true h3]
  refine gf_ @aK ?_
  refine ae ?_ rfl
  exact ws_
 rw [decide_eq_false h3]
 refine gf_ @aK ?_
 rw [qY]
 refine bm (fun h4 => ?_) (fun h4 => ?_)
 ·have e : aI c p node inc = (p, false) := if_pos (.inr (.inr (.inr h4)))
  rw [e]
  refine gf_ @aK ?_
  refine ae ?_ rfl
  exact ws_
 have hk : node.toNat < p.table.length := by omega
 repeat first | simp -implicitDefEqProofs only [go_sem, aa, aK, aw hk] | with_reducible first | refine gl_ ?_ | refine ga_ ?_ | refine gn_ ?_
 have e0 : aI c p node inc = if inc < p.table[node.toNat].inc ∨ (inc = p.table[node.toNat].inc ∧ p.table[node.toNat].state = 3) then (p, false)
   else ({ p with table := de p.table node inc, reports := if p.table[node.toNat].inc < inc then ec p.reports node else p.reports }, true) := by
  unfold aI
  rw [if_neg (by simp [h1, h2, h3, h4]), List.getElem?_eq_getElem hk]
 rw [e0]
 have hth := xZ p.table node inc htb
 generalize p.table[node.toNat] = m
 by_cases h5 : (inc.toNat : Int) < (m.inc.toNat : Int)
 ·have h6 : inc < m.inc := by rw [UInt16.lt_iff_toNat_lt]; omega
  rw [if_pos (.inl h6), decide_eq_true h5]
  refine gf_ @aK ?_
  refine ae ?_ rfl
  exact ws_
 have h6 : ¬ inc < m.inc := by rw [UInt16.lt_iff_toNat_lt]; omega
 rw [decide_eq_false h5]
 refine gf_ @aK ?_
 rw [fA]
 by_cases h7 : inc = m.inc ∧ m.state = 3
 ·rw [if_pos (.inr h7), decide_eq_true h7.1]
  refine gf_ @aK ?_
  rw [ad7, decide_eq_true h7.2]
  refine gf_ @aK ?_
  refine ae ?_ rfl
  exact ws_
 rw [if_neg (by simp [h6]; exact fun a b => h7 ⟨a, b⟩)]
 by_cases hA : inc = m.inc
 ·have hs3 : ¬ m.state = 3 := fun h => h7 ⟨hA, h⟩
  have h8 : ¬ (m.inc.toNat : Int) < (inc.toNat : Int) := by rw [hA]; omega
  have h9 : ¬ m.inc < inc := by rw [UInt16.lt_iff_toNat_lt]; omega
  rw [decide_eq_true hA, if_neg h9]
  refine gf_ @aK ?_
  rw [ad7, decide_eq_false hs3]
  refine gf_ @aK ?_
  refine CallS.eq hth ws_ (.inl ws_) ?_
  refine gf_ @aK ?_
  rw [decide_eq_false h8]
  refine gf_ @aK ?_
  refine ae ?_ rfl
  exact ws_
 ·have h8 : (m.inc.toNat : Int) < (inc.toNat : Int) := by
   have : m.inc.toNat ≠ inc.toNat := fun h => hA (UInt16.toNat_inj.1 h.symm)
   omega
  have h9 : m.inc < inc := by rw [UInt16.lt_iff_toNat_lt]; omega
  rw [decide_eq_false hA, if_pos h9]
  refine gf_ @aK ?_
  refine CallS.eq hth ws_ (.inl ws_) ?_
  refine gf_ @aK ?_
  rw [decide_eq_true h8]
  refine gf_ @aK ?_
  refine CallS.eq (pS p.reports node hr) ws_ (.inl ws_) ?_
  refine gf_ @aK ?_
  refine ae ?_ rfl
  exact wf_ @aK
end Go.Proofs.YtlaefellhnkfbaaGreat.V

set_option maxRecDepth 10000
namespace Go.Eng
def b_ (p : ak) (d : GDesc) : Bool :=
 if d.node = p.node then false else match p.table[d.node.toNat]? with
  | none => false
  | some m => decide (m.inc < d.inc) || (decide (d.inc = m.inc) && decide (m.state = 1))
def bk (p : ak) (l : List GDesc) : List GDesc := l.filter (b_ p)
theorem alZ (x : UInt8) : ((x.toNat : Int) == 1) = decide (x = 1) := cM x 1
theorem i4 {α : Type} {f : α → Bool} {l : List α} {k : Nat} (h : k < l.length) : (l.take (k + 1)).filter f = (l.take k).filter f ++ (if f l[k] = true then [l[k]] else []) := by
 rw [List.take_add_one, List.getElem?_eq_getElem h, List.filter_append]
 simp only [Option.toList_some, List.filter_cons, List.filter_nil]
theorem mH {α : Type} {f : α → Bool} (l : List α) (k : Nat) : ((l.take k).filter f).length ≤ l.length := by
 have h1 := List.length_filter_le f (l.take k)
 rw [List.length_take] at h1
 omega
theorem eA {f : GDesc → Bool} {l : List GDesc} (h : bZ l) : bZ (l.filter f) := ⟨Nat.le_trans (List.length_filter_le _ _) h.1, fun d hd => h.2 d (List.mem_filter.1 hd).1⟩
end Go.Eng
namespace Go.Proofs.YtlaefellhnkfbaaGreat.V
open Go.Eng
attribute [local go_sem] aU ah fzD plR bH bw aM bL aJ au bu dC z8 z16 z32 z64 ax
def da (c : av) (d : GDesc) : Bool := decide ((d.node.toNat : Int) < c.nodes) && decide ((1 : Int) ≤ (d.inc.toNat : Int)) && iP c.schema d.filter
theorem ux {c : av} {d : GDesc} (hc : c.schema.length ≤ 4) (h : da c d = true) : d.filter.length ≤ 8 := by
 simp only [da, iP, Bool.and_eq_true, Bool.or_eq_true, decide_eq_true_eq, List.isEmpty_iff] at h
 rcases h.2 with h | h
 ·rw [h]; simp
 ·omega
def ew (c : av) (l : List GDesc) : List GDesc := l.filter (da c)
theorem ade (c : av) (l : List GDesc) (hc : c.schema.length ≤ 4000000) (hl : bZ l) : Con2 Tryz.prog 37 [.agg (aJ c), fzD l] (· = bH 34 4 ((ew c l).map ah)) := by
 have hb := hl.1
 refine af Ty.mixed Tryz.func37 rfl (by kernel_rfl) (by kernel_rfl) rfl [.tmp 4] rfl ?_
 refine g2_ ?_
 refine g2_ ?_
 refine aB l.length (fun k => [(5, .d (.rf 0 0 (ew c (l.take k)).length))]) (fun _ => []) (fun k => [(0, .arr 34 4 ((ew c (l.take k)).map ah) false)]) 1 (fun _ => True) (ab [(0, .nil 4)] ?_) trivial (fun g k => by simp -implicitDefEqProofs only [go_sem, aa]) (by omega) (fun g => by simp -implicitDefEqProofs only [go_sem, aa]) (fun k hk _ => ?_) (fun _ => ?_)
 ·repeat first | simp -implicitDefEqProofs only [go_sem, aa, List.take_zero, ew, List.filter_nil] | with_reducible refine gl_ ?_
  first | rfl | exact ⟨rfl, rfl⟩
 ·have hdl := mH (f := da c) l k
  have hdl2 : (ew c (l.take k)).length ≤ l.length := hdl
  have hnd := l[k].node.toNat_lt
  have hsn : ew c (l.take (k + 1)) = ew c (l.take k) ++ (if da c l[k] = true then [l[k]] else []) := i4 hk
  have hfr := ur c.schema l[k].filter (by omega) (by have := hl.2 _ (List.getElem_mem hk); omega)
  have hfc := iB l[k].filter (by have := hl.2 _ (List.getElem_mem hk); omega)
  repeat first | simp -implicitDefEqProofs only [go_sem, aa, aw hk] | with_reducible first | refine gl_ ?_ | refine ga_ ?_ | refine gn_ ?_
  generalize l[k] = d at hsn hfr hfc hnd
  by_cases h1 : (d.node.toNat : Int) < c.nodes
  ·rw [decide_eq_true h1]
   refine g2_ ?_
   by_cases h2 : (1 : Int) ≤ (d.inc.toNat : Int)
   ·rw [decide_eq_true h2]
    refine g2_ ?_
    refine CallS.eq hfr ws_ (.inl ws_) ?_
    refine g2_ ?_
    cases h3 : iP c.schema d.filter with
    | true =>
     have e : da c d = true := by simp [da, h1, h2, h3]
     refine g2_ ?_
     refine CallS.eq hfc ws_ (.inl ws_) ?_
     refine gx_ ?_
     refine ⟨k + 1, ab [(0, .to 2)] ?_, rfl⟩
     repeat first | simp -implicitDefEqProofs only [go_sem, aa, hsn, e, if_true, List.length_append] | with_reducible refine gl_ ?_
     first | rfl | exact ⟨rfl, by simp [ah]⟩ | simp [ah]
    | false =>
     have e : da c d = false := by simp [da, h3]
     refine g2_ ?_
     refine ⟨k + 1, ab [(0, .to 0)] ?_, rfl⟩
     repeat first | simp -implicitDefEqProofs only [go_sem, aa, hsn, e, List.append_nil, if_false] | with_reducible refine gl_ ?_
   ·have e : da c d = false := by simp [da, h2]
    rw [decide_eq_false h2]
    refine g2_ ?_
    refine ⟨k + 1, ab [(0, .to 0)] ?_, rfl⟩
    repeat first | simp -implicitDefEqProofs only [go_sem, aa, hsn, e, List.append_nil, if_false] | with_reducible refine gl_ ?_
  ·have e : da c d = false := by simp [da, h1]
   rw [decide_eq_false h1]
   refine g2_ ?_
   refine ⟨k + 1, ab [(0, .to 0)] ?_, rfl⟩
   repeat first | simp -implicitDefEqProofs only [go_sem, aa, hsn, e, List.append_nil, if_false] | with_reducible refine gl_ ?_
 ·have he : l.take l.length = l := List.take_of_length_le (by omega)
  refine g2_ ?_
  exact ⟨_, rfl, ab [] (wf_ he)⟩
theorem l_ (p : ak) (d : GDesc) (hp : okP p) : Con2 Tryz.prog 109 [.agg (au p), .agg (ah d)] (· = plR (.v (.bool (b_ p d)))) := by
 have hnd := d.node.toNat_lt
 have htb := hp.table
 refine af Ty.mixed Tryz.func109 rfl (by kernel_rfl) (by kernel_rfl) rfl [.tmp 4] rfl ?_
 refine g2_ ?_
 refine g2_ ?_
 rw [cM]
 by_cases h1 : d.node = p.node
 ·have e : b_ p d = false := if_pos h1
  rw [e, decide_eq_true h1]
  refine g2_ ?_
  exact ⟨_, rfl, ab [] ws_⟩
 rw [decide_eq_false h1]
 refine g2_ ?_
 by_cases h2 : p.table.length ≤ d.node.toNat
 ·have e : b_ p d = false := by rw [b_, if_neg h1, List.getElem?_eq_none h2]
  rw [e, decide_eq_true (show (p.table.length : Int) ≤ (d.node.toNat : Int) by omega)]
  refine g2_ ?_
  exact ⟨_, rfl, ab [] ws_⟩
 have hk : d.node.toNat < p.table.length := by omega
 rw [decide_eq_false (show ¬ (p.table.length : Int) ≤ (d.node.toNat : Int) by omega)]
 repeat first | simp -implicitDefEqProofs only [go_sem, aa, aw hk] | with_reducible first | refine gl_ ?_ | refine ga_ ?_ | refine gn_ ?_
 have e : b_ p d = (decide (p.table[d.node.toNat].inc < d.inc) || (decide (d.inc = p.table[d.node.toNat].inc) && decide (p.table[d.node.toNat].state = 1))) := by rw [b_, if_neg h1, List.getElem?_eq_getElem hk]
 rw [e]
 generalize p.table[d.node.toNat] = m
 by_cases h3 : (m.inc.toNat : Int) < (d.inc.toNat : Int)
 ·have h4 : m.inc < d.inc := by rw [UInt16.lt_iff_toNat_lt]; omega
  rw [decide_eq_true h3, decide_eq_true h4]
  refine g2_ ?_
  exact ⟨_, rfl, ab [] (wf_ @Bool.true_or)⟩
 have h4 : ¬ m.inc < d.inc := by rw [UInt16.lt_iff_toNat_lt]; omega
 rw [decide_eq_false h3, decide_eq_false h4]
 refine g2_ ?_
 rw [fA]
 by_cases h5 : d.inc = m.inc
 ·rw [decide_eq_true h5]
  refine g2_ ?_
  exact ⟨_, rfl, ab [] (wg_ @alZ @Bool.false_or)⟩
 ·rw [decide_eq_false h5]
  refine g2_ ?_
  exact ⟨_, rfl, ab [] (wg_ @Bool.false_or @Bool.false_and)⟩
theorem afV (p : ak) (l : List GDesc) (hp : okP p) (hl : bZ l) : Con2 Tryz.prog 108 [.agg (au p), fzD l] (· = bH 34 4 ((bk p l).map ah)) := by
 have hb := hl.1
 have hcu := fun d => l_ p d hp
 have hP1 : onesD (au p) = true := by simp -implicitDefEqProofs only [go_sem, aa]
 have hP2 : ldsD true 32 0 (some (au p)) = some (.agg (au p)) := by simp -implicitDefEqProofs only [go_sem, aa]
 have hP3 : ∀ r, wkDs r (au p) (au p) := by intro r; exact ws_
 have hP4 : ∀ H, embDs H (au p) = some (au p) := by intro H; exact ws_
 have hP5 : noPts (au p) = true := by simp -implicitDefEqProofs only [go_sem, aa]
 generalize au p = P at hcu hP1 hP2 hP3 hP4 hP5
 refine af Ty.mixed Tryz.func108 rfl (by kernel_rfl) (by kernel_rfl) rfl [.tmp 4] rfl ?_
 repeat first | simp -implicitDefEqProofs only [go_sem, aa] | with_reducible refine gl_ ?_
 refine ⟨hP1, ?_⟩
 refine aB l.length (fun k => [(5, .d (.rf 0 0 (bk p (l.take k)).length))]) (fun _ => []) (fun k => [(0, .arr 34 4 ((bk p (l.take k)).map ah) false)]) 1 (fun _ => True) (ab [(0, .nil 4)] ?_) trivial (fun g k => by simp -implicitDefEqProofs only [go_sem, aa]) (by omega) (fun g => by simp -implicitDefEqProofs only [go_sem, aa]) (fun k hk _ => ?_) (fun _ => ?_)
 ·repeat first | simp -implicitDefEqProofs only [go_sem, aa, List.take_zero, bk, List.filter_nil] | with_reducible refine gl_ ?_
  repeat' (first | exact hP3 _ | (with_reducible rfl) | (refine And.intro ?_ ?_) | rfl | (simp [ah]; done))
 ·have hdl2 : (bk p (l.take k)).length ≤ l.length := mH (f := b_ p) l k
  have hsn : bk p (l.take (k + 1)) = bk p (l.take k) ++ (if b_ p l[k] = true then [l[k]] else []) := i4 hk
  repeat first | simp -implicitDefEqProofs only [go_sem, aa, aw hk, hP2] | with_reducible first | refine gl_ ?_ | refine ga_ ?_ | refine gn_ ?_
  refine CallS.eq (hcu l[k]) (wf_ hP4) (.inl (wf_ hP5)) ?_
  refine g2_ ?_
  refine jD (fun h => ?_) (fun h => ?_)
  ·refine gx_ ?_
   refine ⟨k + 1, ab [(0, .to 2)] ?_, rfl⟩
   repeat first | simp -implicitDefEqProofs only [go_sem, aa, hsn, h, if_true, List.length_append] | with_reducible refine gl_ ?_
   repeat' (first | exact hP3 _ | (with_reducible rfl) | (refine And.intro ?_ ?_) | rfl | (simp [ah]; done))
  ·refine g2_ ?_
   refine ⟨k + 1, ab [(0, .to 0)] ?_, rfl⟩
   repeat first | simp -implicitDefEqProofs only [go_sem, aa, hsn, h, if_false, List.append_nil] | with_reducible refine gl_ ?_
   repeat' (first | exact hP3 _ | (with_reducible rfl) | (refine And.intro ?_ ?_) | rfl | (simp [ah]; done))
 ·have he : l.take l.length = l := List.take_of_length_le (by omega)
  refine g2_ ?_
  exact ⟨_, rfl, ab [] (wf_ he)⟩
theorem rz (c : av) (l : List GDesc) (hc : c.schema.length ≤ 4000000) (hl : bZ l) : Con2 Tryz.prog 37 [.agg (aJ c), fzD l] (· = plR (fzD (ew c l))) := iG (ade c l hc hl)
theorem pP (p : ak) (l : List GDesc) (hp : okP p) (hl : bZ l) : Con2 Tryz.prog 108 [.agg (au p), fzD l] (· = plR (fzD (bk p l))) := iG (afV p l hp hl)
def bW (c : av) (p : ak) (l : List GDesc) : List GDesc := bk p (ew c l)
theorem lB (c : av) (p : ak) (l : List GDesc) (hc : c.schema.length ≤ 4000000) (hp : okP p) (hl : bZ l) : Con2 Tryz.prog 110 [.agg (aJ c), .agg (au p), fzD l] (· = plR (fzD (bW c p l))) := by
 refine Con2.ofEmb ?_
 have h1 := rz c l hc hl
 have h2 := pP p (ew c l) hp (eA hl)
 refine af Ty.mixed Tryz.func110 rfl (by kernel_rfl) (by kernel_rfl) rfl [.tmp 6] rfl ?_
 refine g2_ ?_
 refine g2_ ?_
 refine .inl ⟨oF [0, 1, 2] (oT 3 (oF [4, 5] [])), by kernel_rfl, ?_⟩
 refine g2_ ?_
 refine CallS.eq h1 ws_ (.inl ws_) ?_
 refine g2_ ?_
 refine CallS.eq h2 ws_ (.inl ws_) ?_
 refine g2_ ?_
 refine ae ?_ rfl
 repeat first | simp -implicitDefEqProofs only [go_sem, aa, bW] | with_reducible refine gl_ ?_
end Go.Proofs.YtlaefellhnkfbaaGreat.V

set_option maxRecDepth 10000
namespace Go.Eng
def iH (a b : ao) : Bool := if a.inc ≠ b.inc then decide (b.inc < a.inc) else decide (0 < a.inc) && decide (b.state < a.state)
def mMg (m : List ao) (self : UInt8) (i : Nat) (x : ao) : ao :=
 match m[i]? with
 | some y => if i ≠ self.toNat ∧ iH y x = true then ⟨y.inc, y.state, 0⟩ else x
 | none => x
def dG (l m : List ao) (self : UInt8) : List ao := l.mapIdx (mMg m self)
def ek (l m : List ao) (self : UInt8) (k : Nat) : List ao := l.mapIdx fun i x => if i < k then mMg m self i x else x
theorem kG {l m : List ao} {self : UInt8} {k : Nat} : (ek l m self k).length = l.length := by simp [ek]
theorem afk {l m : List ao} {self : UInt8} : ek l m self 0 = l := by
 apply List.ext_getElem?; intro j; simp [ek]
theorem xY {l m : List ao} {self : UInt8} {n : Nat} (h : n = min l.length m.length) : ek l m self n = dG l m self := by
 apply List.ext_getElem?; intro j
 simp only [ek, dG, List.getElem?_mapIdx]
 cases hl : l[j]? with
 | none => rfl
 | some x =>
  simp only [Option.map_some, Option.some.injEq]
  split
  ·rfl
  ·have := (List.getElem?_eq_some_iff.1 hl).1
   have : m[j]? = none := List.getElem?_eq_none (by omega)
   rw [mMg, this]
theorem zx {l m : List ao} {self : UInt8} {k : Nat} (h : k < l.length) : ek l m self (k + 1) = (ek l m self k).set k (mMg m self k l[k]) := by
 apply List.ext_getElem?; intro j
 rw [List.getElem?_set, kG]
 simp only [ek, List.getElem?_mapIdx]
 by_cases e : k = j
 ·subst e; simp [h]
 ·rw [if_neg e]
  congr 1
  funext x
  have : (j < k + 1) = (j < k) := by rw [eq_iff_iff]; omega
  simp only [this]
theorem pI {l m : List ao} {self : UInt8} {k : Nat} (h : k < l.length) : (ek l m self k)[k]? = some l[k] := by
 simp [ek, h]
end Go.Eng
namespace Go.Proofs.YtlaefellhnkfbaaGreat.V
open Go.Eng
attribute [local go_sem] aU ah fzD plR bH bw aM bL aJ au bu dC z8 z16 z32 z64 ax
theorem zk (a b : ao) : Con2 Tryz.prog 234 [.agg (aM a), .agg (aM b)] (· = plR (.v (.bool (iH a b)))) := by
 refine af Ty.mixed Tryz.func234 rfl (by kernel_rfl) (by kernel_rfl) rfl [.tmp 4] rfl ?_
 refine g2_ ?_
 refine g2_ ?_
 rw [sE]
 by_cases h : a.inc = b.inc
 ·have e : iH a b = (decide ((0 : Int) < (a.inc.toNat : Int)) && decide ((b.state.toNat : Int) < (a.state.toNat : Int))) := by
   rw [iH, if_neg (by simp [h])]
   have := gH 0 a.inc
   rw [show ((0 : UInt16).toNat : Int) = 0 from rfl] at this
   simp only [gQ, this]
  rw [e, decide_eq_true h]
  refine g2_ ?_
  refine qa (fun h2 => ?_) (fun h2 => ?_)
  all_goals
   rw [h2]
   refine g2_ ?_
   exact ⟨_, rfl, ab [] (wf_ @Bool.false_and)⟩
 ·have e : iH a b = decide ((b.inc.toNat : Int) < (a.inc.toNat : Int)) := by rw [iH, if_pos h]; simp only [gH]
  rw [e, decide_eq_false h]
  refine g2_ ?_
  exact ⟨_, rfl, ab [] ws_⟩
theorem yO (l m : List ao) (self : UInt8) (hl : l.length ≤ 4000000) (hm : m.length ≤ 4000000) : Con2 Tryz.prog 211 [.fz 3 (l.map aM), .fz 3 (m.map aM), .v (.int .u8 self.toNat)] (· = plR (.fz 3 ((dG l m self).map aM))) := by
 refine Con2.ofEmb ?_
 have hself := self.toNat_lt
 have hne := fun a b => zk a b
 refine af Ty.mixed Tryz.func211 rfl (by kernel_rfl) (by kernel_rfl) rfl [.tmp 6] rfl ?_
 refine g2_ ?_
 refine g2_ ?_
 refine CallS.eq (gO (l.map aM) (by rw [List.length_map]; omega)) ws_ (.inl ws_) ?_
 refine gx_ ?_
 obtain ⟨n, hn⟩ : ∃ n, n = min l.length m.length := ⟨_, rfl⟩
 rw [show (if (m.length : Int) < (l.length : Int) then (m.length : Int) else (l.length : Int)) = (n : Int) by split <;> omega]
 refine aB n (fun k => []) (fun _ => []) (fun k => [(0, .arr 71 3 ((ek l m self k).map aM) false)]) 1 (fun _ => True) (ab [] ?_) trivial (fun g k => by simp -implicitDefEqProofs only [go_sem, aa]) (by omega) (fun g => by simp -implicitDefEqProofs only [go_sem, aa]) (fun k hk _ => ?_) (fun _ => ?_)
 ·repeat first | simp -implicitDefEqProofs only [go_sem, aa, afk] | with_reducible refine gl_ ?_
  first | rfl | exact ⟨rfl, rfl⟩
 ·have hk1 : k < l.length := by omega
  have hk2 : k < m.length := by omega
  refine g2_ ?_
  refine .inl ⟨oF [0, 1, 2, 3, 4, 5, 6, 9, 10, 7, 11, 8, 12, 13, 14] [], by kernel_rfl, ?_⟩
  refine g2_ ?_
  have hse := zx (l := l) (m := m) (self := self) hk1
  have hsame : (ek l m self k).set k l[k] = ek l m self k := by
   apply List.ext_getElem?; intro j
   rw [List.getElem?_set]
   split
   ·subst_vars; rw [pI hk1]; simp [kG, hk1]
   ·rfl
  have hmg : mMg m self k l[k] = if k ≠ self.toNat ∧ iH m[k] l[k] = true then ⟨m[k].inc, m[k].state, 0⟩ else l[k] := by rw [mMg, List.getElem?_eq_getElem hk2]
  by_cases hs : k = self.toNat
  ·rw [show ((k : Int) != (self.toNat : Int)) = false by simp [hs]]
   rw [if_neg (by simp [hs])] at hmg
   rw [hmg, hsame] at hse
   refine g2_ ?_
   refine ⟨k + 1, ab [(0, .to 0)] ?_, rfl⟩
   exact wf_ hse
  ·rw [show ((k : Int) != (self.toNat : Int)) = true by simp; omega]
   repeat first | simp -implicitDefEqProofs only [go_sem, aa, aw hk1, aw hk2] | with_reducible first | refine gl_ ?_ | refine ga_ ?_ | refine gn_ ?_
   refine CallS.eq (hne m[k] l[k]) ws_ (.inl ws_) ?_
   refine g2_ ?_
   cases hnw : iH m[k] l[k] with
   | true =>
    rw [if_pos ⟨hs, hnw⟩] at hmg
    rw [hmg] at hse
    refine g2_ ?_
    refine .inl ⟨oF [0, 1, 2, 3, 7, 8, 4, 9, 5, 10, 6, 11, 12, 13, 14] [], by kernel_rfl, ?_⟩
    have hgt : (List.map aM (ek l m self k))[k]? = some (aM l[k]) := by rw [List.getElem?_map, pI hk1]; rfl
    repeat first | simp -implicitDefEqProofs only [go_sem, aa, aw hk2, hgt, List.length_map, kG, List.contains_nil] | with_reducible first | refine gl_ ?_ | refine ga_ ?_ | refine gn_ ?_
    refine ⟨k + 1, ab [(0, .to 0)] ?_, rfl⟩
    repeat first | simp -implicitDefEqProofs only [go_sem, aa, hse, List.map_set] | with_reducible refine gl_ ?_
   | false =>
    rw [if_neg (by simp [hnw])] at hmg
    rw [hmg, hsame] at hse
    refine g2_ ?_
    refine ⟨k + 1, ab [(0, .to 0)] ?_, rfl⟩
    exact wf_ hse
 ·refine g2_ ?_
  refine ae ?_ rfl
  rw [xY hn]
  have hlen : (dG l m self).length = l.length := by simp [dG]
  repeat first | simp -implicitDefEqProofs only [go_sem, aa, List.length_map, hlen] | with_reducible refine gl_ ?_
  rw [List.take_of_length_le (by simp [hlen])]
def qC (a b : List ao) (r : List (List dv)) (k : Nat) : List (List dv) := (List.range k).foldl (fun r i => match a[i]?, b[i]? with
  | some x, some y => if x.inc < y.inc then ec r (UInt8.ofNat i) else r
  | _, _ => r) r
def cK (p : ak) (t : List ao) : ak := { p with table := dG p.table t p.node, reports := qC p.table (dG p.table t p.node) p.reports p.table.length }
theorem abB {a b : List ao} {r : List (List dv)} {k : Nat} (h1 : k < a.length) (h2 : k < b.length) : qC a b r (k + 1) = if a[k].inc < b[k].inc then ec (qC a b r k) (UInt8.ofNat k) else qC a b r k := by
 rw [qC, List.range_succ, List.foldl_append]
 simp only [List.foldl_cons, List.foldl_nil, List.getElem?_eq_getElem h1, List.getElem?_eq_getElem h2]
 rfl
theorem jl {r : List (List dv)} {i : UInt8} (h : lA r) : lA (ec r i) := by
 refine ⟨by simp [ec, h.1], fun x hx => ?_⟩
 rcases List.mem_or_eq_of_mem_set hx with h1 | rfl
 ·exact h.2 x h1
 ·rw [iW]; have := h.1; omega
theorem lf {a b : List ao} {r : List (List dv)} (h : lA r) : ∀ k, lA (qC a b r k)
 | 0 => h
 | k + 1 => by
  rw [qC, List.range_succ, List.foldl_append]
  have ih := lf (a := a) (b := b) h k
  simp only [List.foldl_cons, List.foldl_nil]
  split
  ·split
   ·exact jl ih
   ·exact ih
  ·exact ih
theorem pC (p : ak) (t : List ao) (hp : okP p) (ht : p.table.length ≤ 256) (htt : t.length ≤ 4000000) (hr : lA p.reports) : Con2 Tryz.prog 163 [.agg (au p), .fz 3 (t.map aM)] (· = plR (.agg (au (cK p t)))) := by
 refine Con2.ofEmb ?_
 have hme := yO p.table t p.node (by omega) htt
 have hlen : (dG p.table t p.node).length = p.table.length := by simp [dG]
 unfold cK
 generalize dG p.table t p.node = T at hme hlen
 refine af Ty.mixed Tryz.func163 rfl (by kernel_rfl) (by kernel_rfl) rfl [.cell 4 49] rfl ?_
 refine g2_ ?_
 refine gf_ @aK ?_
 refine CallS.eq hme ws_ (.inl ws_) ?_
 refine gg_ @aK hlen ?_
 rw [show (if (p.table.length : Int) < (p.table.length : Int) then (p.table.length : Int) else (p.table.length : Int)) = (p.table.length : Int) by split <;> rfl]
 refine aB p.table.length (fun k => []) (fun k => [(2, ⟨au { p with table := T, reports := qC p.table T p.reports k }, 49⟩)]) (fun k => []) 0 (fun _ => True) (ab [] ?_) trivial (fun g k => by simp -implicitDefEqProofs only [go_sem, aa]) (by omega) (fun g => by simp -implicitDefEqProofs only [go_sem, aa]) (fun k hk _ => ?_) (fun _ => ?_)
 ·repeat first | simp -implicitDefEqProofs only [go_sem, aa, qC, List.range_zero, List.foldl_nil, aK] | with_reducible refine gl_ ?_
  rfl
 ·have hk2 : k < T.length := by omega
  have hok := lf (a := p.table) (b := T) hr k
  have hsu := abB (r := p.reports) hk hk2
  refine gf_ @aK ?_
  refine .inl ⟨oF [0, 2, 6, 7, 1, 8, 3, 9, 4, 10, 5, 11] [], by kernel_rfl, ?_⟩
  repeat first | simp -implicitDefEqProofs only [go_sem, aa, aw hk, aw hk2, aK] | with_reducible first | refine gl_ ?_ | refine ga_ ?_ | refine gn_ ?_
  have hku : ((UInt8.ofNat k).toNat : Int) = k := by rw [UInt8.toNat_ofNat']; omega
  have hfo := pS (qC p.table T p.reports k) (UInt8.ofNat k) hok
  rw [hku] at hfo
  by_cases h : p.table[k].inc < T[k].inc
  ·have h2 : (p.table[k].inc.toNat : Int) < (T[k].inc.toNat : Int) := (gH _ _).2 h
   rw [if_pos h] at hsu
   rw [decide_eq_true h2]
   refine gf_ @aK ?_
   refine jg (by omega) ?_
   refine gf_ @aK ?_
   refine CallS.eq hfo ws_ (.inl ws_) ?_
   refine gf_ @aK ?_
   refine ⟨k + 1, ab [] ?_, rfl⟩
   exact wg_ hsu @aK
  ·have h2 : ¬ (p.table[k].inc.toNat : Int) < (T[k].inc.toNat : Int) := fun h3 => h ((gH _ _).1 h3)
   rw [if_neg h] at hsu
   rw [decide_eq_false h2]
   refine gf_ @aK ?_
   refine ⟨k + 1, ab [] ?_, rfl⟩
   exact wg_ hsu @aK
 ·refine gf_ @aK ?_
  refine ae ?_ rfl
  exact wf_ @aK
end Go.Proofs.YtlaefellhnkfbaaGreat.V
