/-
  Part 29 of the proof of Pl: the engine and the walks, in their order.
-/
import Derived.Test.YtlaefellhnkfbaaGreatPl26
import Derived.Test.YtlaefellhnkfbaaGreatPl28
set_option linter.unusedSimpArgs false
set_option linter.unusedVariables false
set_option maxRecDepth 10000
namespace Go.Eng
structure okP (p : GPeer) : Prop where
  filter : p.filter.length ≤ 1000
  view : okDs p.view
  near : okDs p.near
  succ : p.ring.succ.filter.length ≤ 1000
  pred : p.ring.pred.filter.length ≤ 1000
  sent : okDs p.wait.sent
  table : p.table.length ≤ 1000
  heard : p.heard.length ≤ 1000
  rows : p.rows.length ≤ 1000
  reports : p.reports.length ≤ 1000 ∧ ∀ l ∈ p.reports, l.length ≤ 1000
  evs : p.buf.evs.length ≤ 1000 ∧ ∀ e ∈ p.buf.evs, e.vals.length ≤ 1000 ∧ e.data.length ≤ 1000
  pulls : p.pulls.length ≤ 1000
structure GMsg where
  kind : UInt8
  frm : UInt8
  inc : UInt16
  to : UInt8
  list : List GDesc
  table : List GMember
  ev : GEvt
  hops : UInt8
  origin : GMark
  marks : List GMark
  ids : List GID
deriving DecidableEq
def encId (x : GID) : List DV := [.v (.int .u8 x.node.toNat), .v (.int .u16 x.inc.toNat), .v (.int .u32 x.seq.toNat)]
def encMg (m : GMsg) : List DV := [.v (.int .u8 m.kind.toNat), .v (.int .u8 m.frm.toNat), .v (.int .u16 m.inc.toNat), .v (.int .u8 m.to.toNat), fzD m.list, .fz 3 (m.table.map encM),
  .v (.int .u8 m.ev.id.node.toNat), .v (.int .u16 m.ev.id.inc.toNat), .v (.int .u32 m.ev.id.seq.toNat), .fz 1 (m.ev.vals.map encI), .fz 1 (m.ev.data.map encBD), .v (.int .u8 m.hops.toNat),
  .v (.int .u8 m.origin.node.toNat), .v (.int .u16 m.origin.inc.toNat), .v (.int .u32 m.origin.seq.toNat), .fz 3 (m.marks.map encK), .fz 3 (m.ids.map encId)]
def zEvt : GEvt := ⟨⟨0, 0, 0⟩, [], []⟩
def pSelf (p : GPeer) : GDesc := ⟨p.node, p.inc, 0, p.filter⟩
def pMsg (p : GPeer) (kind to : UInt8) : GMsg := ⟨kind, p.node, p.inc, to, [], [], zEvt, 0, ⟨0, 0, 0⟩, [], []⟩
end Go.Eng
namespace Go.Proofs.YtlaefellhnkfbaaGreat.V
open Go.Eng
attribute [local go_sem] encS encDD fzD plR rowR encK encM encRw encC encP encEv encA z8 z16 z32 z64
theorem copyF_con (l : List GDesc) (hl : okDs l) : Con2 Tryz.prog 92 [fzD l] (· = plR (fzD l)) := row_fz (copy_con l hl)
theorem evcopy_con (e : GEvt) (h1 : e.vals.length ≤ 1000) (h2 : e.data.length ≤ 1000) : Con2 Tryz.prog 96 [.agg (encEv e)] (· = plR (.agg (encEv e))) := by
  refine Con2.ofEmb ?_
  refine con2_of Ty.mixed Tryz.func96 rfl (by kernel_rfl) (by kernel_rfl) rfl [.cell 2 63] rfl ?_
  refine g2_ ?_
  refine g2_ ?_
  refine ret_emb ?_ rfl
  exact ws_
theorem pself_con (p : GPeer) (hp : okP p) : Con2 Tryz.prog 32 [.agg (encP p)] (· = plR (.agg (encDD (pSelf p)))) := by
  refine Con2.ofEmb ?_
  have hf := hp.filter
  refine con2_of Ty.mixed Tryz.func32 rfl (by kernel_rfl) (by kernel_rfl) rfl [.cell 2 34] rfl ?_
  refine g2_ ?_
  refine g2_ ?_
  refine .inl ⟨[(0, false), (2, false), (4, false), (1, false), (3, false), (5, false), (6, true), (7, false), (8, false)], by kernel_rfl, ?_⟩
  refine g2_ ?_
  refine CallS.eq (fcopy_con p.filter (by omega)) ws_ (.inl ws_) ?_
  refine g2_ ?_
  refine ret_emb ?_ rfl
  repeat first | simp -implicitDefEqProofs only [go_sem, vc2_blk, pSelf] | with_reducible refine gl_ ?_
theorem pmsg_con (p : GPeer) (kind to : UInt8) : Con2 Tryz.prog 43 [.agg (encP p), .v (.int .u8 kind.toNat), .v (.int .u8 to.toNat)] (· = plR (.agg (encMg (pMsg p kind to)))) := by
  refine Con2.ofEmb ?_
  refine con2_of Ty.mixed Tryz.func43 rfl (by kernel_rfl) (by kernel_rfl) rfl [.cell 6 67] rfl ?_
  refine g2_ ?_
  refine g2_ ?_
  refine ret_emb ?_ rfl
  repeat first | simp -implicitDefEqProofs only [go_sem, vc2_blk, encMg, pMsg, zEvt, List.map_nil] | with_reducible refine gl_ ?_
theorem pfresh_con (p : GPeer) (hp : okP p) : Con2 Tryz.prog 44 [.agg (encP p)] (· = plR (.agg (encP p))) := by
  refine Con2.ofEmb ?_
  have hfi := hp.filter
  have hsu := hp.succ
  have hpr := hp.pred
  have htb := hp.table
  have hhe := hp.heard
  have hrw := hp.rows
  have hpu := hp.pulls
  obtain ⟨hre, hre2⟩ := hp.reports
  obtain ⟨hev, hev2⟩ := hp.evs
  refine con2_of Ty.mixed Tryz.func44 rfl (by kernel_rfl) (by kernel_rfl) rfl [.cell 2 49] rfl ?_
  refine g2_ ?_
  refine g2_ ?_
  refine CallS.eq (fcopy_con p.filter (by omega)) ws_ (.inl ws_) ?_
  refine g2_ ?_
  refine CallS.eq (copyF_con p.view hp.view) ws_ (.inl ws_) ?_
  refine g2_ ?_
  refine CallS.eq (copyF_con p.near hp.near) ws_ (.inl ws_) ?_
  refine g2_ ?_
  refine CallS.eq (fcopy_con p.ring.succ.filter (by omega)) ws_ (.inl ws_) ?_
  refine g2_ ?_
  refine CallS.eq (fcopy_con p.ring.pred.filter (by omega)) ws_ (.inl ws_) ?_
  refine g2_ ?_
  refine CallS.eq (copyF_con p.wait.sent hp.sent) ws_ (.inl ws_) ?_
  refine g2_ ?_
  refine CallS.eq (cloneM_con (p.table.map encM) (by rw [List.length_map]; omega)) ws_ (.inl ws_) ?_
  refine g2_ ?_
  refine CallS.eq (cloneK_con (p.heard.map encK) (by rw [List.length_map]; omega)) ws_ (.inl ws_) ?_
  refine g2_ ?_
  refine CallS.eq (cloneR_con (p.rows.map encRw) (by rw [List.length_map]; omega)) ws_ (.inl ws_) ?_
  refine g2_ ?_
  generalize hL : (p.reports.map fun l => [DV.fz 3 (l.map encK)]) = L
  have hLl : L.length = p.reports.length := by subst hL; rw [List.length_map]
  refine vc2_rangeA p.reports.length (fun k => []) (fun _ => []) (fun k => [(0, .arr 40 1 (partL [.v (.slice none 0 0)] L k) false)]) 1 (fun _ => True) (le2_of [] ?_) trivial (fun g k => by simp -implicitDefEqProofs only [go_sem, vc2_blk]) (by omega) (fun g => by simp -implicitDefEqProofs only [go_sem, vc2_blk]) (fun k hk _ => ?_) (fun _ => ?_)
  · repeat first | simp -implicitDefEqProofs only [go_sem, vc2_blk, partL_0, hLl] | with_reducible refine gl_ ?_
    first | rfl | exact ⟨rfl, rfl⟩
  · have hk2 : k < L.length := by omega
    have hge : L[k]? = some [DV.fz 3 (p.reports[k].map encK)] := by subst hL; rw [List.getElem?_map, List.getElem?_eq_getElem hk]; rfl
    have hge2 : L[k] = [DV.fz 3 (p.reports[k].map encK)] := by rw [List.getElem?_eq_getElem hk2] at hge; exact Option.some.inj hge
    repeat first | simp -implicitDefEqProofs only [go_sem, vc2_blk, hge, partL_get hk2, partL_len (Nat.le_of_lt hk2), List.contains_nil] | with_reducible first | refine gl_ ?_ | refine ga_ ?_ | refine gn_ ?_
    refine CallS.eq (cloneK_con (p.reports[k].map encK) (by rw [List.length_map]; have := hre2 _ (List.getElem_mem hk); omega)) ws_ (.inl ws_) ?_
    repeat first | simp -implicitDefEqProofs only [go_sem, vc2_blk, partL_get hk2, partL_len (Nat.le_of_lt hk2), List.contains_nil] | with_reducible first | refine gl_ ?_ | refine ga_ ?_ | refine gn_ ?_
    refine ⟨k + 1, le2_of [] ?_, rfl⟩
    refine g2_ ?_
    rw [← partL_set hk2, hge2]
  · rw [← hLl]
    repeat first | simp -implicitDefEqProofs only [go_sem, vc2_blk, partL_end] | with_reducible first | refine gl_ ?_ | refine ga_ ?_ | refine gn_ ?_
    generalize hE : p.buf.evs.map encEv = M
    have hMl : M.length = p.buf.evs.length := by subst hE; rw [List.length_map]
    refine vc2_rangeA p.buf.evs.length (fun k => []) (fun _ => []) (fun k => [(1, .arr 63 5 (partL [.v (.int .u8 0), .v (.int .u16 0), .v (.int .u32 0), .v (.slice none 0 0), .v (.slice none 0 0)] M k) false), (0, .arr 40 1 L false)]) 2 (fun _ => True) (le2_of [] ?_) trivial (fun g k => by simp -implicitDefEqProofs only [go_sem, vc2_blk]) (by omega) (fun g => by simp -implicitDefEqProofs only [go_sem, vc2_blk]) (fun k hk _ => ?_) (fun _ => ?_)
    · repeat first | simp -implicitDefEqProofs only [go_sem, vc2_blk, partL_0, hMl] | with_reducible refine gl_ ?_
      first | rfl | exact ⟨rfl, rfl⟩
    · have hk2 : k < M.length := by omega
      have hge : M[k]? = some (encEv p.buf.evs[k]) := by subst hE; rw [List.getElem?_map, List.getElem?_eq_getElem hk]; rfl
      have hge2 : M[k] = encEv p.buf.evs[k] := by rw [List.getElem?_eq_getElem hk2] at hge; exact Option.some.inj hge
      repeat first | simp -implicitDefEqProofs only [go_sem, vc2_blk, hge, partL_get hk2, partL_len (Nat.le_of_lt hk2), List.contains_nil] | with_reducible first | refine gl_ ?_ | refine ga_ ?_ | refine gn_ ?_
      refine CallS.eq (evcopy_con p.buf.evs[k] (hev2 _ (List.getElem_mem hk)).1 (hev2 _ (List.getElem_mem hk)).2) ws_ (.inl ws_) ?_
      repeat first | simp -implicitDefEqProofs only [go_sem, vc2_blk, partL_get hk2, partL_len (Nat.le_of_lt hk2), List.contains_nil] | with_reducible first | refine gl_ ?_ | refine ga_ ?_ | refine gn_ ?_
      refine ⟨k + 1, le2_of [] ?_, rfl⟩
      refine g2_ ?_
      rw [← partL_set hk2, hge2]
      rfl
    · rw [← hMl]
      repeat first | simp -implicitDefEqProofs only [go_sem, vc2_blk, partL_end] | with_reducible first | refine gl_ ?_ | refine ga_ ?_ | refine gn_ ?_
      refine CallS.eq (cloneA_con (p.pulls.map encA) (by rw [List.length_map]; omega)) ws_ (.inl ws_) ?_
      refine g2_ ?_
      refine ret_emb ?_ rfl
      subst hL hE
      repeat first | simp -implicitDefEqProofs only [go_sem, vc2_blk, List.take_of_length_le (Nat.le_refl _)] | with_reducible refine gl_ ?_
end Go.Proofs.YtlaefellhnkfbaaGreat.V

set_option maxRecDepth 10000
namespace Go.Eng
theorem cond2_b {P : Program} {Q : Exit → DS → Prop} {ds : DS} {a b : Code} {c : Bool} (h1 : c = true → vc2 P a Q ds) (h2 : c = false → vc2 P b Q ds) : CondK2 P (.d (.v (.bool c))) a b Q ds := by
  cases c with
  | true => rw [CondK2_true]; exact h1 rfl
  | false => rw [CondK2_false]; exact h2 rfl
theorem u16_beq' {x : UInt16} : ((x.toNat : Int) == 65535) = decide (x = 65535) := by
  have := u16_beq (x := x) (y := 65535)
  exact this
def pStart (c : GConf) (p : GPeer) : GPeer × Int :=
  if p.up = true then (p, 54) else if p.inc = 65535 then (p, 55) else
    let q := pNew c p.node
    ({ q with inc := p.inc + 1, up := true, table := q.table.set p.node.toNat ⟨p.inc + 1, 1, 0⟩ }, 0)
end Go.Eng
namespace Go.Proofs.YtlaefellhnkfbaaGreat.V
open Go.Eng
attribute [local go_sem] encS encDD fzD plR rowR encK encM encRw encC encP encEv encA z8 z16 z32 z64 encMg
theorem pstart_con (c : GConf) (p : GPeer) (hp : okP p) : Con2 Tryz.prog 17 [.agg (encC c), .agg (encP p)] (· = plR (.tup [.agg (encP (pStart c p).1), .v (.int .i64 (pStart c p).2)])) := by
  refine Con2.ofEmb ?_
  refine con2_of Ty.mixed Tryz.func17 rfl (by kernel_rfl) (by kernel_rfl) rfl [.cell 4 49, .tmp 5] rfl ?_
  refine g2_ ?_
  refine g2_ ?_
  refine cond2_b (fun hu => ?_) (fun hu => ?_)
  · have e : pStart c p = (p, 54) := by unfold pStart; rw [if_pos hu]
    rw [e]
    refine g2_ ?_
    refine CallS.eq (pfresh_con p hp) ws_ (.inl ws_) ?_
    refine g2_ ?_
    refine ret_emb ?_ rfl
    exact ws_
  · refine g2_ ?_
    rw [u16_beq']
    refine cond2_dec (fun h2 => ?_) (fun h2 => ?_)
    · have e : pStart c p = (p, 55) := by unfold pStart; rw [if_neg (by simp [hu]), if_pos h2]
      rw [e]
      refine g2_ ?_
      refine CallS.eq (pfresh_con p hp) ws_ (.inl ws_) ?_
      refine g2_ ?_
      refine ret_emb ?_ rfl
      exact ws_
    · refine g2_ ?_
      have hC := pnewR_con c p.node
      have e : pStart c p = ({ pNew c p.node with inc := p.inc + 1, up := true, table := (pNew c p.node).table.set p.node.toNat ⟨p.inc + 1, 1, 0⟩ }, 0) := by
        unfold pStart; rw [if_neg (by simp [hu]), if_neg h2]
      have hlen : (pNew c p.node).table.length ≤ 12 := by simp [pNew]; omega
      rw [e]
      generalize pNew c p.node = q at hC hlen
      refine CallS.eq hC ws_ (.inl ws_) ?_
      repeat first | simp -implicitDefEqProofs only [go_sem, vc2_blk, List.set_cons_succ, List.set_cons_zero] | with_reducible first | refine gl_ ?_ | refine ga_ ?_ | refine gn_ ?_
      have hinc : p.inc.toNat < 65535 := by
        have h3 := p.inc.toNat_lt
        have : p.inc.toNat ≠ 65535 := fun h => h2 (by apply UInt16.toNat_inj.1; exact h)
        omega
      have hinc2 : ((p.inc + 1 : UInt16).toNat : Int) = (p.inc.toNat : Int) + 1 := by
        rw [UInt16.toNat_add]
        have : (1 : UInt16).toNat = 1 := rfl
        omega
      have hnode := p.node.toNat_lt
      refine ar_u16 (by omega) ?_
      repeat first | simp -implicitDefEqProofs only [go_sem, vc2_blk, List.set_cons_succ, List.set_cons_zero, List.length_map] | with_reducible first | refine gl_ ?_ | refine ga_ ?_ | refine gn_ ?_
      refine cond2_dec (fun h3 => ?_) (fun h3 => ?_)
      · have h4 : p.node.toNat < q.table.length := by omega
        repeat first | simp -implicitDefEqProofs only [go_sem, vc2_blk, mapE_get h4, List.length_map, List.contains_nil] | with_reducible first | refine gl_ ?_ | refine ga_ ?_ | refine gn_ ?_
        refine ret_emb ?_ rfl
        repeat first | simp -implicitDefEqProofs only [go_sem, vc2_blk, List.map_set, hinc2, List.length_set, List.length_map, List.take_of_length_le (Nat.le_refl _)] | with_reducible refine gl_ ?_
        rw [List.take_of_length_le (by simp)]
        rfl
      · rw [List.set_eq_of_length_le (by omega)]
        repeat first | simp -implicitDefEqProofs only [go_sem, vc2_blk, List.set_cons_succ, List.set_cons_zero, List.length_map] | with_reducible first | refine gl_ ?_ | refine ga_ ?_ | refine gn_ ?_
        refine ret_emb ?_ rfl
        repeat first | simp -implicitDefEqProofs only [go_sem, vc2_blk, hinc2, List.length_map, take_map_len] | with_reducible refine gl_ ?_
end Go.Proofs.YtlaefellhnkfbaaGreat.V

set_option maxRecDepth 10000
namespace Go.Eng
theorem k8_1 : ((UInt8.toNat 1 : Nat) : Int) = 1 := rfl
theorem k8_2 : ((UInt8.toNat 2 : Nat) : Int) = 2 := rfl
theorem k8_3 : ((UInt8.toNat 3 : Nat) : Int) = 3 := rfl
theorem k8_4 : ((UInt8.toNat 4 : Nat) : Int) = 4 := rfl
theorem k8_5 : ((UInt8.toNat 5 : Nat) : Int) = 5 := rfl
theorem k8_6 : ((UInt8.toNat 6 : Nat) : Int) = 6 := rfl
theorem k8_7 : ((UInt8.toNat 7 : Nat) : Int) = 7 := rfl
theorem k8_8 : ((UInt8.toNat 8 : Nat) : Int) = 8 := rfl
theorem k8_9 : ((UInt8.toNat 9 : Nat) : Int) = 9 := rfl
theorem k8_10 : ((UInt8.toNat 10 : Nat) : Int) = 10 := rfl
theorem k8_11 : ((UInt8.toNat 11 : Nat) : Int) = 11 := rfl
theorem k8_12 : ((UInt8.toNat 12 : Nat) : Int) = 12 := rfl
attribute [go_sem] k8_1 k8_2 k8_3 k8_4 k8_5 k8_6 k8_7 k8_8 k8_9 k8_10 k8_11 k8_12
theorem okDs_nil : okDs [] := ⟨by simp, by simp⟩
theorem okP_new (c : GConf) (node : UInt8) : okP (pNew c node) := by
  refine ⟨by simp [pNew], okDs_nil, okDs_nil, by simp [pNew, zDesc], by simp [pNew, zDesc], okDs_nil, ?_, ?_, ?_, ?_, by simp [pNew], by simp [pNew]⟩
  · simp [pNew]; omega
  · simp [pNew]; omega
  · simp [pNew]; omega
  · refine ⟨by simp [pNew]; omega, fun l hl => ?_⟩
    have := List.eq_of_mem_replicate hl
    rw [this, blankK_len]; omega
theorem modify_setG {α : Type} (f : α → α) (l : List α) {i : Nat} (h : i < l.length) : l.modify i f = l.set i (f l[i]) := by
  apply List.ext_getElem?
  intro j
  rw [List.getElem?_modify, List.getElem?_set]
  by_cases e : i = j
  · subst e; simp [h]
  · simp [e]
def pJoin (c : GConf) (p : GPeer) (to : UInt8) : List GMsg × Int :=
  if p.up = false then ([], 53) else if c.nodes ≤ to.toNat ∨ to = p.node then ([], 2) else ([{ pMsg p 1 to with list := [pSelf p] }], 0)
def mHeard (inc : UInt16) (m : GMember) : GMember := if m.inc < inc ∨ (inc = m.inc ∧ 0 < inc ∧ m.state ≠ 3) then ⟨inc, 1, 0⟩ else m
def tHeard (l : List GMember) (i : UInt8) (inc : UInt16) : List GMember := l.modify i.toNat (mHeard inc)
end Go.Eng
namespace Go.Proofs.YtlaefellhnkfbaaGreat.V
open Go.Eng
attribute [local go_sem] encS encDD fzD plR rowR encK encM encRw encC encP encEv encA z8 z16 z32 z64 encMg
theorem up_con (c : GConf) (node : UInt8) : Con2 Tryz.prog 10 [.agg (encC c), .v (.int .u8 node.toNat)] (· = plR (.tup [.agg (encP (pStart c (pNew c node)).1), .v (.bool (decide ((pStart c (pNew c node)).2 = 0) && (pStart c (pNew c node)).1.up))])) := by
  refine Con2.ofEmb ?_
  have hs := pstart_con c (pNew c node) (okP_new c node)
  have hn := pnew_con c node
  generalize pNew c node = q at hs hn
  generalize pStart c q = r at hs
  obtain ⟨r, e⟩ := r
  refine con2_of Ty.mixed Tryz.func10 rfl (by kernel_rfl) (by kernel_rfl) rfl [.cell 4 49, .tmp 5] rfl ?_
  refine g2_ ?_
  refine g2_ ?_
  refine .inr (.inl ⟨(.fl 0 (.fl 1 (.fl 2 (.eff 3 true (.eff 4 false (.fl 5 (.fl 6 (.fl 7 (.eff 8 true (.eff 9 false (.fl 10 .done) .no) .no)))) (.eff 8 true (.eff 4 false (.fl 5 (.fl 6 (.fl 7 (.eff 9 false (.fl 10 .done) .no)))) .no) .no)) (.eff 8 true (.eff 3 true (.eff 4 false (.fl 5 (.fl 6 (.fl 7 (.eff 9 false (.fl 10 .done) .no)))) .no) .no) .no))))), by kernel_rfl, ?_⟩)
  refine g2_ ?_
  repeat' (first
    | (with_reducible refine And.intro ?_ ?_)
    | (refine CallS.eq hn ?_ (.inl ?_) ?_; (focus (((try (with_reducible refine leK2_refl ?_)); simp -implicitDefEqProofs only [go_sem, vc2_blk]; repeat ((with_reducible refine leK2_refl ?_); simp -implicitDefEqProofs only [go_sem, vc2_blk])); done)); (focus (((try (with_reducible refine leK2_refl ?_)); simp -implicitDefEqProofs only [go_sem, vc2_blk]; repeat ((with_reducible refine leK2_refl ?_); simp -implicitDefEqProofs only [go_sem, vc2_blk])); done)); refine g2_ ?_)
    | (refine CallS.eq hs ?_ (.inl ?_) ?_; (focus (((try (with_reducible refine leK2_refl ?_)); simp -implicitDefEqProofs only [go_sem, vc2_blk]; repeat ((with_reducible refine leK2_refl ?_); simp -implicitDefEqProofs only [go_sem, vc2_blk])); done)); (focus (((try (with_reducible refine leK2_refl ?_)); simp -implicitDefEqProofs only [go_sem, vc2_blk]; repeat ((with_reducible refine leK2_refl ?_); simp -implicitDefEqProofs only [go_sem, vc2_blk])); done)); refine g2_ ?_)
    | (with_reducible refine leK2_refl ?_; refine g2_ ?_))
  all_goals
    refine .inr (.inr (.inl ⟨[(0, false), (1, false), (2, false), (3, false), (4, false), (5, false), (6, false), (7, true), (8, false)], [4], by kernel_rfl, ?_⟩))
    refine g2_ ?_
    refine guard2 (fun h => ?_) (fun h => ?_)
    all_goals
      rw [h]
      refine g2_ ?_
      refine ret_emb ?_ rfl
      first
        | (have h2 : e = 0 := by simpa using h
           repeat first | simp -implicitDefEqProofs only [go_sem, vc2_blk, h2] | with_reducible refine gl_ ?_)
        | (have h2 : ¬ e = 0 := by simpa using h
           repeat first | simp -implicitDefEqProofs only [go_sem, vc2_blk, h2] | with_reducible refine gl_ ?_)
theorem pjoin_con (c : GConf) (p : GPeer) (to : UInt8) (hp : okP p) : Con2 Tryz.prog 11 [.agg (encC c), .agg (encP p), .v (.int .u8 to.toNat)] (· = plR (.tup [.fz 17 ((pJoin c p to).1.map encMg), .v (.int .i64 (pJoin c p to).2)])) := by
  refine Con2.ofEmb ?_
  have hn := p.node.toNat_lt
  have ht := to.toNat_lt
  refine con2_of Ty.mixed Tryz.func11 rfl (by kernel_rfl) (by kernel_rfl) rfl [.tmp 6, .tmp 7] rfl ?_
  refine g2_ ?_
  refine g2_ ?_
  cases hu : p.up with
  | false =>
    have e : pJoin c p to = ([], 53) := by unfold pJoin; rw [if_pos hu]
    rw [e]
    refine g2_ ?_
    refine ret_emb ?_ rfl
    exact ws_
  | true =>
    refine g2_ ?_
    have hw := pmsg_con p 1 to
    have hs := pself_con p hp
    by_cases h1 : c.nodes ≤ (to.toNat : Int)
    · have e : pJoin c p to = ([], 2) := by unfold pJoin; rw [if_neg (by simp [hu]), if_pos (.inl h1)]
      rw [e, decide_eq_true h1]
      refine g2_ ?_
      refine ret_emb ?_ rfl
      exact ws_
    · rw [decide_eq_false h1]
      refine g2_ ?_
      rw [u8_beq]
      refine cond2_dec (fun h2 => ?_) (fun h2 => ?_)
      · have e : pJoin c p to = ([], 2) := by unfold pJoin; rw [if_neg (by simp [hu]), if_pos (.inr h2)]
        rw [e]
        refine g2_ ?_
        refine ret_emb ?_ rfl
        exact ws_
      · have e : pJoin c p to = ([{ pMsg p 1 to with list := [pSelf p] }], 0) := by unfold pJoin; rw [if_neg (by simp [hu]), if_neg (by simp [h1, h2])]
        rw [e]
        refine g2_ ?_
        refine CallS.eq hw (by simp -implicitDefEqProofs only [go_sem, vc2_blk, hu]) (.inl ws_) ?_
        refine g2_ ?_
        refine CallS.eq hs (by simp -implicitDefEqProofs only [go_sem, vc2_blk, hu]) (.inl ws_) ?_
        refine g2_ ?_
        refine ret_emb ?_ rfl
        repeat first | simp -implicitDefEqProofs only [go_sem, vc2_blk, pMsg, pSelf, List.map_cons, List.map_nil] | with_reducible refine gl_ ?_
theorem cloneMR_con (l : List (List DV)) (hl : l.length ≤ 1000000) : Con2 Tryz.prog 93 [.fz 3 l] (· = rowR 71 3 l) := by
  by_cases h0 : l = []
  · subst h0
    refine con2_of Ty.mixed Tryz.func93 rfl (by kernel_rfl) (by kernel_rfl) rfl [.tmp 2] rfl ?_
    refine g2_ ?_
    refine g2_ ?_
    refine ⟨fun h => h.elim, fun t => ?_⟩
    cases t with
    | true =>
      refine g2_ ?_
      exact ⟨_, rfl, le2_of [(0, .nil 3)] ws_⟩
    | false =>
      refine g2_ ?_
      exact ⟨_, rfl, le2_of [(0, .to 0)] ws_⟩
  · have hn : 0 < l.length := List.length_pos_iff.2 h0
    refine con2_of Ty.mixed Tryz.func93 rfl (by kernel_rfl) (by kernel_rfl) rfl [.tmp 2] rfl ?_
    refine g2_ ?_
    refine g2_ ?_
    refine ⟨fun _ => ⟨by omega, by omega, _, rfl, le2_of [(0, .to 0)] ws_⟩, fun h => by omega⟩
theorem pheard_con (l : List GMember) (i : UInt8) (inc : UInt16) (hl : l.length ≤ 1000) : Con2 Tryz.prog 98 [.fz 3 (l.map encM), .v (.int .u8 i.toNat), .v (.int .u16 inc.toNat)] (· = plR (.fz 3 ((tHeard l i inc).map encM))) := by
  refine Con2.ofEmb ?_
  have hi := i.toNat_lt
  refine con2_of Ty.mixed Tryz.func98 rfl (by kernel_rfl) (by kernel_rfl) rfl [.tmp 6] rfl ?_
  refine g2_ ?_
  refine g2_ ?_
  refine CallS.inline Ty.mixed Tryz.func159 rfl (by kernel_rfl) (by kernel_rfl) rfl [.tmp 6] rfl (Vc2.of ?_)
  refine g2_ ?_
  refine g2_ ?_
  refine CallS.eq (cloneMR_con (l.map encM) (by rw [List.length_map]; omega)) ws_ (.inl ws_) ?_
  repeat first | simp -implicitDefEqProofs only [go_sem, vc2_blk, List.length_map] | with_reducible first | refine gl_ ?_ | refine ga_ ?_ | refine gn_ ?_
  by_cases h1 : i.toNat < l.length
  · have e1 : decide ((i.toNat : Int) < (l.length : Int)) = true := decide_eq_true (by omega)
    rw [e1]
    repeat first | simp -implicitDefEqProofs only [go_sem, vc2_blk, List.length_map, mapE_get h1] | with_reducible first | refine gl_ ?_ | refine ga_ ?_ | refine gn_ ?_
    refine CallS.inline Ty.mixed Tryz.func160 rfl (by kernel_rfl) (by kernel_rfl) rfl [.cell 3 71] rfl (Vc2.of ?_)
    refine g2_ ?_
    refine g2_ ?_
    have e2 : tHeard l i inc = l.set i.toNat (mHeard inc l[i.toNat]) := by rw [tHeard, modify_setG _ _ h1]
    rw [e2]
    generalize l[i.toNat] = m
    rw [u16_beq]
    by_cases hA : inc = m.inc
    · have hD : decide ((m.inc.toNat : Int) < (inc.toNat : Int)) = false := by rw [hA]; exact decide_eq_false (by omega)
      rw [decide_eq_true hA]
      refine g2_ ?_
      by_cases hB : (0 : Int) < (inc.toNat : Int)
      · have hB2 : 0 < inc := by rw [UInt16.lt_iff_toNat_lt]; have : (0 : UInt16).toNat = 0 := rfl; omega
        rw [decide_eq_true hB]
        refine g2_ ?_
        by_cases hC : m.state = 3
        · have hC2 : ((m.state.toNat : Int) != 3) = false := by rw [hC]; rfl
          rw [hC2]
          refine g2_ ?_
          rw [hD]
          repeat first | simp -implicitDefEqProofs only [go_sem, vc2_blk, List.length_map, List.contains_nil, mapE_get h1] | with_reducible first | refine gl_ ?_ | refine ga_ ?_ | refine gn_ ?_
          refine ret_emb ?_ rfl
          have e3 : mHeard inc m = m := if_neg (by rw [hA, hC]; simp)
          repeat first | simp -implicitDefEqProofs only [go_sem, vc2_blk, e3, List.map_set, List.length_map, List.length_set, List.take_of_length_le (Nat.le_refl _)] | with_reducible refine gl_ ?_
          rw [List.take_of_length_le (by simp)]
        · have hC2 : ((m.state.toNat : Int) != 3) = true := by
            have : ((m.state.toNat : Int) != (3 : UInt8).toNat) = !decide (m.state = 3) := by rw [bne, u8_beq]
            rw [show ((3 : UInt8).toNat : Int) = 3 from rfl] at this
            rw [this, decide_eq_false hC]; rfl
          rw [hC2]
          refine g2_ ?_
          rw [hD]
          repeat first | simp -implicitDefEqProofs only [go_sem, vc2_blk, List.length_map, List.contains_nil, mapE_get h1] | with_reducible first | refine gl_ ?_ | refine ga_ ?_ | refine gn_ ?_
          refine ret_emb ?_ rfl
          have e3 : mHeard inc m = ⟨inc, 1, 0⟩ := if_pos (.inr ⟨hA, hB2, hC⟩)
          repeat first | simp -implicitDefEqProofs only [go_sem, vc2_blk, e3, List.map_set, List.length_map, List.length_set, List.take_of_length_le (Nat.le_refl _)] | with_reducible refine gl_ ?_
          rw [List.take_of_length_le (by simp)]
      · have hB2 : ¬ 0 < inc := by rw [UInt16.lt_iff_toNat_lt]; have : (0 : UInt16).toNat = 0 := rfl; omega
        rw [decide_eq_false hB]
        refine g2_ ?_
        rw [hD]
        repeat first | simp -implicitDefEqProofs only [go_sem, vc2_blk, List.length_map, List.contains_nil, mapE_get h1] | with_reducible first | refine gl_ ?_ | refine ga_ ?_ | refine gn_ ?_
        refine ret_emb ?_ rfl
        have e3 : mHeard inc m = m := if_neg (by rw [← hA]; simp [hB2])
        repeat first | simp -implicitDefEqProofs only [go_sem, vc2_blk, e3, List.map_set, List.length_map, List.length_set, List.take_of_length_le (Nat.le_refl _)] | with_reducible refine gl_ ?_
        rw [List.take_of_length_le (by simp)]
    · rw [decide_eq_false hA]
      refine g2_ ?_
      by_cases hD : (m.inc.toNat : Int) < (inc.toNat : Int)
      · rw [decide_eq_true hD]
        have hD2 : m.inc < inc := by rw [UInt16.lt_iff_toNat_lt]; omega
        repeat first | simp -implicitDefEqProofs only [go_sem, vc2_blk, List.length_map, List.contains_nil, mapE_get h1] | with_reducible first | refine gl_ ?_ | refine ga_ ?_ | refine gn_ ?_
        refine ret_emb ?_ rfl
        have e3 : mHeard inc m = ⟨inc, 1, 0⟩ := if_pos (.inl hD2)
        repeat first | simp -implicitDefEqProofs only [go_sem, vc2_blk, e3, List.map_set, List.length_map, List.length_set, List.take_of_length_le (Nat.le_refl _)] | with_reducible refine gl_ ?_
        rw [List.take_of_length_le (by simp)]
      · rw [decide_eq_false hD]
        have hD2 : ¬ m.inc < inc := by rw [UInt16.lt_iff_toNat_lt]; omega
        repeat first | simp -implicitDefEqProofs only [go_sem, vc2_blk, List.length_map, List.contains_nil, mapE_get h1] | with_reducible first | refine gl_ ?_ | refine ga_ ?_ | refine gn_ ?_
        refine ret_emb ?_ rfl
        have e3 : mHeard inc m = m := if_neg (by simp [hD2, hA])
        repeat first | simp -implicitDefEqProofs only [go_sem, vc2_blk, e3, List.map_set, List.length_map, List.length_set, List.take_of_length_le (Nat.le_refl _)] | with_reducible refine gl_ ?_
        rw [List.take_of_length_le (by simp)]
  · have e1 : decide ((i.toNat : Int) < (l.length : Int)) = false := decide_eq_false (by omega)
    have e2 : tHeard l i inc = l := by rw [tHeard, List.modify_eq_self (by omega)]
    rw [e1, e2]
    refine g2_ ?_
    refine ret_emb ?_ rfl
    repeat first | simp -implicitDefEqProofs only [go_sem, vc2_blk, List.length_map, List.take_of_length_le (Nat.le_refl _), take_map_len] | with_reducible refine gl_ ?_
end Go.Proofs.YtlaefellhnkfbaaGreat.V

set_option maxRecDepth 10000
namespace Go.Eng
def okRs (l : List (List GMark)) : Prop := l.length ≤ 256 ∧ ∀ r ∈ l, r.length ≤ 1000
def encRs (l : List (List GMark)) : List (List DV) := l.map fun r => [.fz 3 (r.map encK)]
def rForget (l : List (List GMark)) (i : UInt8) : List (List GMark) := l.set i.toNat (blankK l.length)
def pHear (c : GConf) (p : GPeer) (node : UInt8) (inc : UInt16) : GPeer × Bool :=
  if c.nodes ≤ node.toNat ∨ p.table.length ≤ node.toNat ∨ node = p.node ∨ inc = 0 then (p, false) else
    match p.table[node.toNat]? with
    | none => (p, false)
    | some m => if inc < m.inc ∨ (inc = m.inc ∧ m.state = 3) then (p, false)
      else ({ p with table := tHeard p.table node inc, reports := if m.inc < inc then rForget p.reports node else p.reports }, true)
theorem u16_z (x : UInt16) : ((x.toNat : Int) == 0) = decide (x = 0) := u16_beq x 0
theorem u8_c3 (x : UInt8) : ((x.toNat : Int) == 3) = decide (x = 3) := u8_beq x 3
theorem encRs_eq (l : List (List GMark)) : (l.map fun r => [DV.fz 3 (r.map encK)]) = encRs l := rfl
end Go.Eng
namespace Go.Proofs.YtlaefellhnkfbaaGreat.V
open Go.Eng
attribute [local go_sem] encS encDD fzD plR rowR encK encM encRw encC encP encEv encA z8 z16 z32 z64 encMg
theorem copied_con (l : List (List GMark)) (hl : okRs l) : Con2 Tryz.prog 161 [.fz 1 (encRs l)] (· = rowR 40 1 (encRs l)) := by
  obtain ⟨hl1, hl2⟩ := hl
  have hLl : (encRs l).length = l.length := by rw [encRs, List.length_map]
  have hge0 : ∀ k (hk : k < l.length), (encRs l)[k]? = some [DV.fz 3 (l[k].map encK)] := fun k hk => by rw [encRs, List.getElem?_map, List.getElem?_eq_getElem hk]; rfl
  generalize encRs l = L at hLl hge0
  refine con2_of Ty.mixed Tryz.func161 rfl (by kernel_rfl) (by kernel_rfl) rfl [.tmp 2] rfl ?_
  refine g2_ ?_
  repeat first | simp -implicitDefEqProofs only [go_sem, vc2_blk, hLl] | with_reducible first | refine gl_ ?_ | refine ga_ ?_ | refine gn_ ?_
  refine vc2_rangeA l.length (fun k => []) (fun _ => []) (fun k => [(0, .arr 40 1 (partL [.v (.slice none 0 0)] L k) false)]) 1 (fun _ => True) (le2_of [] ?_) trivial (fun g k => by simp -implicitDefEqProofs only [go_sem, vc2_blk]) (by omega) (fun g => by simp -implicitDefEqProofs only [go_sem, vc2_blk]) (fun k hk _ => ?_) (fun _ => ?_)
  · repeat first | simp -implicitDefEqProofs only [go_sem, vc2_blk, partL_0, hLl] | with_reducible refine gl_ ?_
    first | rfl | exact ⟨rfl, rfl⟩
  · have hk2 : k < L.length := by omega
    have hge := hge0 k hk
    have hge2 : L[k] = [DV.fz 3 (l[k].map encK)] := by rw [List.getElem?_eq_getElem hk2] at hge; exact Option.some.inj hge
    repeat first | simp -implicitDefEqProofs only [go_sem, vc2_blk, hge, partL_get hk2, partL_len (Nat.le_of_lt hk2), List.contains_nil] | with_reducible first | refine gl_ ?_ | refine ga_ ?_ | refine gn_ ?_
    refine CallS.eq (cloneK_con (l[k].map encK) (by rw [List.length_map]; have := hl2 _ (List.getElem_mem hk); omega)) ws_ (.inl ws_) ?_
    repeat first | simp -implicitDefEqProofs only [go_sem, vc2_blk, partL_get hk2, partL_len (Nat.le_of_lt hk2), List.contains_nil] | with_reducible first | refine gl_ ?_ | refine ga_ ?_ | refine gn_ ?_
    refine ⟨k + 1, le2_of [] ?_, rfl⟩
    refine g2_ ?_
    rw [← partL_set hk2, hge2]
  · rw [← hLl]
    repeat first | simp -implicitDefEqProofs only [go_sem, vc2_blk, partL_end] | with_reducible first | refine gl_ ?_ | refine ga_ ?_ | refine gn_ ?_
    exact ⟨_, rfl, le2_of [(0, .to 0)] ws_⟩
theorem forget_con (l : List (List GMark)) (i : UInt8) (hl : okRs l) : Con2 Tryz.prog 99 [.fz 1 (encRs l), .v (.int .u8 i.toNat)] (· = plR (.fz 1 (encRs (rForget l i)))) := by
  refine Con2.ofEmb ?_
  have hl1 := hl.1
  have hi := i.toNat_lt
  have hLl : (encRs l).length = l.length := by rw [encRs, List.length_map]
  refine con2_of Ty.mixed Tryz.func99 rfl (by kernel_rfl) (by kernel_rfl) rfl [.tmp 4] rfl ?_
  refine g2_ ?_
  refine g2_ ?_
  refine CallS.eq (copied_con l hl) ws_ (.inl ws_) ?_
  repeat first | simp -implicitDefEqProofs only [go_sem, vc2_blk, hLl] | with_reducible first | refine gl_ ?_ | refine ga_ ?_ | refine gn_ ?_
  refine cond2_dec (fun h => ?_) (fun h => ?_)
  · have h1 : i.toNat < l.length := by omega
    have h2 : i.toNat < (encRs l).length := by omega
    have hg := List.getElem?_eq_getElem h2
    have hm : (if (256 : Int) < (l.length : Int) then (256 : Int) else (l.length : Int)) = l.length := if_neg (by omega)
    repeat first | simp -implicitDefEqProofs only [go_sem, vc2_blk, hLl, hm] | with_reducible first | refine gl_ ?_ | refine ga_ ?_ | refine gn_ ?_
    refine CallS.eq (blank_con l.length hl1) ws_ (.inl ws_) ?_
    repeat first | simp -implicitDefEqProofs only [go_sem, vc2_blk, hLl, hg, List.contains_nil] | with_reducible first | refine gl_ ?_ | refine ga_ ?_ | refine gn_ ?_
    refine ret_emb ?_ rfl
    repeat first | simp -implicitDefEqProofs only [go_sem, vc2_blk, hLl, List.length_set, List.take_of_length_le (Nat.le_refl _)] | with_reducible refine gl_ ?_
    have e1 : (encRs l)[i.toNat] = [.fz 3 (l[i.toNat].map encK)] := by simp [encRs]
    rw [List.take_of_length_le (by simp [hLl]), e1, encRs, rForget, List.map_set]
    rfl
  · have e : rForget l i = l := List.set_eq_of_length_le (by omega)
    rw [e]
    refine g2_ ?_
    refine ret_emb ?_ rfl
    repeat first | simp -implicitDefEqProofs only [go_sem, vc2_blk, hLl, take_map_len] | with_reducible refine gl_ ?_
    rw [List.take_of_length_le (by omega)]
theorem phear_con (c : GConf) (p : GPeer) (node : UInt8) (inc : UInt16) (hp : okP p) (hr : okRs p.reports) : Con2 Tryz.prog 45 [.agg (encC c), .agg (encP p), .v (.int .u8 node.toNat), .v (.int .u16 inc.toNat)] (· = plR (.tup [.agg (encP (pHear c p node inc).1), .v (.bool (pHear c p node inc).2)])) := by
  refine Con2.ofEmb ?_
  have hi := node.toNat_lt
  have hj := p.node.toNat_lt
  have htb := hp.table
  refine con2_of Ty.mixed Tryz.func45 rfl (by kernel_rfl) (by kernel_rfl) rfl [.cell 8 49, .tmp 9] rfl ?_
  refine g2_ ?_
  repeat first | simp -implicitDefEqProofs only [go_sem, vc2_blk, encRs_eq] | with_reducible first | refine gl_ ?_ | refine ga_ ?_ | refine gn_ ?_
  by_cases h1 : c.nodes ≤ (node.toNat : Int)
  · have e : pHear c p node inc = (p, false) := if_pos (.inl h1)
    rw [e, decide_eq_true h1]
    repeat first | simp -implicitDefEqProofs only [go_sem, vc2_blk, encRs_eq] | with_reducible first | refine gl_ ?_ | refine ga_ ?_ | refine gn_ ?_
    refine ret_emb ?_ rfl
    exact ws_
  rw [decide_eq_false h1]
  repeat first | simp -implicitDefEqProofs only [go_sem, vc2_blk, encRs_eq] | with_reducible first | refine gl_ ?_ | refine ga_ ?_ | refine gn_ ?_
  by_cases h2 : p.table.length ≤ node.toNat
  · have e : pHear c p node inc = (p, false) := if_pos (.inr (.inl h2))
    rw [e, decide_eq_true (show (p.table.length : Int) ≤ (node.toNat : Int) by omega)]
    repeat first | simp -implicitDefEqProofs only [go_sem, vc2_blk, encRs_eq] | with_reducible first | refine gl_ ?_ | refine ga_ ?_ | refine gn_ ?_
    refine ret_emb ?_ rfl
    exact ws_
  rw [decide_eq_false (show ¬ (p.table.length : Int) ≤ (node.toNat : Int) by omega)]
  repeat first | simp -implicitDefEqProofs only [go_sem, vc2_blk, encRs_eq] | with_reducible first | refine gl_ ?_ | refine ga_ ?_ | refine gn_ ?_
  rw [u8_beq]
  by_cases h3 : node = p.node
  · have e : pHear c p node inc = (p, false) := if_pos (.inr (.inr (.inl h3)))
    rw [e, decide_eq_true h3]
    repeat first | simp -implicitDefEqProofs only [go_sem, vc2_blk, encRs_eq] | with_reducible first | refine gl_ ?_ | refine ga_ ?_ | refine gn_ ?_
    refine ret_emb ?_ rfl
    exact ws_
  rw [decide_eq_false h3]
  repeat first | simp -implicitDefEqProofs only [go_sem, vc2_blk, encRs_eq] | with_reducible first | refine gl_ ?_ | refine ga_ ?_ | refine gn_ ?_
  rw [u16_z]
  refine cond2_dec (fun h4 => ?_) (fun h4 => ?_)
  · have e : pHear c p node inc = (p, false) := if_pos (.inr (.inr (.inr h4)))
    rw [e]
    repeat first | simp -implicitDefEqProofs only [go_sem, vc2_blk, encRs_eq] | with_reducible first | refine gl_ ?_ | refine ga_ ?_ | refine gn_ ?_
    refine ret_emb ?_ rfl
    exact ws_
  have hk : node.toNat < p.table.length := by omega
  repeat first | simp -implicitDefEqProofs only [go_sem, vc2_blk, encRs_eq, mapE_get hk] | with_reducible first | refine gl_ ?_ | refine ga_ ?_ | refine gn_ ?_
  have e0 : pHear c p node inc = if inc < p.table[node.toNat].inc ∨ (inc = p.table[node.toNat].inc ∧ p.table[node.toNat].state = 3) then (p, false)
      else ({ p with table := tHeard p.table node inc, reports := if p.table[node.toNat].inc < inc then rForget p.reports node else p.reports }, true) := by
    unfold pHear
    rw [if_neg (by simp [h1, h2, h3, h4]), List.getElem?_eq_getElem hk]
  rw [e0]
  have hth := pheard_con p.table node inc htb
  generalize p.table[node.toNat] = m
  by_cases h5 : (inc.toNat : Int) < (m.inc.toNat : Int)
  · have h6 : inc < m.inc := by rw [UInt16.lt_iff_toNat_lt]; omega
    rw [if_pos (.inl h6), decide_eq_true h5]
    repeat first | simp -implicitDefEqProofs only [go_sem, vc2_blk, encRs_eq] | with_reducible first | refine gl_ ?_ | refine ga_ ?_ | refine gn_ ?_
    refine ret_emb ?_ rfl
    exact ws_
  have h6 : ¬ inc < m.inc := by rw [UInt16.lt_iff_toNat_lt]; omega
  rw [decide_eq_false h5]
  repeat first | simp -implicitDefEqProofs only [go_sem, vc2_blk, encRs_eq] | with_reducible first | refine gl_ ?_ | refine ga_ ?_ | refine gn_ ?_
  rw [u16_beq]
  by_cases h7 : inc = m.inc ∧ m.state = 3
  · rw [if_pos (.inr h7), decide_eq_true h7.1]
    repeat first | simp -implicitDefEqProofs only [go_sem, vc2_blk, encRs_eq] | with_reducible first | refine gl_ ?_ | refine ga_ ?_ | refine gn_ ?_
    rw [u8_c3, decide_eq_true h7.2]
    repeat first | simp -implicitDefEqProofs only [go_sem, vc2_blk, encRs_eq] | with_reducible first | refine gl_ ?_ | refine ga_ ?_ | refine gn_ ?_
    refine ret_emb ?_ rfl
    exact ws_
  rw [if_neg (by simp [h6]; exact fun a b => h7 ⟨a, b⟩)]
  by_cases hA : inc = m.inc
  · have hs3 : ¬ m.state = 3 := fun h => h7 ⟨hA, h⟩
    have h8 : ¬ (m.inc.toNat : Int) < (inc.toNat : Int) := by rw [hA]; omega
    have h9 : ¬ m.inc < inc := by rw [UInt16.lt_iff_toNat_lt]; omega
    rw [decide_eq_true hA, if_neg h9]
    repeat first | simp -implicitDefEqProofs only [go_sem, vc2_blk, encRs_eq] | with_reducible first | refine gl_ ?_ | refine ga_ ?_ | refine gn_ ?_
    rw [u8_c3, decide_eq_false hs3]
    repeat first | simp -implicitDefEqProofs only [go_sem, vc2_blk, encRs_eq] | with_reducible first | refine gl_ ?_ | refine ga_ ?_ | refine gn_ ?_
    refine CallS.eq hth ws_ (.inl ws_) ?_
    repeat first | simp -implicitDefEqProofs only [go_sem, vc2_blk, encRs_eq] | with_reducible first | refine gl_ ?_ | refine ga_ ?_ | refine gn_ ?_
    rw [decide_eq_false h8]
    repeat first | simp -implicitDefEqProofs only [go_sem, vc2_blk, encRs_eq] | with_reducible first | refine gl_ ?_ | refine ga_ ?_ | refine gn_ ?_
    refine ret_emb ?_ rfl
    exact ws_
  · have h8 : (m.inc.toNat : Int) < (inc.toNat : Int) := by
      have : m.inc.toNat ≠ inc.toNat := fun h => hA (UInt16.toNat_inj.1 h.symm)
      omega
    have h9 : m.inc < inc := by rw [UInt16.lt_iff_toNat_lt]; omega
    rw [decide_eq_false hA, if_pos h9]
    repeat first | simp -implicitDefEqProofs only [go_sem, vc2_blk, encRs_eq] | with_reducible first | refine gl_ ?_ | refine ga_ ?_ | refine gn_ ?_
    refine CallS.eq hth ws_ (.inl ws_) ?_
    repeat first | simp -implicitDefEqProofs only [go_sem, vc2_blk, encRs_eq] | with_reducible first | refine gl_ ?_ | refine ga_ ?_ | refine gn_ ?_
    rw [decide_eq_true h8]
    repeat first | simp -implicitDefEqProofs only [go_sem, vc2_blk, encRs_eq] | with_reducible first | refine gl_ ?_ | refine ga_ ?_ | refine gn_ ?_
    refine CallS.eq (forget_con p.reports node hr) ws_ (.inl ws_) ?_
    repeat first | simp -implicitDefEqProofs only [go_sem, vc2_blk, encRs_eq] | with_reducible first | refine gl_ ?_ | refine ga_ ?_ | refine gn_ ?_
    refine ret_emb ?_ rfl
    repeat first | simp -implicitDefEqProofs only [go_sem, vc2_blk, encRs_eq] | with_reducible refine gl_ ?_
end Go.Proofs.YtlaefellhnkfbaaGreat.V

set_option maxRecDepth 10000
namespace Go.Eng
def dCur (p : GPeer) (d : GDesc) : Bool :=
  if d.node = p.node then false else match p.table[d.node.toNat]? with
    | none => false
    | some m => decide (m.inc < d.inc) || (decide (d.inc = m.inc) && decide (m.state = 1))
def pCur (p : GPeer) (l : List GDesc) : List GDesc := l.filter (dCur p)
theorem u8_c1 (x : UInt8) : ((x.toNat : Int) == 1) = decide (x = 1) := u8_beq x 1
theorem filter_snoc {α : Type} {f : α → Bool} {l : List α} {k : Nat} (h : k < l.length) : (l.take (k + 1)).filter f = (l.take k).filter f ++ (if f l[k] = true then [l[k]] else []) := by
  rw [List.take_add_one, List.getElem?_eq_getElem h, List.filter_append]
  simp only [Option.toList_some, List.filter_cons, List.filter_nil]
theorem filter_tl {α : Type} {f : α → Bool} (l : List α) (k : Nat) : ((l.take k).filter f).length ≤ l.length := by
  have h1 := List.length_filter_le f (l.take k)
  rw [List.length_take] at h1
  omega
theorem okDs_filter {f : GDesc → Bool} {l : List GDesc} (h : okDs l) : okDs (l.filter f) := ⟨Nat.le_trans (List.length_filter_le _ _) h.1, fun d hd => h.2 d (List.mem_filter.1 hd).1⟩
end Go.Eng
namespace Go.Proofs.YtlaefellhnkfbaaGreat.V
open Go.Eng
attribute [local go_sem] encS encDD fzD plR rowR encK encM encRw encC encP encEv encA z8 z16 z32 z64 encMg
def dFine (c : GConf) (d : GDesc) : Bool := decide ((d.node.toNat : Int) < c.nodes) && decide ((1 : Int) ≤ (d.inc.toNat : Int)) && fRight c.schema d.filter
def pFine (c : GConf) (l : List GDesc) : List GDesc := l.filter (dFine c)
theorem pfine_con (c : GConf) (l : List GDesc) (hc : c.schema.length ≤ 1000) (hl : okDs l) : Con2 Tryz.prog 37 [.agg (encC c), fzD l] (· = rowR 34 4 ((pFine c l).map encDD)) := by
  have hb := hl.1
  refine con2_of Ty.mixed Tryz.func37 rfl (by kernel_rfl) (by kernel_rfl) rfl [.tmp 4] rfl ?_
  refine g2_ ?_
  refine g2_ ?_
  refine vc2_rangeA l.length (fun k => [(5, .d (.rf 0 0 (pFine c (l.take k)).length))]) (fun _ => []) (fun k => [(0, .arr 34 4 ((pFine c (l.take k)).map encDD) false)]) 1 (fun _ => True) (le2_of [(0, .nil 4)] ?_) trivial (fun g k => by simp -implicitDefEqProofs only [go_sem, vc2_blk]) (by omega) (fun g => by simp -implicitDefEqProofs only [go_sem, vc2_blk]) (fun k hk _ => ?_) (fun _ => ?_)
  · repeat first | simp -implicitDefEqProofs only [go_sem, vc2_blk, List.take_zero, pFine, List.filter_nil] | with_reducible refine gl_ ?_
    first | rfl | exact ⟨rfl, rfl⟩
  · have hdl := filter_tl (f := dFine c) l k
    have hdl2 : (pFine c (l.take k)).length ≤ l.length := hdl
    have hnd := l[k].node.toNat_lt
    have hsn : pFine c (l.take (k + 1)) = pFine c (l.take k) ++ (if dFine c l[k] = true then [l[k]] else []) := filter_snoc hk
    have hfr := fright_con2 c.schema l[k].filter (by omega) (by have := hl.2 _ (List.getElem_mem hk); omega)
    have hfc := fcopy_con l[k].filter (by have := hl.2 _ (List.getElem_mem hk); omega)
    repeat first | simp -implicitDefEqProofs only [go_sem, vc2_blk, mapE_get hk] | with_reducible first | refine gl_ ?_ | refine ga_ ?_ | refine gn_ ?_
    generalize l[k] = d at hsn hfr hfc hnd
    by_cases h1 : (d.node.toNat : Int) < c.nodes
    · rw [decide_eq_true h1]
      refine g2_ ?_
      by_cases h2 : (1 : Int) ≤ (d.inc.toNat : Int)
      · rw [decide_eq_true h2]
        refine g2_ ?_
        refine CallS.eq hfr ws_ (.inl ws_) ?_
        refine g2_ ?_
        cases h3 : fRight c.schema d.filter with
        | true =>
          have e : dFine c d = true := by simp [dFine, h1, h2, h3]
          refine g2_ ?_
          refine CallS.eq hfc ws_ (.inl ws_) ?_
          repeat first | simp -implicitDefEqProofs only [go_sem, vc2_blk, List.length_map] | with_reducible first | refine gl_ ?_ | refine ga_ ?_ | refine gn_ ?_
          refine ⟨k + 1, le2_of [(0, .to 2)] ?_, rfl⟩
          repeat first | simp -implicitDefEqProofs only [go_sem, vc2_blk, hsn, e, if_true, List.length_append] | with_reducible refine gl_ ?_
          first | rfl | exact ⟨rfl, by simp [encDD]⟩ | simp [encDD]
        | false =>
          have e : dFine c d = false := by simp [dFine, h3]
          refine g2_ ?_
          refine ⟨k + 1, le2_of [(0, .to 0)] ?_, rfl⟩
          repeat first | simp -implicitDefEqProofs only [go_sem, vc2_blk, hsn, e, List.append_nil, if_false] | with_reducible refine gl_ ?_
      · have e : dFine c d = false := by simp [dFine, h2]
        rw [decide_eq_false h2]
        refine g2_ ?_
        refine ⟨k + 1, le2_of [(0, .to 0)] ?_, rfl⟩
        repeat first | simp -implicitDefEqProofs only [go_sem, vc2_blk, hsn, e, List.append_nil, if_false] | with_reducible refine gl_ ?_
    · have e : dFine c d = false := by simp [dFine, h1]
      rw [decide_eq_false h1]
      refine g2_ ?_
      refine ⟨k + 1, le2_of [(0, .to 0)] ?_, rfl⟩
      repeat first | simp -implicitDefEqProofs only [go_sem, vc2_blk, hsn, e, List.append_nil, if_false] | with_reducible refine gl_ ?_
  · have he : l.take l.length = l := List.take_of_length_le (by omega)
    refine g2_ ?_
    exact ⟨_, rfl, le2_of [] (by simp -implicitDefEqProofs only [go_sem, vc2_blk, he])⟩
theorem pcur1_con (p : GPeer) (d : GDesc) (hp : okP p) : Con2 Tryz.prog 109 [.agg (encP p), .agg (encDD d)] (· = plR (.v (.bool (dCur p d)))) := by
  have hnd := d.node.toNat_lt
  have htb := hp.table
  refine con2_of Ty.mixed Tryz.func109 rfl (by kernel_rfl) (by kernel_rfl) rfl [.tmp 4] rfl ?_
  refine g2_ ?_
  refine g2_ ?_
  rw [u8_beq]
  by_cases h1 : d.node = p.node
  · have e : dCur p d = false := if_pos h1
    rw [e, decide_eq_true h1]
    refine g2_ ?_
    exact ⟨_, rfl, le2_of [] ws_⟩
  rw [decide_eq_false h1]
  refine g2_ ?_
  by_cases h2 : p.table.length ≤ d.node.toNat
  · have e : dCur p d = false := by rw [dCur, if_neg h1, List.getElem?_eq_none h2]
    rw [e, decide_eq_true (show (p.table.length : Int) ≤ (d.node.toNat : Int) by omega)]
    refine g2_ ?_
    exact ⟨_, rfl, le2_of [] ws_⟩
  have hk : d.node.toNat < p.table.length := by omega
  rw [decide_eq_false (show ¬ (p.table.length : Int) ≤ (d.node.toNat : Int) by omega)]
  repeat first | simp -implicitDefEqProofs only [go_sem, vc2_blk, mapE_get hk] | with_reducible first | refine gl_ ?_ | refine ga_ ?_ | refine gn_ ?_
  have e : dCur p d = (decide (p.table[d.node.toNat].inc < d.inc) || (decide (d.inc = p.table[d.node.toNat].inc) && decide (p.table[d.node.toNat].state = 1))) := by rw [dCur, if_neg h1, List.getElem?_eq_getElem hk]
  rw [e]
  generalize p.table[d.node.toNat] = m
  by_cases h3 : (m.inc.toNat : Int) < (d.inc.toNat : Int)
  · have h4 : m.inc < d.inc := by rw [UInt16.lt_iff_toNat_lt]; omega
    rw [decide_eq_true h3, decide_eq_true h4]
    refine g2_ ?_
    exact ⟨_, rfl, le2_of [] (by simp -implicitDefEqProofs only [go_sem, vc2_blk, Bool.true_or])⟩
  have h4 : ¬ m.inc < d.inc := by rw [UInt16.lt_iff_toNat_lt]; omega
  rw [decide_eq_false h3, decide_eq_false h4]
  refine g2_ ?_
  rw [u16_beq]
  by_cases h5 : d.inc = m.inc
  · rw [decide_eq_true h5]
    refine g2_ ?_
    exact ⟨_, rfl, le2_of [] (by simp -implicitDefEqProofs only [go_sem, vc2_blk, u8_c1, Bool.false_or, Bool.true_and])⟩
  · rw [decide_eq_false h5]
    refine g2_ ?_
    exact ⟨_, rfl, le2_of [] (by simp -implicitDefEqProofs only [go_sem, vc2_blk, Bool.false_or, Bool.false_and])⟩
theorem pcur_con (p : GPeer) (l : List GDesc) (hp : okP p) (hl : okDs l) : Con2 Tryz.prog 108 [.agg (encP p), fzD l] (· = rowR 34 4 ((pCur p l).map encDD)) := by
  have hb := hl.1
  have hcu := fun d => pcur1_con p d hp
  have hP1 : onesD (encP p) = true := by simp -implicitDefEqProofs only [go_sem, vc2_blk]
  have hP2 : ldsD true 32 0 (some (encP p)) = some (.agg (encP p)) := by simp -implicitDefEqProofs only [go_sem, vc2_blk]
  have hP3 : ∀ r, wkDs r (encP p) (encP p) := by intro r; exact ws_
  have hP4 : ∀ H, embDs H (encP p) = some (encP p) := by intro H; exact ws_
  have hP5 : noPts (encP p) = true := by simp -implicitDefEqProofs only [go_sem, vc2_blk]
  generalize encP p = P at hcu hP1 hP2 hP3 hP4 hP5
  refine con2_of Ty.mixed Tryz.func108 rfl (by kernel_rfl) (by kernel_rfl) rfl [.tmp 4] rfl ?_
  ((try (with_reducible refine leK2_refl ?_)); simp -implicitDefEqProofs only [go_sem, vc2_blk]; repeat ((with_reducible refine leK2_refl ?_); simp -implicitDefEqProofs only [go_sem, vc2_blk]))
  refine ⟨hP1, ?_⟩
  refine vc2_rangeA l.length (fun k => [(5, .d (.rf 0 0 (pCur p (l.take k)).length))]) (fun _ => []) (fun k => [(0, .arr 34 4 ((pCur p (l.take k)).map encDD) false)]) 1 (fun _ => True) (le2_of [(0, .nil 4)] ?_) trivial (fun g k => by simp -implicitDefEqProofs only [go_sem, vc2_blk]) (by omega) (fun g => by simp -implicitDefEqProofs only [go_sem, vc2_blk]) (fun k hk _ => ?_) (fun _ => ?_)
  · repeat first | simp -implicitDefEqProofs only [go_sem, vc2_blk, List.take_zero, pCur, List.filter_nil] | with_reducible refine gl_ ?_
    repeat' (first | exact hP3 _ | (with_reducible rfl) | (refine And.intro ?_ ?_) | rfl | (simp [encDD]; done))
  · have hdl2 : (pCur p (l.take k)).length ≤ l.length := filter_tl (f := dCur p) l k
    have hsn : pCur p (l.take (k + 1)) = pCur p (l.take k) ++ (if dCur p l[k] = true then [l[k]] else []) := filter_snoc hk
    repeat first | simp -implicitDefEqProofs only [go_sem, vc2_blk, mapE_get hk, hP2] | with_reducible first | refine gl_ ?_ | refine ga_ ?_ | refine gn_ ?_
    refine CallS.eq (hcu l[k]) (by simp -implicitDefEqProofs only [go_sem, vc2_blk, hP4]) (.inl (by simp -implicitDefEqProofs only [go_sem, vc2_blk, hP5])) ?_
    refine g2_ ?_
    refine cond2_b (fun h => ?_) (fun h => ?_)
    · repeat first | simp -implicitDefEqProofs only [go_sem, vc2_blk, List.length_map] | with_reducible first | refine gl_ ?_ | refine ga_ ?_ | refine gn_ ?_
      refine ⟨k + 1, le2_of [(0, .to 2)] ?_, rfl⟩
      repeat first | simp -implicitDefEqProofs only [go_sem, vc2_blk, hsn, h, if_true, List.length_append] | with_reducible refine gl_ ?_
      repeat' (first | exact hP3 _ | (with_reducible rfl) | (refine And.intro ?_ ?_) | rfl | (simp [encDD]; done))
    · refine g2_ ?_
      refine ⟨k + 1, le2_of [(0, .to 0)] ?_, rfl⟩
      repeat first | simp -implicitDefEqProofs only [go_sem, vc2_blk, hsn, h, if_false, List.append_nil] | with_reducible refine gl_ ?_
      repeat' (first | exact hP3 _ | (with_reducible rfl) | (refine And.intro ?_ ?_) | rfl | (simp [encDD]; done))
  · have he : l.take l.length = l := List.take_of_length_le (by omega)
    refine g2_ ?_
    exact ⟨_, rfl, le2_of [] (by simp -implicitDefEqProofs only [go_sem, vc2_blk, he])⟩
theorem fineF_con (c : GConf) (l : List GDesc) (hc : c.schema.length ≤ 1000) (hl : okDs l) : Con2 Tryz.prog 37 [.agg (encC c), fzD l] (· = plR (fzD (pFine c l))) := row_fz (pfine_con c l hc hl)
theorem curF_con (p : GPeer) (l : List GDesc) (hp : okP p) (hl : okDs l) : Con2 Tryz.prog 108 [.agg (encP p), fzD l] (· = plR (fzD (pCur p l))) := row_fz (pcur_con p l hp hl)
def pUse (c : GConf) (p : GPeer) (l : List GDesc) : List GDesc := pCur p (pFine c l)
theorem puse_con (c : GConf) (p : GPeer) (l : List GDesc) (hc : c.schema.length ≤ 1000) (hp : okP p) (hl : okDs l) : Con2 Tryz.prog 110 [.agg (encC c), .agg (encP p), fzD l] (· = plR (fzD (pUse c p l))) := by
  refine Con2.ofEmb ?_
  have h1 := fineF_con c l hc hl
  have h2 := curF_con p (pFine c l) hp (okDs_filter hl)
  refine con2_of Ty.mixed Tryz.func110 rfl (by kernel_rfl) (by kernel_rfl) rfl [.tmp 6] rfl ?_
  refine g2_ ?_
  refine g2_ ?_
  refine .inl ⟨[(0, false), (1, false), (2, false), (3, true), (4, false), (5, false)], by kernel_rfl, ?_⟩
  refine g2_ ?_
  refine CallS.eq h1 ws_ (.inl ws_) ?_
  refine g2_ ?_
  refine CallS.eq h2 ws_ (.inl ws_) ?_
  refine g2_ ?_
  refine ret_emb ?_ rfl
  repeat first | simp -implicitDefEqProofs only [go_sem, vc2_blk, pUse] | with_reducible refine gl_ ?_
end Go.Proofs.YtlaefellhnkfbaaGreat.V

set_option maxRecDepth 10000
namespace Go.Eng
def mNewer (a b : GMember) : Bool := if a.inc ≠ b.inc then decide (b.inc < a.inc) else decide (0 < a.inc) && decide (b.state < a.state)
def mMg (m : List GMember) (self : UInt8) (i : Nat) (x : GMember) : GMember :=
  match m[i]? with
  | some y => if i ≠ self.toNat ∧ mNewer y x = true then ⟨y.inc, y.state, 0⟩ else x
  | none => x
def tMerge (l m : List GMember) (self : UInt8) : List GMember := l.mapIdx (mMg m self)
def mergeK (l m : List GMember) (self : UInt8) (k : Nat) : List GMember := l.mapIdx fun i x => if i < k then mMg m self i x else x
theorem mergeK_len {l m : List GMember} {self : UInt8} {k : Nat} : (mergeK l m self k).length = l.length := by simp [mergeK]
theorem mergeK_0 {l m : List GMember} {self : UInt8} : mergeK l m self 0 = l := by
  apply List.ext_getElem?; intro j; simp [mergeK]
theorem mergeK_end {l m : List GMember} {self : UInt8} {n : Nat} (h : n = min l.length m.length) : mergeK l m self n = tMerge l m self := by
  apply List.ext_getElem?; intro j
  simp only [mergeK, tMerge, List.getElem?_mapIdx]
  cases hl : l[j]? with
  | none => rfl
  | some x =>
    simp only [Option.map_some, Option.some.injEq]
    split
    · rfl
    · have := (List.getElem?_eq_some_iff.1 hl).1
      have : m[j]? = none := List.getElem?_eq_none (by omega)
      rw [mMg, this]
theorem mergeK_set {l m : List GMember} {self : UInt8} {k : Nat} (h : k < l.length) : mergeK l m self (k + 1) = (mergeK l m self k).set k (mMg m self k l[k]) := by
  apply List.ext_getElem?; intro j
  rw [List.getElem?_set, mergeK_len]
  simp only [mergeK, List.getElem?_mapIdx]
  by_cases e : k = j
  · subst e; simp [h]
  · rw [if_neg e]
    congr 1
    funext x
    have : (j < k + 1) = (j < k) := by rw [eq_iff_iff]; omega
    simp only [this]
theorem mergeK_get {l m : List GMember} {self : UInt8} {k : Nat} (h : k < l.length) : (mergeK l m self k)[k]? = some l[k] := by
  simp [mergeK, h]
end Go.Eng
namespace Go.Proofs.YtlaefellhnkfbaaGreat.V
open Go.Eng
attribute [local go_sem] encS encDD fzD plR rowR encK encM encRw encC encP encEv encA z8 z16 z32 z64 encMg
theorem mnewer_con (a b : GMember) : Con2 Tryz.prog 234 [.agg (encM a), .agg (encM b)] (· = plR (.v (.bool (mNewer a b)))) := by
  refine con2_of Ty.mixed Tryz.func234 rfl (by kernel_rfl) (by kernel_rfl) rfl [.tmp 4] rfl ?_
  refine g2_ ?_
  refine g2_ ?_
  rw [u16_bne]
  by_cases h : a.inc = b.inc
  · have e : mNewer a b = (decide ((0 : Int) < (a.inc.toNat : Int)) && decide ((b.state.toNat : Int) < (a.state.toNat : Int))) := by
      rw [mNewer, if_neg (by simp [h])]
      have := u16_lt 0 a.inc
      rw [show ((0 : UInt16).toNat : Int) = 0 from rfl] at this
      simp only [u8_lt, this]
    rw [e, decide_eq_true h]
    refine g2_ ?_
    refine guard2 (fun h2 => ?_) (fun h2 => ?_)
    all_goals
      rw [h2]
      refine g2_ ?_
      exact ⟨_, rfl, le2_of [] (by simp -implicitDefEqProofs only [go_sem, vc2_blk, Bool.true_and, Bool.false_and])⟩
  · have e : mNewer a b = decide ((b.inc.toNat : Int) < (a.inc.toNat : Int)) := by rw [mNewer, if_pos h]; simp only [u16_lt]
    rw [e, decide_eq_false h]
    refine g2_ ?_
    exact ⟨_, rfl, le2_of [] ws_⟩
theorem pmerge_con (l m : List GMember) (self : UInt8) (hl : l.length ≤ 1000) (hm : m.length ≤ 1000) : Con2 Tryz.prog 211 [.fz 3 (l.map encM), .fz 3 (m.map encM), .v (.int .u8 self.toNat)] (· = plR (.fz 3 ((tMerge l m self).map encM))) := by
  refine Con2.ofEmb ?_
  have hself := self.toNat_lt
  have hne := fun a b => mnewer_con a b
  refine con2_of Ty.mixed Tryz.func211 rfl (by kernel_rfl) (by kernel_rfl) rfl [.tmp 6] rfl ?_
  refine g2_ ?_
  refine g2_ ?_
  refine CallS.eq (cloneMR_con (l.map encM) (by rw [List.length_map]; omega)) ws_ (.inl ws_) ?_
  repeat first | simp -implicitDefEqProofs only [go_sem, vc2_blk, List.length_map] | with_reducible first | refine gl_ ?_ | refine ga_ ?_ | refine gn_ ?_
  obtain ⟨n, hn⟩ : ∃ n, n = min l.length m.length := ⟨_, rfl⟩
  rw [show (if (m.length : Int) < (l.length : Int) then (m.length : Int) else (l.length : Int)) = (n : Int) by split <;> omega]
  refine vc2_rangeA n (fun k => []) (fun _ => []) (fun k => [(0, .arr 71 3 ((mergeK l m self k).map encM) false)]) 1 (fun _ => True) (le2_of [] ?_) trivial (fun g k => by simp -implicitDefEqProofs only [go_sem, vc2_blk]) (by omega) (fun g => by simp -implicitDefEqProofs only [go_sem, vc2_blk]) (fun k hk _ => ?_) (fun _ => ?_)
  · repeat first | simp -implicitDefEqProofs only [go_sem, vc2_blk, mergeK_0] | with_reducible refine gl_ ?_
    first | rfl | exact ⟨rfl, rfl⟩
  · have hk1 : k < l.length := by omega
    have hk2 : k < m.length := by omega
    refine g2_ ?_
    refine .inl ⟨[(0, false), (1, false), (2, false), (3, false), (4, false), (5, false), (6, false), (9, false), (10, false), (7, false), (11, false), (8, false), (12, false), (13, false), (14, false)], by kernel_rfl, ?_⟩
    refine g2_ ?_
    have hse := mergeK_set (l := l) (m := m) (self := self) hk1
    have hsame : (mergeK l m self k).set k l[k] = mergeK l m self k := by
      apply List.ext_getElem?; intro j
      rw [List.getElem?_set]
      split
      · subst_vars; rw [mergeK_get hk1]; simp [mergeK_len, hk1]
      · rfl
    have hmg : mMg m self k l[k] = if k ≠ self.toNat ∧ mNewer m[k] l[k] = true then ⟨m[k].inc, m[k].state, 0⟩ else l[k] := by rw [mMg, List.getElem?_eq_getElem hk2]
    by_cases hs : k = self.toNat
    · rw [show ((k : Int) != (self.toNat : Int)) = false by simp [hs]]
      rw [if_neg (by simp [hs])] at hmg
      rw [hmg, hsame] at hse
      refine g2_ ?_
      refine ⟨k + 1, le2_of [(0, .to 0)] ?_, rfl⟩
      repeat first | simp -implicitDefEqProofs only [go_sem, vc2_blk, hse] | with_reducible refine gl_ ?_
    · rw [show ((k : Int) != (self.toNat : Int)) = true by simp; omega]
      repeat first | simp -implicitDefEqProofs only [go_sem, vc2_blk, mapE_get hk1, mapE_get hk2] | with_reducible first | refine gl_ ?_ | refine ga_ ?_ | refine gn_ ?_
      refine CallS.eq (hne m[k] l[k]) ws_ (.inl ws_) ?_
      refine g2_ ?_
      cases hnw : mNewer m[k] l[k] with
      | true =>
        rw [if_pos ⟨hs, hnw⟩] at hmg
        rw [hmg] at hse
        refine g2_ ?_
        refine .inl ⟨[(0, false), (1, false), (2, false), (3, false), (7, false), (8, false), (4, false), (9, false), (5, false), (10, false), (6, false), (11, false), (12, false), (13, false), (14, false)], by kernel_rfl, ?_⟩
        have hgt : (List.map encM (mergeK l m self k))[k]? = some (encM l[k]) := by rw [List.getElem?_map, mergeK_get hk1]; rfl
        repeat first | simp -implicitDefEqProofs only [go_sem, vc2_blk, mapE_get hk2, hgt, List.length_map, mergeK_len, List.contains_nil] | with_reducible first | refine gl_ ?_ | refine ga_ ?_ | refine gn_ ?_
        refine ⟨k + 1, le2_of [(0, .to 0)] ?_, rfl⟩
        repeat first | simp -implicitDefEqProofs only [go_sem, vc2_blk, hse, List.map_set] | with_reducible refine gl_ ?_
      | false =>
        rw [if_neg (by simp [hnw])] at hmg
        rw [hmg, hsame] at hse
        refine g2_ ?_
        refine ⟨k + 1, le2_of [(0, .to 0)] ?_, rfl⟩
        repeat first | simp -implicitDefEqProofs only [go_sem, vc2_blk, hse] | with_reducible refine gl_ ?_
  · refine g2_ ?_
    refine ret_emb ?_ rfl
    rw [mergeK_end hn]
    have hlen : (tMerge l m self).length = l.length := by simp [tMerge]
    repeat first | simp -implicitDefEqProofs only [go_sem, vc2_blk, List.length_map, hlen] | with_reducible refine gl_ ?_
    rw [List.take_of_length_le (by simp [hlen])]
def lrnK (a b : List GMember) (r : List (List GMark)) (k : Nat) : List (List GMark) := (List.range k).foldl (fun r i => match a[i]?, b[i]? with
    | some x, some y => if x.inc < y.inc then rForget r (UInt8.ofNat i) else r
    | _, _ => r) r
def pLearn (p : GPeer) (t : List GMember) : GPeer := { p with table := tMerge p.table t p.node, reports := lrnK p.table (tMerge p.table t p.node) p.reports p.table.length }
theorem lrnK_succ {a b : List GMember} {r : List (List GMark)} {k : Nat} (h1 : k < a.length) (h2 : k < b.length) : lrnK a b r (k + 1) = if a[k].inc < b[k].inc then rForget (lrnK a b r k) (UInt8.ofNat k) else lrnK a b r k := by
  rw [lrnK, List.range_succ, List.foldl_append]
  simp only [List.foldl_cons, List.foldl_nil, List.getElem?_eq_getElem h1, List.getElem?_eq_getElem h2]
  rfl
theorem okRs_forget {r : List (List GMark)} {i : UInt8} (h : okRs r) : okRs (rForget r i) := by
  refine ⟨by simp [rForget, h.1], fun x hx => ?_⟩
  rcases List.mem_or_eq_of_mem_set hx with h1 | rfl
  · exact h.2 x h1
  · rw [blankK_len]; have := h.1; omega
theorem okRs_lrn {a b : List GMember} {r : List (List GMark)} (h : okRs r) : ∀ k, okRs (lrnK a b r k)
  | 0 => h
  | k + 1 => by
    rw [lrnK, List.range_succ, List.foldl_append]
    have ih := okRs_lrn (a := a) (b := b) h k
    simp only [List.foldl_cons, List.foldl_nil]
    split
    · split
      · exact okRs_forget ih
      · exact ih
    · exact ih
theorem plearn_con (p : GPeer) (t : List GMember) (hp : okP p) (ht : p.table.length ≤ 256) (htt : t.length ≤ 1000) (hr : okRs p.reports) : Con2 Tryz.prog 163 [.agg (encP p), .fz 3 (t.map encM)] (· = plR (.agg (encP (pLearn p t)))) := by
  refine Con2.ofEmb ?_
  have hme := pmerge_con p.table t p.node (by omega) htt
  have hlen : (tMerge p.table t p.node).length = p.table.length := by simp [tMerge]
  unfold pLearn
  generalize tMerge p.table t p.node = T at hme hlen
  refine con2_of Ty.mixed Tryz.func163 rfl (by kernel_rfl) (by kernel_rfl) rfl [.cell 4 49] rfl ?_
  refine g2_ ?_
  repeat first | simp -implicitDefEqProofs only [go_sem, vc2_blk, encRs_eq] | with_reducible first | refine gl_ ?_ | refine ga_ ?_ | refine gn_ ?_
  refine CallS.eq hme ws_ (.inl ws_) ?_
  repeat first | simp -implicitDefEqProofs only [go_sem, vc2_blk, encRs_eq, hlen] | with_reducible first | refine gl_ ?_ | refine ga_ ?_ | refine gn_ ?_
  rw [show (if (p.table.length : Int) < (p.table.length : Int) then (p.table.length : Int) else (p.table.length : Int)) = (p.table.length : Int) by split <;> rfl]
  refine vc2_rangeA p.table.length (fun k => []) (fun k => [(2, ⟨encP { p with table := T, reports := lrnK p.table T p.reports k }, 49⟩)]) (fun k => []) 0 (fun _ => True) (le2_of [] ?_) trivial (fun g k => by simp -implicitDefEqProofs only [go_sem, vc2_blk]) (by omega) (fun g => by simp -implicitDefEqProofs only [go_sem, vc2_blk]) (fun k hk _ => ?_) (fun _ => ?_)
  · repeat first | simp -implicitDefEqProofs only [go_sem, vc2_blk, lrnK, List.range_zero, List.foldl_nil, encRs_eq] | with_reducible refine gl_ ?_
    rfl
  · have hk2 : k < T.length := by omega
    have hok := okRs_lrn (a := p.table) (b := T) hr k
    have hsu := lrnK_succ (r := p.reports) hk hk2
    repeat first | simp -implicitDefEqProofs only [go_sem, vc2_blk, encRs_eq] | with_reducible first | refine gl_ ?_ | refine ga_ ?_ | refine gn_ ?_
    refine .inl ⟨[(0, false), (2, false), (6, false), (7, false), (1, false), (8, false), (3, false), (9, false), (4, false), (10, false), (5, false), (11, false)], by kernel_rfl, ?_⟩
    repeat first | simp -implicitDefEqProofs only [go_sem, vc2_blk, mapE_get hk, mapE_get hk2, encRs_eq] | with_reducible first | refine gl_ ?_ | refine ga_ ?_ | refine gn_ ?_
    have hku : ((UInt8.ofNat k).toNat : Int) = k := by rw [UInt8.toNat_ofNat']; omega
    have hfo := forget_con (lrnK p.table T p.reports k) (UInt8.ofNat k) hok
    rw [hku] at hfo
    by_cases h : p.table[k].inc < T[k].inc
    · have h2 : (p.table[k].inc.toNat : Int) < (T[k].inc.toNat : Int) := (u16_lt _ _).2 h
      rw [if_pos h] at hsu
      rw [decide_eq_true h2]
      repeat first | simp -implicitDefEqProofs only [go_sem, vc2_blk, encRs_eq] | with_reducible first | refine gl_ ?_ | refine ga_ ?_ | refine gn_ ?_
      refine ar_u8 (by omega) ?_
      repeat first | simp -implicitDefEqProofs only [go_sem, vc2_blk, encRs_eq] | with_reducible first | refine gl_ ?_ | refine ga_ ?_ | refine gn_ ?_
      refine CallS.eq hfo ws_ (.inl ws_) ?_
      repeat first | simp -implicitDefEqProofs only [go_sem, vc2_blk, encRs_eq] | with_reducible first | refine gl_ ?_ | refine ga_ ?_ | refine gn_ ?_
      refine ⟨k + 1, le2_of [] ?_, rfl⟩
      repeat first | simp -implicitDefEqProofs only [go_sem, vc2_blk, hsu, encRs_eq] | with_reducible refine gl_ ?_
    · have h2 : ¬ (p.table[k].inc.toNat : Int) < (T[k].inc.toNat : Int) := fun h3 => h ((u16_lt _ _).1 h3)
      rw [if_neg h] at hsu
      rw [decide_eq_false h2]
      repeat first | simp -implicitDefEqProofs only [go_sem, vc2_blk, encRs_eq] | with_reducible first | refine gl_ ?_ | refine ga_ ?_ | refine gn_ ?_
      refine ⟨k + 1, le2_of [] ?_, rfl⟩
      repeat first | simp -implicitDefEqProofs only [go_sem, vc2_blk, hsu, encRs_eq] | with_reducible refine gl_ ?_
  · repeat first | simp -implicitDefEqProofs only [go_sem, vc2_blk, encRs_eq] | with_reducible first | refine gl_ ?_ | refine ga_ ?_ | refine gn_ ?_
    refine ret_emb ?_ rfl
    repeat first | simp -implicitDefEqProofs only [go_sem, vc2_blk, encRs_eq] | with_reducible refine gl_ ?_
end Go.Proofs.YtlaefellhnkfbaaGreat.V
