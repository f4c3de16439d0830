/-
 bF 47 of the proof of Pb: the engine and the walks, in their order.
-/
import Derived.Test.YtlaefellhnkfbaaGreatPb38
import Derived.Test.YtlaefellhnkfbaaGreatPb43
import Derived.Test.YtlaefellhnkfbaaGreatPb46
set_option linter.unusedSimpArgs false
set_option linter.unusedVariables false
namespace Go.Proofs.YtlaefellhnkfbaaGreat.V
open Go.Eng
section
variable {c : av} {nd : UInt8} {p q : ak} {o : GOp}
theorem o0 (hc : ay c = true) (hB : Bd c nd p) : Con2 Tryz.prog 14 [.agg (aq p)] (· = plR (.fz 1 ((bq p).map aU))) := by
 have h1 := rY hc hB
 have h2 := hB.h.g.ok
 exact zd p (by omega) (by omega) h2.succ h2.pred (oK hc hB)
theorem agL (hc : ay c = true) (hcs : ∀ s ∈ c.schema, okS s) (hB : Bd c nd p) (hm : okMg o.m) (hdr : o.draws.length ≤ 1000) (hf : o.filter.length ≤ 8) (hfs : ∀ s ∈ o.filter, okS s) (hup : p.up = true ∨ ¬ (o.what = 6 ∨ o.what = 7)) :
  Con2 Tryz.prog 26 [.agg (aE c), .agg (aq p), .agg (encOp o)] (· = plR (.tup [.agg (aq (f_ c p o).1), .fz 17 ((f_ c p o).2.1.map ar), .v (.int .i64 (f_ c p o).2.2)])) := by
 have hr := fM hc
 obtain ⟨n1, n2⟩ := qw (f := o.filter) hcs hfs (by omega)
 have key : p.up = true → Bd c p.node (aH c (br c p) []) ∧ Bd c p.node (dy c (aH c (br c p) []) o.draws).1 := fun hu => by
  have s1 := (yI hB).meet hc hu gk iW (ms := []) fu
  exact ⟨s1.bd, (acd (dr := o.draws) hc s1.bd (by rw [s1.up, hu])).1⟩
 refine ad6 c p o (by omega) hcs hB.h hm hdr hf hB.ws (by omega) hB.f8 (oy hB.h.g n1 n2) (o0 hc hB) (Nat.le_trans (j3 hc hB) (by omega)) (fun hu => o0 hc (key hu).2) (fun hu => Nat.le_trans (j3 hc (key hu).2) (by omega)) (fun hu => ?_) (fun hu => (key hu).1.h.v8)
 exact yQ (key hu).1.h.v8 (by have := (rY hc (key hu).1).1; omega) (key hu).1.f8
theorem ed {a b : ak} {M : List aY} {t : Bool} (h : M.length ≤ 1) : (if t = true then (a, M) else (b, [])).2.length ≤ 1 := by
 cases t
 ·exact Nat.zero_le _
 ·exact h
theorem ae5 {m : aY} : (dJ c q m).2.length ≤ 1 := by
 unfold dJ
 split
 ·split
  ·exact Nat.le_refl _
  ·exact Nat.zero_le _
 ·exact Nat.zero_le _
theorem take_len {m : aY} {dr : List UInt32} : (iL dr c p m).2.length ≤ 1 := by
 unfold iL
 repeat' split
 ·exact Nat.zero_le _
 ·exact ed ae5
 ·exact ed (Nat.zero_le _)
 ·exact ed (Nat.le_refl _)
 ·exact ed (Nat.zero_le _)
 ·exact ed (Nat.zero_le _)
 ·exact ed (Nat.le_refl _)
 ·exact ed (Nat.zero_le _)
 ·exact ed (Nat.zero_le _)
 ·exact ed (Nat.zero_le _)
theorem afp {dr : List UInt32} {L : List UInt8} : (d_ c p dr L).2.length ≤ 5 := by
 unfold d_
 simp only
 generalize hq : dy c (aH c (br c p) []) dr = k
 have h1 : k.2.length ≤ 1 := by
  rw [← hq]; unfold dy; simp only; split
  ·exact Nat.le_refl _
  ·exact Nat.zero_le _
 have h2 : (gR c k.1 dr L).length ≤ 1 := by
  unfold gR; split
  ·exact Nat.zero_le _
  ·exact Nat.le_refl _
 have h3 : (fG k.1).length ≤ 1 := by
  unfold fG; split
  ·exact Nat.le_refl _
  ·exact Nat.zero_le _
 have h4 := dW k.1.ring
 rw [List.length_append, List.length_append, List.length_append, List.length_map]
 omega
theorem adc (hl : (bq p).length ≤ 26) : (f_ c p o).2.1.length ≤ 26 := by
 unfold f_
 split
 ·exact Nat.zero_le _
 split
 ·exact Nat.zero_le _
 split
 ·exact Nat.zero_le _
 split
 ·show (eZ c p o.node).1.length ≤ 26
  unfold eZ
  split
  ·exact Nat.zero_le _
  split
  ·exact Nat.zero_le _
  ·exact Nat.le_of_ble_eq_true rfl
 split
 ·show (if p.up = false then [] else (bq p).map (bP p 9)).length ≤ 26
  split
  ·exact Nat.zero_le _
  ·rw [List.length_map]; exact hl
 split
 ·show (if p.up = false then [] else (d_ c p o.draws (bq (dy c (aH c (br c p) []) o.draws).1)).2).length ≤ 26
  split
  ·exact Nat.zero_le _
  ·exact Nat.le_trans afp (by omega)
 split
 ·exact Nat.zero_le _
 split
 ·exact Nat.zero_le _
 ·exact Nat.le_trans take_len (by omega)
theorem aiM (h : o7 o = true) (hf : ∀ d ∈ o.m.list, ∀ s ∈ d.filter, okS s) : okMg o.m ∧ o.draws.length ≤ 1000 ∧ o.filter.length ≤ 8 := by
 unfold o7 at h
 simp only [Bool.and_eq_true, List.all_eq_true, decide_eq_true_eq, Bool.not_eq_true', decide_eq_false_iff_not] at h
 obtain ⟨⟨h1, h2⟩, h3, h4, h5, h6⟩ := h
 exact ⟨⟨by omega, fun d hd => by have := h1 d hd; omega, hf, by omega⟩, by omega, by omega⟩
end
end Go.Proofs.YtlaefellhnkfbaaGreat.V

set_option maxRecDepth 10000
set_option maxHeartbeats 4000000
namespace Go.Proofs.YtlaefellhnkfbaaGreat.V
open Go.Eng
attribute [local go_sem] aR aP ah fzD plR bB bn aI bC aE aq bm dd z8 z16 z32 z64 ar aT ey iD List.map_cons List.map_nil
theorem nb1 : (((1 : Nat) : Int) != 1) = false := rfl
theorem nb0 : (((0 : Nat) : Int) != 0) = false := rfl
theorem nb2 : (((2 : Nat) : Int) != 2) = false := rfl
theorem nb4 : (((4 : Nat) : Int) != 4) = false := rfl
theorem afc : ((UInt16.toNat 1 : Nat) : Int) = 1 := rfl
attribute [local go_sem] afc nb0 nb1 nb2 nb4 bne_self_eq_false akW akR ajW alM aj6 ak2 List.length_cons List.length_nil
theorem ak0 : okH awA := lP awC _ (kB awC 0)
theorem aw_hB : okH awB := lP awC _ (kB awC 1)
theorem afr : awC.schema.length ≤ 4 := by decide
theorem afe : ∀ s ∈ awC.schema, okS s := by
 intro s hs
 have hs : s ∈ [(⟨0, 9⟩ : GSpan)] := hs
 rw [List.mem_singleton.1 hs]
 exact ⟨by decide, by decide, by decide, by decide⟩
theorem amz : okMg awM := by
 have e : awM.list = [⟨1, 1, 0, []⟩] := by kernel_rfl
 have e2 : awM.table = [] := by kernel_rfl
 exact ⟨by rw [e]; simp, by rw [e]; simp, by rw [e]; simp, by rw [e2]; simp⟩
theorem amj : okMg awW := ⟨by decide, by simp [awW], by simp [awW], by decide⟩
theorem akq : okH awB1 := by
 have h : okH (aL awC awB awW.frm awW.inc).1 := cR aw_hB _ _
 have h2 : okH (cL (aL awC awB awW.frm awW.inc).1 awW.table) := l4 h _
 have hv : (dK awC (aL awC awB awW.frm awW.inc).1 awW).view = [⟨0, 1, 0, []⟩] := by kernel_rfl
 have e : awB1 = aH awC (dK awC (aL awC awB awW.frm awW.inc).1 awW) [] := by kernel_rfl
 rw [e]
 refine ae3 ⟨i3 h2.g (by
  have : (dK awC (aL awC awB awW.frm awW.inc).1 awW).view.length ≤ 1000 := by rw [hv]; simp
  exact this) (by
  have : ∀ d ∈ (dK awC (aL awC awB awW.frm awW.inc).1 awW).view, okF d := by rw [hv]; simp [okF]
  exact this), h2.rs, by rw [hv]; exact ⟨by simp, by simp⟩, ?_⟩ ⟨by simp, by simp⟩ (by simp)
 rw [hv]
 have e2 : (dK awC (aL awC awB awW.frm awW.inc).1 awW).node = 1 := by kernel_rfl
 rw [e2]
 exact ⟨by decide, List.pairwise_singleton _ _⟩
theorem amV : ∃ r0 r1 r2 r3 : aY, (d_ awC awB1 [1, 2, 3] awL).2 = [r0, r1, r2, r3] ∧ (r0.kind = 3 ∧ r0.to = 0 ∧ r0.frm = 1 ∧ r0.inc = 1) ∧ (r1.kind = 5 ∧ r1.to = 0 ∧ r1.frm = 1 ∧ r1.inc = 1) ∧ (r2.kind = 6 ∧ r2.to = 0 ∧ r2.frm = 1 ∧ r2.inc = 1) ∧ (r3.kind = 8 ∧ r3.to = 0 ∧ r3.frm = 1 ∧ r3.inc = 1) := by
 have h := amY
 generalize (d_ awC awB1 [1, 2, 3] awL).2 = R at h
 have hl := congrArg List.length h
 simp only [List.length_map, List.length_cons, List.length_nil] at hl
 match R, hl, h with
 | [r0, r1, r2, r3], _, h =>
  simp at h
  exact ⟨r0, r1, r2, r3, rfl, h.1, h.2.1, h.2.2.1, h.2.2.2⟩
theorem ajK : awS.view = [⟨0, 1, 1, []⟩] := by kernel_rfl
theorem am6 : awS.table = [⟨1, 1, 1⟩, ⟨1, 1, 0⟩] := by kernel_rfl
theorem amo : awB1.up = true := by kernel_rfl
theorem acR : Con2 Tryz.prog 14 [.agg (aq awS)] (· = plR (.fz 1 (awL.map aU))) := by
 have e1 : cW awS = [0, 0] := by kernel_rfl
 have e2 : awS.near = [] := by kernel_rfl
 have e3 : awS.ring.succ.filter = [] := by kernel_rfl
 have e4 : awS.ring.pred.filter = [] := by kernel_rfl
 exact zd awS (by rw [ajK]; simp) (by rw [e2]; simp) (by rw [e3]; simp) (by rw [e4]; simp) (by rw [e1]; simp)
theorem agG : Con2 Tryz.prog 20 [.agg (aE awC), .agg (aq awB1), .fz 1 ([1, 2, 3].map aW)] (· = plR (.tup [.agg (aq awS), .fz 17 ((d_ awC awB1 [1, 2, 3] awL).2.map ar)])) := by
 have h1 : ok8 awQ.view := by rw [amJ]; exact ⟨by simp, by simp⟩
 have h2 : awB1.wait.sent = [] := by kernel_rfl
 have h3 : awB1.filter = [] := by kernel_rfl
 have h4 : ok8 (ft awQ.view (aX awQ) awC.swap [1, 2, 3]).2.1 := by rw [amE]; exact ⟨by simp, by simp⟩
 exact u9 awC awB1 [1, 2, 3] awL afr afe akq amo (by decide) (by simp) (by rw [h2]; exact ⟨by simp, by simp⟩) acR (by rw [anb]; simp) h4 h1 (by rw [h3]; simp)
theorem um : Con2 Tryz.prog 9 [] (· = plR (.v (.bool true))) := by
 have c1 : Con2 Tryz.prog 42 [.v (.int .i64 2)] (· = plR (.agg (aE awC))) := aaH 2
 have c2 : Con2 Tryz.prog 10 [.agg (aE awC), .v (.int .u8 (UInt8.toNat 0))] (· = plR (.tup [.agg (aq awA), .v (.bool true)])) := by
  have h := acw awC 0
  rw [aw1] at h
  simp only [aw3, decide_true, Bool.and_self] at h
  exact h
 have c3 : Con2 Tryz.prog 10 [.agg (aE awC), .v (.int .u8 (UInt8.toNat 1))] (· = plR (.tup [.agg (aq awB), .v (.bool true)])) := by
  have h := acw awC 1
  rw [aw2] at h
  simp only [aw4, decide_true, Bool.and_self] at h
  exact h
 have c4 : Con2 Tryz.prog 11 [.agg (aE awC), .agg (aq awB), .v (.int .u8 (UInt8.toNat 0))] (· = plR (.tup [.fz 17 ([awM].map ar), .v (.int .i64 0)])) := by
  have h := p6 awC awB 0 aw_hB.ok
  rw [aw5] at h
  exact h
 have c5 : Con2 Tryz.prog 12 [.agg (aE awC), .agg (aq awA), .agg (ar awM), .fz 1 (([] : List UInt32).map aW)] (· = plR (.tup [.agg (aq awA1), .fz 17 ([awW].map ar)])) := by
  have h := pE awC awA awM [] afr afe ak0 amz aw3 (by kernel_rfl) (by kernel_rfl)
  rw [aw6] at h
  exact h
 have c6 : Con2 Tryz.prog 12 [.agg (aE awC), .agg (aq awB), .agg (ar awW), .fz 1 (([] : List UInt32).map aW)] (· = plR (.tup [.agg (aq awB1), .fz 17 (([] : List aY).map ar)])) := by
  have h := kF awC awB awW [] afr afe aw_hB amj aw4 (by kernel_rfl) (by kernel_rfl)
  rw [aw8] at h
  exact h
 have c7 := agG
 obtain ⟨r0, r1, r2, r3, hR, f0, f1, f2, f3⟩ := amV
 rw [hR] at c7
 obtain ⟨E, hE⟩ : ∃ E, E = [r0, r1, r2, r3].map ar := ⟨_, rfl⟩
 have hEl : E.length = 4 := by rw [hE]; rfl
 have hEk : ∀ k, k < 4 → ∃ (kd : Int) (rest : List DV), E[k]? = some (.v (.int .u8 kd) :: .v (.int .u8 1) :: .v (.int .u16 1) :: .v (.int .u8 0) :: rest) ∧ ([[.v (.int .u8 3)], [.v (.int .u8 5)], [.v (.int .u8 6)], [.v (.int .u8 8)]] : List (List DV))[k]? = some [.v (.int .u8 kd)] := by
  intro k hk
  have key : ∀ (r : aY) (kd : UInt8), r.kind = kd → r.to = 0 → r.frm = 1 → r.inc = 1 → ∃ rest, ar r = .v (.int .u8 kd.toNat) :: .v (.int .u8 1) :: .v (.int .u16 1) :: .v (.int .u8 0) :: rest := fun r kd h1 h2 h3 h4 => ⟨_, by rw [ar, h1, h2, h3, h4]; rfl⟩
  rw [hE]
  match k, hk with
  | 0, _ => obtain ⟨x, hx⟩ := key r0 3 f0.1 f0.2.1 f0.2.2.1 f0.2.2.2; exact ⟨3, x, by rw [List.map_cons, hx]; rfl, rfl⟩
  | 1, _ => obtain ⟨x, hx⟩ := key r1 5 f1.1 f1.2.1 f1.2.2.1 f1.2.2.2; exact ⟨5, x, by rw [List.map_cons, List.map_cons, hx]; rfl, rfl⟩
  | 2, _ => obtain ⟨x, hx⟩ := key r2 6 f2.1 f2.2.1 f2.2.2.1 f2.2.2.2; exact ⟨6, x, by rw [List.map_cons, List.map_cons, List.map_cons, hx]; rfl, rfl⟩
  | 3, _ => obtain ⟨x, hx⟩ := key r3 8 f3.1 f3.2.1 f3.2.2.1 f3.2.2.2; exact ⟨8, x, by rw [List.map_cons, List.map_cons, List.map_cons, List.map_cons, hx]; rfl, rfl⟩
 rw [← hE] at c7
 clear hE
 have hMk : awM.kind = 1 := by kernel_rfl
 have hMt : awM.to = 0 := by kernel_rfl
 have hv1 := aw7
 have hv2 := ajK
 have ht2 := am6
 generalize awA = A at c2 c5
 generalize awB = B at c3 c4 c6
 generalize awM = M at c4 c5 hMk hMt
 have hWk : awW.kind = 2 := rfl
 have hWl : awW.list = [⟨0, 1, 0, []⟩] := rfl
 generalize awW = W at c5 c6 hWk hWl
 generalize awA1 = A1 at c5 hv1
 generalize awB1 = B1 at c6 c7
 generalize awS = S at c7 hv2 ht2
 have c8 := kg awC (by have := afr; omega)
 have e8 : ay awC = true := by kernel_rfl
 rw [e8] at c8
 have c9 : Con2 Tryz.prog 8 [.agg (aE ⟨0, [], 0, 0, 0, 0, 0, 0, 0, 0, 0, 0, 0, 0, 0⟩)] (· = plR (.v (.bool false))) := kg ⟨0, [], 0, 0, 0, 0, 0, 0, 0, 0, 0, 0, 0, 0, 0⟩ (by simp)
 generalize awC = C at c1 c2 c3 c4 c5 c6 c7 c8
 refine af Ty.mixed Tryz.func9 rfl (by kernel_rfl) (by kernel_rfl) rfl [.tmp 0] rfl ?_
 refine g2_ ?_
 refine g2_ ?_
 refine CallS.eqW c1 ws_ (.inl ws_) ?_
 refine g2_ ?_
 refine CallS.eqW c2 ws_ (.inl ws_) ?_
 refine g2_ ?_
 refine CallS.eqW c3 ws_ (.inl ws_) ?_
 refine g2_ ?_
 refine CallS.eqW c4 ws_ (.inl ws_) ?_
 repeat first | simp -implicitDefEqProofs only [go_sem, aa, hMk, hMt] | with_reducible first | refine gl_ ?_ | refine ga_ ?_ | refine gn_ ?_
 refine .inr (.inr (.inl ⟨oF [0, 1, 2, 3, 4, 5, 6, 7, 8, 9, 10] [], [], by kernel_rfl, ?_⟩))
 repeat first | simp -implicitDefEqProofs only [go_sem, aa, hMk, hMt] | with_reducible first | refine gl_ ?_ | refine ga_ ?_ | refine gn_ ?_
 refine CallS.eqW c5 (by simp -implicitDefEqProofs only [go_sem, aa, hMk, hMt]) (.inl ws_) ?_
 repeat first | simp -implicitDefEqProofs only [go_sem, aa, hv1, hWk, hWl] | with_reducible first | refine gl_ ?_ | refine ga_ ?_ | refine gn_ ?_
 refine .inr (.inr (.inl ⟨oF [0, 1, 2, 3, 4, 5, 6, 7, 8, 9, 10] [], [], by kernel_rfl, ?_⟩))
 refine g2_ ?_
 refine CallS.eqW c6 (by simp -implicitDefEqProofs only [go_sem, aa, hMk, hMt, hWk, hWl]) (.inl ws_) ?_
 refine g2_ ?_
 refine CallS.eqW c7 (by simp -implicitDefEqProofs only [go_sem, aa, hMk, hMt, hWk, hWl]; rfl) (.inl ws_) ?_
 repeat first | simp -implicitDefEqProofs only [go_sem, aa, hv2, ht2, hEl] | with_reducible first | refine gl_ ?_ | refine ga_ ?_ | refine gn_ ?_
 refine iu 4 [(153, .d (.v (.int .i64 ((4 : Nat) : Int)))), (152, .d (.rf 1 0 4)), (6, .d (.fz 17 E)), (1, .loc 1 0)] (fun k => []) (fun _ => [(1, ⟨aE C, 26⟩)]) (fun k => [(1, .arr 5 1 [[.v (.int .u8 3)], [.v (.int .u8 5)], [.v (.int .u8 6)], [.v (.int .u8 8)]] false)]) 2 (fun k => True) (ac [] ?_) trivial (fun g k => by first | rfl | ((try (with_reducible refine ab ?_)); simp -implicitDefEqProofs only [go_sem, aa]; repeat ((with_reducible refine ab ?_); simp -implicitDefEqProofs only [go_sem, aa]))) (by omega) (fun g => by simp -implicitDefEqProofs only [go_sem, aa]) (fun k hk hF => ?_) (fun hF => ?_)
 ·refine g2_ ?_
  first | done | rfl | exact ⟨rfl, rfl⟩ | trace_state
 ·obtain ⟨kd, rest, h1, h2⟩ := hEk k hk
  repeat first | simp -implicitDefEqProofs only [go_sem, aa, h1, h2, hEl] | with_reducible first | refine gl_ ?_ | refine ga_ ?_ | refine gn_ ?_
  refine ⟨k + 1, ac [] ?_, rfl⟩
  exact ws_
 ·refine g2_ ?_
  refine CallS.eqW c8 ws_ (.inl ws_) ?_
  refine g2_ ?_
  refine CallS.eqW c9 ws_ (.inl ws_) ?_
  refine g2_ ?_
  exact ⟨_, rfl, ac [] ws_⟩
end Go.Proofs.YtlaefellhnkfbaaGreat.V

set_option maxRecDepth 10000
namespace Go.Proofs.YtlaefellhnkfbaaGreat.V
open Go.Eng
theorem fill_one {d : GDesc} {self : UInt8} {room : Int} (h1 : d.node ≠ self) (h2 : d.inc ≠ 0) (h3 : 0 < room) : dF self room [] [d] = [d] := by
 have h : cP [] d self room = ([d], true) := by
  unfold cP
  rw [if_neg (by simp [h1, h2])]
  show (if room ≤ (0 : Int) then _ else _) = _
  rw [if_neg (by omega)]; rfl
 rw [dF, h]; rfl
structure Tab (c : av) (p : ak) (a b : am) : Prop where
 len : (p.table.length : Int) = c.nodes
 a : p.table[0]? = some a
 b : p.table[1]? = some b
structure Sh (c : av) (p : ak) (nd : UInt8) (i : UInt16) (v : List GDesc) (r : fa) (a b : am) : Prop where
 h : okH p
 node : p.node = nd
 inc : p.inc = i
 up : p.up = true
 filter : p.filter = []
 view : p.view = v
 near : p.near = []
 ring : p.ring = r
 tab : Tab c p a b
def zR : fa := ⟨false, false, aR, aR⟩
structure anZ (c : av) (A B : ak) (M : aY) (P1 : ak) (W : aY) (Q1 : ak) (P2 : ak) : Prop where
 a1 : bM c (bN c 0) = (A, 0)
 a2 : A.up = true
 a3 : okH A
 b1 : bM c (bN c 1) = (B, 0)
 b2 : B.up = true
 b3 : okH B
 m1 : eZ c B 0 = ([M], 0)
 m2 : okMg M
 m3 : M.to = A.node
 m4 : M.kind = 1
 p1 : oU c A M = (P1, [W])
 p2 : okH P1
 p3 : P1.up = true
 w1 : okMg W
 w2 : W.to = B.node
 w3 : W.kind = 2
 q1 : fU c B W = (Q1, [])
 q2 : okH Q1
 q3 : Q1.up = true
 q4 : cW Q1 = [0, 0]
 q5 : Q1.node = 1
 q6 : Q1.inc = 1
 q7 : Q1.view.length ≤ 300 ∧ Q1.near.length ≤ 300
 e1 : okMg (bP Q1 9 0)
 e2 : (bP Q1 9 0).to = P1.node
 r1 : nt c P1 (bP Q1 9 0) = (P2, [])
 r2 : Sh c P2 0 1 [] zR ⟨1, 1, 0⟩ ⟨1, 3, 0⟩
end Go.Proofs.YtlaefellhnkfbaaGreat.V

set_option maxRecDepth 10000
set_option maxHeartbeats 8000000
namespace Go.Eng
end Go.Eng
namespace Go.Proofs.YtlaefellhnkfbaaGreat.V
open Go.Eng
attribute [local go_sem] aR aP ah fzD plR bB bn aI bC aE aq bm dd z8 z16 z32 z64 ar aT ey iD List.map_cons List.map_nil
theorem eb1 : (((1 : Nat) : Int) == 1) = true := rfl
theorem aie : ((UInt16.toNat 2 : Nat) : Int) = 2 := rfl
attribute [local go_sem] eb1 aie afc nb0 nb1 nb2 nb4 bne_self_eq_false List.length_cons List.length_nil
end Go.Proofs.YtlaefellhnkfbaaGreat.V

set_option maxRecDepth 10000
set_option maxHeartbeats 8000000
namespace Go.Proofs.YtlaefellhnkfbaaGreat.V
open Go.Eng
attribute [local go_sem] aR aP ah fzD plR bB bn aI bC aE aq bm dd z8 z16 z32 z64 ar aT ey iD List.map_cons List.map_nil
attribute [local go_sem] eb1 aie afc nb0 nb1 nb2 nb4 bne_self_eq_false List.length_cons List.length_nil
def fUp (p : ak) (x : GOp) : Prop := o7 x = true ∧ (p.up = true ∨ ¬ (x.what = 6 ∨ x.what = 7))
theorem peerBounds_con (c : av) (node : UInt8) (ops : List GOp) (hcs : ∀ s ∈ c.schema, okS s) (hsl : c.schema.length ≤ 9223372036854775807) (hol : ops.length ≤ 9223372036854775807) (hops : ∀ o ∈ ops, o.m.list.length ≤ 9223372036854775807 ∧ o.m.table.length ≤ 9223372036854775807 ∧ (∀ d ∈ o.m.list, ∀ s ∈ d.filter, okS s) ∧ (∀ s ∈ o.filter, okS s)) :
  Con2 Tryz.prog 6 [.agg (aE c), .v (.int .u8 node.toNat), .fz 22 (ops.map encOp)] (· = plR (.v (.bool true))) := by
 have haw := um
 refine af Ty.mixed Tryz.func6 rfl (by kernel_rfl) (by kernel_rfl) rfl [.tmp 6] rfl ?_
 refine g2_ ?_
 refine g2_ ?_
 by_cases g1 : (8 : Int) < (c.schema.length : Int)
 ·rw [decide_eq_true g1]
  refine g2_ ?_
  refine CallS.eqW haw ws_ (.inl ws_) ?_
  refine g2_ ?_
  exact ⟨_, rfl, ac [] ws_⟩
 rw [decide_eq_false g1]
 refine g2_ ?_
 refine CallS.eqW (kg c (by omega)) ws_ (.inl ws_) ?_
 refine g2_ ?_
 cases g2 : ay c with
 | false =>
  refine g2_ ?_
  refine CallS.eqW haw ws_ (.inl ws_) ?_
  refine g2_ ?_
  exact ⟨_, rfl, ac [] ws_⟩
 | true =>
 obtain ⟨n1, n2⟩ := rh g2
 refine g2_ ?_
 refine jF (by omega) ?_
 refine g2_ ?_
 obtain ⟨n, hn⟩ : ∃ n : Nat, c.nodes = n := ⟨c.nodes.toNat, by omega⟩
 rw [kK (a := node.toNat) (b := n) (bi := c.nodes) rfl hn (by omega)]
 obtain ⟨nd, hnd⟩ : ∃ nd : UInt8, (((node.toNat % n : Nat) : Nat) : Int) = (nd.toNat : Int) := ⟨UInt8.ofNat (node.toNat % n), by
  have : node.toNat % n < n := Nat.mod_lt _ (by omega)
  rw [UInt8.toNat_ofNat']; omega⟩
 rw [hnd]
 have hnl := nd.toNat_lt
 refine g2_ ?_
 refine CallS.eqW (n8 c nd) ws_ (.inl ws_) ?_
 have hB0 := aiO g2 nd
 generalize bN c nd = p0 at hB0
 repeat first | simp -implicitDefEqProofs only [go_sem, aa, List.length_map] | with_reducible first | refine gl_ ?_ | refine ga_ ?_ | refine gn_ ?_
 obtain ⟨m, hm⟩ : ∃ m : Nat, m = min ops.length 25 := ⟨_, rfl⟩
 have hmi : (if (25 : Int) < (ops.length : Int) then (25 : Int) else (ops.length : Int)) = (m : Int) := by split <;> omega
 rw [hmi]
 repeat first | simp -implicitDefEqProofs only [go_sem, aa, List.length_map] | with_reducible first | refine gl_ ?_ | refine ga_ ?_ | refine gn_ ?_
 have hO : List.take (m - 0) (ops.map encOp) = (ops.take m).map encOp := by rw [Nat.sub_zero, List.map_take]
 have hOm := fun o (h : o ∈ ops.take m) => hops o (List.mem_of_mem_take h)
 have hOl : (ops.take m).length ≤ 25 := by rw [List.length_take]; omega
 rw [hO]
 generalize ops.take m = O at hOm hOl
 obtain ⟨E, hE⟩ : ∃ E, E = O.map encOp := ⟨_, rfl⟩
 have hEl : E.length = O.length := by rw [hE, List.length_map]
 have hEg : ∀ k (hk : k < O.length), E[k]? = some (encOp O[k]) := fun k hk => by rw [hE, List.getElem?_map, List.getElem?_eq_getElem hk]; rfl
 rw [← hE]
 clear hE
 refine ip (γ := ak) (ρ := [(39, .d (.v (.int .i64 O.length))), (38, .d (.fz 22 E)), (1, .d (.v (.int .u8 nd.toNat))), (3, .loc 3 0), (7, .loc 7 0)]) O.length (fun p => []) (fun p => [(3, ⟨aE c, 26⟩), (7, ⟨aq p, 49⟩)]) (fun _ => []) 0 (fun k p => Bd c nd p) p0 (ac [] ?_) hB0 (fun g k => by first | rfl | ((try (with_reducible refine ab ?_)); simp -implicitDefEqProofs only [go_sem, aa]; repeat ((with_reducible refine ab ?_); simp -implicitDefEqProofs only [go_sem, aa]))) (by omega) (fun g => by simp -implicitDefEqProofs only [go_sem, aa]) (fun k p hk hB => ?_) (fun p hB => ?_)
 ·repeat first | simp -implicitDefEqProofs only [go_sem, aa, List.length_map, hEl] | with_reducible refine gl_ ?_
  first | done | rfl | exact ⟨rfl, rfl⟩ | trace_state
 ·obtain ⟨f1, f2, f3, f4⟩ := hOm _ (List.getElem_mem hk)
  have hfew := afZ O[k] f1 f2
  have hgo := hEg k hk
  generalize O[k] = x at hfew hgo f1 f2 f3 f4
  have hnode := hB.node
  refine Vc2.seqJ (γ := Unit) (fun _ => ⟨[(9, .loc 9 0), (40, .d (.v (.int .i64 k))), (39, .d (.v (.int .i64 O.length))), (38, .d (.fz 22 E)), (1, .d (.v (.int .u8 nd.toNat))), (3, .loc 3 0), (7, .loc 7 0)], [(9, ⟨encOp x, 75⟩), (3, ⟨aE c, 26⟩), (7, ⟨aq p, 49⟩)], [], 0, 0⟩) (fun _ => True) ?_ (fun _ _ => ?_)
  ·repeat first | simp -implicitDefEqProofs only [go_sem, aa, hgo, encOp, List.append_eq, List.cons_append, List.nil_append] | with_reducible first | refine gl_ ?_ | refine ga_ ?_ | refine gn_ ?_
   refine ⟨(), ac [] ?_⟩
   repeat first | simp -implicitDefEqProofs only [go_sem, aa, encOp, List.append_eq, List.cons_append, List.nil_append] | with_reducible refine gl_ ?_
   first | done | rfl | exact ⟨rfl, rfl⟩ | trace_state
  clear hgo
  refine Vc2.seqJ (γ := Unit) (fun _ => ⟨[(9, .loc 9 0), (40, .d (.v (.int .i64 k))), (39, .d (.v (.int .i64 O.length))), (38, .d (.fz 22 E)), (1, .d (.v (.int .u8 nd.toNat))), (3, .loc 3 0), (7, .loc 7 0)], [(9, ⟨encOp x, 75⟩), (3, ⟨aE c, 26⟩), (7, ⟨aq p, 49⟩)], [], 0, 0⟩) (fun _ => fUp p x) ?_ (fun _ hf => ?_)
  ·repeat first | simp -implicitDefEqProofs only [go_sem, aa, encOp, List.append_eq, List.cons_append, List.nil_append] | with_reducible first | refine gl_ ?_ | refine ga_ ?_ | refine gn_ ?_
   refine CallS.eqW hfew (by simp -implicitDefEqProofs only [go_sem, aa, encOp, List.append_eq, List.cons_append, List.nil_append]) (.inl ws_) ?_
   refine g2_ ?_
   cases g3 : o7 x with
   | false =>
    refine g2_ ?_
    refine ⟨p, ac [] ?_, hB⟩
    exact ws_
   | true =>
   refine g2_ ?_
   cases hu : p.up with
   | true =>
    refine g2_ ?_
    refine ⟨(), ac [] ?_, ⟨g3, .inl hu⟩⟩
    repeat first | simp -implicitDefEqProofs only [go_sem, aa, hu, encOp, List.append_eq, List.cons_append, List.nil_append] | with_reducible refine gl_ ?_
    first | done | rfl | exact ⟨rfl, rfl⟩ | trace_state
   | false =>
    refine g2_ ?_
    by_cases w6 : x.what = 6
    ·rw [show ((x.what.toNat : Int) == 6) = true by rw [w6]; rfl]
     refine g2_ ?_
     refine ⟨p, ac [] ?_, hB⟩
     repeat first | simp -implicitDefEqProofs only [go_sem, aa, hu] | with_reducible refine gl_ ?_
    rw [show ((x.what.toNat : Int) == 6) = false from beq_eq_false_iff_ne.2 (fun h => w6 (UInt8.toNat_inj.1 (by rw [show (6 : UInt8).toNat = 6 from rfl]; omega)))]
    refine g2_ ?_
    by_cases w7 : x.what = 7
    ·rw [show ((x.what.toNat : Int) == 7) = true by rw [w7]; rfl]
     refine g2_ ?_
     refine ⟨p, ac [] ?_, hB⟩
     repeat first | simp -implicitDefEqProofs only [go_sem, aa, hu] | with_reducible refine gl_ ?_
    rw [show ((x.what.toNat : Int) == 7) = false from beq_eq_false_iff_ne.2 (fun h => w7 (UInt8.toNat_inj.1 (by rw [show (7 : UInt8).toNat = 7 from rfl]; omega)))]
    refine g2_ ?_
    refine ⟨(), ac [] ?_, ⟨g3, .inr (fun h => h.elim w6 w7)⟩⟩
    repeat first | simp -implicitDefEqProofs only [go_sem, aa, hu, encOp, List.append_eq, List.cons_append, List.nil_append] | with_reducible refine gl_ ?_
    first | done | rfl | exact ⟨rfl, rfl⟩ | trace_state
  obtain ⟨g3, hup⟩ := hf
  obtain ⟨q1, q2, q3⟩ := aiM g3 f3
  have hW := agL g2 hcs hB q1 q2 q3 f4 hup
  have hS := zU g2 hcs hB q1 f4 hup
  have hml := adc (c := c) (p := p) (o := x) (j3 g2 hB)
  clear hfew
  generalize f_ c p x = D at hW hS hml
  obtain ⟨q, ms, e⟩ := D
  have hq := hS.bd
  rw [hnode] at hq
  have hqn := hq.node
  have s1 := hS.inc
  have s2 := hS.tab
  have s3 := hS.ms
  have s4 := hS.quiet
  have s5 := hq.win.table
  simp only at hW hq hqn s1 s2 s3 s4 s5 hml
  clear hS
  refine Vc2.seqJ (γ := Unit) (fun _ => ⟨[(10, .loc 10 0), (11, .d (.fz 17 (ms.map ar))), (12, .d (.v (.int .i64 e))), (40, .d (.v (.int .i64 k))), (39, .d (.v (.int .i64 O.length))), (38, .d (.fz 22 E)), (1, .d (.v (.int .u8 nd.toNat))), (3, .loc 3 0), (7, .loc 7 0)], [(10, ⟨aq q, 49⟩), (3, ⟨aE c, 26⟩), (7, ⟨aq p, 49⟩)], [], 0, 0⟩) (fun _ => True) ?_ (fun _ _ => ?_)
  ·repeat first | simp -implicitDefEqProofs only [go_sem, aa, encOp, List.append_eq, List.cons_append, List.nil_append] | with_reducible first | refine gl_ ?_ | refine ga_ ?_ | refine gn_ ?_
   refine CallS.eqW hW (by simp -implicitDefEqProofs only [go_sem, aa, encOp, List.append_eq, List.cons_append, List.nil_append]) (.inl ws_) ?_
   refine g2_ ?_
   refine ⟨(), ac [] ?_⟩
   ((try (with_reducible refine ab ?_)); simp -implicitDefEqProofs only [go_sem, aa]; repeat ((with_reducible refine ab ?_); simp -implicitDefEqProofs only [go_sem, aa]))
   first | done | rfl | exact ⟨rfl, rfl⟩ | trace_state
  clear hW hB
  have hnt : ((q.table.length : Int) != c.nodes) = false := by rw [s5]; exact bne_self_eq_false _
  refine Vc2.seqJ (γ := Unit) (fun _ => ⟨[(10, .loc 10 0), (11, .d (.fz 17 (ms.map ar))), (12, .d (.v (.int .i64 e))), (40, .d (.v (.int .i64 k))), (39, .d (.v (.int .i64 O.length))), (38, .d (.fz 22 E)), (1, .d (.v (.int .u8 nd.toNat))), (3, .loc 3 0), (7, .loc 7 0)], [(10, ⟨aq q, 49⟩), (3, ⟨aE c, 26⟩), (7, ⟨aq p, 49⟩)], [], 0, 0⟩) (fun _ => True) ?_ (fun _ _ => ?_)
  ·repeat first | simp -implicitDefEqProofs only [go_sem, aa, hqn, List.length_map] | with_reducible first | refine gl_ ?_ | refine ga_ ?_ | refine gn_ ?_
   rw [decide_eq_false (show ¬ (q.inc.toNat : Int) < (p.inc.toNat : Int) by have := UInt16.le_iff_toNat_le.1 s1; omega)]
   repeat first | simp -implicitDefEqProofs only [go_sem, aa, List.length_map] | with_reducible first | refine gl_ ?_ | refine ga_ ?_ | refine gn_ ?_
   by_cases hms : ms = []
   ·rw [decide_eq_false (show ¬ (0 : Int) < (ms.length : Int) by rw [hms]; decide)]
    repeat first | simp -implicitDefEqProofs only [go_sem, aa, hnt] | with_reducible first | refine gl_ ?_ | refine ga_ ?_ | refine gn_ ?_
    refine ⟨(), ac [] ?_⟩
    ((try (with_reducible refine ab ?_)); simp -implicitDefEqProofs only [go_sem, aa]; repeat ((with_reducible refine ab ?_); simp -implicitDefEqProofs only [go_sem, aa]))
    first | done | rfl | exact ⟨rfl, rfl⟩ | trace_state
   ·obtain ⟨r1, r2⟩ := s4 hms
    rw [decide_eq_true (show (0 : Int) < (ms.length : Int) by have := List.length_pos_iff.2 hms; omega)]
    repeat first | simp -implicitDefEqProofs only [go_sem, aa, r1, r2, hnt] | with_reducible first | refine gl_ ?_ | refine ga_ ?_ | refine gn_ ?_
    refine ⟨(), ac [] ?_⟩
    repeat first | simp -implicitDefEqProofs only [go_sem, aa, r1] | with_reducible refine gl_ ?_
    first | done | rfl | exact ⟨rfl, rfl⟩ | trace_state
  refine Vc2.seqJ (γ := Unit) (fun _ => ⟨[(10, .loc 10 0), (11, .d (.fz 17 (ms.map ar))), (12, .d (.v (.int .i64 e))), (40, .d (.v (.int .i64 k))), (39, .d (.v (.int .i64 O.length))), (38, .d (.fz 22 E)), (1, .d (.v (.int .u8 nd.toNat))), (3, .loc 3 0), (7, .loc 7 0)], [(10, ⟨aq q, 49⟩), (3, ⟨aE c, 26⟩), (7, ⟨aq p, 49⟩)], [], 0, 0⟩) (fun _ => True) ?_ (fun _ _ => ?_)
  ·repeat first | simp -implicitDefEqProofs only [go_sem, aa, List.length_map] | with_reducible first | refine gl_ ?_ | refine ga_ ?_ | refine gn_ ?_
   refine iu ms.length [(104, .d (.v (.int .i64 ms.length))), (103, .d (.fz 17 (ms.map ar))), (10, .loc 10 0), (11, .d (.fz 17 (ms.map ar))), (12, .d (.v (.int .i64 e))), (40, .d (.v (.int .i64 k))), (39, .d (.v (.int .i64 O.length))), (38, .d (.fz 22 E)), (1, .d (.v (.int .u8 nd.toNat))), (3, .loc 3 0), (7, .loc 7 0)] (fun k => []) (fun _ => [(10, ⟨aq q, 49⟩), (3, ⟨aE c, 26⟩), (7, ⟨aq p, 49⟩)]) (fun k => []) 0 (fun k => True) (ac [] ?_) trivial (fun g k => by first | rfl | ((try (with_reducible refine ab ?_)); simp -implicitDefEqProofs only [go_sem, aa]; repeat ((with_reducible refine ab ?_); simp -implicitDefEqProofs only [go_sem, aa]))) (by omega) (fun g => by simp -implicitDefEqProofs only [go_sem, aa]) (fun j hj hF => ?_) (fun hF => ?_)
   ·repeat first | simp -implicitDefEqProofs only [go_sem, aa, List.length_map] | with_reducible refine gl_ ?_
    first | done | rfl | exact ⟨rfl, rfl⟩ | trace_state
   ·have hgm : (ms.map ar)[j]? = some (ar ms[j]) := by rw [List.getElem?_map, List.getElem?_eq_getElem hj]; rfl
    have hx := s3 _ (List.getElem_mem hj)
    generalize ms[j] = x at hgm hx
    obtain ⟨x1, x2, x3, x4, x5, x6⟩ := hx
    rw [hnode] at x1 x3
    repeat first | simp -implicitDefEqProofs only [go_sem, aa, hgm, x1, x2] | with_reducible first | refine gl_ ?_ | refine ga_ ?_ | refine gn_ ?_
    rw [co, decide_eq_false (show ¬ x.to = nd from x3)]
    refine g2_ ?_
    rw [decide_eq_false (show ¬ c.nodes ≤ (x.to.toNat : Int) by omega)]
    refine g2_ ?_
    rw [decide_eq_false (show ¬ (x.kind.toNat : Int) < 1 by omega)]
    refine g2_ ?_
    rw [decide_eq_false (show ¬ (9 : Int) < (x.kind.toNat : Int) by omega)]
    refine g2_ ?_
    refine ⟨j + 1, ac [] ?_, rfl⟩
    exact ws_
   ·refine g2_ ?_
    refine ⟨(), ac [] ?_⟩
    ((try (with_reducible refine ab ?_)); simp -implicitDefEqProofs only [go_sem, aa]; repeat ((with_reducible refine ab ?_); simp -implicitDefEqProofs only [go_sem, aa]))
    first | done | rfl | exact ⟨rfl, rfl⟩ | trace_state
  refine Vc2.seqJ (γ := Unit) (fun _ => ⟨[(10, .loc 10 0), (11, .d (.fz 17 (ms.map ar))), (12, .d (.v (.int .i64 e))), (40, .d (.v (.int .i64 k))), (39, .d (.v (.int .i64 O.length))), (38, .d (.fz 22 E)), (1, .d (.v (.int .u8 nd.toNat))), (3, .loc 3 0), (7, .loc 7 0)], [(10, ⟨aq q, 49⟩), (3, ⟨aE c, 26⟩), (7, ⟨aq p, 49⟩)], [], 0, 0⟩) (fun _ => True) ?_ (fun _ _ => ?_)
  ·refine g2_ ?_
   cases hqu : q.up with
   | false =>
    refine g2_ ?_
    refine ⟨(), ac [] ?_⟩
    repeat first | simp -implicitDefEqProofs only [go_sem, aa, hqu] | with_reducible refine gl_ ?_
    first | done | rfl | exact ⟨rfl, rfl⟩ | trace_state
   | true =>
   refine g2_ ?_
   cases hpu : p.up with
   | false =>
    refine g2_ ?_
    refine ⟨(), ac [] ?_⟩
    repeat first | simp -implicitDefEqProofs only [go_sem, aa, hqu, hpu] | with_reducible refine gl_ ?_
    first | done | rfl | exact ⟨rfl, rfl⟩ | trace_state
   | true =>
   have t := s2 hqu hpu
   repeat first | simp -implicitDefEqProofs only [go_sem, aa, List.length_map] | with_reducible first | refine gl_ ?_ | refine ga_ ?_ | refine gn_ ?_
   refine iu q.table.length [(153, .d (.v (.int .i64 q.table.length))), (10, .loc 10 0), (11, .d (.fz 17 (ms.map ar))), (12, .d (.v (.int .i64 e))), (40, .d (.v (.int .i64 k))), (39, .d (.v (.int .i64 O.length))), (38, .d (.fz 22 E)), (1, .d (.v (.int .u8 nd.toNat))), (3, .loc 3 0), (7, .loc 7 0)] (fun k => []) (fun _ => [(10, ⟨aq q, 49⟩), (3, ⟨aE c, 26⟩), (7, ⟨aq p, 49⟩)]) (fun k => []) 0 (fun k => True) (ac [] ?_) trivial (fun g k => by first | rfl | ((try (with_reducible refine ab ?_)); simp -implicitDefEqProofs only [go_sem, aa]; repeat ((with_reducible refine ab ?_); simp -implicitDefEqProofs only [go_sem, aa]))) (by omega) (fun g => by simp -implicitDefEqProofs only [go_sem, aa]) (fun j hj hF => ?_) (fun hF => ?_)
   ·repeat first | simp -implicitDefEqProofs only [go_sem, aa, List.length_map, hqu, hpu] | with_reducible refine gl_ ?_
    first | done | rfl | exact ⟨rfl, rfl⟩ | trace_state
   ·have hjp : j < p.table.length := by have := t.1; omega
    have m1 : (q.table.map aI)[j]? = some (aI q.table[j]) := by rw [List.getElem?_map, List.getElem?_eq_getElem hj]; rfl
    have m2 : (p.table.map aI)[j]? = some (aI p.table[j]) := by rw [List.getElem?_map, List.getElem?_eq_getElem hjp]; rfl
    have t2 := t.2 j _ _ (List.getElem?_eq_getElem hjp) (List.getElem?_eq_getElem hj)
    have m3 : j < (q.table.map aI).length := by rw [List.length_map]; exact hj
    have m4 : j < (p.table.map aI).length := by rw [List.length_map]; exact hjp
    generalize q.table[j] = y at m1 t2
    generalize p.table[j] = z at m2 t2
    simp only [aI] at m1 m2
    refine g2_ ?_
    refine .inl ⟨oF [0, 2, 6, 8, 1, 7, 3, 9, 4, 10, 5, 11, 12] [], by kernel_rfl, ?_⟩
    repeat first | simp -implicitDefEqProofs only [go_sem, aa, m1, m2, List.length_map] | with_reducible first | refine gl_ ?_ | refine ga_ ?_ | refine gn_ ?_
    rw [decide_eq_false (show ¬ (y.inc.toNat : Int) < (z.inc.toNat : Int) by have := UInt16.le_iff_toNat_le.1 t2; omega)]
    refine g2_ ?_
    refine ⟨j + 1, ac [] ?_, rfl⟩
    exact ws_
   ·refine g2_ ?_
    refine ⟨(), ac [] ?_⟩
    repeat first | simp -implicitDefEqProofs only [go_sem, aa, hqu, hpu] | with_reducible refine gl_ ?_
    first | done | rfl | exact ⟨rfl, rfl⟩ | trace_state
  refine Vc2.seqJ (γ := Unit) (fun _ => ⟨[(10, .loc 10 0), (11, .d (.fz 17 (ms.map ar))), (12, .d (.v (.int .i64 e))), (40, .d (.v (.int .i64 k))), (39, .d (.v (.int .i64 O.length))), (38, .d (.fz 22 E)), (1, .d (.v (.int .u8 nd.toNat))), (3, .loc 3 0), (7, .loc 7 0)], [(10, ⟨aq q, 49⟩), (3, ⟨aE c, 26⟩), (7, ⟨aq p, 49⟩)], [], 0, 0⟩) (fun _ => True) ?_ (fun _ _ => ?_)
  ·have kl := o0 g2 hq
   refine g2_ ?_
   cases hqu : q.up with
   | true =>
    refine g2_ ?_
    refine ⟨(), ac [] ?_⟩
    repeat first | simp -implicitDefEqProofs only [go_sem, aa, hqu] | with_reducible refine gl_ ?_
    first | done | rfl | exact ⟨rfl, rfl⟩ | trace_state
   | false =>
    obtain ⟨d1, d2, d3, d4, d5⟩ := hq.dn hqu
    rw [aaD ⟨d1, d2, d3, d4⟩] at kl
    refine g2_ ?_
    refine CallS.eqW kl (by simp -implicitDefEqProofs only [go_sem, aa, hqu]) (.inl ws_) ?_
    repeat first | simp -implicitDefEqProofs only [go_sem, aa, d5] | with_reducible first | refine gl_ ?_ | refine ga_ ?_ | refine gn_ ?_
    refine ⟨(), ac [] ?_⟩
    repeat first | simp -implicitDefEqProofs only [go_sem, aa, hqu, d5] | with_reducible refine gl_ ?_
    first | done | rfl | exact ⟨rfl, rfl⟩ | trace_state
  refine Vc2.seqJ (γ := Unit) (fun _ => ⟨[(40, .d (.v (.int .i64 k))), (39, .d (.v (.int .i64 O.length))), (38, .d (.fz 22 E)), (1, .d (.v (.int .u8 nd.toNat))), (3, .loc 3 0), (7, .loc 7 0)], [(3, ⟨aE c, 26⟩), (7, ⟨aq q, 49⟩)], [], 0, 0⟩) (fun _ => True) ?_ (fun _ _ => Vc2.of ?_)
  ·refine g2_ ?_
   refine ⟨(), ac [] ?_⟩
   ((try (with_reducible refine ab ?_)); simp -implicitDefEqProofs only [go_sem, aa]; repeat ((with_reducible refine ab ?_); simp -implicitDefEqProofs only [go_sem, aa]))
   first | done | rfl | exact ⟨rfl, rfl⟩ | trace_state
  refine g2_ ?_
  refine CallS.eqW (vR c q hq.h.g hq.win) ws_ (.inl ws_) ?_
  refine g2_ ?_
  refine ⟨q, ac [] ?_, hq⟩
  ((try (with_reducible refine ab ?_)); simp -implicitDefEqProofs only [go_sem, aa]; repeat ((with_reducible refine ab ?_); simp -implicitDefEqProofs only [go_sem, aa]))
  first | done | rfl | exact ⟨rfl, rfl⟩ | trace_state
 ·refine g2_ ?_
  refine CallS.eqW haw ws_ (.inl ws_) ?_
  refine g2_ ?_
  exact ⟨_, rfl, ac [] ws_⟩
end Go.Proofs.YtlaefellhnkfbaaGreat.V
