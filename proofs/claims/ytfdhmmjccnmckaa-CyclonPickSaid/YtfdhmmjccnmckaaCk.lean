/-
  The walk of CyclonPick.
-/
import Derived.Test.YtfdhmmjccnmckaaDc
import Derived.Test.YtfdhmmjccnmckaaEw
set_option linter.unusedSimpArgs false
set_option linter.unusedVariables false
namespace Go.Eng
theorem pick_length (many : Int) : ∀ (r : List UInt32) (left out : List GDesc), (out.length : Int) ≤ max many 0 →
    ((cPick many left out r).length : Int) = max (min many ((out.length + min left.length r.length : Nat) : Int)) out.length := by
  intro r
  induction r with
  | nil => intro left out h; simp only [cPick, List.length_nil, Nat.min_zero, Nat.add_zero]; omega
  | cons d r ih =>
    intro left out h
    rw [cPick]
    split
    · rename_i hm; simp only [List.length_cons]; omega
    · rename_i hm
      split
      · rename_i x hx
        obtain ⟨hlt, _⟩ := List.getElem?_eq_some_iff.1 hx
        rw [ih _ _ (by simp; omega)]
        simp only [List.length_append, List.length_take, List.length_drop, List.length_cons, List.length_nil]
        generalize d.toNat % left.length = k at hlt
        omega
      · rename_i hx
        have h0 : left.length = 0 := by
          rcases Nat.eq_zero_or_pos left.length with h0 | h0
          · exact h0
          · have := Nat.mod_lt d.toNat h0
            rw [List.getElem?_eq_getElem this] at hx; cases hx
        rw [h0]
        simp only [Nat.zero_min, Nat.add_zero]
        omega
/-- No node twice. -/
abbrev NdN (l : List GDesc) : Prop := (l.map GDesc.node).Nodup
theorem ndn_perm {l m : List GDesc} (h : l.Perm m) (hn : NdN l) : NdN m := ((h.map _).nodup_iff).1 hn
theorem pick_nodup (many : Int) : ∀ (r : List UInt32) (left out : List GDesc), NdN (out ++ left) → NdN (cPick many left out r) := by
  intro r
  induction r with
  | nil => intro left out h; rw [NdN, List.map_append] at h; exact (List.nodup_append.1 h).1
  | cons d r ih =>
    intro left out h
    rw [cPick]
    have h0 : NdN out := by rw [NdN, List.map_append] at h; exact (List.nodup_append.1 h).1
    split
    · exact h0
    · split
      · rename_i x hx
        refine ih _ _ (ndn_perm ?_ h)
        obtain ⟨hlt, rfl⟩ := List.getElem?_eq_some_iff.1 hx
        generalize d.toNat % left.length = k at hlt
        have h1 : left = left.take k ++ left[k] :: left.drop (k + 1) := by
          rw [List.getElem_cons_drop hlt, List.take_append_drop]
        rw [List.append_assoc]
        refine List.Perm.append_left _ ?_
        conv => lhs; rw [h1]
        exact List.perm_middle.trans (by simp)
      · exact h0
theorem ndn_up {l : List GDesc} (h : Up dKey l) : NdN l := by
  rw [NdN, List.Nodup, List.pairwise_map]
  exact h.imp (fun {a b} hab e => by unfold dKey at hab; rw [e] at hab; omega)
theorem pick_one {left : List GDesc} {i : Nat} {x : GDesc} {d : UInt32} (hx : left[i]? = some x) (hd : d.toNat % left.length = i) : cPick 1 left [] [d] = [x] := by
  rw [pick_step (by simp) hd hx]
  rfl
end Go.Eng
namespace Go.Proofs.Ytfdhmmjccnmckaa
open Go.Eng
attribute [local go_sem] GSpan.val GSpan.enc PD.val PD.enc enc32
theorem zero_int (w : World) : (zeroValue 3).run Try.prog w = .ok (.int .i64 0) w := by kernel_rfl

attribute [local go_sem] min_int3

set_option maxRecDepth 4000 in
set_option maxHeartbeats 4000000 in
theorem cpick_con (l : List PD) (self not : UInt8) (many : Int) (dr : List UInt32) (p pd : Option Addr) (n c nd cd : Nat) (u : World) (hl : DL u p n c l) (hd : Sl u 1 pd nd cd (dr.map enc32)) (hn : n ≤ 9223372036854775807) (hnd : nd ≤ 9223372036854775807) (hm : -9223372036854775808 ≤ many ∧ many ≤ 9223372036854775807) :
    Con Try.prog 5 [.slice p n c, .int .u8 self.toNat, .int .u8 not.toNat, .int .i64 many, .slice pd nd cd] u (fun r _ => r = .bool true) := by
  have ldr : dr.length = nd := by simpa using hd.len
  refine spec_of_vc Ty.mixed Try.func5 rfl (by kernel_rfl) (by kernel_rfl) rfl [.tmp 10] rfl ?_
  (simp only [go_sem, vc_block_seq, vc_block_region, vc_block_cond, vc_block_block, Nat.reduceBEq, Nat.reduceAdd, Nat.reduceLeDiff, Nat.reduceEqDiff, Int.reduceAdd, Int.reduceBEq, Int.reduceBNe, reduceCtorEq, beq_self_eq_true, Bool.true_beq, Bool.false_beq]; repeat ((with_reducible refine leK_refl ?_); simp only [go_sem, vc_block_seq, vc_block_region, vc_block_cond, vc_block_block, Nat.reduceBEq, Nat.reduceAdd, Nat.reduceLeDiff, Nat.reduceEqDiff, Int.reduceAdd, Int.reduceBEq, Int.reduceBNe, reduceCtorEq, beq_self_eq_true, Bool.true_beq, Bool.false_beq]))
  have hS : Sub u u := Sub.refl _
  refine AtCall.of_spec (few_con l p n c _ hl hn) ?_
  rintro r W1 H1 ⟨B, rfl, hB⟩
  replace hS := hS.trans H1
  replace hl := hl.mono H1
  replace hd := hd.mono H1
  cases B with
  | false =>
    (simp only [go_sem, vc_block_seq, vc_block_region, vc_block_cond, vc_block_block, Nat.reduceBEq, Nat.reduceAdd, Nat.reduceLeDiff, Nat.reduceEqDiff, Int.reduceAdd, Int.reduceBEq, Int.reduceBNe, reduceCtorEq, beq_self_eq_true, Bool.true_beq, Bool.false_beq]; repeat ((with_reducible refine leK_refl ?_); simp only [go_sem, vc_block_seq, vc_block_region, vc_block_cond, vc_block_block, Nat.reduceBEq, Nat.reduceAdd, Nat.reduceLeDiff, Nat.reduceEqDiff, Int.reduceAdd, Int.reduceBEq, Int.reduceBNe, reduceCtorEq, beq_self_eq_true, Bool.true_beq, Bool.false_beq]))
    refine AtCall.of_spec (cawake_con _) ?_
    rintro r W2 H2 rfl
    replace hS := hS.trans H2
    replace hl := hl.mono H2
    replace hd := hd.mono H2
    (simp only [go_sem, vc_block_seq, vc_block_region, vc_block_cond, vc_block_block, Nat.reduceBEq, Nat.reduceAdd, Nat.reduceLeDiff, Nat.reduceEqDiff, Int.reduceAdd, Int.reduceBEq, Int.reduceBNe, reduceCtorEq, beq_self_eq_true, Bool.true_beq, Bool.false_beq]; repeat ((with_reducible refine leK_refl ?_); simp only [go_sem, vc_block_seq, vc_block_region, vc_block_cond, vc_block_block, Nat.reduceBEq, Nat.reduceAdd, Nat.reduceLeDiff, Nat.reduceEqDiff, Int.reduceAdd, Int.reduceBEq, Int.reduceBNe, reduceCtorEq, beq_self_eq_true, Bool.true_beq, Bool.false_beq]))
    exact ⟨hS, rfl⟩
  | true =>
  have hf := hB rfl
  (simp only [go_sem, vc_block_seq, vc_block_region, vc_block_cond, vc_block_block, Nat.reduceBEq, Nat.reduceAdd, Nat.reduceLeDiff, Nat.reduceEqDiff, Int.reduceAdd, Int.reduceBEq, Int.reduceBNe, reduceCtorEq, beq_self_eq_true, Bool.true_beq, Bool.false_beq]; repeat ((with_reducible refine leK_refl ?_); simp only [go_sem, vc_block_seq, vc_block_region, vc_block_cond, vc_block_block, Nat.reduceBEq, Nat.reduceAdd, Nat.reduceLeDiff, Nat.reduceEqDiff, Int.reduceAdd, Int.reduceBEq, Int.reduceBNe, reduceCtorEq, beq_self_eq_true, Bool.true_beq, Bool.false_beq]))
  refine cond_dec (fun h30 => ?_) (fun h30 => ?_)
  · (simp only [go_sem, vc_block_seq, vc_block_region, vc_block_cond, vc_block_block, Nat.reduceBEq, Nat.reduceAdd, Nat.reduceLeDiff, Nat.reduceEqDiff, Int.reduceAdd, Int.reduceBEq, Int.reduceBNe, reduceCtorEq, beq_self_eq_true, Bool.true_beq, Bool.false_beq]; repeat ((with_reducible refine leK_refl ?_); simp only [go_sem, vc_block_seq, vc_block_region, vc_block_cond, vc_block_block, Nat.reduceBEq, Nat.reduceAdd, Nat.reduceLeDiff, Nat.reduceEqDiff, Int.reduceAdd, Int.reduceBEq, Int.reduceBNe, reduceCtorEq, beq_self_eq_true, Bool.true_beq, Bool.false_beq]))
    refine AtCall.of_spec (cawake_con _) ?_
    rintro r W3 H3 rfl
    replace hS := hS.trans H3
    replace hl := hl.mono H3
    replace hd := hd.mono H3
    (simp only [go_sem, vc_block_seq, vc_block_region, vc_block_cond, vc_block_block, Nat.reduceBEq, Nat.reduceAdd, Nat.reduceLeDiff, Nat.reduceEqDiff, Int.reduceAdd, Int.reduceBEq, Int.reduceBNe, reduceCtorEq, beq_self_eq_true, Bool.true_beq, Bool.false_beq]; repeat ((with_reducible refine leK_refl ?_); simp only [go_sem, vc_block_seq, vc_block_region, vc_block_cond, vc_block_block, Nat.reduceBEq, Nat.reduceAdd, Nat.reduceLeDiff, Nat.reduceEqDiff, Int.reduceAdd, Int.reduceBEq, Int.reduceBNe, reduceCtorEq, beq_self_eq_true, Bool.true_beq, Bool.false_beq]))
    exact ⟨hS, rfl⟩
  (simp only [go_sem, vc_block_seq, vc_block_region, vc_block_cond, vc_block_block, Nat.reduceBEq, Nat.reduceAdd, Nat.reduceLeDiff, Nat.reduceEqDiff, Int.reduceAdd, Int.reduceBEq, Int.reduceBNe, reduceCtorEq, beq_self_eq_true, Bool.true_beq, Bool.false_beq]; repeat ((with_reducible refine leK_refl ?_); simp only [go_sem, vc_block_seq, vc_block_region, vc_block_cond, vc_block_block, Nat.reduceBEq, Nat.reduceAdd, Nat.reduceLeDiff, Nat.reduceEqDiff, Int.reduceAdd, Int.reduceBEq, Int.reduceBNe, reduceCtorEq, beq_self_eq_true, Bool.true_beq, Bool.false_beq]))
  refine AtCall.of_spec (view_con l self 20 p n c _ hl hf) ?_
  rintro r W4 H4 ⟨pv, nv, cv, lv, rfl, ov, hv, hvm, hv256, hv8⟩
  replace hS := hS.trans H4
  replace hl := hl.mono H4
  replace hd := hd.mono H4
  (simp only [go_sem, vc_block_seq, vc_block_region, vc_block_cond, vc_block_block, Nat.reduceBEq, Nat.reduceAdd, Nat.reduceLeDiff, Nat.reduceEqDiff, Int.reduceAdd, Int.reduceBEq, Int.reduceBNe, reduceCtorEq, beq_self_eq_true, Bool.true_beq, Bool.false_beq]; repeat ((with_reducible refine leK_refl ?_); simp only [go_sem, vc_block_seq, vc_block_region, vc_block_cond, vc_block_block, Nat.reduceBEq, Nat.reduceAdd, Nat.reduceLeDiff, Nat.reduceEqDiff, Int.reduceAdd, Int.reduceBEq, Int.reduceBNe, reduceCtorEq, beq_self_eq_true, Bool.true_beq, Bool.false_beq]))
  have V : VL W4 self 20 (pv, nv, cv) lv := vl_mk ov hv (by omega) hv8
  have hVn : nv ≤ 20 := V.len
  have hVl : lv.length = nv := V.dl.len
  refine AtCall.of_spec (drop_con lv hv.2 not pv nv cv _ V.dl (by omega) (fun x hx => by have := hv8 x hx; omega)) ?_
  rintro r W5 H5 ⟨po, no, co, lo, rfl, oo, eo⟩
  replace hS := hS.trans H5
  replace hl := hl.mono H5
  replace hd := hd.mono H5
  replace V := V.mono H5
  (simp only [go_sem, vc_block_seq, vc_block_region, vc_block_cond, vc_block_block, Nat.reduceBEq, Nat.reduceAdd, Nat.reduceLeDiff, Nat.reduceEqDiff, Int.reduceAdd, Int.reduceBEq, Int.reduceBNe, reduceCtorEq, beq_self_eq_true, Bool.true_beq, Bool.false_beq]; repeat ((with_reducible refine leK_refl ?_); simp only [go_sem, vc_block_seq, vc_block_region, vc_block_cond, vc_block_block, Nat.reduceBEq, Nat.reduceAdd, Nat.reduceLeDiff, Nat.reduceEqDiff, Int.reduceAdd, Int.reduceBEq, Int.reduceBNe, reduceCtorEq, beq_self_eq_true, Bool.true_beq, Bool.false_beq]))
  replace oo := oo.dl
  refine AtCall.of_spec (pick_con lv many not dr pv pd nv cv nd cd _ V.dl hd (by omega) hv8 (by omega)) ?_
  rintro r W6 H6 ⟨pg, ng, cg, lg, rfl, og, eg⟩
  replace hS := hS.trans H6
  replace hl := hl.mono H6
  replace hd := hd.mono H6
  replace V := V.mono H6
  replace oo := oo.mono H6
  (simp only [go_sem, vc_block_seq, vc_block_region, vc_block_cond, vc_block_block, Nat.reduceBEq, Nat.reduceAdd, Nat.reduceLeDiff, Nat.reduceEqDiff, Int.reduceAdd, Int.reduceBEq, Int.reduceBNe, reduceCtorEq, beq_self_eq_true, Bool.true_beq, Bool.false_beq]; repeat ((with_reducible refine leK_refl ?_); simp only [go_sem, vc_block_seq, vc_block_region, vc_block_cond, vc_block_block, Nat.reduceBEq, Nat.reduceAdd, Nat.reduceLeDiff, Nat.reduceEqDiff, Int.reduceAdd, Int.reduceBEq, Int.reduceBNe, reduceCtorEq, beq_self_eq_true, Bool.true_beq, Bool.false_beq]))
  replace og := og.dl
  have hol := oo.len
  have hgl := og.len
  have hlen := pick_length many dr (dDrop (ds lv) not) [] (by simp; omega)
  rw [← eg, ← eo] at hlen
  simp only [List.length_map, List.length_nil, Nat.zero_add, hol, hgl, ldr] at hlen
  have hno20 : no ≤ 20 := by
    have h1 := congrArg List.length eo
    have h2 := drop_len_le (ds lv) not
    simp at h1 h2
    omega
  have hmax : (if min (min many (no : Int)) (nd : Int) < 0 then 0 else min (min many (no : Int)) (nd : Int)) = (ng : Int) := by
    split <;> omega
  rw [hmax, show ((ng : Int) != (ng : Int)) = false by simp]
  (simp only [go_sem, vc_block_seq, vc_block_region, vc_block_cond, vc_block_block, Nat.reduceBEq, Nat.reduceAdd, Nat.reduceLeDiff, Nat.reduceEqDiff, Int.reduceAdd, Int.reduceBEq, Int.reduceBNe, reduceCtorEq, beq_self_eq_true, Bool.true_beq, Bool.false_beq]; repeat ((with_reducible refine leK_refl ?_); simp only [go_sem, vc_block_seq, vc_block_region, vc_block_cond, vc_block_block, Nat.reduceBEq, Nat.reduceAdd, Nat.reduceLeDiff, Nat.reduceEqDiff, Int.reduceAdd, Int.reduceBEq, Int.reduceBNe, reduceCtorEq, beq_self_eq_true, Bool.true_beq, Bool.false_beq]))
  have hng : ng ≤ 30 := by omega
  have hnd : NdN (ds lg) := by
    rw [eg]
    exact pick_nodup many dr _ [] (by simpa using ndn_up (vw_drop hv not).2)
  have hmem : ∀ d ∈ ds lg, d ∈ ds lv ∧ d.node ≠ not := fun d hd => by
    rw [eg] at hd
    rcases pick_mem _ _ _ _ d hd with h | h
    · exact ⟨(List.mem_filter.1 h).1, by simpa using (List.mem_filter.1 h).2⟩
    · simp at h
  refine map_make (kv := kv8) ?_
  intro rm um hmap hsm hr hr0
  (simp only [go_sem, vc_block_seq, vc_block_region, vc_block_cond, vc_block_block, Nat.reduceBEq, Nat.reduceAdd, Nat.reduceLeDiff, Nat.reduceEqDiff, Int.reduceAdd, Int.reduceBEq, Int.reduceBNe, reduceCtorEq, beq_self_eq_true, Bool.true_beq, Bool.false_beq]; repeat ((with_reducible refine leK_refl ?_); simp only [go_sem, vc_block_seq, vc_block_region, vc_block_cond, vc_block_block, Nat.reduceBEq, Nat.reduceAdd, Nat.reduceLeDiff, Nat.reduceEqDiff, Int.reduceAdd, Int.reduceBEq, Int.reduceBNe, reduceCtorEq, beq_self_eq_true, Bool.true_beq, Bool.false_beq]))
  refine vc_range ng (fun (_ : Unit) => []) (fun _ => []) (fun k _ u' => Sub W6 u' ∧ MapIs u' kv8 rm (((ds lg).take k).map fun d => (d.node, Value.int .i64 1))) () (le_chk (by simp only [go_sem, vc_block_seq, vc_block_region, vc_block_cond, vc_block_block, Nat.reduceBEq, Nat.reduceAdd, Nat.reduceLeDiff, Nat.reduceEqDiff, Int.reduceAdd, Int.reduceBEq, Int.reduceBNe, reduceCtorEq, beq_self_eq_true, Bool.true_beq, Bool.false_beq])) ⟨hsm, by simpa using hmap⟩ (fun _ _ => rfl) (by omega) (fun _ => rfl) ?_ ?_
  · rintro k _ u2 hk ⟨hs, hes⟩
    obtain ⟨x, hx⟩ := exAt hk hgl
    have hxl : x.d ∈ ds lg := List.mem_map_of_mem (List.mem_of_getElem? hx)
    obtain ⟨hxv, hxn⟩ := hmem x.d hxl
    obtain ⟨i, hi⟩ := List.getElem?_of_mem hxv
    have hin : i < nv := by obtain ⟨h, _⟩ := List.getElem?_eq_some_iff.1 hi; simp at h; omega
    obtain ⟨y, hy⟩ := exAt hin hVl
    have hyx := atDs hy hi
    have hno : ∀ e ∈ ((ds lg).take k).map (fun d => (d.node, Value.int .i64 1)), e.1 ≠ x.d.node := by
      intro e he
      obtain ⟨d, hd, rfl⟩ := List.mem_map.1 he
      obtain ⟨j, hj, rfl⟩ := List.mem_take_iff_getElem.1 hd
      have h1 := List.pairwise_iff_getElem.1 hnd j k (by simp at hj ⊢; omega) (by simp; omega) (by omega)
      have h2 : (ds lg)[k]? = some x.d := getDs hx
      obtain ⟨h3, h4⟩ := List.getElem?_eq_some_iff.1 h2
      simp only [List.getElem_map] at h1 h4 ⊢
      rw [h4] at h1
      exact h1
    (simp only [go_sem, vc_block_seq, vc_block_region, vc_block_cond, vc_block_block, Nat.reduceBEq, Nat.reduceAdd, Nat.reduceLeDiff, Nat.reduceEqDiff, Int.reduceAdd, Int.reduceBEq, Int.reduceBNe, reduceCtorEq, beq_self_eq_true, Bool.true_beq, Bool.false_beq]; repeat ((with_reducible refine leK_refl ?_); simp only [go_sem, vc_block_seq, vc_block_region, vc_block_cond, vc_block_block, Nat.reduceBEq, Nat.reduceAdd, Nat.reduceLeDiff, Nat.reduceEqDiff, Int.reduceAdd, Int.reduceBEq, Int.reduceBNe, reduceCtorEq, beq_self_eq_true, Bool.true_beq, Bool.false_beq]))
    refine ⟨⟨og.sl.some_ hk, by omega, by omega⟩, ?_⟩
    refine (og.sl.mono hs).load (getMap hx) (.inr rfl) (Nat.le_of_ble_eq_true rfl) ?_
    (simp only [go_sem, vc_block_seq, vc_block_region, vc_block_cond, vc_block_block, Nat.reduceBEq, Nat.reduceAdd, Nat.reduceLeDiff, Nat.reduceEqDiff, Int.reduceAdd, Int.reduceBEq, Int.reduceBNe, reduceCtorEq, beq_self_eq_true, Bool.true_beq, Bool.false_beq]; repeat ((with_reducible refine leK_refl ?_); simp only [go_sem, vc_block_seq, vc_block_region, vc_block_cond, vc_block_block, Nat.reduceBEq, Nat.reduceAdd, Nat.reduceLeDiff, Nat.reduceEqDiff, Int.reduceAdd, Int.reduceBEq, Int.reduceBNe, reduceCtorEq, beq_self_eq_true, Bool.true_beq, Bool.false_beq]))
    intro b16
    refine AtCall.of_spec (find_con lv hv.2 x.d.node pv nv cv u2 (V.dl.mono hs) (by omega)) ?_
    rintro r u3 hs3 rfl
    rw [find_at hv hi]
    (simp only [go_sem, vc_block_seq, vc_block_region, vc_block_cond, vc_block_block, Nat.reduceBEq, Nat.reduceAdd, Nat.reduceLeDiff, Nat.reduceEqDiff, Int.reduceAdd, Int.reduceBEq, Int.reduceBNe, reduceCtorEq, beq_self_eq_true, Bool.true_beq, Bool.false_beq]; repeat ((with_reducible refine leK_refl ?_); simp only [go_sem, vc_block_seq, vc_block_region, vc_block_cond, vc_block_block, Nat.reduceBEq, Nat.reduceAdd, Nat.reduceLeDiff, Nat.reduceEqDiff, Int.reduceAdd, Int.reduceBEq, Int.reduceBNe, reduceCtorEq, beq_self_eq_true, Bool.true_beq, Bool.false_beq]))
    refine map_get (k := x.d.node) (keyT_u8 Try.underlying5) Try.underlying45 (hes.mono hs3) zero_int ?_
    rw [mGet_none hno]
    simp only [Option.getD_none]
    (simp only [go_sem, vc_block_seq, vc_block_region, vc_block_cond, vc_block_block, Nat.reduceBEq, Nat.reduceAdd, Nat.reduceLeDiff, Nat.reduceEqDiff, Int.reduceAdd, Int.reduceBEq, Int.reduceBNe, reduceCtorEq, beq_self_eq_true, Bool.true_beq, Bool.false_beq]; repeat ((with_reducible refine leK_refl ?_); simp only [go_sem, vc_block_seq, vc_block_region, vc_block_cond, vc_block_block, Nat.reduceBEq, Nat.reduceAdd, Nat.reduceLeDiff, Nat.reduceEqDiff, Int.reduceAdd, Int.reduceBEq, Int.reduceBNe, reduceCtorEq, beq_self_eq_true, Bool.true_beq, Bool.false_beq]))
    rw [arith_i64 (by omega)]
    (simp only [go_sem, vc_block_seq, vc_block_region, vc_block_cond, vc_block_block, Nat.reduceBEq, Nat.reduceAdd, Nat.reduceLeDiff, Nat.reduceEqDiff, Int.reduceAdd, Int.reduceBEq, Int.reduceBNe, reduceCtorEq, beq_self_eq_true, Bool.true_beq, Bool.false_beq]; repeat ((with_reducible refine leK_refl ?_); simp only [go_sem, vc_block_seq, vc_block_region, vc_block_cond, vc_block_block, Nat.reduceBEq, Nat.reduceAdd, Nat.reduceLeDiff, Nat.reduceEqDiff, Int.reduceAdd, Int.reduceBEq, Int.reduceBNe, reduceCtorEq, beq_self_eq_true, Bool.true_beq, Bool.false_beq]))
    refine map_set (k := x.d.node) (keyT_u8 Try.underlying5) Try.underlying45 (hes.mono hs3) hr0 ?_
    intro u4 hes4 hx4
    rw [mSet_new hno] at hes4
    have hs4 := hx4.sub (hs.trans hs3) hr
    have hes5 : MapIs u4 kv8 rm (((ds lg).take (k + 1)).map fun d => (d.node, Value.int .i64 1)) := by
      rw [take_succ (getDs hx), List.map_append]
      exact hes4
    (simp only [go_sem, vc_block_seq, vc_block_region, vc_block_cond, vc_block_block, Nat.reduceBEq, Nat.reduceAdd, Nat.reduceLeDiff, Nat.reduceEqDiff, Int.reduceAdd, Int.reduceBEq, Int.reduceBNe, reduceCtorEq, beq_self_eq_true, Bool.true_beq, Bool.false_beq]; repeat ((with_reducible refine leK_refl ?_); simp only [go_sem, vc_block_seq, vc_block_region, vc_block_cond, vc_block_block, Nat.reduceBEq, Nat.reduceAdd, Nat.reduceLeDiff, Nat.reduceEqDiff, Int.reduceAdd, Int.reduceBEq, Int.reduceBNe, reduceCtorEq, beq_self_eq_true, Bool.true_beq, Bool.false_beq]))
    refine .inl ⟨[(0, false), (1, false), (2, false), (3, false), (4, false), (5, false), (6, false), (8, false), (7, false), (9, false), (10, false), (11, false), (12, false), (13, false), (14, false), (15, false), (16, false), (17, false), (18, false), (19, false), (20, false), (21, false), (22, false), (23, false), (26, false), (24, false), (25, false), (27, false), (28, false), (29, false)], by kernel_rfl, ?_⟩
    (simp only [go_sem, vc_block_seq, vc_block_region, vc_block_cond, vc_block_block, Nat.reduceBEq, Nat.reduceAdd, Nat.reduceLeDiff, Nat.reduceEqDiff, Int.reduceAdd, Int.reduceBEq, Int.reduceBNe, reduceCtorEq, beq_self_eq_true, Bool.true_beq, Bool.false_beq]; repeat ((with_reducible refine leK_refl ?_); simp only [go_sem, vc_block_seq, vc_block_region, vc_block_cond, vc_block_block, Nat.reduceBEq, Nat.reduceAdd, Nat.reduceLeDiff, Nat.reduceEqDiff, Int.reduceAdd, Int.reduceBEq, Int.reduceBNe, reduceCtorEq, beq_self_eq_true, Bool.true_beq, Bool.false_beq]))
    refine map_get (k := x.d.node) (keyT_u8 Try.underlying5) Try.underlying45 hes4 zero_int ?_
    rw [mGet_mem (v := .int .i64 1) hes4.nodup (by simp)]
    simp only [Option.getD_some]
    (simp only [go_sem, vc_block_seq, vc_block_region, vc_block_cond, vc_block_block, Nat.reduceBEq, Nat.reduceAdd, Nat.reduceLeDiff, Nat.reduceEqDiff, Int.reduceAdd, Int.reduceBEq, Int.reduceBNe, reduceCtorEq, beq_self_eq_true, Bool.true_beq, Bool.false_beq]; repeat ((with_reducible refine leK_refl ?_); simp only [go_sem, vc_block_seq, vc_block_region, vc_block_cond, vc_block_block, Nat.reduceBEq, Nat.reduceAdd, Nat.reduceLeDiff, Nat.reduceEqDiff, Int.reduceAdd, Int.reduceBEq, Int.reduceBNe, reduceCtorEq, beq_self_eq_true, Bool.true_beq, Bool.false_beq]))
    rw [show decide ((1 : Int) < 1) = false from rfl]
    (simp only [go_sem, vc_block_seq, vc_block_region, vc_block_cond, vc_block_block, Nat.reduceBEq, Nat.reduceAdd, Nat.reduceLeDiff, Nat.reduceEqDiff, Int.reduceAdd, Int.reduceBEq, Int.reduceBNe, reduceCtorEq, beq_self_eq_true, Bool.true_beq, Bool.false_beq]; repeat ((with_reducible refine leK_refl ?_); simp only [go_sem, vc_block_seq, vc_block_region, vc_block_cond, vc_block_block, Nat.reduceBEq, Nat.reduceAdd, Nat.reduceLeDiff, Nat.reduceEqDiff, Int.reduceAdd, Int.reduceBEq, Int.reduceBNe, reduceCtorEq, beq_self_eq_true, Bool.true_beq, Bool.false_beq]))
    rw [u8_beq, decide_eq_false hxn]
    (simp only [go_sem, vc_block_seq, vc_block_region, vc_block_cond, vc_block_block, Nat.reduceBEq, Nat.reduceAdd, Nat.reduceLeDiff, Nat.reduceEqDiff, Int.reduceAdd, Int.reduceBEq, Int.reduceBNe, reduceCtorEq, beq_self_eq_true, Bool.true_beq, Bool.false_beq]; repeat ((with_reducible refine leK_refl ?_); simp only [go_sem, vc_block_seq, vc_block_region, vc_block_cond, vc_block_block, Nat.reduceBEq, Nat.reduceAdd, Nat.reduceLeDiff, Nat.reduceEqDiff, Int.reduceAdd, Int.reduceBEq, Int.reduceBNe, reduceCtorEq, beq_self_eq_true, Bool.true_beq, Bool.false_beq]))
    rw [decide_eq_false (show ¬ (i : Int) < 0 by omega)]
    (simp only [go_sem, vc_block_seq, vc_block_region, vc_block_cond, vc_block_block, Nat.reduceBEq, Nat.reduceAdd, Nat.reduceLeDiff, Nat.reduceEqDiff, Int.reduceAdd, Int.reduceBEq, Int.reduceBNe, reduceCtorEq, beq_self_eq_true, Bool.true_beq, Bool.false_beq]; repeat ((with_reducible refine leK_refl ?_); simp only [go_sem, vc_block_seq, vc_block_region, vc_block_cond, vc_block_block, Nat.reduceBEq, Nat.reduceAdd, Nat.reduceLeDiff, Nat.reduceEqDiff, Int.reduceAdd, Int.reduceBEq, Int.reduceBNe, reduceCtorEq, beq_self_eq_true, Bool.true_beq, Bool.false_beq]))
    rw [decide_eq_false (show ¬ (nv : Int) ≤ (i : Int) by omega)]
    (simp only [go_sem, vc_block_seq, vc_block_region, vc_block_cond, vc_block_block, Nat.reduceBEq, Nat.reduceAdd, Nat.reduceLeDiff, Nat.reduceEqDiff, Int.reduceAdd, Int.reduceBEq, Int.reduceBNe, reduceCtorEq, beq_self_eq_true, Bool.true_beq, Bool.false_beq]; repeat ((with_reducible refine leK_refl ?_); simp only [go_sem, vc_block_seq, vc_block_region, vc_block_cond, vc_block_block, Nat.reduceBEq, Nat.reduceAdd, Nat.reduceLeDiff, Nat.reduceEqDiff, Int.reduceAdd, Int.reduceBEq, Int.reduceBNe, reduceCtorEq, beq_self_eq_true, Bool.true_beq, Bool.false_beq]))
    refine ⟨⟨V.dl.sl.some_ hin, by omega, by omega⟩, ?_⟩
    refine (V.dl.sl.mono hs4).load (getMap hy) (.inr rfl) (Nat.le_of_ble_eq_true rfl) ?_
    (simp only [go_sem, vc_block_seq, vc_block_region, vc_block_cond, vc_block_block, Nat.reduceBEq, Nat.reduceAdd, Nat.reduceLeDiff, Nat.reduceEqDiff, Int.reduceAdd, Int.reduceBEq, Int.reduceBNe, reduceCtorEq, beq_self_eq_true, Bool.true_beq, Bool.false_beq]; repeat ((with_reducible refine leK_refl ?_); simp only [go_sem, vc_block_seq, vc_block_region, vc_block_cond, vc_block_block, Nat.reduceBEq, Nat.reduceAdd, Nat.reduceLeDiff, Nat.reduceEqDiff, Int.reduceAdd, Int.reduceBEq, Int.reduceBNe, reduceCtorEq, beq_self_eq_true, Bool.true_beq, Bool.false_beq]))
    refine AtCall.of_spec (dsame_con y x u4 ((V.dl.at_ hy).mono hs4) ((og.at_ hx).mono hs4) (by have := hv8 y (List.mem_of_getElem? hy); omega)) ?_
    rintro r u5 hs5 rfl
    rw [decide_eq_true hyx.symm]
    (simp only [go_sem, vc_block_seq, vc_block_region, vc_block_cond, vc_block_block, Nat.reduceBEq, Nat.reduceAdd, Nat.reduceLeDiff, Nat.reduceEqDiff, Int.reduceAdd, Int.reduceBEq, Int.reduceBNe, reduceCtorEq, beq_self_eq_true, Bool.true_beq, Bool.false_beq]; repeat ((with_reducible refine leK_refl ?_); simp only [go_sem, vc_block_seq, vc_block_region, vc_block_cond, vc_block_block, Nat.reduceBEq, Nat.reduceAdd, Nat.reduceLeDiff, Nat.reduceEqDiff, Int.reduceAdd, Int.reduceBEq, Int.reduceBNe, reduceCtorEq, beq_self_eq_true, Bool.true_beq, Bool.false_beq]))
    exact ⟨(), le_chk (by simp only [go_sem, vc_block_seq, vc_block_region, vc_block_cond, vc_block_block, Nat.reduceBEq, Nat.reduceAdd, Nat.reduceLeDiff, Nat.reduceEqDiff, Int.reduceAdd, Int.reduceBEq, Int.reduceBNe, reduceCtorEq, beq_self_eq_true, Bool.true_beq, Bool.false_beq]), hs4.trans hs5, hes5.mono hs5⟩
  · rintro _ u2 ⟨hs, _⟩
    have hV2 := V.dl.mono hs
    have oo2 := oo.mono hs
    have hS2 := hS.trans hs
    clear hs
    (simp only [go_sem, vc_block_seq, vc_block_region, vc_block_cond, vc_block_block, Nat.reduceBEq, Nat.reduceAdd, Nat.reduceLeDiff, Nat.reduceEqDiff, Int.reduceAdd, Int.reduceBEq, Int.reduceBNe, reduceCtorEq, beq_self_eq_true, Bool.true_beq, Bool.false_beq]; repeat ((with_reducible refine leK_refl ?_); simp only [go_sem, vc_block_seq, vc_block_region, vc_block_cond, vc_block_block, Nat.reduceBEq, Nat.reduceAdd, Nat.reduceLeDiff, Nat.reduceEqDiff, Int.reduceAdd, Int.reduceBEq, Int.reduceBNe, reduceCtorEq, beq_self_eq_true, Bool.true_beq, Bool.false_beq]))
    refine vc_range no (fun (_ : Unit) => []) (fun _ => []) (fun k _ u' => Sub u2 u') () (le_chk (by simp only [go_sem, vc_block_seq, vc_block_region, vc_block_cond, vc_block_block, Nat.reduceBEq, Nat.reduceAdd, Nat.reduceLeDiff, Nat.reduceEqDiff, Int.reduceAdd, Int.reduceBEq, Int.reduceBNe, reduceCtorEq, beq_self_eq_true, Bool.true_beq, Bool.false_beq])) (Sub.refl _) (fun _ _ => rfl) (by omega) (fun _ => rfl) ?_ ?_
    · rintro k _ u3 hk hs
      obtain ⟨x, hx⟩ := exAt hk hol
      have hx8 : x.d.filter.length ≤ 8 := V.small x.d (by
        have h1 : x.d ∈ ds lo := List.mem_map_of_mem (List.mem_of_getElem? hx)
        rw [eo] at h1
        exact (List.mem_filter.1 h1).1)
      have hm32 : k + 3 * no < 4294967296 := by omega
      have hofn : ((UInt32.ofNat (k + 3 * no)).toNat : Int) = (k : Int) + 3 * (no : Int) := by
        rw [UInt32.toNat_ofNat_of_lt' hm32]; omega
      (simp only [go_sem, vc_block_seq, vc_block_region, vc_block_cond, vc_block_block, Nat.reduceBEq, Nat.reduceAdd, Nat.reduceLeDiff, Nat.reduceEqDiff, Int.reduceAdd, Int.reduceBEq, Int.reduceBNe, reduceCtorEq, beq_self_eq_true, Bool.true_beq, Bool.false_beq]; repeat ((with_reducible refine leK_refl ?_); simp only [go_sem, vc_block_seq, vc_block_region, vc_block_cond, vc_block_block, Nat.reduceBEq, Nat.reduceAdd, Nat.reduceLeDiff, Nat.reduceEqDiff, Int.reduceAdd, Int.reduceBEq, Int.reduceBNe, reduceCtorEq, beq_self_eq_true, Bool.true_beq, Bool.false_beq]))
      rw [arith_i64 (by omega)]
      (simp only [go_sem, vc_block_seq, vc_block_region, vc_block_cond, vc_block_block, Nat.reduceBEq, Nat.reduceAdd, Nat.reduceLeDiff, Nat.reduceEqDiff, Int.reduceAdd, Int.reduceBEq, Int.reduceBNe, reduceCtorEq, beq_self_eq_true, Bool.true_beq, Bool.false_beq]; repeat ((with_reducible refine leK_refl ?_); simp only [go_sem, vc_block_seq, vc_block_region, vc_block_cond, vc_block_block, Nat.reduceBEq, Nat.reduceAdd, Nat.reduceLeDiff, Nat.reduceEqDiff, Int.reduceAdd, Int.reduceBEq, Int.reduceBNe, reduceCtorEq, beq_self_eq_true, Bool.true_beq, Bool.false_beq]))
      rw [arith_i64 (by omega)]
      (simp only [go_sem, vc_block_seq, vc_block_region, vc_block_cond, vc_block_block, Nat.reduceBEq, Nat.reduceAdd, Nat.reduceLeDiff, Nat.reduceEqDiff, Int.reduceAdd, Int.reduceBEq, Int.reduceBNe, reduceCtorEq, beq_self_eq_true, Bool.true_beq, Bool.false_beq]; repeat ((with_reducible refine leK_refl ?_); simp only [go_sem, vc_block_seq, vc_block_region, vc_block_cond, vc_block_block, Nat.reduceBEq, Nat.reduceAdd, Nat.reduceLeDiff, Nat.reduceEqDiff, Int.reduceAdd, Int.reduceBEq, Int.reduceBNe, reduceCtorEq, beq_self_eq_true, Bool.true_beq, Bool.false_beq]))
      rw [arith_u32 (by omega)]
      (simp only [go_sem, vc_block_seq, vc_block_region, vc_block_cond, vc_block_block, Nat.reduceBEq, Nat.reduceAdd, Nat.reduceLeDiff, Nat.reduceEqDiff, Int.reduceAdd, Int.reduceBEq, Int.reduceBNe, reduceCtorEq, beq_self_eq_true, Bool.true_beq, Bool.false_beq]; repeat ((with_reducible refine leK_refl ?_); simp only [go_sem, vc_block_seq, vc_block_region, vc_block_cond, vc_block_block, Nat.reduceBEq, Nat.reduceAdd, Nat.reduceLeDiff, Nat.reduceEqDiff, Int.reduceAdd, Int.reduceBEq, Int.reduceBNe, reduceCtorEq, beq_self_eq_true, Bool.true_beq, Bool.false_beq]))
      refine eff_lit (n := 1) (vs := [.int .u32 ((k : Int) + 3 * (no : Int))]) Ty.el23 rfl rfl (by intro v hv; simp at hv; subst hv; rfl) (by omega) ?_
      intro pq uq hq sq fq
      have D : Sl uq 1 pq 1 1 ([UInt32.ofNat (k + 3 * no)].map enc32) := by
        have := hq.sl
        simp only [List.map_cons, List.map_nil, enc32, hofn]
        exact this
      (simp only [go_sem, vc_block_seq, vc_block_region, vc_block_cond, vc_block_block, Nat.reduceBEq, Nat.reduceAdd, Nat.reduceLeDiff, Nat.reduceEqDiff, Int.reduceAdd, Int.reduceBEq, Int.reduceBNe, reduceCtorEq, beq_self_eq_true, Bool.true_beq, Bool.false_beq]; repeat ((with_reducible refine leK_refl ?_); simp only [go_sem, vc_block_seq, vc_block_region, vc_block_cond, vc_block_block, Nat.reduceBEq, Nat.reduceAdd, Nat.reduceLeDiff, Nat.reduceEqDiff, Int.reduceAdd, Int.reduceBEq, Int.reduceBNe, reduceCtorEq, beq_self_eq_true, Bool.true_beq, Bool.false_beq]))
      refine AtCall.of_spec (pick_con lv 1 not [UInt32.ofNat (k + 3 * no)] pv pq nv cv 1 1 uq (hV2.mono (hs.trans sq)) D (by omega) hv8 (by omega)) ?_
      rintro r u4 hs4 ⟨p4, n4, c4, l4, rfl, o4, e4⟩
      replace o4 := o4.dl
      have hpk : cPick 1 (dDrop (ds lv) not) [] [UInt32.ofNat (k + 3 * no)] = [x.d] := by
        rw [← eo]
        refine pick_one (getDs hx) ?_
        simp only [List.length_map, hol]
        have : (UInt32.ofNat (k + 3 * no)).toNat = k + 3 * no := by omega
        rw [this, Nat.add_mul_mod_self_right]
        exact Nat.mod_eq_of_lt hk
      rw [hpk] at e4
      obtain ⟨z, rfl, hz⟩ : ∃ z, l4 = [z] ∧ z.d = x.d := by
        clear o4
        cases l4 with
        | nil => cases e4
        | cons z r =>
          simp only [ds, List.map_cons, List.cons.injEq, List.map_eq_nil_iff] at e4
          exact ⟨z, by rw [e4.2], e4.1⟩
      obtain rfl : n4 = 1 := by simpa using o4.len.symm
      have hsA := hs.trans (sq.trans hs4)
      have hz0 : [z][0]? = some z := rfl
      (simp only [go_sem, vc_block_seq, vc_block_region, vc_block_cond, vc_block_block, Nat.reduceBEq, Nat.reduceAdd, Nat.reduceLeDiff, Nat.reduceEqDiff, Int.reduceAdd, Int.reduceBEq, Int.reduceBNe, reduceCtorEq, beq_self_eq_true, Bool.true_beq, Bool.false_beq]; repeat ((with_reducible refine leK_refl ?_); simp only [go_sem, vc_block_seq, vc_block_region, vc_block_cond, vc_block_block, Nat.reduceBEq, Nat.reduceAdd, Nat.reduceLeDiff, Nat.reduceEqDiff, Int.reduceAdd, Int.reduceBEq, Int.reduceBNe, reduceCtorEq, beq_self_eq_true, Bool.true_beq, Bool.false_beq]))
      refine .inl ⟨[(0, false), (1, false), (2, false), (3, false), (4, false), (7, false), (8, false), (5, false), (9, false), (6, false), (10, false), (11, false), (12, false), (13, false)], by kernel_rfl, ?_⟩
      (simp only [go_sem, vc_block_seq, vc_block_region, vc_block_cond, vc_block_block, Nat.reduceBEq, Nat.reduceAdd, Nat.reduceLeDiff, Nat.reduceEqDiff, Int.reduceAdd, Int.reduceBEq, Int.reduceBNe, reduceCtorEq, beq_self_eq_true, Bool.true_beq, Bool.false_beq]; repeat ((with_reducible refine leK_refl ?_); simp only [go_sem, vc_block_seq, vc_block_region, vc_block_cond, vc_block_block, Nat.reduceBEq, Nat.reduceAdd, Nat.reduceLeDiff, Nat.reduceEqDiff, Int.reduceAdd, Int.reduceBEq, Int.reduceBNe, reduceCtorEq, beq_self_eq_true, Bool.true_beq, Bool.false_beq]))
      rw [show (((1 : Nat) : Int) != 1) = false from rfl]
      (simp only [go_sem, vc_block_seq, vc_block_region, vc_block_cond, vc_block_block, Nat.reduceBEq, Nat.reduceAdd, Nat.reduceLeDiff, Nat.reduceEqDiff, Int.reduceAdd, Int.reduceBEq, Int.reduceBNe, reduceCtorEq, beq_self_eq_true, Bool.true_beq, Bool.false_beq]; repeat ((with_reducible refine leK_refl ?_); simp only [go_sem, vc_block_seq, vc_block_region, vc_block_cond, vc_block_block, Nat.reduceBEq, Nat.reduceAdd, Nat.reduceLeDiff, Nat.reduceEqDiff, Int.reduceAdd, Int.reduceBEq, Int.reduceBNe, reduceCtorEq, beq_self_eq_true, Bool.true_beq, Bool.false_beq]))
      refine ⟨⟨o4.sl.some_ (show 0 < 1 by omega), by omega, by omega⟩, ?_⟩
      refine ⟨⟨oo2.sl.some_ hk, by omega, by omega⟩, ?_⟩
      refine o4.sl.load (getMap hz0) (.inr rfl) (Nat.le_of_ble_eq_true rfl) ?_
      (simp only [go_sem, vc_block_seq, vc_block_region, vc_block_cond, vc_block_block, Nat.reduceBEq, Nat.reduceAdd, Nat.reduceLeDiff, Nat.reduceEqDiff, Int.reduceAdd, Int.reduceBEq, Int.reduceBNe, reduceCtorEq, beq_self_eq_true, Bool.true_beq, Bool.false_beq]; repeat ((with_reducible refine leK_refl ?_); simp only [go_sem, vc_block_seq, vc_block_region, vc_block_cond, vc_block_block, Nat.reduceBEq, Nat.reduceAdd, Nat.reduceLeDiff, Nat.reduceEqDiff, Int.reduceAdd, Int.reduceBEq, Int.reduceBNe, reduceCtorEq, beq_self_eq_true, Bool.true_beq, Bool.false_beq]))
      refine (oo2.sl.mono hsA).load (getMap hx) (.inr rfl) (Nat.le_of_ble_eq_true rfl) ?_
      (simp only [go_sem, vc_block_seq, vc_block_region, vc_block_cond, vc_block_block, Nat.reduceBEq, Nat.reduceAdd, Nat.reduceLeDiff, Nat.reduceEqDiff, Int.reduceAdd, Int.reduceBEq, Int.reduceBNe, reduceCtorEq, beq_self_eq_true, Bool.true_beq, Bool.false_beq]; repeat ((with_reducible refine leK_refl ?_); simp only [go_sem, vc_block_seq, vc_block_region, vc_block_cond, vc_block_block, Nat.reduceBEq, Nat.reduceAdd, Nat.reduceLeDiff, Nat.reduceEqDiff, Int.reduceAdd, Int.reduceBEq, Int.reduceBNe, reduceCtorEq, beq_self_eq_true, Bool.true_beq, Bool.false_beq]))
      refine AtCall.of_spec (dsame_con z x u4 (o4.at_ hz0) ((oo2.at_ hx).mono hsA) (by rw [← (o4.at_ hz0).len, hz]; omega)) ?_
      rintro r u5 hs5 rfl
      rw [decide_eq_true hz]
      (simp only [go_sem, vc_block_seq, vc_block_region, vc_block_cond, vc_block_block, Nat.reduceBEq, Nat.reduceAdd, Nat.reduceLeDiff, Nat.reduceEqDiff, Int.reduceAdd, Int.reduceBEq, Int.reduceBNe, reduceCtorEq, beq_self_eq_true, Bool.true_beq, Bool.false_beq]; repeat ((with_reducible refine leK_refl ?_); simp only [go_sem, vc_block_seq, vc_block_region, vc_block_cond, vc_block_block, Nat.reduceBEq, Nat.reduceAdd, Nat.reduceLeDiff, Nat.reduceEqDiff, Int.reduceAdd, Int.reduceBEq, Int.reduceBNe, reduceCtorEq, beq_self_eq_true, Bool.true_beq, Bool.false_beq]))
      exact ⟨(), le_chk (by simp only [go_sem, vc_block_seq, vc_block_region, vc_block_cond, vc_block_block, Nat.reduceBEq, Nat.reduceAdd, Nat.reduceLeDiff, Nat.reduceEqDiff, Int.reduceAdd, Int.reduceBEq, Int.reduceBNe, reduceCtorEq, beq_self_eq_true, Bool.true_beq, Bool.false_beq]), hsA.trans hs5⟩
    · rintro _ u3 hs
      (simp only [go_sem, vc_block_seq, vc_block_region, vc_block_cond, vc_block_block, Nat.reduceBEq, Nat.reduceAdd, Nat.reduceLeDiff, Nat.reduceEqDiff, Int.reduceAdd, Int.reduceBEq, Int.reduceBNe, reduceCtorEq, beq_self_eq_true, Bool.true_beq, Bool.false_beq]; repeat ((with_reducible refine leK_refl ?_); simp only [go_sem, vc_block_seq, vc_block_region, vc_block_cond, vc_block_block, Nat.reduceBEq, Nat.reduceAdd, Nat.reduceLeDiff, Nat.reduceEqDiff, Int.reduceAdd, Int.reduceBEq, Int.reduceBNe, reduceCtorEq, beq_self_eq_true, Bool.true_beq, Bool.false_beq]))
      refine AtCall.of_spec (cawake_con u3) ?_
      rintro r u4 hs4 rfl
      (simp only [go_sem, vc_block_seq, vc_block_region, vc_block_cond, vc_block_block, Nat.reduceBEq, Nat.reduceAdd, Nat.reduceLeDiff, Nat.reduceEqDiff, Int.reduceAdd, Int.reduceBEq, Int.reduceBNe, reduceCtorEq, beq_self_eq_true, Bool.true_beq, Bool.false_beq]; repeat ((with_reducible refine leK_refl ?_); simp only [go_sem, vc_block_seq, vc_block_region, vc_block_cond, vc_block_block, Nat.reduceBEq, Nat.reduceAdd, Nat.reduceLeDiff, Nat.reduceEqDiff, Int.reduceAdd, Int.reduceBEq, Int.reduceBNe, reduceCtorEq, beq_self_eq_true, Bool.true_beq, Bool.false_beq]))
      exact ⟨hS2.trans (hs.trans hs4), rfl⟩
end Go.Proofs.Ytfdhmmjccnmckaa
