/-
 PeerBounds is true of every input and never panics: whatever comes, a peer's view, neighbours and ring stay within their room, without itself, and without those that left, are suspected, or are of an elder incarnation; one that is down knows nobody, and says nothing. No condition.
-/
import Derived.Test.YtlaefellhnkfbaaGreatPb47
import Derived.Test.YtlaefellhnkfbaaGreatPb49
set_option linter.unusedSimpArgs false
set_option linter.unusedVariables false
/-
 PeerBounds is true of every input and never panics: whatever comes, a peer's view, neighbours and ring stay within their room, without itself, and without those that left, are suspected, or are of an elder incarnation; one that is down knows nobody, and says nothing. No condition.
-/
namespace Go.Proofs.YtlaefellhnkfbaaGreat.peerBounds
open Go.Eng Go.ChangeShapes Go.WideShapes Go.RowKit
set_option maxRecDepth 100000 in
theorem lifted (os : Os) (started : os.Started) (H : Type) (enc : TypeId × Value → H) :
  ReturnsInHanded {} Tryz.checked os 6 .any (Rows.peerBoundsSpec.pre6 enc Tryz.prog Tryz.f6 Rows.peerBoundsRow.domain false) (Rows.peerBoundsSpec.post enc Tryz.prog Tryz.f6 false true false false) := by
 refine returnsInHanded_of_change_sized (C := Tryz.checked) own started (by kernel_rfl) Tryz.func6
  (ChangeSpec.witness6 (enc := enc) (C := Tryz.checked) false ⟨#[], #[.agg #[(.int .i64 0),(.slice none 0 0),(.int .i64 0),(.int .i64 0),(.int .i64 0),(.int .i64 0),(.int .i64 0),(.int .i64 0),(.int .i64 0),(.int .i64 0),(.int .i64 0),(.int .i64 0),(.int .i64 0),(.int .i64 0),(.int .u32 0)], (.int .u8 0), (.slice none 0 0)], []⟩ 8 (by kernel_rfl) (by kernel_rfl) (by kernel_rfl) (by kernel_rfl)) ?_
 intro W base args ds gs before hval0 hW hcnd hsz _
 have hval : ∀ (j : Nat) t v, Tryz.f6.params[j]? = some t → args[j]? = some v → Value.okWide Tryz.prog W .any base t v := hval0
 have hW' := hW
 obtain ⟨p, q, hA0, hV, rfl, hfz, hnd⟩ := hW
 have hA : DataW.TrodAll enc Tryz.prog W 0 (fun _ => true) true Tryz.f6.params.toList args.toList ds p := hA0
 rw [Tryz.params6] at hA hval
 obtain ⟨v0, vs0, d0, ds0, p0, q0, hargs, rfl, rfl, h0, r0⟩ := trodAll_cons hA
 obtain ⟨v1, vs1, d1, ds1, p1, q1, rfl, rfl, rfl, h1, r1⟩ := trodAll_cons r0
 obtain ⟨v2, vs2, d2, ds2, p2, q2, rfl, rfl, rfl, h2, r2⟩ := trodAll_cons r1
 obtain ⟨rfl, rfl, rfl⟩ := trodAll_nil r2
 obtain rfl : args = #[v0, v1, v2] := by cases args; simp_all
 obtain ⟨rfl, rfl⟩ := trodVars_none hV
 have hv0 := hval 0 26 v0 rfl rfl
 have hv1 := hval 1 5 v1 rfl rfl
 have hv2 := hval 2 27 v2 rfl rfl
 obtain ⟨c, hc, hcs, hcl⟩ := V.conf_arg hv0 h0
 obtain ⟨a1, rfl, _, _, w1⟩ := open_int Tryz.underlying5 hv1 h1
 obtain ⟨k1, rfl⟩ := ahO w1
 obtain ⟨ops, ho, hom, hol⟩ := wr (R := fun g : GOp => ((∀ d ∈ g.m.list, (∀ s ∈ d.filter, okS s) ∧ d.filter.length ≤ 9223372036854775807) ∧ g.m.list.length ≤ 9223372036854775807 ∧ g.m.table.length ≤ 9223372036854775807 ∧ (∀ s ∈ g.filter, okS s) ∧ g.filter.length ≤ 9223372036854775807)) (encα := V.encOp) Tryz.underlying27 V.cells75 (by omega) hv2 (fun _ => rfl) (fun _ => rfl) (fun n cs x h => V.op_r h) h2
 exact rI (args := [_, _, _]) amK aj7 am2 (by kernel_rfl) rfl Tryz.underlying4 (by kernel_rfl) hW' rfl ((V.peerBounds_con c k1 ops hcs hcl hol (fun o h => ⟨(hom o h).2.1, (hom o h).2.2.1, fun d hd => ((hom o h).1 d hd).1, (hom o h).2.2.2.1⟩)).con (.cons hc (.cons (.plain rfl) (.one ho))))
theorem over : Rows.peerBoundsRow.holds Tryz.pinned (OpenSpec.ofChange Rows.peerBoundsSpec) :=
 OpenClaim.holds_of_wide 6 Tryz.f6 rfl rfl rfl rfl rfl rfl rfl ⟨rfl, rfl, rfl, rfl, rfl⟩ rfl rfl rfl rfl rfl (by kernel_rfl) Tryz.func6 (by kernel_rfl)
  (of_decide_eq_true (by kernel_rfl)) (by unfold Func.isWrapper; first | (rw [if_pos (by decide +kernel)]; kernel_rfl) | (rw [if_neg (by decide +kernel)]; exact ⟨rfl, rfl⟩))
  (fun os started H enc _ => lifted os started H enc)
theorem proved : Rows.PeerBoundsSaid := over
#print axioms proved
end Go.Proofs.YtlaefellhnkfbaaGreat.peerBounds
