/-
  PeerLeaves is true of every input and never panics: who leaves tells all its links; whoever hears of it knows it no more, whatever old messages of that incarnation come, till it comes with a greater one. No condition.
-/
import Derived.Test.YtlaefellhnkfbaaGreatPl38
import Derived.Test.YtlaefellhnkfbaaGreatPl40
set_option linter.unusedSimpArgs false
set_option linter.unusedVariables false
/-
  PeerLeaves is true of every input and never panics: who leaves tells all its links; whoever hears of it knows it no more, whatever old messages of that incarnation come, till it comes with a greater one. No condition.
-/
namespace Go.Proofs.YtlaefellhnkfbaaGreat.peerLeaves
open Go.Eng Go.ChangeShapes Go.WideShapes Go.RowKit
set_option maxRecDepth 100000 in
theorem lifted (os : Os) (started : os.Started) (H : Type) (enc : TypeId × Value → H) :
    ReturnsInHanded {} Tryz.checked os 3 .any (Rows.peerLeavesSpec.pre6 enc Tryz.prog Tryz.f3 Rows.peerLeavesRow.domain false) (Rows.peerLeavesSpec.post enc Tryz.prog Tryz.f3 false true false false) := by
  refine returnsInHanded_of_change_sized (C := Tryz.checked) own started (by kernel_rfl) Tryz.func3
    (ChangeSpec.witness6 (enc := enc) (C := Tryz.checked) false ⟨#[], #[.agg #[(.int .i64 0),(.slice none 0 0),(.int .i64 0),(.int .i64 0),(.int .i64 0),(.int .i64 0),(.int .i64 0),(.int .i64 0),(.int .i64 0),(.int .i64 0),(.int .i64 0),(.int .i64 0),(.int .i64 0),(.int .i64 0),(.int .u32 0)], (.slice none 0 0)], []⟩ 8 (by kernel_rfl) (by kernel_rfl) (by kernel_rfl) (by kernel_rfl)) ?_
  intro W base args ds gs before hval0 hW hcnd hsz _
  have hval : ∀ (j : Nat) t v, Tryz.f3.params[j]? = some t → args[j]? = some v → Value.okWide Tryz.prog W .any base t v := hval0
  have hW' := hW
  obtain ⟨p, q, hA0, hV, rfl, hfz, hnd⟩ := hW
  have hA : DataW.TrodAll enc Tryz.prog W 0 (fun _ => true) true Tryz.f3.params.toList args.toList ds p := hA0
  rw [Tryz.params3] at hA hval
  obtain ⟨v0, vs0, d0, ds0, p0, q0, hargs, rfl, rfl, h0, r0⟩ := trodAll_cons hA
  obtain ⟨v1, vs1, d1, ds1, p1, q1, rfl, rfl, rfl, h1, r1⟩ := trodAll_cons r0
  obtain ⟨rfl, rfl, rfl⟩ := trodAll_nil r1
  obtain rfl : args = #[v0, v1] := by cases args; simp_all
  obtain ⟨rfl, rfl⟩ := trodVars_none hV
  have hv0 := hval 0 26 v0 rfl rfl
  have hv1 := hval 1 27 v1 rfl rfl
  obtain ⟨c, hc, hcs, hcl⟩ := V.conf_arg hv0 h0
  obtain ⟨ops, ho, hom, hol⟩ := fz_of_trod (R := fun g : GOp => ((∀ d ∈ g.m.list, (∀ s ∈ d.filter, okS s) ∧ d.filter.length ≤ 9223372036854775807) ∧ g.m.list.length ≤ 9223372036854775807 ∧ g.m.table.length ≤ 9223372036854775807 ∧ (∀ s ∈ g.filter, okS s) ∧ g.filter.length ≤ 9223372036854775807)) (encα := V.encOp) Tryz.underlying27 V.cells75 (by omega) hv1 (fun _ => rfl) (fun _ => rfl) (fun n cs x h => V.op_r h) h1
  exact calls_of_con (args := [_, _]) laid rowed full (by kernel_rfl) rfl Tryz.underlying4 (by kernel_rfl) hW' rfl ((V.peerLeaves_con c ops hcs hcl hol (fun o h => ⟨(hom o h).2.1, (hom o h).2.2.1⟩)).con (.cons hc (.one ho)))
theorem over : Rows.peerLeavesRow.holds Tryz.pinned (OpenSpec.ofChange Rows.peerLeavesSpec) :=
  OpenClaim.holds_of_wide 3 Tryz.f3 rfl rfl rfl rfl rfl rfl rfl ⟨rfl, rfl, rfl, rfl, rfl⟩ rfl rfl rfl rfl rfl (by kernel_rfl) Tryz.func3 (by kernel_rfl)
    (of_decide_eq_true (by kernel_rfl)) (by unfold Func.isWrapper; first | (rw [if_pos (by decide +kernel)]; kernel_rfl) | (rw [if_neg (by decide +kernel)]; exact ⟨rfl, rfl⟩))
    (fun os started H enc _ => lifted os started H enc)
theorem proved : Rows.PeerLeavesSaid := over
#print axioms proved
end Go.Proofs.YtlaefellhnkfbaaGreat.peerLeaves
