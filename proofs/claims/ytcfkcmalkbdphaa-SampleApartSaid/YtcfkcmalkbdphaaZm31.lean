/-
  SampleApart is true of every input and never panics: what is told is nobody else's: whatever is done with it, waits and views stay as they were. No condition.
-/
import Derived.Test.YtcfkcmalkbdphaaZm25
import Derived.Test.YtcfkcmalkbdphaaZm30
set_option linter.unusedSimpArgs false
set_option linter.unusedVariables false
/-
  SampleApart is true of every input and never panics: what is told is nobody else's: whatever is done with it, waits and views stay as they were. No condition.
-/
set_option linter.unusedVariables false
namespace Go.Proofs.Ytcfkcmalkbdphaa.sampleApart
open Go.Eng Go.ChangeShapes Go.WideShapes Go.RowKit

set_option maxRecDepth 100000 in
theorem lifted (os : Os) (started : os.Started) (H : Type) (enc : TypeId × Value → H) :
    ReturnsInHanded {} Try.checked os 10 .any (Rows.sampleApartSpec.pre6 enc Try.prog Try.f10 Rows.sampleApartRow.domain false) (Rows.sampleApartSpec.post enc Try.prog Try.f10 false true false false) := by
  refine returnsInHanded_of_change_sized (C := Try.checked) own started (by kernel_rfl) Try.func10
    (ChangeSpec.witness6 (enc := enc) (C := Try.checked) false ⟨#[], #[(.slice none 0 0), (.slice none 0 0), .agg #[(.int .u8 0),(.int .u16 0),(.int .u8 0),(.slice none 0 0)], (.int .u8 0)], []⟩ 8 (by kernel_rfl) (by kernel_rfl) (by kernel_rfl) (by kernel_rfl)) ?_
  intro W base args ds gs before hval0 hW hcnd hsz _
  have hval : ∀ (j : Nat) t v, Try.f10.params[j]? = some t → args[j]? = some v → Value.okWide Try.prog W .any base t v := hval0
  have hW' := hW
  obtain ⟨p, q, hA0, hV, rfl, hfz, hnd⟩ := hW
  have hA : DataW.TrodAll enc Try.prog W 0 (fun _ => true) true Try.f10.params.toList args.toList ds p := hA0
  rw [Try.params10] at hA hval
  obtain ⟨v0, vs0, d0, ds0, p0, q0, hargs, rfl, rfl, h0, r0⟩ := trodAll_cons hA
  obtain ⟨v1, vs1, d1, ds1, p1, q1, rfl, rfl, rfl, h1, r1⟩ := trodAll_cons r0
  obtain ⟨v2, vs2, d2, ds2, p2, q2, rfl, rfl, rfl, h2, r2⟩ := trodAll_cons r1
  obtain ⟨v3, vs3, d3, ds3, p3, q3, rfl, rfl, rfl, h3, r3⟩ := trodAll_cons r2
  obtain ⟨rfl, rfl, rfl⟩ := trodAll_nil r3
  obtain rfl : args = #[v0, v1, v2, v3] := by cases args; simp_all
  obtain ⟨rfl, rfl⟩ := trodVars_none hV
  have hv0 := hval 0 22 v0 rfl rfl
  have hv1 := hval 1 22 v1 rfl rfl
  have hv2 := hval 2 32 v2 rfl rfl
  have hv3 := hval 3 5 v3 rfl rfl
  obtain ⟨pa, n, c, l, rfl, hl, hc, _⟩ := descs_of hv0 h0
  obtain ⟨pb, m, e, l2, rfl, hm, hmn, _⟩ := descs_of hv1 h1
  obtain ⟨x, rfl, hx, hxn⟩ := desc_arg hv2 h2
  obtain ⟨at_, rfl, _, _, w3⟩ := open_int Try.underlying5 hv3 h3
  obtain ⟨k3, rfl⟩ := u8_of w3
  exact calls_of_con (args := [_, _, _, _]) laid rowed full (by kernel_rfl) rfl Try.underlying4 (by kernel_rfl) hW' rfl (sapart_con l l2 x k3 pa pb n c m e W hl hm hx hc hmn hxn)

theorem over : Rows.sampleApartRow.holds Try.pinned (OpenSpec.ofChange Rows.sampleApartSpec) :=
  OpenClaim.holds_of_wide 10 Try.f10 rfl rfl rfl rfl rfl rfl rfl ⟨rfl, rfl, rfl, rfl, rfl⟩ rfl rfl rfl rfl rfl (by kernel_rfl) Try.func10 (by kernel_rfl)
    (of_decide_eq_true (by kernel_rfl)) (by unfold Func.isWrapper; first | (rw [if_pos (by decide +kernel)]; kernel_rfl) | (rw [if_neg (by decide +kernel)]; exact ⟨rfl, rfl⟩))
    (fun os started H enc _ => lifted os started H enc)

theorem proved : Rows.SampleApartSaid := over
#print axioms proved
end Go.Proofs.Ytcfkcmalkbdphaa.sampleApart
