/-
  BufferApart is true of every input and never panics: what is got, and put, is nobody else's; written over, the buffer has what it had. No condition.
-/
import Derived.Test.YtcaobkpfafcnjaaAp27
import Derived.Test.YtcaobkpfafcnjaaAp30
set_option linter.unusedSimpArgs false
set_option linter.unusedVariables false
/-
  BufferApart is true of every input and never panics: what is got, and put, is nobody else's; written over, the buffer has what it had. No condition.
-/
set_option linter.unusedVariables false
namespace Go.Proofs.Ytcaobkpfafcnjaa.bufferApart
open Go.Eng Go.ChangeShapes Go.WideShapes Go.RowKit

set_option maxRecDepth 100000 in
theorem lifted (os : Os) (started : os.Started) (H : Type) (enc : TypeId × Value → H) :
    ReturnsInHanded {} Try.checked os 4 .any (Rows.bufferApartSpec.pre6 enc Try.prog Try.f4 Rows.bufferApartRow.domain false) (Rows.bufferApartSpec.post enc Try.prog Try.f4 false true false false) := by
  refine returnsInHanded_of_change_sized (C := Try.checked) own started (by kernel_rfl) Try.func4
    (ChangeSpec.witness6 (enc := enc) (C := Try.checked) false ⟨#[], #[.agg #[(.int .u8 0),(.int .u16 0),(.int .u32 0),(.slice none 0 0),(.slice none 0 0)], .agg #[(.int .u8 0),(.int .u16 0),(.int .u32 0),(.slice none 0 0),(.slice none 0 0)]], []⟩ 8 (by kernel_rfl) (by kernel_rfl) (by kernel_rfl) (by kernel_rfl)) ?_
  intro W base args ds gs before hval0 hW hcnd hsz _
  have hval : ∀ (j : Nat) t v, Try.f4.params[j]? = some t → args[j]? = some v → Value.okWide Try.prog W .any base t v := hval0
  have hW' := hW
  obtain ⟨p, q, hA0, hV, rfl, hfz, hnd⟩ := hW
  have hA : DataW.TrodAll enc Try.prog W 0 (fun _ => true) true Try.f4.params.toList args.toList ds p := hA0
  rw [Try.params4] at hA hval
  obtain ⟨v0, vs0, d0, ds0, p0, q0, hargs, rfl, rfl, h0, r0⟩ := trodAll_cons hA
  obtain ⟨v1, vs1, d1, ds1, p1, q1, rfl, rfl, rfl, h1, r1⟩ := trodAll_cons r0
  obtain ⟨rfl, rfl, rfl⟩ := trodAll_nil r1
  obtain rfl : args = #[v0, v1] := by cases args; simp_all
  obtain ⟨rfl, rfl⟩ := trodVars_none hV
  have hv0 := hval 0 34 v0 rfl rfl
  have hv1 := hval 1 34 v1 rfl rfl
  obtain ⟨e, rfl, he, _⟩ := event_arg hv0 h0
  obtain ⟨o, rfl, ho, _⟩ := event_arg hv1 h1
  exact calls_of_con (args := [_, _]) laid rowed full (by kernel_rfl) rfl Try.underlying4 (by kernel_rfl) hW' rfl (bapart_con e o W he ho)

theorem over : Rows.bufferApartRow.holds Try.pinned (OpenSpec.ofChange Rows.bufferApartSpec) :=
  OpenClaim.holds_of_wide 4 Try.f4 rfl rfl rfl rfl rfl rfl rfl ⟨rfl, rfl, rfl, rfl, rfl⟩ rfl rfl rfl rfl rfl (by kernel_rfl) Try.func4 (by kernel_rfl)
    (of_decide_eq_true (by kernel_rfl)) (by unfold Func.isWrapper; first | (rw [if_pos (by decide +kernel)]; kernel_rfl) | (rw [if_neg (by decide +kernel)]; exact ⟨rfl, rfl⟩))
    (fun os started H enc _ => lifted os started H enc)

theorem proved : Rows.BufferApartSaid := over
#print axioms proved
end Go.Proofs.Ytcaobkpfafcnjaa.bufferApart
