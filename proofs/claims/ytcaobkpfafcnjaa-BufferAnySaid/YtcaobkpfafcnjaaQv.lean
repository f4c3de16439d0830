/-
  BufferAny is true of every input and never panics: in whatever order events are put, each once, the buffer is the same; what is put and removed leaves it as it was. No condition.
-/
import Derived.Test.YtcaobkpfafcnjaaBj
import Derived.Test.YtcaobkpfafcnjaaQd
set_option linter.unusedVariables false
namespace Go.Proofs.Ytcaobkpfafcnjaa.bufferAny
open Go.Eng Go.ChangeShapes Go.WideShapes Go.RowKit

set_option maxRecDepth 100000 in
theorem lifted (os : Os) (started : os.Started) (H : Type) (enc : TypeId × Value → H) :
    ReturnsInHanded {} Try.checked os 5 .any (Rows.bufferAnySpec.pre6 enc Try.prog Try.f5 Rows.bufferAnyRow.domain false) (Rows.bufferAnySpec.post enc Try.prog Try.f5 false true false false) := by
  refine returnsInHanded_of_change_sized (C := Try.checked) own started (by kernel_rfl) Try.func5
    (ChangeSpec.witness6 (enc := enc) (C := Try.checked) false ⟨#[], #[(.slice none 0 0), (.int .u8 0), .agg #[(.int .u8 0),(.int .u16 0),(.int .u32 0),(.slice none 0 0),(.slice none 0 0)]], []⟩ 8 (by kernel_rfl) (by kernel_rfl) (by kernel_rfl) (by kernel_rfl)) ?_
  intro W base args ds gs before hval0 hW hcnd hsz _
  have hval : ∀ (j : Nat) t v, Try.f5.params[j]? = some t → args[j]? = some v → Value.okWide Try.prog W .any base t v := hval0
  have hW' := hW
  obtain ⟨p, q, hA0, hV, rfl, hfz, hnd⟩ := hW
  have hA : DataW.TrodAll enc Try.prog W 0 (fun _ => true) true Try.f5.params.toList args.toList ds p := hA0
  rw [Try.params5] at hA hval
  obtain ⟨v0, vs0, d0, ds0, p0, q0, hargs, rfl, rfl, h0, r0⟩ := trodAll_cons hA
  obtain ⟨v1, vs1, d1, ds1, p1, q1, rfl, rfl, rfl, h1, r1⟩ := trodAll_cons r0
  obtain ⟨v2, vs2, d2, ds2, p2, q2, rfl, rfl, rfl, h2, r2⟩ := trodAll_cons r1
  obtain ⟨rfl, rfl, rfl⟩ := trodAll_nil r2
  obtain rfl : args = #[v0, v1, v2] := by cases args; simp_all
  obtain ⟨rfl, rfl⟩ := trodVars_none hV
  have hv0 := hval 0 22 v0 rfl rfl
  have hv1 := hval 1 5 v1 rfl rfl
  have hv2 := hval 2 34 v2 rfl rfl
  obtain ⟨pa, n, c, l, rfl, hl, hc, _⟩ := events_of hv0 h0
  obtain ⟨a1, rfl, _, _, w1⟩ := open_int Try.underlying5 hv1 h1
  obtain ⟨k1, rfl⟩ := u8_of w1
  obtain ⟨e, rfl, he, _⟩ := event_arg hv2 h2
  exact calls_of_con (args := [_, _, _]) laid rowed full (by kernel_rfl) rfl Try.underlying4 (by kernel_rfl) hW' rfl (bany_con l k1 e pa n c W hl he hc)

theorem over : Rows.bufferAnyRow.holds Try.pinned (OpenSpec.ofChange Rows.bufferAnySpec) :=
  OpenClaim.holds_of_wide 5 Try.f5 rfl rfl rfl rfl rfl rfl rfl ⟨rfl, rfl, rfl, rfl, rfl⟩ rfl rfl rfl rfl rfl (by kernel_rfl) Try.func5 (by kernel_rfl)
    (of_decide_eq_true (by kernel_rfl)) (by unfold Func.isWrapper; first | (rw [if_pos (by decide +kernel)]; kernel_rfl) | (rw [if_neg (by decide +kernel)]; exact ⟨rfl, rfl⟩))
    (fun os started H enc _ => lifted os started H enc)

theorem proved : Rows.BufferAnySaid := over
#print axioms proved
end Go.Proofs.Ytcaobkpfafcnjaa.bufferAny
