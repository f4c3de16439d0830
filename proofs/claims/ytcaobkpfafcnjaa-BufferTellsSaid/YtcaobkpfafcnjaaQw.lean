/-
  BufferTells is true of every input and never panics: which buffers are right, and the same, what is there, and what becomes of a buffer, is exactly as the document defines. No condition.
-/
import Derived.Test.YtcaobkpfafcnjaaBm
import Derived.Test.YtcaobkpfafcnjaaQd
set_option linter.unusedVariables false
namespace Go.Proofs.Ytcaobkpfafcnjaa.bufferTells
open Go.Eng Go.ChangeShapes Go.WideShapes Go.RowKit

set_option maxRecDepth 100000 in
theorem lifted (os : Os) (started : os.Started) (H : Type) (enc : TypeId × Value → H) :
    ReturnsInHanded {} Try.checked os 6 .any (Rows.bufferTellsSpec.pre6 enc Try.prog Try.f6 Rows.bufferTellsRow.domain false) (Rows.bufferTellsSpec.post enc Try.prog Try.f6 false true false false) := by
  refine returnsInHanded_of_change_sized (C := Try.checked) own started (by kernel_rfl) Try.func6
    (ChangeSpec.witness6 (enc := enc) (C := Try.checked) false ⟨#[], #[.agg #[(.int .i64 0),(.slice none 0 0)], .agg #[(.int .i64 0),(.slice none 0 0)], .agg #[(.int .u8 0),(.int .u16 0),(.int .u32 0),(.slice none 0 0),(.slice none 0 0)], (.int .u8 0), (.int .u16 0)], []⟩ 8 (by kernel_rfl) (by kernel_rfl) (by kernel_rfl) (by kernel_rfl)) ?_
  intro W base args ds gs before hval0 hW hcnd hsz _
  have hval : ∀ (j : Nat) t v, Try.f6.params[j]? = some t → args[j]? = some v → Value.okWide Try.prog W .any base t v := hval0
  have hW' := hW
  obtain ⟨p, q, hA0, hV, rfl, hfz, hnd⟩ := hW
  have hA : DataW.TrodAll enc Try.prog W 0 (fun _ => true) true Try.f6.params.toList args.toList ds p := hA0
  rw [Try.params6] at hA hval
  obtain ⟨v0, vs0, d0, ds0, p0, q0, hargs, rfl, rfl, h0, r0⟩ := trodAll_cons hA
  obtain ⟨v1, vs1, d1, ds1, p1, q1, rfl, rfl, rfl, h1, r1⟩ := trodAll_cons r0
  obtain ⟨v2, vs2, d2, ds2, p2, q2, rfl, rfl, rfl, h2, r2⟩ := trodAll_cons r1
  obtain ⟨v3, vs3, d3, ds3, p3, q3, rfl, rfl, rfl, h3, r3⟩ := trodAll_cons r2
  obtain ⟨v4, vs4, d4, ds4, p4, q4, rfl, rfl, rfl, h4, r4⟩ := trodAll_cons r3
  obtain ⟨rfl, rfl, rfl⟩ := trodAll_nil r4
  obtain rfl : args = #[v0, v1, v2, v3, v4] := by cases args; simp_all
  obtain ⟨rfl, rfl⟩ := trodVars_none hV
  have hv0 := hval 0 27 v0 rfl rfl
  have hv1 := hval 1 27 v1 rfl rfl
  have hv2 := hval 2 34 v2 rfl rfl
  have hv3 := hval 3 5 v3 rfl rfl
  have hv4 := hval 4 23 v4 rfl rfl
  obtain ⟨a, rfl, ha, han⟩ := buffer_arg hv0 h0
  obtain ⟨b, rfl, hb, hbn⟩ := buffer_arg hv1 h1
  obtain ⟨e, rfl, he, _⟩ := event_arg hv2 h2
  obtain ⟨a1, rfl, _, _, w1⟩ := open_int Try.underlying5 hv3 h3
  obtain ⟨k1, rfl⟩ := u8_of w1
  obtain ⟨a2, rfl, _, _, w2⟩ := open_int Try.underlying23 hv4 h4
  obtain ⟨k2, rfl⟩ := u16_of w2
  exact calls_of_con (args := [_, _, _, _, _]) laid rowed full (by kernel_rfl) rfl Try.underlying4 (by kernel_rfl) hW' rfl (btells_con a b e k1 k2 W ha hb he han hbn)

theorem over : Rows.bufferTellsRow.holds Try.pinned (OpenSpec.ofChange Rows.bufferTellsSpec) :=
  OpenClaim.holds_of_wide 6 Try.f6 rfl rfl rfl rfl rfl rfl rfl ⟨rfl, rfl, rfl, rfl, rfl⟩ rfl rfl rfl rfl rfl (by kernel_rfl) Try.func6 (by kernel_rfl)
    (of_decide_eq_true (by kernel_rfl)) (by unfold Func.isWrapper; first | (rw [if_pos (by decide +kernel)]; kernel_rfl) | (rw [if_neg (by decide +kernel)]; exact ⟨rfl, rfl⟩))
    (fun os started H enc _ => lifted os started H enc)

theorem proved : Rows.BufferTellsSaid := over
#print axioms proved
end Go.Proofs.Ytcaobkpfafcnjaa.bufferTells
