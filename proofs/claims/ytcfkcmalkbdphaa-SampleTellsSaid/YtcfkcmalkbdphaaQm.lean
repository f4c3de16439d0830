/-
  SampleTells is true of every input and never panics: how long one is waited for, what an answer brings back, who is let in, and who fills a view, are exactly as the document defines. No condition.
-/
import Derived.Test.YtcfkcmalkbdphaaRb
import Derived.Test.YtcfkcmalkbdphaaQb
set_option linter.unusedVariables false
namespace Go.Proofs.Ytcfkcmalkbdphaa.sampleTells
open Go.Eng Go.ChangeShapes Go.WideShapes Go.RowKit

set_option maxRecDepth 100000 in
theorem lifted (os : Os) (started : os.Started) (H : Type) (enc : TypeId × Value → H) :
    ReturnsInHanded {} Try.checked os 8 .any (Rows.sampleTellsSpec.pre6 enc Try.prog Try.f8 Rows.sampleTellsRow.domain false) (Rows.sampleTellsSpec.post enc Try.prog Try.f8 false true false false) := by
  refine returnsInHanded_of_change_sized (C := Try.checked) own started (by kernel_rfl) Try.func8
    (ChangeSpec.witness6 (enc := enc) (C := Try.checked) false ⟨#[], #[(.int .u8 0), (.int .u8 0), (.int .u8 0), (.bool false), (.int .u16 0), (.slice none 0 0), (.slice none 0 0), .agg #[(.int .u8 0),(.int .u16 0),(.int .u8 0),(.slice none 0 0)], (.int .u8 0), (.int .u8 0)], []⟩ 8 (by kernel_rfl) (by kernel_rfl) (by kernel_rfl) (by kernel_rfl)) ?_
  intro W base args ds gs before hval0 hW hcnd hsz _
  have hval : ∀ (j : Nat) t v, Try.f8.params[j]? = some t → args[j]? = some v → Value.okWide Try.prog W .any base t v := hval0
  have hW' := hW
  obtain ⟨p, q, hA0, hV, rfl, hfz, hnd⟩ := hW
  have hA : DataW.TrodAll enc Try.prog W 0 (fun _ => true) true Try.f8.params.toList args.toList ds p := hA0
  rw [Try.params8] at hA hval
  obtain ⟨v0, vs0, d0, ds0, p0, q0, hargs, rfl, rfl, h0, r0⟩ := trodAll_cons hA
  obtain ⟨v1, vs1, d1, ds1, p1, q1, rfl, rfl, rfl, h1, r1⟩ := trodAll_cons r0
  obtain ⟨v2, vs2, d2, ds2, p2, q2, rfl, rfl, rfl, h2, r2⟩ := trodAll_cons r1
  obtain ⟨v3, vs3, d3, ds3, p3, q3, rfl, rfl, rfl, h3, r3⟩ := trodAll_cons r2
  obtain ⟨v4, vs4, d4, ds4, p4, q4, rfl, rfl, rfl, h4, r4⟩ := trodAll_cons r3
  obtain ⟨v5, vs5, d5, ds5, p5, q5, rfl, rfl, rfl, h5, r5⟩ := trodAll_cons r4
  obtain ⟨v6, vs6, d6, ds6, p6, q6, rfl, rfl, rfl, h6, r6⟩ := trodAll_cons r5
  obtain ⟨v7, vs7, d7, ds7, p7, q7, rfl, rfl, rfl, h7, r7⟩ := trodAll_cons r6
  obtain ⟨v8, vs8, d8, ds8, p8, q8, rfl, rfl, rfl, h8, r8⟩ := trodAll_cons r7
  obtain ⟨v9, vs9, d9, ds9, p9, q9, rfl, rfl, rfl, h9, r9⟩ := trodAll_cons r8
  obtain ⟨rfl, rfl, rfl⟩ := trodAll_nil r9
  obtain rfl : args = #[v0, v1, v2, v3, v4, v5, v6, v7, v8, v9] := by cases args; simp_all
  obtain ⟨rfl, rfl⟩ := trodVars_none hV
  have hv0 := hval 0 5 v0 rfl rfl
  have hv1 := hval 1 5 v1 rfl rfl
  have hv2 := hval 2 5 v2 rfl rfl
  have hv3 := hval 3 4 v3 rfl rfl
  have hv4 := hval 4 28 v4 rfl rfl
  have hv5 := hval 5 22 v5 rfl rfl
  have hv6 := hval 6 22 v6 rfl rfl
  have hv7 := hval 7 32 v7 rfl rfl
  have hv8 := hval 8 5 v8 rfl rfl
  have hv9 := hval 9 5 v9 rfl rfl
  obtain ⟨a0, rfl, _, _, w0⟩ := open_int Try.underlying5 hv0 h0
  obtain ⟨k0, rfl⟩ := u8_of w0
  obtain ⟨a1, rfl, _, _, w1⟩ := open_int Try.underlying5 hv1 h1
  obtain ⟨k1, rfl⟩ := u8_of w1
  obtain ⟨a2, rfl, _, _, w2⟩ := open_int Try.underlying5 hv2 h2
  obtain ⟨k2, rfl⟩ := u8_of w2
  obtain ⟨k3, rfl, _⟩ := open_bool Try.underlying4 hv3 h3
  obtain ⟨a4, rfl, _, _, w4⟩ := open_int Try.underlying28 hv4 h4
  obtain ⟨k4, rfl⟩ := u16_of w4
  obtain ⟨pa, n, c, l, rfl, hl, hc, _⟩ := descs_of hv5 h5
  obtain ⟨pb, m, e, got, rfl, hg, he, _⟩ := descs_of hv6 h6
  obtain ⟨a, rfl, ha, _⟩ := desc_arg hv7 h7
  obtain ⟨a8, rfl, _, _, w8⟩ := open_int Try.underlying5 hv8 h8
  obtain ⟨k8, rfl⟩ := u8_of w8
  obtain ⟨a9, rfl, _, _, w9⟩ := open_int Try.underlying5 hv9 h9
  obtain ⟨k9, rfl⟩ := u8_of w9
  exact calls_of_con (args := [_, _, _, _, _, _, _, _, _, _]) laid rowed full (by kernel_rfl) rfl Try.underlying4 (by kernel_rfl) hW' rfl (stells_con k0 k1 k2 k3 k4 l got a k8 k9 pa pb n c m e W hl hg ha hc he)

theorem over : Rows.sampleTellsRow.holds Try.pinned (OpenSpec.ofChange Rows.sampleTellsSpec) :=
  OpenClaim.holds_of_wide 8 Try.f8 rfl rfl rfl rfl rfl rfl rfl ⟨rfl, rfl, rfl, rfl, rfl⟩ rfl rfl rfl rfl rfl (by kernel_rfl) Try.func8 (by kernel_rfl)
    (of_decide_eq_true (by kernel_rfl)) (by unfold Func.isWrapper; first | (rw [if_pos (by decide +kernel)]; kernel_rfl) | (rw [if_neg (by decide +kernel)]; exact ⟨rfl, rfl⟩))
    (fun os started H enc _ => lifted os started H enc)

theorem proved : Rows.SampleTellsSaid := over
#print axioms proved
end Go.Proofs.Ytcfkcmalkbdphaa.sampleTells
