/-
  NetTells is true of every input and never panics: what becomes of a net, whatever is done, is exactly as the document defines. No condition.
-/
import Derived.Test.YtgpmgnbjpfggmaaNetG18
import Derived.Test.YtgpmgnbjpfggmaaNetG22
set_option linter.unusedSimpArgs false
set_option linter.unusedVariables false
/-
  NetTells is true of every input and never panics: what becomes of a net, whatever is done, is exactly as the document defines. No condition.
-/
set_option linter.unusedVariables false
namespace Go.Proofs.Ytgpmgnbjpfggmaa.netTells
open Go.Eng Go.ChangeShapes Go.WideShapes Go.RowKit

set_option maxRecDepth 100000 in
theorem lifted (os : Os) (started : os.Started) (H : Type) (enc : TypeId × Value → H) :
    ReturnsInHanded {} Try.checked os 4 .any (Rows.netTellsSpec.pre6 enc Try.prog Try.f4 Rows.netTellsRow.domain false) (Rows.netTellsSpec.post enc Try.prog Try.f4 false true false false) := by
  refine returnsInHanded_of_change_sized (C := Try.checked) own started (by kernel_rfl) Try.func4
    (ChangeSpec.witness6 (enc := enc) (C := Try.checked) false ⟨#[], #[.agg #[(.int .i64 0),(.slice none 0 0),(.int .i64 0)], .agg #[(.int .i64 0),(.slice none 0 0),(.int .i64 0)], (.int .u8 0), (.slice none 0 0), (.int .i64 0), (.int .i64 0), (.int .i64 0), (.int .u32 0)], []⟩ 8 (by kernel_rfl) (by kernel_rfl) (by kernel_rfl) (by kernel_rfl)) ?_
  intro W base args ds gs before hval0 hW hcnd hsz _
  have hval : ∀ (j : Nat) t v, Try.f4.params[j]? = some t → args[j]? = some v → Value.okWide Try.prog W .any base t v := hval0
  have hW' := hW
  obtain ⟨p, q, hA0, hV, rfl, hfz, hnd⟩ := hW
  have hA : DataW.TrodAll enc Try.prog W 0 (fun _ => true) true Try.f4.params.toList args.toList ds p := hA0
  rw [Try.params4] at hA hval
  obtain ⟨v0, vs0, d0, ds0, p0, q0, hargs, rfl, rfl, h0, r0⟩ := trodAll_cons hA
  obtain ⟨v1, vs1, d1, ds1, p1, q1, rfl, rfl, rfl, h1, r1⟩ := trodAll_cons r0
  obtain ⟨v2, vs2, d2, ds2, p2, q2, rfl, rfl, rfl, h2, r2⟩ := trodAll_cons r1
  obtain ⟨v3, vs3, d3, ds3, p3, q3, rfl, rfl, rfl, h3, r3⟩ := trodAll_cons r2
  obtain ⟨v4, vs4, d4, ds4, p4, q4, rfl, rfl, rfl, h4, r4⟩ := trodAll_cons r3
  obtain ⟨v5, vs5, d5, ds5, p5, q5, rfl, rfl, rfl, h5, r5⟩ := trodAll_cons r4
  obtain ⟨v6, vs6, d6, ds6, p6, q6, rfl, rfl, rfl, h6, r6⟩ := trodAll_cons r5
  obtain ⟨v7, vs7, d7, ds7, p7, q7, rfl, rfl, rfl, h7, r7⟩ := trodAll_cons r6
  obtain ⟨rfl, rfl, rfl⟩ := trodAll_nil r7
  obtain rfl : args = #[v0, v1, v2, v3, v4, v5, v6, v7] := by cases args; simp_all
  obtain ⟨rfl, rfl⟩ := trodVars_none hV
  have hv0 := hval 0 25 v0 rfl rfl
  have hv1 := hval 1 25 v1 rfl rfl
  have hv2 := hval 2 5 v2 rfl rfl
  have hv3 := hval 3 26 v3 rfl rfl
  have hv4 := hval 4 3 v4 rfl rfl
  have hv5 := hval 5 3 v5 rfl rfl
  have hv6 := hval 6 3 v6 rfl rfl
  have hv7 := hval 7 37 v7 rfl rfl
  obtain ⟨a, ha, han⟩ := net_arg hv0 h0
  obtain ⟨b, hb, hbn⟩ := net_arg hv1 h1
  obtain ⟨a2, rfl, _, _, w2⟩ := open_int Try.underlying5 hv2 h2
  obtain ⟨k2, rfl⟩ := u8_of w2
  obtain ⟨fr, hf, hfn⟩ := bytes_arg hv3 h3
  obtain ⟨a4, rfl, _, _, w4⟩ := open_int Try.underlying3 hv4 h4
  obtain ⟨a5, rfl, _, _, w5⟩ := open_int Try.underlying3 hv5 h5
  obtain ⟨a6, rfl, _, _, w6⟩ := open_int Try.underlying3 hv6 h6
  obtain ⟨a7, rfl, _, _, w7⟩ := open_int Try.underlying37 hv7 h7
  obtain ⟨k7, rfl⟩ := u32_of w7
  exact calls_of_con (args := [_, _, _, _, _, _, _, _]) laid rowed full (by kernel_rfl) rfl Try.underlying4 (by kernel_rfl) hW' rfl ((ntells_con a b k2 fr a4 a5 a6 k7.toNat han hbn hfn (i64_of w6).2 k7.toNat_lt).con (.cons ha (.cons hb (.cons (.plain rfl) (.cons hf (.cons (.plain rfl) (.cons (.plain rfl) (.cons (.plain rfl) (.one (.plain rfl))))))))))

theorem over : Rows.netTellsRow.holds Try.pinned (OpenSpec.ofChange Rows.netTellsSpec) :=
  OpenClaim.holds_of_wide 4 Try.f4 rfl rfl rfl rfl rfl rfl rfl ⟨rfl, rfl, rfl, rfl, rfl⟩ rfl rfl rfl rfl rfl (by kernel_rfl) Try.func4 (by kernel_rfl)
    (of_decide_eq_true (by kernel_rfl)) (by unfold Func.isWrapper; first | (rw [if_pos (by decide +kernel)]; kernel_rfl) | (rw [if_neg (by decide +kernel)]; exact ⟨rfl, rfl⟩))
    (fun os started H enc _ => lifted os started H enc)

theorem proved : Rows.NetTellsSaid := over
#print axioms proved
end Go.Proofs.Ytgpmgnbjpfggmaa.netTells
