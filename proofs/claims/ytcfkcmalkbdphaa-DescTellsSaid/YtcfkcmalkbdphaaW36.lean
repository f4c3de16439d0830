/-
  DescTells is true of every input and never panics: which descriptors are the same, what is a view, where a node is in it, what becomes of it when one is put, dropped, and older, and who is oldest, are exactly as the document defines. No condition.
-/
import Derived.Test.YtcfkcmalkbdphaaW35
set_option linter.unusedSimpArgs false
set_option linter.unusedVariables false
/-
  DescTells is true of every input and never panics: which descriptors are the same, what is a view, where a node is in it, what becomes of it when one is put, dropped, and older, and who is oldest, are exactly as the document defines. No condition.
-/
set_option linter.unusedVariables false
namespace Go.Proofs.Ytcfkcmalkbdphaa.descTells
open Go.Eng Go.ChangeShapes Go.WideShapes Go.RowKit

set_option maxRecDepth 100000 in
theorem lifted (os : Os) (started : os.Started) (H : Type) (enc : TypeId × Value → H) :
    ReturnsInHanded {} Try.checked os 5 .any (Rows.descTellsSpec.pre6 enc Try.prog Try.f5 Rows.descTellsRow.domain false) (Rows.descTellsSpec.post enc Try.prog Try.f5 false true false false) := by
  refine returnsInHanded_of_change_sized (C := Try.checked) own started (by kernel_rfl) Try.func5
    (ChangeSpec.witness6 (enc := enc) (C := Try.checked) false ⟨#[], #[(.slice none 0 0), .agg #[(.int .u8 0),(.int .u16 0),(.int .u8 0),(.slice none 0 0)], (.int .u8 0), (.int .u8 0), (.int .u8 0)], []⟩ 8 (by kernel_rfl) (by kernel_rfl) (by kernel_rfl) (by kernel_rfl)) ?_
  intro W base args ds gs before hval0 hW hcnd hsz _
  have hval : ∀ (j : Nat) t v, Try.f5.params[j]? = some t → args[j]? = some v → Value.okWide Try.prog W .any base t v := hval0
  have hW' := hW
  obtain ⟨p, q, hA0, hV, rfl, hfz, hnd⟩ := hW
  have hA : DataW.TrodAll enc Try.prog W 0 (fun _ => true) true Try.f5.params.toList args.toList ds p := hA0
  rw [Try.params5] at hA hval
  obtain ⟨v0, vs0, d0, ds0, p0, q0, hargs, rfl, rfl, h0, r0⟩ := trodAll_cons hA
  obtain ⟨v1, vs1, d1, ds1, p1, q1, rfl, rfl, rfl, h1, r1⟩ := trodAll_cons r0
  obtain ⟨v2, vs2, d2, ds2, p2, q2, rfl, rfl, rfl, h2, r2⟩ := trodAll_cons r1
  obtain ⟨v3, vs3, d3, ds3, p3, q3, rfl, rfl, rfl, h3, r3⟩ := trodAll_cons r2
  obtain ⟨v4, vs4, d4, ds4, p4, q4, rfl, rfl, rfl, h4, r4⟩ := trodAll_cons r3
  obtain ⟨rfl, rfl, rfl⟩ := trodAll_nil r4
  obtain rfl : args = #[v0, v1, v2, v3, v4] := by cases args; simp_all
  obtain ⟨rfl, rfl⟩ := trodVars_none hV
  have hv0 := hval 0 22 v0 rfl rfl
  have hv1 := hval 1 32 v1 rfl rfl
  have hv2 := hval 2 5 v2 rfl rfl
  have hv3 := hval 3 5 v3 rfl rfl
  have hv4 := hval 4 5 v4 rfl rfl
  obtain ⟨l, hl, hlf, hln⟩ := V.descs_arg hv0 h0
  obtain ⟨d, hd, hdn⟩ := V.desc_arg hv1 h1
  obtain ⟨a2, rfl, _, _, w2⟩ := open_int Try.underlying5 hv2 h2
  obtain ⟨k2, rfl⟩ := u8_of w2
  obtain ⟨a3, rfl, _, _, w3⟩ := open_int Try.underlying5 hv3 h3
  obtain ⟨k3, rfl⟩ := u8_of w3
  obtain ⟨a4, rfl, _, _, w4⟩ := open_int Try.underlying5 hv4 h4
  obtain ⟨k4, rfl⟩ := u8_of w4
  exact calls_of_con (args := [_, _, _, _, _]) laid rowed full (by kernel_rfl) rfl Try.underlying4 (by kernel_rfl) hW' rfl ((V.dtells_con V.sames_con V.awake_con2 l d k2 k3 k4 hln hlf hdn).con (.cons hl (.cons hd (.cons (.plain rfl) (.cons (.plain rfl) (.one (.plain rfl)))))))

theorem over : Rows.descTellsRow.holds Try.pinned (OpenSpec.ofChange Rows.descTellsSpec) :=
  OpenClaim.holds_of_wide 5 Try.f5 rfl rfl rfl rfl rfl rfl rfl ⟨rfl, rfl, rfl, rfl, rfl⟩ rfl rfl rfl rfl rfl (by kernel_rfl) Try.func5 (by kernel_rfl)
    (of_decide_eq_true (by kernel_rfl)) (by unfold Func.isWrapper; first | (rw [if_pos (by decide +kernel)]; kernel_rfl) | (rw [if_neg (by decide +kernel)]; exact ⟨rfl, rfl⟩))
    (fun os started H enc _ => lifted os started H enc)

theorem proved : Rows.DescTellsSaid := over
#print axioms proved
end Go.Proofs.Ytcfkcmalkbdphaa.descTells
