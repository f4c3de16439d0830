/-
  CyclonTells is true of every input and never panics: whom a view picks by draws, whom it shuffles with, what it sends, and what becomes of it behind what came, are exactly as the document defines. No condition.
-/
import Derived.Test.YtfdhmmjccnmckaaCj
import Derived.Test.YtfdhmmjccnmckaaQc
set_option linter.unusedVariables false
namespace Go.Proofs.Ytfdhmmjccnmckaa.cyclonTells
open Go.Eng Go.ChangeShapes Go.WideShapes Go.RowKit

set_option maxRecDepth 100000 in
theorem lifted (os : Os) (started : os.Started) (H : Type) (enc : TypeId × Value → H) :
    ReturnsInHanded {} Try.checked os 3 .any (Rows.cyclonTellsSpec.pre6 enc Try.prog Try.f3 Rows.cyclonTellsRow.domain false) (Rows.cyclonTellsSpec.post enc Try.prog Try.f3 false true false false) := by
  refine returnsInHanded_of_change_sized (C := Try.checked) own started (by kernel_rfl) Try.func3
    (ChangeSpec.witness6 (enc := enc) (C := Try.checked) false ⟨#[], #[(.slice none 0 0), (.slice none 0 0), (.slice none 0 0), (.int .u8 0), (.int .u8 0), (.int .u8 0), (.int .i64 0), (.slice none 0 0)], []⟩ 8 (by kernel_rfl) (by kernel_rfl) (by kernel_rfl) (by kernel_rfl)) ?_
  intro W base args ds gs before hval0 hW hcnd hsz _
  have hval : ∀ (j : Nat) t v, Try.f3.params[j]? = some t → args[j]? = some v → Value.okWide Try.prog W .any base t v := hval0
  have hW' := hW
  obtain ⟨p, q, hA0, hV, rfl, hfz, hnd⟩ := hW
  have hA : DataW.TrodAll enc Try.prog W 0 (fun _ => true) true Try.f3.params.toList args.toList ds p := hA0
  rw [Try.params3] at hA hval
  obtain ⟨v0, vs0, d0, ds0, p0, q0, hargs, rfl, rfl, h0, r0⟩ := trodAll_cons hA
  obtain ⟨v1, vs1, d1, ds1, p1, q1, rfl, rfl, rfl, h1, r1⟩ := trodAll_cons r0
  obtain ⟨v2, vs2, d2, ds2, p2, q2, rfl, rfl, rfl, h2, r2⟩ := trodAll_cons r1
  obtain ⟨v3, vs3, d3, ds3, p3, q3, rfl, rfl, rfl, h3, r3⟩ := trodAll_cons r2
  obtain ⟨v4, vs4, d4, ds4, p4, q4, rfl, rfl, rfl, h4, r4⟩ := trodAll_cons r3
  obtain ⟨v5, vs5, d5, ds5, p5, q5, rfl, rfl, rfl, h5, r5⟩ := trodAll_cons r4
  obtain ⟨v6, vs6, d6, ds6, p6, q6, rfl, rfl, rfl, h6, r6⟩ := trodAll_cons r5
  obtain ⟨v7, vs7, d7, ds7, p7, q7, rfl, rfl, rfl, h7, r7⟩ := trodAll_cons r6
  obtain ⟨rfl, rfl, rfl⟩ := trodAll_nil r7
  obtain rfl : args = #[v0, v1, v2, v3, v4, v5, v6, v7] := by cases args; simp_all
  obtain ⟨rfl, rfl⟩ := trodVars_none hV
  have hv0 := hval 0 22 v0 rfl rfl
  have hv1 := hval 1 22 v1 rfl rfl
  have hv2 := hval 2 22 v2 rfl rfl
  have hv3 := hval 3 5 v3 rfl rfl
  have hv4 := hval 4 5 v4 rfl rfl
  have hv5 := hval 5 5 v5 rfl rfl
  have hv6 := hval 6 3 v6 rfl rfl
  have hv7 := hval 7 23 v7 rfl rfl
  obtain ⟨pa, n, c, l, rfl, hl, hc, _⟩ := descs_of hv0 h0
  obtain ⟨pb, m, e, got, rfl, hg, hmn, _⟩ := descs_of hv1 h1
  obtain ⟨pc, ns, cs, sent, rfl, hs, hns, _⟩ := descs_of hv2 h2
  obtain ⟨a3, rfl, _, _, w3⟩ := open_int Try.underlying5 hv3 h3
  obtain ⟨k3, rfl⟩ := u8_of w3
  obtain ⟨a4, rfl, _, _, w4⟩ := open_int Try.underlying5 hv4 h4
  obtain ⟨k4, rfl⟩ := u8_of w4
  obtain ⟨a5, rfl, _, _, w5⟩ := open_int Try.underlying5 hv5 h5
  obtain ⟨k5, rfl⟩ := u8_of w5
  obtain ⟨many, rfl, _, _, w6⟩ := open_int Try.underlying3 hv6 h6
  obtain ⟨pd, nd, cd, dr, rfl, hd, hnd⟩ := u32s_of hv7 h7
  exact calls_of_con (args := [_, _, _, _, _, _, _, _]) laid rowed full (by kernel_rfl) rfl Try.underlying4 (by kernel_rfl) hW' rfl (ctells_con l got sent k3 k4 k5 many dr pa pb pc pd n c m e ns cs nd cd W hl hg hs hd hc hmn hns hnd (i64_of w6))

theorem over : Rows.cyclonTellsRow.holds Try.pinned (OpenSpec.ofChange Rows.cyclonTellsSpec) :=
  OpenClaim.holds_of_wide 3 Try.f3 rfl rfl rfl rfl rfl rfl rfl ⟨rfl, rfl, rfl, rfl, rfl⟩ rfl rfl rfl rfl rfl (by kernel_rfl) Try.func3 (by kernel_rfl)
    (of_decide_eq_true (by kernel_rfl)) (by unfold Func.isWrapper; first | (rw [if_pos (by decide +kernel)]; kernel_rfl) | (rw [if_neg (by decide +kernel)]; exact ⟨rfl, rfl⟩))
    (fun os started H enc _ => lifted os started H enc)

theorem proved : Rows.CyclonTellsSaid := over
#print axioms proved
end Go.Proofs.Ytfdhmmjccnmckaa.cyclonTells
