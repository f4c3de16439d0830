/-
  PullRight is true of every input and never panics: a list that is right is so for more, too; with one of its asks put twice, or without a tick left, it is not; nor for fewer than it has. No condition.
-/
import Derived.Test.YthjgnpelmigbeaaPr
import Derived.Test.YthjgnpelmigbeaaQa
set_option linter.unusedVariables false
namespace Go.Proofs.Ythjgnpelmigbeaa.pullRight
open Go.Eng Go.ChangeShapes Go.WideShapes Go.RowKit

set_option maxRecDepth 100000 in
theorem lifted (os : Os) (started : os.Started) (H : Type) (enc : TypeId × Value → H) :
    ReturnsInHanded {} Try.checked os 7 .any (Rows.pullRightSpec.pre6 enc Try.prog Try.f7 Rows.pullRightRow.domain false) (Rows.pullRightSpec.post enc Try.prog Try.f7 false true false false) := by
  refine returnsInHanded_of_change_sized (C := Try.checked) own started (by kernel_rfl) Try.func7
    (ChangeSpec.witness6 (enc := enc) (C := Try.checked) false ⟨#[], #[(.slice none 0 0), (.int .u8 0), (.int .i64 0)], []⟩ 8 (by kernel_rfl) (by kernel_rfl) (by kernel_rfl) (by kernel_rfl)) ?_
  intro W base args ds gs before hval0 hW hcnd hsz _
  have hval : ∀ (j : Nat) t v, Try.f7.params[j]? = some t → args[j]? = some v → Value.okWide Try.prog W .any base t v := hval0
  have hW' := hW
  obtain ⟨p, q, hA0, hV, rfl, hfz, hnd⟩ := hW
  have hA : DataW.TrodAll enc Try.prog W 0 (fun _ => true) true Try.f7.params.toList args.toList ds p := hA0
  rw [Try.params7] at hA hval
  obtain ⟨v0, vs0, d0, ds0, p0, q0, hargs, rfl, rfl, h0, r0⟩ := trodAll_cons hA
  obtain ⟨v1, vs1, d1, ds1, p1, q1, rfl, rfl, rfl, h1, r1⟩ := trodAll_cons r0
  obtain ⟨v2, vs2, d2, ds2, p2, q2, rfl, rfl, rfl, h2, r2⟩ := trodAll_cons r1
  obtain ⟨rfl, rfl, rfl⟩ := trodAll_nil r2
  obtain rfl : args = #[v0, v1, v2] := by cases args; simp_all
  obtain ⟨rfl, rfl⟩ := trodVars_none hV
  have hv0 := hval 0 22 v0 rfl rfl
  have hv1 := hval 1 5 v1 rfl rfl
  have hv2 := hval 2 3 v2 rfl rfl
  obtain ⟨pa, n, c, l, rfl, hl, hc, _⟩ := sl_of_trod (encα := GAsk.enc) Try.underlying22 cells28 hv0 (fun n cs x h => ask_of_trod h) (fun g => rfl) h0
  obtain ⟨at_, rfl, _, _, w1⟩ := open_int Try.underlying5 hv1 h1
  obtain ⟨k1, rfl⟩ := u8_of w1
  obtain ⟨most, rfl, _, _, _⟩ := open_int Try.underlying3 hv2 h2
  exact calls_of_con (args := [_, _, _]) laid rowed full (by kernel_rfl) rfl Try.underlying4 (by kernel_rfl) hW' rfl (pright_con l k1 most pa n c W hl hc)

theorem over : Rows.pullRightRow.holds Try.pinned (OpenSpec.ofChange Rows.pullRightSpec) :=
  OpenClaim.holds_of_wide 7 Try.f7 rfl rfl rfl rfl rfl rfl rfl ⟨rfl, rfl, rfl, rfl, rfl⟩ rfl rfl rfl rfl rfl (by kernel_rfl) Try.func7 (by kernel_rfl)
    (of_decide_eq_true (by kernel_rfl)) (by unfold Func.isWrapper; first | (rw [if_pos (by decide +kernel)]; kernel_rfl) | (rw [if_neg (by decide +kernel)]; exact ⟨rfl, rfl⟩))
    (fun os started H enc _ => lifted os started H enc)

theorem proved : Rows.PullRightSaid := over
#print axioms proved
end Go.Proofs.Ythjgnpelmigbeaa.pullRight
