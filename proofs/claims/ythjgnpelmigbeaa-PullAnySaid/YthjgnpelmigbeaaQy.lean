/-
  PullAny is true of every input and never panics: in whatever order asks are added, the list is the same; what is added and dropped leaves it as it was; and what is handed in stays. No condition.
-/
import Derived.Test.YthjgnpelmigbeaaPy
import Derived.Test.YthjgnpelmigbeaaQa
set_option linter.unusedVariables false
namespace Go.Proofs.Ythjgnpelmigbeaa.pullAny
open Go.Eng Go.ChangeShapes Go.WideShapes Go.RowKit

theorem bytes28 : Try.prog.bytesOf 28 = 12 := by kernel_rfl
set_option maxRecDepth 100000 in
theorem lifted (os : Os) (started : os.Started) (H : Type) (enc : TypeId × Value → H) :
    ReturnsInHanded {} Try.checked os 4 .any (Rows.pullAnySpec.pre6 enc Try.prog Try.f4 Rows.pullAnyRow.domain false) (Rows.pullAnySpec.post enc Try.prog Try.f4 false true false false) := by
  refine returnsInHanded_of_change_sized (C := Try.checked) own started (by kernel_rfl) Try.func4
    (ChangeSpec.witness6 (enc := enc) (C := Try.checked) false ⟨#[], #[(.slice none 0 0), (.int .u8 0), .agg #[(.int .u8 0),(.int .u16 0),(.int .u32 0),(.int .u8 0),(.int .u8 0)]], []⟩ 8 (by kernel_rfl) (by kernel_rfl) (by kernel_rfl) (by kernel_rfl)) ?_
  intro W base args ds gs before hval0 hW hcnd hsz _
  have hval : ∀ (j : Nat) t v, Try.f4.params[j]? = some t → args[j]? = some v → Value.okWide Try.prog W .any base t v := hval0
  have hW' := hW
  obtain ⟨p, q, hA0, hV, rfl, hfz, hnd⟩ := hW
  have hA : DataW.TrodAll enc Try.prog W 0 (fun _ => true) true Try.f4.params.toList args.toList ds p := hA0
  rw [Try.params4] at hA hval
  obtain ⟨v0, vs0, d0, ds0, p0, q0, hargs, rfl, rfl, h0, r0⟩ := trodAll_cons hA
  obtain ⟨v1, vs1, d1, ds1, p1, q1, rfl, rfl, rfl, h1, r1⟩ := trodAll_cons r0
  obtain ⟨v2, vs2, d2, ds2, p2, q2, rfl, rfl, rfl, h2, r2⟩ := trodAll_cons r1
  obtain ⟨rfl, rfl, rfl⟩ := trodAll_nil r2
  obtain rfl : args = #[v0, v1, v2] := by cases args; simp_all
  obtain ⟨rfl, rfl⟩ := trodVars_none hV
  have hv0 := hval 0 22 v0 rfl rfl
  have hv1 := hval 1 5 v1 rfl rfl
  have hv2 := hval 2 28 v2 rfl rfl
  obtain ⟨pa, n, c, l, rfl, hl, hc, hd⟩ := sl_of_trod (encα := GAsk.enc) Try.underlying22 cells28 hv0 (fun n cs x h => ask_of_trod h) (fun g => rfl) h0
  obtain ⟨at_, rfl, _, _, w1⟩ := open_int Try.underlying5 hv1 h1
  obtain ⟨k1, rfl⟩ := u8_of w1
  obtain ⟨x, rfl⟩ := ask_arg hv2 h2
  have hb : n * 12 ≤ 140737488351232 := by
    rcases hd with ⟨_, rfl⟩ | ⟨xs, rest, rfl, hx⟩
    · omega
    · have := sized_slice (j := 0) (t := 22) hsz rfl rfl Try.underlying22
      rw [show Try.checked.prog = Try.prog from rfl, bytes28] at this
      have h2 : (xs.length + rest.length) * 12 ≤ 140737488351232 := this
      omega
  exact calls_of_con (args := [_, _, _]) laid rowed full (by kernel_rfl) rfl Try.underlying4 (by kernel_rfl) hW' rfl (any_con l k1 x pa n c W hl hb)

theorem over : Rows.pullAnyRow.holds Try.pinned (OpenSpec.ofChange Rows.pullAnySpec) :=
  OpenClaim.holds_of_wide 4 Try.f4 rfl rfl rfl rfl rfl rfl rfl ⟨rfl, rfl, rfl, rfl, rfl⟩ rfl rfl rfl rfl rfl (by kernel_rfl) Try.func4 (by kernel_rfl)
    (of_decide_eq_true (by kernel_rfl)) (by unfold Func.isWrapper; first | (rw [if_pos (by decide +kernel)]; kernel_rfl) | (rw [if_neg (by decide +kernel)]; exact ⟨rfl, rfl⟩))
    (fun os started H enc _ => lifted os started H enc)

theorem proved : Rows.PullAnySaid := over
#print axioms proved
end Go.Proofs.Ythjgnpelmigbeaa.pullAny
