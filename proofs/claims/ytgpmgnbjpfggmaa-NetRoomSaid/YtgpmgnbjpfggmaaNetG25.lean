/-
  NetRoom is true of every input and never panics: with no room each frame that is sent, or doubled, is counted as lost, and none else; with room none is; taken one by one frames come in their order. No condition.
-/
import Derived.Test.YtgpmgnbjpfggmaaNetG22
import Derived.Test.YtgpmgnbjpfggmaaNetG24
set_option linter.unusedSimpArgs false
set_option linter.unusedVariables false
/-
  NetRoom is true of every input and never panics: with no room each frame that is sent, or doubled, is counted as lost, and none else; with room none is; taken one by one frames come in their order. No condition.
-/
set_option linter.unusedVariables false
namespace Go.Proofs.Ytgpmgnbjpfggmaa.netRoom
open Go.Eng Go.ChangeShapes Go.WideShapes Go.RowKit

theorem cells22 : Try.prog.cellsOf 26 = 1 := by kernel_rfl
theorem frames_arg {H : Type} {enc : TypeId × Value → H} {w : World} {base : Nat} {sp : Nat → Bool} {held : Bool} {v : Value} {d : DataW H} {ps : List MemPlace} {b0 : Nat} (hval : Value.okWide Try.prog w .any b0 22 v) (h : DataW.Trod enc Try.prog w base sp held 22 v d ps) :
    ∃ l : List (List UInt8), HV w (.fz 1 (l.map encF)) noB v ∧ (∀ b ∈ l, b.length ≤ 9223372036854775807) ∧ l.length ≤ 9223372036854775807 :=
  fz_of_trod (encα := encF) Try.underlying22 cells22 (by omega) hval (fun _ => rfl) (fun _ => rfl) (fun n cs x h => by
    obtain ⟨l, h3, _, h4⟩ := fz_of_cells (encα := encBD) Try.underlying26 cells5 (by omega) (fun _ => rfl) (fun _ => rfl) (fun n cs x h => u8_of_trod h) h
    exact ⟨l, h3, h4⟩) h

set_option maxRecDepth 100000 in
theorem lifted (os : Os) (started : os.Started) (H : Type) (enc : TypeId × Value → H) :
    ReturnsInHanded {} Try.checked os 3 .any (Rows.netRoomSpec.pre6 enc Try.prog Try.f3 Rows.netRoomRow.domain false) (Rows.netRoomSpec.post enc Try.prog Try.f3 false true false false) := by
  refine returnsInHanded_of_change_sized (C := Try.checked) own started (by kernel_rfl) Try.func3
    (ChangeSpec.witness6 (enc := enc) (C := Try.checked) false ⟨#[], #[(.int .u8 0), (.slice none 0 0)], []⟩ 8 (by kernel_rfl) (by kernel_rfl) (by kernel_rfl) (by kernel_rfl)) ?_
  intro W base args ds gs before hval0 hW hcnd hsz _
  have hval : ∀ (j : Nat) t v, Try.f3.params[j]? = some t → args[j]? = some v → Value.okWide Try.prog W .any base t v := hval0
  have hW' := hW
  obtain ⟨p, q, hA0, hV, rfl, hfz, hnd⟩ := hW
  have hA : DataW.TrodAll enc Try.prog W 0 (fun _ => true) true Try.f3.params.toList args.toList ds p := hA0
  rw [Try.params3] at hA hval
  obtain ⟨v0, vs0, d0, ds0, p0, q0, hargs, rfl, rfl, h0, r0⟩ := trodAll_cons hA
  obtain ⟨v1, vs1, d1, ds1, p1, q1, rfl, rfl, rfl, h1, r1⟩ := trodAll_cons r0
  obtain ⟨rfl, rfl, rfl⟩ := trodAll_nil r1
  obtain rfl : args = #[v0, v1] := by cases args; simp_all
  obtain ⟨rfl, rfl⟩ := trodVars_none hV
  have hv0 := hval 0 5 v0 rfl rfl
  have hv1 := hval 1 22 v1 rfl rfl
  obtain ⟨a0, rfl, _, _, w0⟩ := open_int Try.underlying5 hv0 h0
  obtain ⟨k0, rfl⟩ := u8_of w0
  obtain ⟨fr, hf, hfb, hfn⟩ := frames_arg hv1 h1
  exact calls_of_con (args := [_, _]) laid rowed full (by kernel_rfl) rfl Try.underlying4 (by kernel_rfl) hW' rfl ((nroom_con k0 fr hfn hfb).con (.cons (.plain rfl) (.one hf)))

theorem over : Rows.netRoomRow.holds Try.pinned (OpenSpec.ofChange Rows.netRoomSpec) :=
  OpenClaim.holds_of_wide 3 Try.f3 rfl rfl rfl rfl rfl rfl rfl ⟨rfl, rfl, rfl, rfl, rfl⟩ rfl rfl rfl rfl rfl (by kernel_rfl) Try.func3 (by kernel_rfl)
    (of_decide_eq_true (by kernel_rfl)) (by unfold Func.isWrapper; first | (rw [if_pos (by decide +kernel)]; kernel_rfl) | (rw [if_neg (by decide +kernel)]; exact ⟨rfl, rfl⟩))
    (fun os started H enc _ => lifted os started H enc)

theorem proved : Rows.NetRoomSaid := over
#print axioms proved
end Go.Proofs.Ytgpmgnbjpfggmaa.netRoom
