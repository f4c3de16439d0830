/-
  PullKeeps is true of every input and never panics: whatever is added, dropped, ticked, a list stays right, and has just those that were added, are not dropped, and did not run out. No condition.
-/
import Derived.Test.YthjgnpelmigbeaaPu
import Derived.Test.YthjgnpelmigbeaaQa
set_option linter.unusedVariables false
namespace Go.Proofs.Ythjgnpelmigbeaa.pullKeeps
open Go.Eng Go.ChangeShapes Go.WideShapes Go.RowKit

theorem cells50 : Try.prog.cellsOf 50 = 6 := by kernel_rfl
section
variable {H : Type} {enc : TypeId × Value → H} {w : World} {base : Nat} {sp : Nat → Bool} {held : Bool}
theorem op_of_trod {n : Nat} {cs : List Value} {x : DataW H × List MemPlace} (h : DataW.trod enc Try.prog w base sp held n 50 cs = some x) : ∃ g : GOp18, cs = g.enc := by
  obtain ⟨y0, y1, m, rfl, hl, h0, h1⟩ := Eng.trod_struct2 Try.underlying50 h
  rw [cells50] at hl
  simp only [cells5, cells28] at h0 h1
  match cs, hl with
  | [a, b, c, d, e, f], _ =>
    obtain ⟨i0, e0, _, w0⟩ := DataW.trod_int Try.underlying5 h0
    obtain ⟨k0, rfl⟩ := u8_of w0
    obtain ⟨g, eg⟩ := ask_of_trod h1
    simp at e0
    simp [GAsk.enc] at eg
    obtain ⟨rfl, rfl, rfl, rfl, rfl⟩ := eg
    exact ⟨⟨k0, g⟩, by rw [e0]; rfl⟩
end

set_option maxRecDepth 100000 in
theorem lifted (os : Os) (started : os.Started) (H : Type) (enc : TypeId × Value → H) :
    ReturnsInHanded {} Try.checked os 6 .any (Rows.pullKeepsSpec.pre6 enc Try.prog Try.f6 Rows.pullKeepsRow.domain false) (Rows.pullKeepsSpec.post enc Try.prog Try.f6 false true false false) := by
  refine returnsInHanded_of_change_sized (C := Try.checked) own started (by kernel_rfl) Try.func6
    (ChangeSpec.witness6 (enc := enc) (C := Try.checked) false ⟨#[], #[(.int .u8 0), (.slice none 0 0)], []⟩ 8 (by kernel_rfl) (by kernel_rfl) (by kernel_rfl) (by kernel_rfl)) ?_
  intro W base args ds gs before hval0 hW hcnd hsz _
  have hval : ∀ (j : Nat) t v, Try.f6.params[j]? = some t → args[j]? = some v → Value.okWide Try.prog W .any base t v := hval0
  have hW' := hW
  obtain ⟨p, q, hA0, hV, rfl, hfz, hnd⟩ := hW
  have hA : DataW.TrodAll enc Try.prog W 0 (fun _ => true) true Try.f6.params.toList args.toList ds p := hA0
  rw [Try.params6] at hA hval
  obtain ⟨v0, vs0, d0, ds0, p0, q0, hargs, rfl, rfl, h0, r0⟩ := trodAll_cons hA
  obtain ⟨v1, vs1, d1, ds1, p1, q1, rfl, rfl, rfl, h1, r1⟩ := trodAll_cons r0
  obtain ⟨rfl, rfl, rfl⟩ := trodAll_nil r1
  obtain rfl : args = #[v0, v1] := by cases args; simp_all
  obtain ⟨rfl, rfl⟩ := trodVars_none hV
  have hv0 := hval 0 5 v0 rfl rfl
  have hv1 := hval 1 48 v1 rfl rfl
  obtain ⟨at_, rfl, _, _, w0⟩ := open_int Try.underlying5 hv0 h0
  obtain ⟨k0, rfl⟩ := u8_of w0
  obtain ⟨pa, n, c, l, rfl, hl, hc, hd⟩ := sl_of_trod (encα := GOp18.enc) Try.underlying48 cells50 hv1 (fun n cs x h => op_of_trod h) (fun g => rfl) h1
  exact calls_of_con (args := [_, _]) laid rowed full (by kernel_rfl) rfl Try.underlying4 (by kernel_rfl) hW' rfl (keeps_con k0 l pa n c W hl hc)

theorem over : Rows.pullKeepsRow.holds Try.pinned (OpenSpec.ofChange Rows.pullKeepsSpec) :=
  OpenClaim.holds_of_wide 6 Try.f6 rfl rfl rfl rfl rfl rfl rfl ⟨rfl, rfl, rfl, rfl, rfl⟩ rfl rfl rfl rfl rfl (by kernel_rfl) Try.func6 (by kernel_rfl)
    (of_decide_eq_true (by kernel_rfl)) (by unfold Func.isWrapper; first | (rw [if_pos (by decide +kernel)]; kernel_rfl) | (rw [if_neg (by decide +kernel)]; exact ⟨rfl, rfl⟩))
    (fun os started H enc _ => lifted os started H enc)

theorem proved : Rows.PullKeepsSaid := over
#print axioms proved
end Go.Proofs.Ythjgnpelmigbeaa.pullKeeps
