/-
  Part 36 of the proof of M7: the engine and the walks, in their order.
-/
import Derived.Test.YtgpmgnbjpfggmaaM717
import Derived.Test.YtgpmgnbjpfggmaaM734
import Derived.Test.YtgpmgnbjpfggmaaM735
set_option linter.unusedSimpArgs false
set_option linter.unusedVariables false
/-
  Opening the arguments: frames, nets.
-/
set_option linter.unusedVariables false
namespace Go.Proofs.Ytgpmgnbjpfggmaa
open Go.Eng Go.ChangeShapes Go.WideShapes Go.RowKit

theorem cells5 : Try.prog.cellsOf 5 = 1 := by kernel_rfl
theorem cells4 : Try.prog.cellsOf 4 = 1 := by kernel_rfl
theorem cells26 : Try.prog.cellsOf 26 = 1 := by kernel_rfl
theorem cells3 : Try.prog.cellsOf 3 = 1 := by kernel_rfl
theorem cells33 : Try.prog.cellsOf 33 = 3 := by kernel_rfl
theorem cells23 : Try.prog.cellsOf 23 = 1 := by kernel_rfl
theorem cells25 : Try.prog.cellsOf 25 = 3 := by kernel_rfl

section
variable {H : Type} {enc : TypeId × Value → H} {w : World} {base : Nat} {sp : Nat → Bool} {held : Bool}

theorem u8_of_trod {n : Nat} {cs : List Value} {x : DataW H × List MemPlace} (h : DataW.trod enc Try.prog w base sp held n 5 cs = some x) : ∃ g : UInt8, HVs w (encBD g) noB cs ∧ True := by
  obtain ⟨i0, rfl, _, w0⟩ := DataW.trod_int Try.underlying5 h
  obtain ⟨k0, rfl⟩ := u8_of w0
  exact ⟨k0, HVs.one (HV.plain rfl), trivial⟩
theorem par_of_trod {n : Nat} {cs : List Value} {x : DataW H × List MemPlace} (h : DataW.trod enc Try.prog w base sp held n 33 cs = some x) : ∃ g : GPar, HVs w g.enc noB cs ∧ g.b.length ≤ 9223372036854775807 := by
  obtain ⟨y0, y1, y2, m, rfl, hl, h0, h1, h2⟩ := Eng.trod_struct3 Try.underlying33 h
  rw [cells33] at hl
  simp only [cells5, cells4, cells26] at h0 h1 h2
  match cs, hl with
  | [a, b, c], _ =>
    obtain ⟨i0, e0, _, w0⟩ := DataW.trod_int Try.underlying5 h0
    obtain ⟨i1, e1, _⟩ := DataW.trod_bool Try.underlying4 h1
    obtain ⟨l, h3, _, h4⟩ := fz_of_cells (encα := encBD) Try.underlying26 cells5 (by omega) (fun _ => rfl) (fun _ => rfl) (fun n cs x h => u8_of_trod h) h2
    obtain ⟨k0, rfl⟩ := u8_of w0
    simp at e0 e1
    subst e0; subst e1
    exact ⟨⟨k0, i1, l⟩, HVs.cons (HV.plain rfl) (HVs.cons (HV.plain rfl) h3), h4⟩
theorem net_arg {v : Value} {d : DataW H} {ps : List MemPlace} {b0 : Nat} (hval : Value.okWide Try.prog w .any b0 25 v) (h : DataW.Trod enc Try.prog w base sp held 25 v d ps) :
    ∃ n : GNet, HV w n.dv noB v ∧ n.l.length ≤ 9223372036854775807 := by
  have hval' := hval
  obtain ⟨cs, rfl, hs⟩ := okWide_struct Try.underlying25 hval
  obtain ⟨n, hn⟩ := h
  obtain ⟨y0, y1, y2, m, _, hl, h0, h1, h2⟩ := Eng.trod_struct3 Try.underlying25 hn
  rw [cells25] at hl
  simp only [Value.cells] at hl h0 h1 h2
  simp only [cells3, cells23] at h0 h1 h2
  have hcs : (Value.agg cs).cells.toList = cs.toList := rfl
  generalize hC : cs.toList = C at hl h0 h1 h2 hcs
  match C, hl with
  | [a, b, c], _ =>
    obtain ⟨i0, e0, _, w0⟩ := DataW.trod_int Try.underlying3 h0
    obtain ⟨i2, e2, _, w2⟩ := DataW.trod_int Try.underlying3 h2
    obtain ⟨l, h3, _, h4⟩ := fz_of_cells (encα := GPar.enc) Try.underlying23 cells33 (by omega) (fun _ => rfl) (fun _ => rfl) (fun n cs x h => par_of_trod h) h1
    simp at e0 e2
    subst e0; subst e2
    refine ⟨⟨i0, l, i2⟩, agg_of_cells Try.underlying25 hval' ?_, h4⟩
    rw [hcs]
    obtain ⟨v1, V1, e, h5, h6⟩ := h3
    cases e
    exact HVs.cons (HV.plain rfl) (HVs.cons h5 (HVs.one (HV.plain rfl)))
theorem bytes_arg {v : Value} {d : DataW H} {ps : List MemPlace} {b0 : Nat} (hval : Value.okWide Try.prog w .any b0 26 v) (h : DataW.Trod enc Try.prog w base sp held 26 v d ps) :
    ∃ b : List UInt8, HV w (bytesD b) noB v ∧ b.length ≤ 9223372036854775807 := by
  obtain ⟨l, h1, _, h2⟩ := fz_of_trod (encα := encBD) Try.underlying26 cells5 (by omega) hval (fun _ => rfl) (fun _ => rfl) (fun n cs x h => u8_of_trod h) h
  exact ⟨l, h1, h2⟩
end
end Go.Proofs.Ytgpmgnbjpfggmaa
