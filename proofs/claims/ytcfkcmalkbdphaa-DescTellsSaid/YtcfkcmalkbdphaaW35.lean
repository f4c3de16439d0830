/-
  Part 35 of the proof of W: the engine and the walks, in their order.
-/
import Derived.Test.YtcfkcmalkbdphaaW29
import Derived.Test.YtcfkcmalkbdphaaW31
import Derived.Test.YtcfkcmalkbdphaaW33
import Derived.Test.YtcfkcmalkbdphaaW34
set_option linter.unusedSimpArgs false
set_option linter.unusedVariables false
/-
  Opening the arguments: descriptors, lists of these, as data.
-/
set_option linter.unusedVariables false
namespace Go.Proofs.Ytcfkcmalkbdphaa.V
open Go.Eng Go.ChangeShapes Go.WideShapes Go.RowKit

theorem cells5 : Try.prog.cellsOf 5 = 1 := by kernel_rfl
theorem cells28 : Try.prog.cellsOf 28 = 1 := by kernel_rfl
theorem cells21 : Try.prog.cellsOf 21 = 1 := by kernel_rfl
theorem cells39 : Try.prog.cellsOf 39 = 2 := by kernel_rfl
theorem cells30 : Try.prog.cellsOf 30 = 1 := by kernel_rfl
theorem cells32 : Try.prog.cellsOf 32 = 4 := by kernel_rfl
theorem cells22 : Try.prog.cellsOf 22 = 1 := by kernel_rfl

section
variable {H : Type} {enc : TypeId × Value → H} {w : World} {base : Nat} {sp : Nat → Bool} {held : Bool}

theorem span_of_trod {n : Nat} {cs : List Value} {x : DataW H × List MemPlace} (h : DataW.trod enc Try.prog w base sp held n 39 cs = some x) : ∃ g : GSpan, HVs w (encS g) noB cs ∧ True := by
  obtain ⟨y0, y1, m, rfl, hl, h0, h1⟩ := Eng.trod_struct2 Try.underlying39 h
  rw [cells39] at hl
  simp only [cells21] at h0 h1
  match cs, hl with
  | [a, b], _ =>
    obtain ⟨i0, e0, _, _⟩ := DataW.trod_int Try.underlying21 h0
    obtain ⟨i1, e1, _, _⟩ := DataW.trod_int Try.underlying21 h1
    simp at e0 e1
    subst e0; subst e1
    exact ⟨⟨i0, i1⟩, HVs.cons (HV.plain rfl) (HVs.one (HV.plain rfl)), trivial⟩
theorem desc_of_trod {n : Nat} {cs : List Value} {x : DataW H × List MemPlace} (h : DataW.trod enc Try.prog w base sp held n 32 cs = some x) : ∃ g : GDesc, HVs w (encDD g) noB cs ∧ g.filter.length ≤ 9223372036854775807 := by
  obtain ⟨y0, y1, y2, y3, m, rfl, hl, h0, h1, h2, h3⟩ := Eng.trod_struct4 Try.underlying32 h
  rw [cells32] at hl
  simp only [cells5, cells28, cells30] at h0 h1 h2 h3
  match cs, hl with
  | [a, b, c, d], _ =>
    obtain ⟨i0, e0, _, w0⟩ := DataW.trod_int Try.underlying5 h0
    obtain ⟨i1, e1, _, w1⟩ := DataW.trod_int Try.underlying28 h1
    obtain ⟨i2, e2, _, w2⟩ := DataW.trod_int Try.underlying5 h2
    obtain ⟨l, h4, _, h5⟩ := fz_of_cells (encα := encS) Try.underlying30 cells39 (by omega) (fun _ => rfl) (fun _ => rfl) (fun n cs x h => span_of_trod h) h3
    obtain ⟨k0, rfl⟩ := u8_of w0
    obtain ⟨k1, rfl⟩ := u16_of w1
    obtain ⟨k2, rfl⟩ := u8_of w2
    simp at e0 e1 e2
    subst e0; subst e1; subst e2
    exact ⟨⟨k0, k1, k2, l⟩, HVs.cons (HV.plain rfl) (HVs.cons (HV.plain rfl) (HVs.cons (HV.plain rfl) h4)), h5⟩
theorem desc_arg {v : Value} {d : DataW H} {ps : List MemPlace} {b0 : Nat} (hval : Value.okWide Try.prog w .any b0 32 v) (h : DataW.Trod enc Try.prog w base sp held 32 v d ps) :
    ∃ g : GDesc, HV w (.agg (encDD g)) noB v ∧ g.filter.length ≤ 9223372036854775807 := by
  obtain ⟨n, hn⟩ := h
  obtain ⟨g, h1, h2⟩ := desc_of_trod hn
  exact ⟨g, agg_of_cells Try.underlying32 hval h1, h2⟩
theorem descs_arg {v : Value} {d : DataW H} {ps : List MemPlace} {b0 : Nat} (hval : Value.okWide Try.prog w .any b0 22 v) (h : DataW.Trod enc Try.prog w base sp held 22 v d ps) :
    ∃ l : List GDesc, HV w (fzD l) noB v ∧ (∀ g ∈ l, g.filter.length ≤ 9223372036854775807) ∧ l.length ≤ 9223372036854775807 :=
  fz_of_trod (encα := encDD) Try.underlying22 cells32 (by omega) hval (fun _ => rfl) (fun _ => rfl) (fun n cs x h => desc_of_trod h) h
end
end Go.Proofs.Ytcfkcmalkbdphaa.V
