/-
  Part 25 of the proof of Zm: the engine and the walks, in their order.
-/
import Derived.Test.YtcfkcmalkbdphaaZm13
import Derived.Test.YtcfkcmalkbdphaaZm24
set_option linter.unusedSimpArgs false
set_option linter.unusedVariables false
/-
  Opening the arguments: spans, descriptors.
-/
set_option linter.unusedVariables false
namespace Go.Proofs.Ytcfkcmalkbdphaa
open Go.Eng Go.ChangeShapes Go.WideShapes Go.RowKit

theorem cells39 : Try.prog.cellsOf 39 = 2 := by kernel_rfl
theorem cells32 : Try.prog.cellsOf 32 = 4 := by kernel_rfl
theorem cells30 : Try.prog.cellsOf 30 = 1 := by kernel_rfl
theorem cells5 : Try.prog.cellsOf 5 = 1 := by kernel_rfl
theorem cells28 : Try.prog.cellsOf 28 = 1 := by kernel_rfl
theorem cells21 : Try.prog.cellsOf 21 = 1 := by kernel_rfl

section
variable {H : Type} {enc : TypeId × Value → H} {w : World} {base : Nat} {sp : Nat → Bool} {held : Bool}

theorem span_of_trod {n : Nat} {cs : List Value} {x : DataW H × List MemPlace} (h : DataW.trod enc Try.prog w base sp held n 39 cs = some x) : ∃ g : GSpan, cs = g.enc ∧ True := by
  obtain ⟨y0, y1, m, rfl, hl, h0, h1⟩ := Eng.trod_struct2 Try.underlying39 h
  rw [cells39] at hl
  simp only [cells21] at h0 h1
  match cs, hl with
  | [a, b], _ =>
    obtain ⟨i0, e0, _, w0⟩ := DataW.trod_int Try.underlying21 h0
    obtain ⟨i1, e1, _, w1⟩ := DataW.trod_int Try.underlying21 h1
    simp at e0 e1
    exact ⟨⟨i0, i1⟩, by rw [e0, e1]; rfl, trivial⟩

theorem desc_of_trod {n : Nat} {cs : List Value} {x : DataW H × List MemPlace} (h : DataW.trod enc Try.prog w base sp held n 32 cs = some x) : ∃ g : PD, cs = g.enc ∧ (Fl w g ∧ g.n ≤ 9223372036854775807) := by
  obtain ⟨y0, y1, y2, y3, m, rfl, hl, h0, h1, h2, h3⟩ := Eng.trod_struct4 Try.underlying32 h
  rw [cells32] at hl
  simp only [cells5, cells28, cells30] at h0 h1 h2 h3
  match cs, hl with
  | [a, b, c, d], _ =>
    obtain ⟨i0, e0, _, w0⟩ := DataW.trod_int Try.underlying5 h0
    obtain ⟨i1, e1, _, w1⟩ := DataW.trod_int Try.underlying28 h1
    obtain ⟨i2, e2, _, w2⟩ := DataW.trod_int Try.underlying5 h2
    obtain ⟨k0, rfl⟩ := u8_of w0
    obtain ⟨k1, rfl⟩ := u16_of w1
    obtain ⟨k2, rfl⟩ := u8_of w2
    obtain ⟨p, n, c, l, e3, hs, hcm, _, _⟩ := sl_of_cells (encα := GSpan.enc) Try.underlying30 cells39 (by omega) (fun n cs x h => span_of_trod h) (fun g => rfl) h3
    simp at e0 e1 e2 e3
    refine ⟨⟨⟨k0, k1, k2, l⟩, p, n, c⟩, by rw [e0, e1, e2, e3]; rfl, hs, ?_⟩
    have := hs.cap
    simp only [maxLen] at hcm
    simp only
    omega

theorem descs_of {v : Value} {d : DataW H} {ps : List MemPlace} {b0 : Nat} (hval : Value.okWide Try.prog w .any b0 22 v) (h : DataW.Trod enc Try.prog w base sp held 22 v d ps) :
    ∃ p n c l, v = .slice p n c ∧ DL w p n c l ∧ n ≤ 9223372036854775807 ∧ ∀ x ∈ l, x.n ≤ 9223372036854775807 := by
  obtain ⟨p, n, c, l, rfl, hs, hcm, hR, _⟩ := sl_of_trodR (encα := PD.enc) Try.underlying22 cells32 (by omega) hval (fun n cs x h => desc_of_trod h) (fun g => rfl) h
  have := hs.cap
  simp only [maxLen] at hcm
  exact ⟨p, n, c, l, rfl, ⟨hs, fun x hx => (hR x hx).1⟩, by omega, fun x hx => (hR x hx).2⟩

theorem desc_arg {v : Value} {d : DataW H} {ps : List MemPlace} {b0 : Nat} (hval : Value.okWide Try.prog w .any b0 32 v) (h : DataW.Trod enc Try.prog w base sp held 32 v d ps) : ∃ g : PD, v = g.val ∧ Fl w g ∧ g.n ≤ 9223372036854775807 := by
  obtain ⟨cs, rfl, hs⟩ := okWide_struct Try.underlying32 hval
  obtain ⟨n, hn⟩ := h
  obtain ⟨g, hg, hf⟩ := desc_of_trod hn
  refine ⟨g, ?_, hf⟩
  simp only [Value.cells] at hg
  show Value.agg cs = Value.agg _
  congr 1
  rw [← Array.toArray_toList (xs := cs), hg]
  rfl
end
end Go.Proofs.Ytcfkcmalkbdphaa
