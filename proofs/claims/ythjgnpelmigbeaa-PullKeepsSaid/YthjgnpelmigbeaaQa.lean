/-
  Opening the arguments: ids, asks.
-/
import Derived.Test.YthjgnpelmigbeaaDa
import Derived.Test.YthjgnpelmigbeaaTy
import Derived.Test.YthjgnpelmigbeaaFr
import Derived.Test.YthjgnpelmigbeaaRows
set_option linter.unusedVariables false
namespace Go.Proofs.Ythjgnpelmigbeaa
open Go.Eng Go.ChangeShapes Go.WideShapes Go.RowKit

theorem u8_of {n : Int} (h : (Lit.int .u8 n).wf = true) : ∃ x : UInt8, n = x.toNat := by
  have hx : 0 ≤ n ∧ n ≤ 255 := by simpa [Lit.wf, IntKind.min, IntKind.max, IntKind.signed, IntKind.bits] using h
  refine ⟨UInt8.ofNat n.toNat, ?_⟩
  rw [UInt8.toNat_ofNat']
  omega
theorem u16_of {n : Int} (h : (Lit.int .u16 n).wf = true) : ∃ x : UInt16, n = x.toNat := by
  have hx : 0 ≤ n ∧ n ≤ 65535 := by simpa [Lit.wf, IntKind.min, IntKind.max, IntKind.signed, IntKind.bits] using h
  refine ⟨UInt16.ofNat n.toNat, ?_⟩
  rw [UInt16.toNat_ofNat']
  omega
theorem u32_of {n : Int} (h : (Lit.int .u32 n).wf = true) : ∃ x : UInt32, n = x.toNat := by
  have hx : 0 ≤ n ∧ n ≤ 4294967295 := by simpa [Lit.wf, IntKind.min, IntKind.max, IntKind.signed, IntKind.bits] using h
  refine ⟨UInt32.ofNat n.toNat, ?_⟩
  rw [UInt32.toNat_ofNat']
  omega

theorem cells26 : Try.prog.cellsOf 26 = 3 := by kernel_rfl
theorem cells28 : Try.prog.cellsOf 28 = 5 := by kernel_rfl
theorem cells5 : Try.prog.cellsOf 5 = 1 := by kernel_rfl
theorem cells23 : Try.prog.cellsOf 23 = 1 := by kernel_rfl
theorem cells24 : Try.prog.cellsOf 24 = 1 := by kernel_rfl

section
variable {H : Type} {enc : TypeId × Value → H} {w : World} {base : Nat} {sp : Nat → Bool} {held : Bool}

theorem id_of_trod {n : Nat} {cs : List Value} {x : DataW H × List MemPlace} (h : DataW.trod enc Try.prog w base sp held n 26 cs = some x) : ∃ g : GID, cs = g.enc := by
  obtain ⟨y0, y1, y2, m, rfl, hl, h0, h1, h2⟩ := Go.Deep.trod_struct3 Try.underlying26 h
  rw [cells26] at hl
  simp only [cells5, cells23, cells24] at h0 h1 h2
  match cs, hl with
  | [a, b, c], _ =>
    obtain ⟨i0, e0, _, w0⟩ := DataW.trod_int Try.underlying5 h0
    obtain ⟨i1, e1, _, w1⟩ := DataW.trod_int Try.underlying23 h1
    obtain ⟨i2, e2, _, w2⟩ := DataW.trod_int Try.underlying24 h2
    obtain ⟨k0, rfl⟩ := u8_of w0
    obtain ⟨k1, rfl⟩ := u16_of w1
    obtain ⟨k2, rfl⟩ := u32_of w2
    simp at e0 e1 e2
    exact ⟨⟨k0, k1, k2⟩, by rw [e0, e1, e2]; rfl⟩

theorem ask_of_trod {n : Nat} {cs : List Value} {x : DataW H × List MemPlace} (h : DataW.trod enc Try.prog w base sp held n 28 cs = some x) : ∃ g : GAsk, cs = g.enc := by
  obtain ⟨y0, y1, y2, m, rfl, hl, h0, h1, h2⟩ := Go.Deep.trod_struct3 Try.underlying28 h
  rw [cells28] at hl
  simp only [cells5, cells26] at h0 h1 h2
  match cs, hl with
  | [a, b, c, d, e], _ =>
    obtain ⟨g, eg⟩ := id_of_trod h0
    obtain ⟨i1, e1, _, w1⟩ := DataW.trod_int Try.underlying5 h1
    obtain ⟨i2, e2, _, w2⟩ := DataW.trod_int Try.underlying5 h2
    obtain ⟨k1, rfl⟩ := u8_of w1
    obtain ⟨k2, rfl⟩ := u8_of w2
    simp [GID.enc] at eg e1 e2
    obtain ⟨ea, eb, ec⟩ := eg
    exact ⟨⟨g, k1, k2⟩, by rw [ea, eb, ec, e1, e2]; rfl⟩

theorem ask_arg {v : Value} {d : DataW H} {ps : List MemPlace} {b0 : Nat} (hval : Value.okWide Try.prog w .any b0 28 v) (h : DataW.Trod enc Try.prog w base sp held 28 v d ps) : ∃ g : GAsk, v = g.val := by
  obtain ⟨cs, rfl, hs⟩ := okWide_struct Try.underlying28 hval
  obtain ⟨n, hn⟩ := h
  obtain ⟨g, hg⟩ := ask_of_trod hn
  refine ⟨g, ?_⟩
  simp only [Value.cells] at hg
  show Value.agg cs = Value.agg _
  congr 1
  rw [← Array.toArray_toList (xs := cs), hg]
  rfl
end

theorem own : ownKnob Try.prog.godebug = none := by kernel_rfl
theorem laid : laidOutB Try.prog = true := by kernel_rfl
theorem rowed : mapsRowed Try.prog = true := by kernel_rfl
theorem full : ((List.range Try.prog.types.size).all fun t => match Try.prog.underlying t with | some (.slice e) => decide (0 < Try.prog.cellsOf e) | _ => true) = true := by kernel_rfl

end Go.Proofs.Ythjgnpelmigbeaa
