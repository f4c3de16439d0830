/-
  The shape of a slice of uint32.
-/
import Derived.Test.YtfdhmmjccnmckaaQb
import Derived.Test.YtfdhmmjccnmckaaCa
set_option linter.unusedVariables false
namespace Go.Proofs.Ytfdhmmjccnmckaa
open Go.Eng Go.ChangeShapes Go.WideShapes Go.RowKit
theorem cells47 : Try.prog.cellsOf 47 = 1 := by kernel_rfl
section
variable {H : Type} {enc : TypeId × Value → H} {w : World} {base : Nat} {sp : Nat → Bool} {held : Bool}
theorem u32_of_trod {n : Nat} {cs : List Value} {x : DataW H × List MemPlace} (h : DataW.trod enc Try.prog w base sp held n 47 cs = some x) : ∃ g : UInt32, cs = enc32 g ∧ True := by
  obtain ⟨i0, e0, _, w0⟩ := DataW.trod_int Try.underlying47 h
  obtain ⟨k0, rfl⟩ := u32_of w0
  exact ⟨k0, e0, trivial⟩
theorem u32s_of {v : Value} {d : DataW H} {ps : List MemPlace} {b0 : Nat} (hval : Value.okWide Try.prog w .any b0 23 v) (h : DataW.Trod enc Try.prog w base sp held 23 v d ps) :
    ∃ p n c, ∃ l : List UInt32, v = .slice p n c ∧ Sl w 1 p n c (l.map enc32) ∧ n ≤ 9223372036854775807 := by
  obtain ⟨p, n, c, l, rfl, hs, hcm, hR, _⟩ := sl_of_trodR (encα := enc32) Try.underlying23 cells47 (by omega) hval (fun n cs x h => u32_of_trod h) (fun g => rfl) h
  have := hs.cap
  simp only [maxLen] at hcm
  exact ⟨p, n, c, l, rfl, hs, by omega⟩
end
end Go.Proofs.Ytfdhmmjccnmckaa
