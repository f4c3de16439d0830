/-
  Part 12 of the proof of Ap: the engine and the walks, in their order.
-/
import Derived.Test.YtcaobkpfafcnjaaAp5
set_option linter.unusedSimpArgs false
set_option linter.unusedVariables false
/-
  Spans and descriptors, as plain data.
-/
set_option linter.unusedSimpArgs false
set_option linter.unusedVariables false
set_option maxRecDepth 10000
namespace Go.Eng

structure GSpan where
  a : Int
  b : Int
deriving DecidableEq

def GSpan.enc (x : GSpan) : List Value := [.int .i32 x.a, .int .i32 x.b]
def GSpan.val (x : GSpan) : Value := .agg #[.int .i32 x.a, .int .i32 x.b]
theorem GSpan.cells (x : GSpan) : x.val.cells.toList = x.enc := rfl

structure GDesc where
  node : UInt8
  inc : UInt16
  age : UInt8
  filter : List GSpan
deriving DecidableEq

theorem eqB_span {x y : GSpan} : (x.a == y.a && (x.b == y.b)) = decide (x = y) := by
  rw [Bool.eq_iff_iff]
  simp only [Bool.and_eq_true, beq_iff_eq, decide_eq_true_eq]
  cases x; cases y
  simp
attribute [go_sem] eqB_span
theorem u8_beq (x y : UInt8) : ((x.toNat : Int) == (y.toNat : Int)) = decide (x = y) := by
  rw [Bool.eq_iff_iff]
  simp only [beq_iff_eq, decide_eq_true_eq]
  rw [← UInt8.toNat_inj]
  omega
theorem u16_beq (x y : UInt16) : ((x.toNat : Int) == (y.toNat : Int)) = decide (x = y) := by
  rw [Bool.eq_iff_iff]
  simp only [beq_iff_eq, decide_eq_true_eq]
  rw [← UInt16.toNat_inj]
  omega
theorem u8_bne (x y : UInt8) : ((x.toNat : Int) != (y.toNat : Int)) = !decide (x = y) := by rw [← u8_beq]; rfl
theorem u16_bne (x y : UInt16) : ((x.toNat : Int) != (y.toNat : Int)) = !decide (x = y) := by rw [← u16_beq]; rfl
theorem u16_eq0 (x : UInt16) : ((x.toNat : Int) == 0) = decide (x = 0) := u16_beq x 0
theorem u8_lt (x y : UInt8) : ((x.toNat : Int) < (y.toNat : Int)) ↔ x < y := by rw [UInt8.lt_iff_toNat_lt]; omega
theorem u8_le (x y : UInt8) : ((x.toNat : Int) ≤ (y.toNat : Int)) ↔ x ≤ y := by rw [UInt8.le_iff_toNat_le]; omega
theorem u16_lt (x y : UInt16) : ((x.toNat : Int) < (y.toNat : Int)) ↔ x < y := by rw [UInt16.lt_iff_toNat_lt]; omega

end Go.Eng
