/-
  Closed facts on the types of the program.
-/
import Derived.Test.YthjgnpelmigbeaaProg
import Derived.Test.YthjgnpelmigbeaaEi
namespace Go.Proofs.Ythjgnpelmigbeaa.Ty
open Go.Eng
theorem mixed : Try.prog.follows .mixedOrders = true := by kernel_rfl
@[go_sem] theorem lay3 : lay Try.prog 3 = some (false, 1) := by kernel_rfl
@[go_sem] theorem zero3 : zeroOf Try.prog 3 = some [(.int .i64 0)] := by kernel_rfl
@[go_sem] theorem intK3 : intK Try.prog 3 = some .i64 := by kernel_rfl
@[go_sem] theorem lay4 : lay Try.prog 4 = some (false, 1) := by kernel_rfl
@[go_sem] theorem zero4 : zeroOf Try.prog 4 = some [(.bool false)] := by kernel_rfl
@[go_sem] theorem und4 : Program.underlying Try.prog 4 = some .bool := by kernel_rfl
@[go_sem] theorem lay5 : lay Try.prog 5 = some (false, 1) := by kernel_rfl
@[go_sem] theorem zero5 : zeroOf Try.prog 5 = some [(.int .u8 0)] := by kernel_rfl
@[go_sem] theorem intK5 : intK Try.prog 5 = some .u8 := by kernel_rfl
@[go_sem] theorem lay22 : lay Try.prog 22 = some (false, 1) := by kernel_rfl
@[go_sem] theorem zero22 : zeroOf Try.prog 22 = some [(.slice none 0 0)] := by kernel_rfl
@[go_sem] theorem esz22 : esz Try.prog 22 = some 5 := by kernel_rfl
@[go_sem] theorem isSl22 : isSl Try.prog 22 = true := by kernel_rfl
@[go_sem] theorem el22 : elemT Try.prog 22 28 5 12 = true := by kernel_rfl
@[go_sem] theorem lay23 : lay Try.prog 23 = some (false, 1) := by kernel_rfl
@[go_sem] theorem zero23 : zeroOf Try.prog 23 = some [(.int .u16 0)] := by kernel_rfl
@[go_sem] theorem intK23 : intK Try.prog 23 = some .u16 := by kernel_rfl
@[go_sem] theorem lay24 : lay Try.prog 24 = some (false, 1) := by kernel_rfl
@[go_sem] theorem zero24 : zeroOf Try.prog 24 = some [(.int .u32 0)] := by kernel_rfl
@[go_sem] theorem intK24 : intK Try.prog 24 = some .u32 := by kernel_rfl
@[go_sem] theorem lay26 : lay Try.prog 26 = some (true, 3) := by kernel_rfl
@[go_sem] theorem zero26 : zeroOf Try.prog 26 = some [(.int .u8 0),(.int .u16 0),(.int .u32 0)] := by kernel_rfl
@[go_sem] theorem foff26_0 : foff Try.prog 26 0 = some 0 := by kernel_rfl
@[go_sem] theorem fval26_0 : fval Try.prog 26 0 = some (0, false, 1) := by kernel_rfl
@[go_sem] theorem foff26_1 : foff Try.prog 26 1 = some 1 := by kernel_rfl
@[go_sem] theorem fval26_1 : fval Try.prog 26 1 = some (1, false, 1) := by kernel_rfl
@[go_sem] theorem foff26_2 : foff Try.prog 26 2 = some 2 := by kernel_rfl
@[go_sem] theorem fval26_2 : fval Try.prog 26 2 = some (2, false, 1) := by kernel_rfl
@[go_sem] theorem lay28 : lay Try.prog 28 = some (true, 5) := by kernel_rfl
@[go_sem] theorem zero28 : zeroOf Try.prog 28 = some [(.int .u8 0),(.int .u16 0),(.int .u32 0),(.int .u8 0),(.int .u8 0)] := by kernel_rfl
@[go_sem] theorem foff28_0 : foff Try.prog 28 0 = some 0 := by kernel_rfl
@[go_sem] theorem fval28_0 : fval Try.prog 28 0 = some (0, true, 3) := by kernel_rfl
@[go_sem] theorem foff28_1 : foff Try.prog 28 1 = some 3 := by kernel_rfl
@[go_sem] theorem fval28_1 : fval Try.prog 28 1 = some (3, false, 1) := by kernel_rfl
@[go_sem] theorem foff28_2 : foff Try.prog 28 2 = some 4 := by kernel_rfl
@[go_sem] theorem fval28_2 : fval Try.prog 28 2 = some (4, false, 1) := by kernel_rfl
@[go_sem] theorem lay29 : lay Try.prog 29 = some (false, 1) := by kernel_rfl
@[go_sem] theorem zero29 : zeroOf Try.prog 29 = some [(.int .i64 0)] := by kernel_rfl
@[go_sem] theorem intK29 : intK Try.prog 29 = some .i64 := by kernel_rfl
@[go_sem] theorem lay32 : lay Try.prog 32 = some (false, 1) := by kernel_rfl
@[go_sem] theorem zero32 : zeroOf Try.prog 32 = some [(.map none)] := by kernel_rfl
@[go_sem] theorem und32 : Program.underlying Try.prog 32 = some (.map 26 3) := by kernel_rfl
@[go_sem] theorem lay33 : lay Try.prog 33 = some (false, 1) := by kernel_rfl
@[go_sem] theorem zero33 : zeroOf Try.prog 33 = some [(.slice none 0 0)] := by kernel_rfl
@[go_sem] theorem esz33 : esz Try.prog 33 = some 3 := by kernel_rfl
@[go_sem] theorem isSl33 : isSl Try.prog 33 = true := by kernel_rfl
@[go_sem] theorem el33 : elemT Try.prog 33 26 3 8 = true := by kernel_rfl
@[go_sem] theorem lay48 : lay Try.prog 48 = some (false, 1) := by kernel_rfl
@[go_sem] theorem zero48 : zeroOf Try.prog 48 = some [(.slice none 0 0)] := by kernel_rfl
@[go_sem] theorem esz48 : esz Try.prog 48 = some 6 := by kernel_rfl
@[go_sem] theorem isSl48 : isSl Try.prog 48 = true := by kernel_rfl
@[go_sem] theorem el48 : elemT Try.prog 48 50 6 16 = true := by kernel_rfl
@[go_sem] theorem lay50 : lay Try.prog 50 = some (true, 6) := by kernel_rfl
@[go_sem] theorem zero50 : zeroOf Try.prog 50 = some [(.int .u8 0),(.int .u8 0),(.int .u16 0),(.int .u32 0),(.int .u8 0),(.int .u8 0)] := by kernel_rfl
@[go_sem] theorem foff50_0 : foff Try.prog 50 0 = some 0 := by kernel_rfl
@[go_sem] theorem fval50_0 : fval Try.prog 50 0 = some (0, false, 1) := by kernel_rfl
@[go_sem] theorem foff50_1 : foff Try.prog 50 1 = some 1 := by kernel_rfl
@[go_sem] theorem fval50_1 : fval Try.prog 50 1 = some (1, true, 5) := by kernel_rfl
@[go_sem] theorem lay59 : lay Try.prog 59 = some (false, 1) := by kernel_rfl
@[go_sem] theorem zero59 : zeroOf Try.prog 59 = some [.nilFunc] := by kernel_rfl
@[go_sem] theorem lay64 : lay Try.prog 64 = some (false, 1) := by kernel_rfl
@[go_sem] theorem zero64 : zeroOf Try.prog 64 = some [.nilFunc] := by kernel_rfl

theorem bld26_1_2R (a1 : Int) (a2 : Int) (w : World) : (Instr.build 26 #[(1, (.int .u16 a1)), (2, (.int .u32 a2))]).run Try.prog w = .ok (.agg #[(.int .u8 0), (.int .u16 a1), (.int .u32 a2)]) w := by kernel_rfl
@[go_sem] theorem bld26_1_2 {a1 : Int} {a2 : Int} {K : Value → Prop} : AtPure Try.prog (iBuild 26 #[(1, (.int .u16 a1)), (2, (.int .u32 a2))]) K = K (.agg #[(.int .u8 0), (.int .u16 a1), (.int .u32 a2)]) := atPure_of fun w => bld26_1_2R _ _ w
theorem bld26_0_1_2R (a0 : Int) (a1 : Int) (a2 : Int) (w : World) : (Instr.build 26 #[(0, (.int .u8 a0)), (1, (.int .u16 a1)), (2, (.int .u32 a2))]).run Try.prog w = .ok (.agg #[(.int .u8 a0), (.int .u16 a1), (.int .u32 a2)]) w := by kernel_rfl
@[go_sem] theorem bld26_0_1_2 {a0 : Int} {a1 : Int} {a2 : Int} {K : Value → Prop} : AtPure Try.prog (iBuild 26 #[(0, (.int .u8 a0)), (1, (.int .u16 a1)), (2, (.int .u32 a2))]) K = K (.agg #[(.int .u8 a0), (.int .u16 a1), (.int .u32 a2)]) := atPure_of fun w => bld26_0_1_2R _ _ _ w
theorem bld28_0_1_2R (a0 : Int) (a1 : Int) (a2 : Int) (a3 : Int) (a4 : Int) (w : World) : (Instr.build 28 #[(0, .agg #[(.int .u8 a0), (.int .u16 a1), (.int .u32 a2)]), (1, (.int .u8 a3)), (2, (.int .u8 a4))]).run Try.prog w = .ok (.agg #[(.int .u8 a0), (.int .u16 a1), (.int .u32 a2), (.int .u8 a3), (.int .u8 a4)]) w := by kernel_rfl
@[go_sem] theorem bld28_0_1_2 {a0 : Int} {a1 : Int} {a2 : Int} {a3 : Int} {a4 : Int} {K : Value → Prop} : AtPure Try.prog (iBuild 28 #[(0, .agg #[(.int .u8 a0), (.int .u16 a1), (.int .u32 a2)]), (1, (.int .u8 a3)), (2, (.int .u8 a4))]) K = K (.agg #[(.int .u8 a0), (.int .u16 a1), (.int .u32 a2), (.int .u8 a3), (.int .u8 a4)]) := atPure_of fun w => bld28_0_1_2R _ _ _ _ _ w

theorem eqGuard26 : Try.prog.eqGuardType Try.prog.depth 26 = false := by kernel_rfl
theorem eqRun26 (a0 a1 a2 b0 b1 b2 : Int) (w : World) : (binOp .eql 26 (.agg #[.int .u8 a0, .int .u16 a1, .int .u32 a2]) (.agg #[.int .u8 b0, .int .u16 b1, .int .u32 b2])).run Try.prog w = .ok (.bool (a0 == b0 && (a1 == b1 && (a2 == b2)))) w := by
  go_simp
  by_cases h0 : a0 = b0 <;> by_cases h1 : a1 = b1 <;> by_cases h2 : a2 = b2 <;> simp [*]
theorem neRun26 (a0 a1 a2 b0 b1 b2 : Int) (w : World) : (binOp .neq 26 (.agg #[.int .u8 a0, .int .u16 a1, .int .u32 a2]) (.agg #[.int .u8 b0, .int .u16 b1, .int .u32 b2])).run Try.prog w = .ok (.bool (!(a0 == b0 && (a1 == b1 && (a2 == b2))))) w := by
  go_simp
  by_cases h0 : a0 = b0 <;> by_cases h1 : a1 = b1 <;> by_cases h2 : a2 = b2 <;> simp [*]
@[go_sem] theorem eql26 {a0 a1 a2 b0 b1 b2 : Int} {y z : Operand} {K : Value → Prop} : AtPure Try.prog (binS .eql 26 y z (.agg #[.int .u8 a0, .int .u16 a1, .int .u32 a2]) (.agg #[.int .u8 b0, .int .u16 b1, .int .u32 b2])) K = K (.bool (a0 == b0 && (a1 == b1 && (a2 == b2)))) :=
  atPure_of fun w => by simp only [binS, eqGuard, Sem.run_bind, Sem.run_pure, Result.andThen_ok, Bool.not_true, Bool.false_eq_true, if_false, run_program, eqGuard26, Bool.not_false, if_true, eqRun26]
@[go_sem] theorem neq26 {a0 a1 a2 b0 b1 b2 : Int} {y z : Operand} {K : Value → Prop} : AtPure Try.prog (binS .neq 26 y z (.agg #[.int .u8 a0, .int .u16 a1, .int .u32 a2]) (.agg #[.int .u8 b0, .int .u16 b1, .int .u32 b2])) K = K (.bool (!(a0 == b0 && (a1 == b1 && (a2 == b2))))) :=
  atPure_of fun w => by simp only [binS, eqGuard, Sem.run_bind, Sem.run_pure, Result.andThen_ok, Bool.not_true, Bool.false_eq_true, if_false, run_program, eqGuard26, Bool.not_false, if_true, neRun26]
theorem eqGuard28 : Try.prog.eqGuardType Try.prog.depth 28 = false := by kernel_rfl
theorem eqRun28 (a0 a1 a2 a3 a4 b0 b1 b2 b3 b4 : Int) (w : World) : (binOp .eql 28 (.agg #[.int .u8 a0, .int .u16 a1, .int .u32 a2, .int .u8 a3, .int .u8 a4]) (.agg #[.int .u8 b0, .int .u16 b1, .int .u32 b2, .int .u8 b3, .int .u8 b4])).run Try.prog w = .ok (.bool (a0 == b0 && (a1 == b1 && (a2 == b2 && (a3 == b3 && (a4 == b4)))))) w := by
  go_simp
  by_cases h0 : a0 = b0 <;> by_cases h1 : a1 = b1 <;> by_cases h2 : a2 = b2 <;> by_cases h3 : a3 = b3 <;> by_cases h4 : a4 = b4 <;> simp [*]
theorem neRun28 (a0 a1 a2 a3 a4 b0 b1 b2 b3 b4 : Int) (w : World) : (binOp .neq 28 (.agg #[.int .u8 a0, .int .u16 a1, .int .u32 a2, .int .u8 a3, .int .u8 a4]) (.agg #[.int .u8 b0, .int .u16 b1, .int .u32 b2, .int .u8 b3, .int .u8 b4])).run Try.prog w = .ok (.bool (!(a0 == b0 && (a1 == b1 && (a2 == b2 && (a3 == b3 && (a4 == b4))))))) w := by
  go_simp
  by_cases h0 : a0 = b0 <;> by_cases h1 : a1 = b1 <;> by_cases h2 : a2 = b2 <;> by_cases h3 : a3 = b3 <;> by_cases h4 : a4 = b4 <;> simp [*]
@[go_sem] theorem eql28 {a0 a1 a2 a3 a4 b0 b1 b2 b3 b4 : Int} {y z : Operand} {K : Value → Prop} : AtPure Try.prog (binS .eql 28 y z (.agg #[.int .u8 a0, .int .u16 a1, .int .u32 a2, .int .u8 a3, .int .u8 a4]) (.agg #[.int .u8 b0, .int .u16 b1, .int .u32 b2, .int .u8 b3, .int .u8 b4])) K = K (.bool (a0 == b0 && (a1 == b1 && (a2 == b2 && (a3 == b3 && (a4 == b4)))))) :=
  atPure_of fun w => by simp only [binS, eqGuard, Sem.run_bind, Sem.run_pure, Result.andThen_ok, Bool.not_true, Bool.false_eq_true, if_false, run_program, eqGuard28, Bool.not_false, if_true, eqRun28]
@[go_sem] theorem neq28 {a0 a1 a2 a3 a4 b0 b1 b2 b3 b4 : Int} {y z : Operand} {K : Value → Prop} : AtPure Try.prog (binS .neq 28 y z (.agg #[.int .u8 a0, .int .u16 a1, .int .u32 a2, .int .u8 a3, .int .u8 a4]) (.agg #[.int .u8 b0, .int .u16 b1, .int .u32 b2, .int .u8 b3, .int .u8 b4])) K = K (.bool (!(a0 == b0 && (a1 == b1 && (a2 == b2 && (a3 == b3 && (a4 == b4))))))) :=
  atPure_of fun w => by simp only [binS, eqGuard, Sem.run_bind, Sem.run_pure, Result.andThen_ok, Bool.not_true, Bool.false_eq_true, if_false, run_program, eqGuard28, Bool.not_false, if_true, neRun28]

end Go.Proofs.Ythjgnpelmigbeaa.Ty
