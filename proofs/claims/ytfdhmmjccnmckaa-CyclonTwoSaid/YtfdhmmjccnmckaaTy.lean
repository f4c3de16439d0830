/-
  Closed facts on the types of the program.
-/
import Derived.Test.YtfdhmmjccnmckaaProg
import Derived.Test.YtfdhmmjccnmckaaEi
namespace Go.Proofs.Ytfdhmmjccnmckaa.Ty
open Go.Eng
theorem mixed : Try.prog.follows .mixedOrders = true := by kernel_rfl
@[go_sem] theorem lay3 : lay Try.prog 3 = some (false, 1) := by kernel_rfl
@[go_sem] theorem zero3 : zeroOf Try.prog 3 = some [(.int .i64 0)] := by kernel_rfl
@[go_sem] theorem intK3 : intK Try.prog 3 = some .i64 := by kernel_rfl
@[go_sem] theorem lay4 : lay Try.prog 4 = some (false, 1) := by kernel_rfl
@[go_sem] theorem zero4 : zeroOf Try.prog 4 = some [(.bool false)] := by kernel_rfl
@[go_sem] theorem und4 : Program.underlying Try.prog 4 = some .bool := by kernel_rfl
@[go_sem] theorem lay5 : lay Try.prog 5 = some (false, 1) := by kernel_rfl
@[go_sem] theorem zero5 : zeroOf Try.prog 5 = some [(.int .u8 0)] := by kernel_rfl
@[go_sem] theorem intK5 : intK Try.prog 5 = some .u8 := by kernel_rfl
@[go_sem] theorem lay21 : lay Try.prog 21 = some (false, 1) := by kernel_rfl
@[go_sem] theorem zero21 : zeroOf Try.prog 21 = some [(.int .i32 0)] := by kernel_rfl
@[go_sem] theorem intK21 : intK Try.prog 21 = some .i32 := by kernel_rfl
@[go_sem] theorem lay22 : lay Try.prog 22 = some (false, 1) := by kernel_rfl
@[go_sem] theorem zero22 : zeroOf Try.prog 22 = some [(.slice none 0 0)] := by kernel_rfl
@[go_sem] theorem esz22 : esz Try.prog 22 = some 4 := by kernel_rfl
@[go_sem] theorem isSl22 : isSl Try.prog 22 = true := by kernel_rfl
@[go_sem] theorem el22 : elemT Try.prog 22 34 4 32 = true := by kernel_rfl
@[go_sem] theorem lay23 : lay Try.prog 23 = some (false, 1) := by kernel_rfl
@[go_sem] theorem zero23 : zeroOf Try.prog 23 = some [(.slice none 0 0)] := by kernel_rfl
@[go_sem] theorem esz23 : esz Try.prog 23 = some 1 := by kernel_rfl
@[go_sem] theorem isSl23 : isSl Try.prog 23 = true := by kernel_rfl
@[go_sem] theorem el23 : elemT Try.prog 23 47 1 4 = true := by kernel_rfl
@[go_sem] theorem lay28 : lay Try.prog 28 = some (false, 1) := by kernel_rfl
@[go_sem] theorem zero28 : zeroOf Try.prog 28 = some [(.int .u16 0)] := by kernel_rfl
@[go_sem] theorem intK28 : intK Try.prog 28 = some .u16 := by kernel_rfl
@[go_sem] theorem lay30 : lay Try.prog 30 = some (true, 2) := by kernel_rfl
@[go_sem] theorem zero30 : zeroOf Try.prog 30 = some [(.int .i32 0),(.int .i32 0)] := by kernel_rfl
@[go_sem] theorem foff30_0 : foff Try.prog 30 0 = some 0 := by kernel_rfl
@[go_sem] theorem fval30_0 : fval Try.prog 30 0 = some (0, false, 1) := by kernel_rfl
@[go_sem] theorem foff30_1 : foff Try.prog 30 1 = some 1 := by kernel_rfl
@[go_sem] theorem fval30_1 : fval Try.prog 30 1 = some (1, false, 1) := by kernel_rfl
@[go_sem] theorem lay31 : lay Try.prog 31 = some (false, 1) := by kernel_rfl
@[go_sem] theorem zero31 : zeroOf Try.prog 31 = some [(.slice none 0 0)] := by kernel_rfl
@[go_sem] theorem esz31 : esz Try.prog 31 = some 2 := by kernel_rfl
@[go_sem] theorem isSl31 : isSl Try.prog 31 = true := by kernel_rfl
@[go_sem] theorem el31 : elemT Try.prog 31 30 2 8 = true := by kernel_rfl
@[go_sem] theorem lay32 : lay Try.prog 32 = some (false, 1) := by kernel_rfl
@[go_sem] theorem zero32 : zeroOf Try.prog 32 = some [(.slice none 0 0)] := by kernel_rfl
@[go_sem] theorem esz32 : esz Try.prog 32 = some 2 := by kernel_rfl
@[go_sem] theorem isSl32 : isSl Try.prog 32 = true := by kernel_rfl
@[go_sem] theorem el32 : elemT Try.prog 32 30 2 8 = true := by kernel_rfl
@[go_sem] theorem lay34 : lay Try.prog 34 = some (true, 4) := by kernel_rfl
@[go_sem] theorem zero34 : zeroOf Try.prog 34 = some [(.int .u8 0),(.int .u16 0),(.int .u8 0),(.slice none 0 0)] := by kernel_rfl
@[go_sem] theorem foff34_0 : foff Try.prog 34 0 = some 0 := by kernel_rfl
@[go_sem] theorem fval34_0 : fval Try.prog 34 0 = some (0, false, 1) := by kernel_rfl
@[go_sem] theorem foff34_1 : foff Try.prog 34 1 = some 1 := by kernel_rfl
@[go_sem] theorem fval34_1 : fval Try.prog 34 1 = some (1, false, 1) := by kernel_rfl
@[go_sem] theorem foff34_2 : foff Try.prog 34 2 = some 2 := by kernel_rfl
@[go_sem] theorem fval34_2 : fval Try.prog 34 2 = some (2, false, 1) := by kernel_rfl
@[go_sem] theorem foff34_3 : foff Try.prog 34 3 = some 3 := by kernel_rfl
@[go_sem] theorem fval34_3 : fval Try.prog 34 3 = some (3, false, 1) := by kernel_rfl
@[go_sem] theorem lay45 : lay Try.prog 45 = some (false, 1) := by kernel_rfl
@[go_sem] theorem zero45 : zeroOf Try.prog 45 = some [(.map none)] := by kernel_rfl
@[go_sem] theorem und45 : Program.underlying Try.prog 45 = some (.map 5 3) := by kernel_rfl
@[go_sem] theorem lay47 : lay Try.prog 47 = some (false, 1) := by kernel_rfl
@[go_sem] theorem zero47 : zeroOf Try.prog 47 = some [(.int .u32 0)] := by kernel_rfl
@[go_sem] theorem intK47 : intK Try.prog 47 = some .u32 := by kernel_rfl
@[go_sem] theorem lay55 : lay Try.prog 55 = some (false, 1) := by kernel_rfl
@[go_sem] theorem zero55 : zeroOf Try.prog 55 = some [.nilFunc] := by kernel_rfl
@[go_sem] theorem lay57 : lay Try.prog 57 = some (false, 1) := by kernel_rfl
@[go_sem] theorem zero57 : zeroOf Try.prog 57 = some [(.int .u64 0)] := by kernel_rfl
@[go_sem] theorem intK57 : intK Try.prog 57 = some .u64 := by kernel_rfl
@[go_sem] theorem lay72 : lay Try.prog 72 = some (false, 1) := by kernel_rfl
@[go_sem] theorem zero72 : zeroOf Try.prog 72 = some [.nilFunc] := by kernel_rfl
@[go_sem] theorem lay74 : lay Try.prog 74 = some (false, 1) := by kernel_rfl
@[go_sem] theorem zero74 : zeroOf Try.prog 74 = some [(.int .u64 0)] := by kernel_rfl
@[go_sem] theorem intK74 : intK Try.prog 74 = some .u64 := by kernel_rfl

theorem bld30_0_1R (a0 : Int) (a1 : Int) (w : World) : (Instr.build 30 #[(0, (.int .i32 a0)), (1, (.int .i32 a1))]).run Try.prog w = .ok (.agg #[(.int .i32 a0), (.int .i32 a1)]) w := by kernel_rfl
@[go_sem] theorem bld30_0_1 {a0 : Int} {a1 : Int} {K : Value → Prop} : AtPure Try.prog (iBuild 30 #[(0, (.int .i32 a0)), (1, (.int .i32 a1))]) K = K (.agg #[(.int .i32 a0), (.int .i32 a1)]) := atPure_of fun w => bld30_0_1R _ _ w
theorem bld34_0_1_2_3R (a0 : Int) (a1 : Int) (a2 : Int) (p3 : Option Addr) (n3 c3 : Nat) (w : World) : (Instr.build 34 #[(0, (.int .u8 a0)), (1, (.int .u16 a1)), (2, (.int .u8 a2)), (3, (.slice p3 n3 c3))]).run Try.prog w = .ok (.agg #[(.int .u8 a0), (.int .u16 a1), (.int .u8 a2), (.slice p3 n3 c3)]) w := by kernel_rfl
@[go_sem] theorem bld34_0_1_2_3 {a0 : Int} {a1 : Int} {a2 : Int} {p3 : Option Addr} {n3 c3 : Nat} {K : Value → Prop} : AtPure Try.prog (iBuild 34 #[(0, (.int .u8 a0)), (1, (.int .u16 a1)), (2, (.int .u8 a2)), (3, (.slice p3 n3 c3))]) K = K (.agg #[(.int .u8 a0), (.int .u16 a1), (.int .u8 a2), (.slice p3 n3 c3)]) := atPure_of fun w => bld34_0_1_2_3R _ _ _ _ _ _ w
theorem bld34_0_1_2R (a0 : Int) (a1 : Int) (a2 : Int) (w : World) : (Instr.build 34 #[(0, (.int .u8 a0)), (1, (.int .u16 a1)), (2, (.int .u8 a2))]).run Try.prog w = .ok (.agg #[(.int .u8 a0), (.int .u16 a1), (.int .u8 a2), (.slice none 0 0)]) w := by kernel_rfl
@[go_sem] theorem bld34_0_1_2 {a0 : Int} {a1 : Int} {a2 : Int} {K : Value → Prop} : AtPure Try.prog (iBuild 34 #[(0, (.int .u8 a0)), (1, (.int .u16 a1)), (2, (.int .u8 a2))]) K = K (.agg #[(.int .u8 a0), (.int .u16 a1), (.int .u8 a2), (.slice none 0 0)]) := atPure_of fun w => bld34_0_1_2R _ _ _ w
theorem bld34_0_1R (a0 : Int) (a1 : Int) (w : World) : (Instr.build 34 #[(0, (.int .u8 a0)), (1, (.int .u16 a1))]).run Try.prog w = .ok (.agg #[(.int .u8 a0), (.int .u16 a1), (.int .u8 0), (.slice none 0 0)]) w := by kernel_rfl
@[go_sem] theorem bld34_0_1 {a0 : Int} {a1 : Int} {K : Value → Prop} : AtPure Try.prog (iBuild 34 #[(0, (.int .u8 a0)), (1, (.int .u16 a1))]) K = K (.agg #[(.int .u8 a0), (.int .u16 a1), (.int .u8 0), (.slice none 0 0)]) := atPure_of fun w => bld34_0_1R _ _ w

theorem eqGuard30 : Try.prog.eqGuardType Try.prog.depth 30 = false := by kernel_rfl
theorem eqRun30 (a0 a1 b0 b1 : Int) (w : World) : (binOp .eql 30 (.agg #[.int .i32 a0, .int .i32 a1]) (.agg #[.int .i32 b0, .int .i32 b1])).run Try.prog w = .ok (.bool (a0 == b0 && (a1 == b1))) w := by
  go_simp
  by_cases h0 : a0 = b0 <;> by_cases h1 : a1 = b1 <;> simp [*]
theorem neRun30 (a0 a1 b0 b1 : Int) (w : World) : (binOp .neq 30 (.agg #[.int .i32 a0, .int .i32 a1]) (.agg #[.int .i32 b0, .int .i32 b1])).run Try.prog w = .ok (.bool (!(a0 == b0 && (a1 == b1)))) w := by
  go_simp
  by_cases h0 : a0 = b0 <;> by_cases h1 : a1 = b1 <;> simp [*]
@[go_sem] theorem eql30 {a0 a1 b0 b1 : Int} {y z : Operand} {K : Value → Prop} : AtPure Try.prog (binS .eql 30 y z (.agg #[.int .i32 a0, .int .i32 a1]) (.agg #[.int .i32 b0, .int .i32 b1])) K = K (.bool (a0 == b0 && (a1 == b1))) :=
  atPure_of fun w => by simp only [binS, eqGuard, Sem.run_bind, Sem.run_pure, Result.andThen_ok, Bool.not_true, Bool.false_eq_true, if_false, run_program, eqGuard30, Bool.not_false, if_true, eqRun30]
@[go_sem] theorem neq30 {a0 a1 b0 b1 : Int} {y z : Operand} {K : Value → Prop} : AtPure Try.prog (binS .neq 30 y z (.agg #[.int .i32 a0, .int .i32 a1]) (.agg #[.int .i32 b0, .int .i32 b1])) K = K (.bool (!(a0 == b0 && (a1 == b1)))) :=
  atPure_of fun w => by simp only [binS, eqGuard, Sem.run_bind, Sem.run_pure, Result.andThen_ok, Bool.not_true, Bool.false_eq_true, if_false, run_program, eqGuard30, Bool.not_false, if_true, neRun30]

end Go.Proofs.Ytfdhmmjccnmckaa.Ty
