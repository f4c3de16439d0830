/-
  Part 18 of the proof of Ap: the engine and the walks, in their order.
-/
import Derived.Test.YtcaobkpfafcnjaaAp7
import Derived.Test.YtcaobkpfafcnjaaProg
set_option linter.unusedSimpArgs false
set_option linter.unusedVariables false
/-
  Closed facts on the types of the program.
-/
namespace Go.Proofs.Ytcaobkpfafcnjaa.Ty
open Go.Eng
theorem mixed : Try.prog.follows .mixedOrders = true := by kernel_rfl
@[go_sem] theorem lay3 : lay Try.prog 3 = some (false, 1) := by kernel_rfl
@[go_sem] theorem zero3 : zeroOf Try.prog 3 = some [(.int .i64 0)] := by kernel_rfl
@[go_sem] theorem intK3 : intK Try.prog 3 = some .i64 := by kernel_rfl
@[go_sem] theorem lay4 : lay Try.prog 4 = some (false, 1) := by kernel_rfl
@[go_sem] theorem zero4 : zeroOf Try.prog 4 = some [(.bool false)] := by kernel_rfl
@[go_sem] theorem und4 : Program.underlying Try.prog 4 = some .bool := by kernel_rfl
@[go_sem] theorem lay5 : lay Try.prog 5 = some (false, 1) := by kernel_rfl
@[go_sem] theorem zero5 : zeroOf Try.prog 5 = some [(.int .u8 0)] := by kernel_rfl
@[go_sem] theorem intK5 : intK Try.prog 5 = some .u8 := by kernel_rfl
@[go_sem] theorem lay9 : lay Try.prog 9 = some (false, 1) := by kernel_rfl
@[go_sem] theorem zero9 : zeroOf Try.prog 9 = some [(.string ByteArray.empty)] := by kernel_rfl
@[go_sem] theorem und9 : Program.underlying Try.prog 9 = some .string := by kernel_rfl
@[go_sem] theorem lay21 : lay Try.prog 21 = some (false, 1) := by kernel_rfl
@[go_sem] theorem zero21 : zeroOf Try.prog 21 = some [(.int .i32 0)] := by kernel_rfl
@[go_sem] theorem intK21 : intK Try.prog 21 = some .i32 := by kernel_rfl
@[go_sem] theorem lay22 : lay Try.prog 22 = some (false, 1) := by kernel_rfl
@[go_sem] theorem zero22 : zeroOf Try.prog 22 = some [(.slice none 0 0)] := by kernel_rfl
@[go_sem] theorem esz22 : esz Try.prog 22 = some 5 := by kernel_rfl
@[go_sem] theorem isSl22 : isSl Try.prog 22 = true := by kernel_rfl
@[go_sem] theorem el22 : elemT Try.prog 22 34 5 56 = true := by kernel_rfl
@[go_sem] theorem lay23 : lay Try.prog 23 = some (false, 1) := by kernel_rfl
@[go_sem] theorem zero23 : zeroOf Try.prog 23 = some [(.int .u16 0)] := by kernel_rfl
@[go_sem] theorem intK23 : intK Try.prog 23 = some .u16 := by kernel_rfl
@[go_sem] theorem lay27 : lay Try.prog 27 = some (true, 2) := by kernel_rfl
@[go_sem] theorem zero27 : zeroOf Try.prog 27 = some [(.int .i64 0),(.slice none 0 0)] := by kernel_rfl
@[go_sem] theorem foff27_0 : foff Try.prog 27 0 = some 0 := by kernel_rfl
@[go_sem] theorem fval27_0 : fval Try.prog 27 0 = some (0, false, 1) := by kernel_rfl
@[go_sem] theorem foff27_1 : foff Try.prog 27 1 = some 1 := by kernel_rfl
@[go_sem] theorem fval27_1 : fval Try.prog 27 1 = some (1, false, 1) := by kernel_rfl
@[go_sem] theorem lay28 : lay Try.prog 28 = some (false, 1) := by kernel_rfl
@[go_sem] theorem zero28 : zeroOf Try.prog 28 = some [(.int .u32 0)] := by kernel_rfl
@[go_sem] theorem intK28 : intK Try.prog 28 = some .u32 := by kernel_rfl
@[go_sem] theorem lay30 : lay Try.prog 30 = some (true, 3) := by kernel_rfl
@[go_sem] theorem zero30 : zeroOf Try.prog 30 = some [(.int .u8 0),(.int .u16 0),(.int .u32 0)] := by kernel_rfl
@[go_sem] theorem foff30_0 : foff Try.prog 30 0 = some 0 := by kernel_rfl
@[go_sem] theorem fval30_0 : fval Try.prog 30 0 = some (0, false, 1) := by kernel_rfl
@[go_sem] theorem foff30_1 : foff Try.prog 30 1 = some 1 := by kernel_rfl
@[go_sem] theorem fval30_1 : fval Try.prog 30 1 = some (1, false, 1) := by kernel_rfl
@[go_sem] theorem foff30_2 : foff Try.prog 30 2 = some 2 := by kernel_rfl
@[go_sem] theorem fval30_2 : fval Try.prog 30 2 = some (2, false, 1) := by kernel_rfl
@[go_sem] theorem lay31 : lay Try.prog 31 = some (false, 1) := by kernel_rfl
@[go_sem] theorem zero31 : zeroOf Try.prog 31 = some [(.slice none 0 0)] := by kernel_rfl
@[go_sem] theorem esz31 : esz Try.prog 31 = some 1 := by kernel_rfl
@[go_sem] theorem isSl31 : isSl Try.prog 31 = true := by kernel_rfl
@[go_sem] theorem el31 : elemT Try.prog 31 21 1 4 = true := by kernel_rfl
@[go_sem] theorem lay32 : lay Try.prog 32 = some (false, 1) := by kernel_rfl
@[go_sem] theorem zero32 : zeroOf Try.prog 32 = some [(.slice none 0 0)] := by kernel_rfl
@[go_sem] theorem esz32 : esz Try.prog 32 = some 1 := by kernel_rfl
@[go_sem] theorem isSl32 : isSl Try.prog 32 = true := by kernel_rfl
@[go_sem] theorem el32 : elemT Try.prog 32 5 1 1 = true := by kernel_rfl
@[go_sem] theorem lay34 : lay Try.prog 34 = some (true, 5) := by kernel_rfl
@[go_sem] theorem zero34 : zeroOf Try.prog 34 = some [(.int .u8 0),(.int .u16 0),(.int .u32 0),(.slice none 0 0),(.slice none 0 0)] := by kernel_rfl
@[go_sem] theorem foff34_0 : foff Try.prog 34 0 = some 0 := by kernel_rfl
@[go_sem] theorem fval34_0 : fval Try.prog 34 0 = some (0, true, 3) := by kernel_rfl
@[go_sem] theorem foff34_1 : foff Try.prog 34 1 = some 3 := by kernel_rfl
@[go_sem] theorem fval34_1 : fval Try.prog 34 1 = some (3, false, 1) := by kernel_rfl
@[go_sem] theorem foff34_2 : foff Try.prog 34 2 = some 4 := by kernel_rfl
@[go_sem] theorem fval34_2 : fval Try.prog 34 2 = some (4, false, 1) := by kernel_rfl
@[go_sem] theorem lay35 : lay Try.prog 35 = some (false, 1) := by kernel_rfl
@[go_sem] theorem zero35 : zeroOf Try.prog 35 = some [(.int .i64 0)] := by kernel_rfl
@[go_sem] theorem intK35 : intK Try.prog 35 = some .i64 := by kernel_rfl
@[go_sem] theorem lay38 : lay Try.prog 38 = some (false, 1) := by kernel_rfl
@[go_sem] theorem zero38 : zeroOf Try.prog 38 = some [(.slice none 0 0)] := by kernel_rfl
@[go_sem] theorem esz38 : esz Try.prog 38 = some 3 := by kernel_rfl
@[go_sem] theorem isSl38 : isSl Try.prog 38 = true := by kernel_rfl
@[go_sem] theorem el38 : elemT Try.prog 38 30 3 8 = true := by kernel_rfl
@[go_sem] theorem lay48 : lay Try.prog 48 = some (false, 1) := by kernel_rfl
@[go_sem] theorem zero48 : zeroOf Try.prog 48 = some [.nilFunc] := by kernel_rfl
@[go_sem] theorem lay56 : lay Try.prog 56 = some (false, 1) := by kernel_rfl
@[go_sem] theorem zero56 : zeroOf Try.prog 56 = some [(.slice none 0 0)] := by kernel_rfl
@[go_sem] theorem esz56 : esz Try.prog 56 = some 6 := by kernel_rfl
@[go_sem] theorem isSl56 : isSl Try.prog 56 = true := by kernel_rfl
@[go_sem] theorem el56 : elemT Try.prog 56 60 6 64 = true := by kernel_rfl
@[go_sem] theorem lay58 : lay Try.prog 58 = some (false, 1) := by kernel_rfl
@[go_sem] theorem zero58 : zeroOf Try.prog 58 = some [(.map none)] := by kernel_rfl
@[go_sem] theorem und58 : Program.underlying Try.prog 58 = some (.map 30 34) := by kernel_rfl
@[go_sem] theorem lay60 : lay Try.prog 60 = some (true, 6) := by kernel_rfl
@[go_sem] theorem zero60 : zeroOf Try.prog 60 = some [(.int .u8 0),(.int .u8 0),(.int .u16 0),(.int .u32 0),(.slice none 0 0),(.slice none 0 0)] := by kernel_rfl
@[go_sem] theorem foff60_0 : foff Try.prog 60 0 = some 0 := by kernel_rfl
@[go_sem] theorem fval60_0 : fval Try.prog 60 0 = some (0, false, 1) := by kernel_rfl
@[go_sem] theorem foff60_1 : foff Try.prog 60 1 = some 1 := by kernel_rfl
@[go_sem] theorem fval60_1 : fval Try.prog 60 1 = some (1, true, 5) := by kernel_rfl
@[go_sem] theorem lay67 : lay Try.prog 67 = some (false, 1) := by kernel_rfl
@[go_sem] theorem zero67 : zeroOf Try.prog 67 = some [.nilFunc] := by kernel_rfl
@[go_sem] theorem lay75 : lay Try.prog 75 = some (false, 1) := by kernel_rfl
@[go_sem] theorem zero75 : zeroOf Try.prog 75 = some [.nilFunc] := by kernel_rfl

theorem bld27_0R (a0 : Int) (w : World) : (Instr.build 27 #[(0, (.int .i64 a0))]).run Try.prog w = .ok (.agg #[(.int .i64 a0), (.slice none 0 0)]) w := by kernel_rfl
@[go_sem] theorem bld27_0 {a0 : Int} {K : Value → Prop} : AtPure Try.prog (iBuild 27 #[(0, (.int .i64 a0))]) K = K (.agg #[(.int .i64 a0), (.slice none 0 0)]) := atPure_of fun w => bld27_0R _ w
theorem bld30_R  (w : World) : (Instr.build 30 #[]).run Try.prog w = .ok (.agg #[(.int .u8 0), (.int .u16 0), (.int .u32 0)]) w := by kernel_rfl
@[go_sem] theorem bld30_  {K : Value → Prop} : AtPure Try.prog (iBuild 30 #[]) K = K (.agg #[(.int .u8 0), (.int .u16 0), (.int .u32 0)]) := atPure_of fun w => bld30_R  w
theorem bld34_0_1_2R (a0 : Int) (a1 : Int) (a2 : Int) (p3 : Option Addr) (n3 c3 : Nat) (p4 : Option Addr) (n4 c4 : Nat) (w : World) : (Instr.build 34 #[(0, .agg #[(.int .u8 a0), (.int .u16 a1), (.int .u32 a2)]), (1, (.slice p3 n3 c3)), (2, (.slice p4 n4 c4))]).run Try.prog w = .ok (.agg #[(.int .u8 a0), (.int .u16 a1), (.int .u32 a2), (.slice p3 n3 c3), (.slice p4 n4 c4)]) w := by kernel_rfl
@[go_sem] theorem bld34_0_1_2 {a0 : Int} {a1 : Int} {a2 : Int} {p3 : Option Addr} {n3 c3 : Nat} {p4 : Option Addr} {n4 c4 : Nat} {K : Value → Prop} : AtPure Try.prog (iBuild 34 #[(0, .agg #[(.int .u8 a0), (.int .u16 a1), (.int .u32 a2)]), (1, (.slice p3 n3 c3)), (2, (.slice p4 n4 c4))]) K = K (.agg #[(.int .u8 a0), (.int .u16 a1), (.int .u32 a2), (.slice p3 n3 c3), (.slice p4 n4 c4)]) := atPure_of fun w => bld34_0_1_2R _ _ _ _ _ _ _ _ _ w
theorem bld27_0_1R (a0 : Int) (p1 : Option Addr) (n1 c1 : Nat) (w : World) : (Instr.build 27 #[(0, (.int .i64 a0)), (1, (.slice p1 n1 c1))]).run Try.prog w = .ok (.agg #[(.int .i64 a0), (.slice p1 n1 c1)]) w := by kernel_rfl
@[go_sem] theorem bld27_0_1 {a0 : Int} {p1 : Option Addr} {n1 c1 : Nat} {K : Value → Prop} : AtPure Try.prog (iBuild 27 #[(0, (.int .i64 a0)), (1, (.slice p1 n1 c1))]) K = K (.agg #[(.int .i64 a0), (.slice p1 n1 c1)]) := atPure_of fun w => bld27_0_1R _ _ _ _ w
theorem bld34_0R (a0 : Int) (a1 : Int) (a2 : Int) (w : World) : (Instr.build 34 #[(0, .agg #[(.int .u8 a0), (.int .u16 a1), (.int .u32 a2)])]).run Try.prog w = .ok (.agg #[(.int .u8 a0), (.int .u16 a1), (.int .u32 a2), (.slice none 0 0), (.slice none 0 0)]) w := by kernel_rfl
@[go_sem] theorem bld34_0 {a0 : Int} {a1 : Int} {a2 : Int} {K : Value → Prop} : AtPure Try.prog (iBuild 34 #[(0, .agg #[(.int .u8 a0), (.int .u16 a1), (.int .u32 a2)])]) K = K (.agg #[(.int .u8 a0), (.int .u16 a1), (.int .u32 a2), (.slice none 0 0), (.slice none 0 0)]) := atPure_of fun w => bld34_0R _ _ _ w
theorem bld34_0_2R (a0 : Int) (a1 : Int) (a2 : Int) (p4 : Option Addr) (n4 c4 : Nat) (w : World) : (Instr.build 34 #[(0, .agg #[(.int .u8 a0), (.int .u16 a1), (.int .u32 a2)]), (2, (.slice p4 n4 c4))]).run Try.prog w = .ok (.agg #[(.int .u8 a0), (.int .u16 a1), (.int .u32 a2), (.slice none 0 0), (.slice p4 n4 c4)]) w := by kernel_rfl
@[go_sem] theorem bld34_0_2 {a0 : Int} {a1 : Int} {a2 : Int} {p4 : Option Addr} {n4 c4 : Nat} {K : Value → Prop} : AtPure Try.prog (iBuild 34 #[(0, .agg #[(.int .u8 a0), (.int .u16 a1), (.int .u32 a2)]), (2, (.slice p4 n4 c4))]) K = K (.agg #[(.int .u8 a0), (.int .u16 a1), (.int .u32 a2), (.slice none 0 0), (.slice p4 n4 c4)]) := atPure_of fun w => bld34_0_2R _ _ _ _ _ _ w
theorem bld34_R  (w : World) : (Instr.build 34 #[]).run Try.prog w = .ok (.agg #[(.int .u8 0), (.int .u16 0), (.int .u32 0), (.slice none 0 0), (.slice none 0 0)]) w := by kernel_rfl
@[go_sem] theorem bld34_  {K : Value → Prop} : AtPure Try.prog (iBuild 34 #[]) K = K (.agg #[(.int .u8 0), (.int .u16 0), (.int .u32 0), (.slice none 0 0), (.slice none 0 0)]) := atPure_of fun w => bld34_R  w
theorem bld27_1R (p1 : Option Addr) (n1 c1 : Nat) (w : World) : (Instr.build 27 #[(1, (.slice p1 n1 c1))]).run Try.prog w = .ok (.agg #[(.int .i64 0), (.slice p1 n1 c1)]) w := by kernel_rfl
@[go_sem] theorem bld27_1 {p1 : Option Addr} {n1 c1 : Nat} {K : Value → Prop} : AtPure Try.prog (iBuild 27 #[(1, (.slice p1 n1 c1))]) K = K (.agg #[(.int .i64 0), (.slice p1 n1 c1)]) := atPure_of fun w => bld27_1R _ _ _ w
theorem bld30_0_1_2R (a0 : Int) (a1 : Int) (a2 : Int) (w : World) : (Instr.build 30 #[(0, (.int .u8 a0)), (1, (.int .u16 a1)), (2, (.int .u32 a2))]).run Try.prog w = .ok (.agg #[(.int .u8 a0), (.int .u16 a1), (.int .u32 a2)]) w := by kernel_rfl
@[go_sem] theorem bld30_0_1_2 {a0 : Int} {a1 : Int} {a2 : Int} {K : Value → Prop} : AtPure Try.prog (iBuild 30 #[(0, (.int .u8 a0)), (1, (.int .u16 a1)), (2, (.int .u32 a2))]) K = K (.agg #[(.int .u8 a0), (.int .u16 a1), (.int .u32 a2)]) := atPure_of fun w => bld30_0_1_2R _ _ _ w

theorem eqGuard30 : Try.prog.eqGuardType Try.prog.depth 30 = false := by kernel_rfl
theorem eqRun30 (a0 a1 a2 b0 b1 b2 : Int) (w : World) : (binOp .eql 30 (.agg #[.int .u8 a0, .int .u16 a1, .int .u32 a2]) (.agg #[.int .u8 b0, .int .u16 b1, .int .u32 b2])).run Try.prog w = .ok (.bool (a0 == b0 && (a1 == b1 && (a2 == b2)))) w := by
  go_simp
  by_cases h0 : a0 = b0 <;> by_cases h1 : a1 = b1 <;> by_cases h2 : a2 = b2 <;> simp [*]
theorem neRun30 (a0 a1 a2 b0 b1 b2 : Int) (w : World) : (binOp .neq 30 (.agg #[.int .u8 a0, .int .u16 a1, .int .u32 a2]) (.agg #[.int .u8 b0, .int .u16 b1, .int .u32 b2])).run Try.prog w = .ok (.bool (!(a0 == b0 && (a1 == b1 && (a2 == b2))))) w := by
  go_simp
  by_cases h0 : a0 = b0 <;> by_cases h1 : a1 = b1 <;> by_cases h2 : a2 = b2 <;> simp [*]
@[go_sem] theorem eql30 {a0 a1 a2 b0 b1 b2 : Int} {y z : Operand} {K : Value → Prop} : AtPure Try.prog (binS .eql 30 y z (.agg #[.int .u8 a0, .int .u16 a1, .int .u32 a2]) (.agg #[.int .u8 b0, .int .u16 b1, .int .u32 b2])) K = K (.bool (a0 == b0 && (a1 == b1 && (a2 == b2)))) :=
  atPure_of fun w => by simp only [binS, eqGuard, Sem.run_bind, Sem.run_pure, Result.andThen_ok, Bool.not_true, Bool.false_eq_true, if_false, run_program, eqGuard30, Bool.not_false, if_true, eqRun30]
@[go_sem] theorem neq30 {a0 a1 a2 b0 b1 b2 : Int} {y z : Operand} {K : Value → Prop} : AtPure Try.prog (binS .neq 30 y z (.agg #[.int .u8 a0, .int .u16 a1, .int .u32 a2]) (.agg #[.int .u8 b0, .int .u16 b1, .int .u32 b2])) K = K (.bool (!(a0 == b0 && (a1 == b1 && (a2 == b2))))) :=
  atPure_of fun w => by simp only [binS, eqGuard, Sem.run_bind, Sem.run_pure, Result.andThen_ok, Bool.not_true, Bool.false_eq_true, if_false, run_program, eqGuard30, Bool.not_false, if_true, neRun30]

end Go.Proofs.Ytcaobkpfafcnjaa.Ty
