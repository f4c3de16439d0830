/-
  Part 6 of the proof of Zm: the engine and the walks, in their order.
-/
import Derived.Test.YtcfkcmalkbdphaaZm5
import Derived.Test.YtcfkcmalkbdphaaProg
set_option linter.unusedSimpArgs false
set_option linter.unusedVariables false
/-
  Closed facts on the types of the program.
-/
namespace Go.Proofs.Ytcfkcmalkbdphaa.Ty
open Go.Eng
theorem mixed : Try.prog.follows .mixedOrders = true := by kernel_rfl
@[go_sem] theorem lay3 : lay Try.prog 3 = some (false, 1) := by kernel_rfl
@[go_sem] theorem zero3 : zeroOf Try.prog 3 = some [(.int .i64 0)] := by kernel_rfl
@[go_sem] theorem intK3 : intK Try.prog 3 = some .i64 := by kernel_rfl
@[go_sem] theorem lay4 : lay Try.prog 4 = some (false, 1) := by kernel_rfl
@[go_sem] theorem zero4 : zeroOf Try.prog 4 = some [(.bool false)] := by kernel_rfl
@[go_sem] theorem und4 : Program.underlying Try.prog 4 = some .bool := by kernel_rfl
@[go_sem] theorem lay5 : lay Try.prog 5 = some (false, 1) := by kernel_rfl
@[go_sem] theorem zero5 : zeroOf Try.prog 5 = some [(.int .u8 0)] := by kernel_rfl
@[go_sem] theorem intK5 : intK Try.prog 5 = some .u8 := by kernel_rfl
@[go_sem] theorem lay21 : lay Try.prog 21 = some (false, 1) := by kernel_rfl
@[go_sem] theorem zero21 : zeroOf Try.prog 21 = some [(.int .i32 0)] := by kernel_rfl
@[go_sem] theorem intK21 : intK Try.prog 21 = some .i32 := by kernel_rfl
@[go_sem] theorem lay22 : lay Try.prog 22 = some (false, 1) := by kernel_rfl
@[go_sem] theorem zero22 : zeroOf Try.prog 22 = some [(.slice none 0 0)] := by kernel_rfl
@[go_sem] theorem esz22 : esz Try.prog 22 = some 4 := by kernel_rfl
@[go_sem] theorem isSl22 : isSl Try.prog 22 = true := by kernel_rfl
@[go_sem] theorem el22 : elemT Try.prog 22 32 4 32 = true := by kernel_rfl
@[go_sem] theorem lay28 : lay Try.prog 28 = some (false, 1) := by kernel_rfl
@[go_sem] theorem zero28 : zeroOf Try.prog 28 = some [(.int .u16 0)] := by kernel_rfl
@[go_sem] theorem intK28 : intK Try.prog 28 = some .u16 := by kernel_rfl
@[go_sem] theorem lay29 : lay Try.prog 29 = some (false, 1) := by kernel_rfl
@[go_sem] theorem zero29 : zeroOf Try.prog 29 = some [(.slice none 0 0)] := by kernel_rfl
@[go_sem] theorem esz29 : esz Try.prog 29 = some 2 := by kernel_rfl
@[go_sem] theorem isSl29 : isSl Try.prog 29 = true := by kernel_rfl
@[go_sem] theorem el29 : elemT Try.prog 29 39 2 8 = true := by kernel_rfl
@[go_sem] theorem lay30 : lay Try.prog 30 = some (false, 1) := by kernel_rfl
@[go_sem] theorem zero30 : zeroOf Try.prog 30 = some [(.slice none 0 0)] := by kernel_rfl
@[go_sem] theorem esz30 : esz Try.prog 30 = some 2 := by kernel_rfl
@[go_sem] theorem isSl30 : isSl Try.prog 30 = true := by kernel_rfl
@[go_sem] theorem el30 : elemT Try.prog 30 39 2 8 = true := by kernel_rfl
@[go_sem] theorem lay32 : lay Try.prog 32 = some (true, 4) := by kernel_rfl
@[go_sem] theorem zero32 : zeroOf Try.prog 32 = some [(.int .u8 0),(.int .u16 0),(.int .u8 0),(.slice none 0 0)] := by kernel_rfl
@[go_sem] theorem foff32_0 : foff Try.prog 32 0 = some 0 := by kernel_rfl
@[go_sem] theorem fval32_0 : fval Try.prog 32 0 = some (0, false, 1) := by kernel_rfl
@[go_sem] theorem foff32_1 : foff Try.prog 32 1 = some 1 := by kernel_rfl
@[go_sem] theorem fval32_1 : fval Try.prog 32 1 = some (1, false, 1) := by kernel_rfl
@[go_sem] theorem foff32_2 : foff Try.prog 32 2 = some 2 := by kernel_rfl
@[go_sem] theorem fval32_2 : fval Try.prog 32 2 = some (2, false, 1) := by kernel_rfl
@[go_sem] theorem foff32_3 : foff Try.prog 32 3 = some 3 := by kernel_rfl
@[go_sem] theorem fval32_3 : fval Try.prog 32 3 = some (3, false, 1) := by kernel_rfl
@[go_sem] theorem lay37 : lay Try.prog 37 = some (false, 1) := by kernel_rfl
@[go_sem] theorem zero37 : zeroOf Try.prog 37 = some [(.slice none 0 0)] := by kernel_rfl
@[go_sem] theorem esz37 : esz Try.prog 37 = some 1 := by kernel_rfl
@[go_sem] theorem isSl37 : isSl Try.prog 37 = true := by kernel_rfl
@[go_sem] theorem el37 : elemT Try.prog 37 22 1 24 = true := by kernel_rfl
@[go_sem] theorem lay39 : lay Try.prog 39 = some (true, 2) := by kernel_rfl
@[go_sem] theorem zero39 : zeroOf Try.prog 39 = some [(.int .i32 0),(.int .i32 0)] := by kernel_rfl
@[go_sem] theorem foff39_0 : foff Try.prog 39 0 = some 0 := by kernel_rfl
@[go_sem] theorem fval39_0 : fval Try.prog 39 0 = some (0, false, 1) := by kernel_rfl
@[go_sem] theorem foff39_1 : foff Try.prog 39 1 = some 1 := by kernel_rfl
@[go_sem] theorem fval39_1 : fval Try.prog 39 1 = some (1, false, 1) := by kernel_rfl
@[go_sem] theorem lay47 : lay Try.prog 47 = some (false, 1) := by kernel_rfl
@[go_sem] theorem zero47 : zeroOf Try.prog 47 = some [(.slice none 0 0)] := by kernel_rfl
@[go_sem] theorem esz47 : esz Try.prog 47 = some 1 := by kernel_rfl
@[go_sem] theorem isSl47 : isSl Try.prog 47 = true := by kernel_rfl
@[go_sem] theorem el47 : elemT Try.prog 47 5 1 1 = true := by kernel_rfl
@[go_sem] theorem lay52 : lay Try.prog 52 = some (true, 4) := by kernel_rfl
@[go_sem] theorem zero52 : zeroOf Try.prog 52 = some [(.bool false),(.int .u8 0),(.int .u8 0),(.slice none 0 0)] := by kernel_rfl
@[go_sem] theorem foff52_0 : foff Try.prog 52 0 = some 0 := by kernel_rfl
@[go_sem] theorem fval52_0 : fval Try.prog 52 0 = some (0, false, 1) := by kernel_rfl
@[go_sem] theorem foff52_1 : foff Try.prog 52 1 = some 1 := by kernel_rfl
@[go_sem] theorem fval52_1 : fval Try.prog 52 1 = some (1, false, 1) := by kernel_rfl
@[go_sem] theorem foff52_2 : foff Try.prog 52 2 = some 2 := by kernel_rfl
@[go_sem] theorem fval52_2 : fval Try.prog 52 2 = some (2, false, 1) := by kernel_rfl
@[go_sem] theorem foff52_3 : foff Try.prog 52 3 = some 3 := by kernel_rfl
@[go_sem] theorem fval52_3 : fval Try.prog 52 3 = some (3, false, 1) := by kernel_rfl
@[go_sem] theorem lay76 : lay Try.prog 76 = some (false, 1) := by kernel_rfl
@[go_sem] theorem zero76 : zeroOf Try.prog 76 = some [.nilFunc] := by kernel_rfl
@[go_sem] theorem lay78 : lay Try.prog 78 = some (false, 1) := by kernel_rfl
@[go_sem] theorem zero78 : zeroOf Try.prog 78 = some [(.int .u64 0)] := by kernel_rfl
@[go_sem] theorem intK78 : intK Try.prog 78 = some .u64 := by kernel_rfl

theorem bld52_R  (w : World) : (Instr.build 52 #[]).run Try.prog w = .ok (.agg #[(.bool false), (.int .u8 0), (.int .u8 0), (.slice none 0 0)]) w := by kernel_rfl
@[go_sem] theorem bld52_  {K : Value → Prop} : AtPure Try.prog (iBuild 52 #[]) K = K (.agg #[(.bool false), (.int .u8 0), (.int .u8 0), (.slice none 0 0)]) := atPure_of fun w => bld52_R  w
theorem bld39_R  (w : World) : (Instr.build 39 #[]).run Try.prog w = .ok (.agg #[(.int .i32 0), (.int .i32 0)]) w := by kernel_rfl
@[go_sem] theorem bld39_  {K : Value → Prop} : AtPure Try.prog (iBuild 39 #[]) K = K (.agg #[(.int .i32 0), (.int .i32 0)]) := atPure_of fun w => bld39_R  w
theorem bld52_0_1_2_3R (a0 : Bool) (a1 : Int) (a2 : Int) (p3 : Option Addr) (n3 c3 : Nat) (w : World) : (Instr.build 52 #[(0, (.bool a0)), (1, (.int .u8 a1)), (2, (.int .u8 a2)), (3, (.slice p3 n3 c3))]).run Try.prog w = .ok (.agg #[(.bool a0), (.int .u8 a1), (.int .u8 a2), (.slice p3 n3 c3)]) w := by kernel_rfl
@[go_sem] theorem bld52_0_1_2_3 {a0 : Bool} {a1 : Int} {a2 : Int} {p3 : Option Addr} {n3 c3 : Nat} {K : Value → Prop} : AtPure Try.prog (iBuild 52 #[(0, (.bool a0)), (1, (.int .u8 a1)), (2, (.int .u8 a2)), (3, (.slice p3 n3 c3))]) K = K (.agg #[(.bool a0), (.int .u8 a1), (.int .u8 a2), (.slice p3 n3 c3)]) := atPure_of fun w => bld52_0_1_2_3R _ _ _ _ _ _ w
theorem bld39_0_1R (a0 : Int) (a1 : Int) (w : World) : (Instr.build 39 #[(0, (.int .i32 a0)), (1, (.int .i32 a1))]).run Try.prog w = .ok (.agg #[(.int .i32 a0), (.int .i32 a1)]) w := by kernel_rfl
@[go_sem] theorem bld39_0_1 {a0 : Int} {a1 : Int} {K : Value → Prop} : AtPure Try.prog (iBuild 39 #[(0, (.int .i32 a0)), (1, (.int .i32 a1))]) K = K (.agg #[(.int .i32 a0), (.int .i32 a1)]) := atPure_of fun w => bld39_0_1R _ _ w
theorem bld32_0_1_2_3R (a0 : Int) (a1 : Int) (a2 : Int) (p3 : Option Addr) (n3 c3 : Nat) (w : World) : (Instr.build 32 #[(0, (.int .u8 a0)), (1, (.int .u16 a1)), (2, (.int .u8 a2)), (3, (.slice p3 n3 c3))]).run Try.prog w = .ok (.agg #[(.int .u8 a0), (.int .u16 a1), (.int .u8 a2), (.slice p3 n3 c3)]) w := by kernel_rfl
@[go_sem] theorem bld32_0_1_2_3 {a0 : Int} {a1 : Int} {a2 : Int} {p3 : Option Addr} {n3 c3 : Nat} {K : Value → Prop} : AtPure Try.prog (iBuild 32 #[(0, (.int .u8 a0)), (1, (.int .u16 a1)), (2, (.int .u8 a2)), (3, (.slice p3 n3 c3))]) K = K (.agg #[(.int .u8 a0), (.int .u16 a1), (.int .u8 a2), (.slice p3 n3 c3)]) := atPure_of fun w => bld32_0_1_2_3R _ _ _ _ _ _ w
theorem bld32_0_1_2R (a0 : Int) (a1 : Int) (a2 : Int) (w : World) : (Instr.build 32 #[(0, (.int .u8 a0)), (1, (.int .u16 a1)), (2, (.int .u8 a2))]).run Try.prog w = .ok (.agg #[(.int .u8 a0), (.int .u16 a1), (.int .u8 a2), (.slice none 0 0)]) w := by kernel_rfl
@[go_sem] theorem bld32_0_1_2 {a0 : Int} {a1 : Int} {a2 : Int} {K : Value → Prop} : AtPure Try.prog (iBuild 32 #[(0, (.int .u8 a0)), (1, (.int .u16 a1)), (2, (.int .u8 a2))]) K = K (.agg #[(.int .u8 a0), (.int .u16 a1), (.int .u8 a2), (.slice none 0 0)]) := atPure_of fun w => bld32_0_1_2R _ _ _ w

theorem eqGuard39 : Try.prog.eqGuardType Try.prog.depth 39 = false := by kernel_rfl
theorem eqRun39 (a0 a1 b0 b1 : Int) (w : World) : (binOp .eql 39 (.agg #[.int .i32 a0, .int .i32 a1]) (.agg #[.int .i32 b0, .int .i32 b1])).run Try.prog w = .ok (.bool (a0 == b0 && (a1 == b1))) w := by
  go_simp
  by_cases h0 : a0 = b0 <;> by_cases h1 : a1 = b1 <;> simp [*]
theorem neRun39 (a0 a1 b0 b1 : Int) (w : World) : (binOp .neq 39 (.agg #[.int .i32 a0, .int .i32 a1]) (.agg #[.int .i32 b0, .int .i32 b1])).run Try.prog w = .ok (.bool (!(a0 == b0 && (a1 == b1)))) w := by
  go_simp
  by_cases h0 : a0 = b0 <;> by_cases h1 : a1 = b1 <;> simp [*]
@[go_sem] theorem eql39 {a0 a1 b0 b1 : Int} {y z : Operand} {K : Value → Prop} : AtPure Try.prog (binS .eql 39 y z (.agg #[.int .i32 a0, .int .i32 a1]) (.agg #[.int .i32 b0, .int .i32 b1])) K = K (.bool (a0 == b0 && (a1 == b1))) :=
  atPure_of fun w => by simp only [binS, eqGuard, Sem.run_bind, Sem.run_pure, Result.andThen_ok, Bool.not_true, Bool.false_eq_true, if_false, run_program, eqGuard39, Bool.not_false, if_true, eqRun39]
@[go_sem] theorem neq39 {a0 a1 b0 b1 : Int} {y z : Operand} {K : Value → Prop} : AtPure Try.prog (binS .neq 39 y z (.agg #[.int .i32 a0, .int .i32 a1]) (.agg #[.int .i32 b0, .int .i32 b1])) K = K (.bool (!(a0 == b0 && (a1 == b1)))) :=
  atPure_of fun w => by simp only [binS, eqGuard, Sem.run_bind, Sem.run_pure, Result.andThen_ok, Bool.not_true, Bool.false_eq_true, if_false, run_program, eqGuard39, Bool.not_false, if_true, neRun39]

end Go.Proofs.Ytcfkcmalkbdphaa.Ty
