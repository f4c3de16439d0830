/-
  Part 8 of the proof of M7: the engine and the walks, in their order.
-/
import Derived.Test.YtgpmgnbjpfggmaaM77
import Derived.Test.YtgpmgnbjpfggmaaProg
set_option linter.unusedSimpArgs false
set_option linter.unusedVariables false
/-
  Closed facts on the types of the program.
-/
namespace Go.Proofs.Ytgpmgnbjpfggmaa.Ty
open Go.Eng
theorem mixed : Try.prog.follows .mixedOrders = true := by kernel_rfl
@[go_sem] theorem lay3 : lay Try.prog 3 = some (false, 1) := by kernel_rfl
@[go_sem] theorem zero3 : zeroOf Try.prog 3 = some [(.int .i64 0)] := by kernel_rfl
@[go_sem] theorem intK3 : intK Try.prog 3 = some .i64 := by kernel_rfl
@[go_sem] theorem lay4 : lay Try.prog 4 = some (false, 1) := by kernel_rfl
@[go_sem] theorem zero4 : zeroOf Try.prog 4 = some [(.bool false)] := by kernel_rfl
@[go_sem] theorem und4 : Program.underlying Try.prog 4 = some .bool := by kernel_rfl
@[go_sem] theorem lay5 : lay Try.prog 5 = some (false, 1) := by kernel_rfl
@[go_sem] theorem zero5 : zeroOf Try.prog 5 = some [(.int .u8 0)] := by kernel_rfl
@[go_sem] theorem intK5 : intK Try.prog 5 = some .u8 := by kernel_rfl
@[go_sem] theorem lay9 : lay Try.prog 9 = some (false, 1) := by kernel_rfl
@[go_sem] theorem zero9 : zeroOf Try.prog 9 = some [(.string ByteArray.empty)] := by kernel_rfl
@[go_sem] theorem und9 : Program.underlying Try.prog 9 = some .string := by kernel_rfl
@[go_sem] theorem lay22 : lay Try.prog 22 = some (false, 1) := by kernel_rfl
@[go_sem] theorem zero22 : zeroOf Try.prog 22 = some [(.slice none 0 0)] := by kernel_rfl
@[go_sem] theorem esz22 : esz Try.prog 22 = some 1 := by kernel_rfl
@[go_sem] theorem isSl22 : isSl Try.prog 22 = true := by kernel_rfl
@[go_sem] theorem el22 : elemT Try.prog 22 26 1 24 = true := by kernel_rfl
@[go_sem] theorem lay23 : lay Try.prog 23 = some (false, 1) := by kernel_rfl
@[go_sem] theorem zero23 : zeroOf Try.prog 23 = some [(.slice none 0 0)] := by kernel_rfl
@[go_sem] theorem esz23 : esz Try.prog 23 = some 3 := by kernel_rfl
@[go_sem] theorem isSl23 : isSl Try.prog 23 = true := by kernel_rfl
@[go_sem] theorem el23 : elemT Try.prog 23 33 3 32 = true := by kernel_rfl
@[go_sem] theorem lay25 : lay Try.prog 25 = some (true, 3) := by kernel_rfl
@[go_sem] theorem zero25 : zeroOf Try.prog 25 = some [(.int .i64 0),(.slice none 0 0),(.int .i64 0)] := by kernel_rfl
@[go_sem] theorem foff25_0 : foff Try.prog 25 0 = some 0 := by kernel_rfl
@[go_sem] theorem fval25_0 : fval Try.prog 25 0 = some (0, false, 1) := by kernel_rfl
@[go_sem] theorem foff25_1 : foff Try.prog 25 1 = some 1 := by kernel_rfl
@[go_sem] theorem fval25_1 : fval Try.prog 25 1 = some (1, false, 1) := by kernel_rfl
@[go_sem] theorem foff25_2 : foff Try.prog 25 2 = some 2 := by kernel_rfl
@[go_sem] theorem fval25_2 : fval Try.prog 25 2 = some (2, false, 1) := by kernel_rfl
@[go_sem] theorem lay26 : lay Try.prog 26 = some (false, 1) := by kernel_rfl
@[go_sem] theorem zero26 : zeroOf Try.prog 26 = some [(.slice none 0 0)] := by kernel_rfl
@[go_sem] theorem esz26 : esz Try.prog 26 = some 1 := by kernel_rfl
@[go_sem] theorem isSl26 : isSl Try.prog 26 = true := by kernel_rfl
@[go_sem] theorem el26 : elemT Try.prog 26 5 1 1 = true := by kernel_rfl
@[go_sem] theorem lay29 : lay Try.prog 29 = some (false, 1) := by kernel_rfl
@[go_sem] theorem zero29 : zeroOf Try.prog 29 = some [(.int .i64 0)] := by kernel_rfl
@[go_sem] theorem intK29 : intK Try.prog 29 = some .i64 := by kernel_rfl
@[go_sem] theorem lay33 : lay Try.prog 33 = some (true, 3) := by kernel_rfl
@[go_sem] theorem zero33 : zeroOf Try.prog 33 = some [(.int .u8 0),(.bool false),(.slice none 0 0)] := by kernel_rfl
@[go_sem] theorem foff33_0 : foff Try.prog 33 0 = some 0 := by kernel_rfl
@[go_sem] theorem fval33_0 : fval Try.prog 33 0 = some (0, false, 1) := by kernel_rfl
@[go_sem] theorem foff33_1 : foff Try.prog 33 1 = some 1 := by kernel_rfl
@[go_sem] theorem fval33_1 : fval Try.prog 33 1 = some (1, false, 1) := by kernel_rfl
@[go_sem] theorem foff33_2 : foff Try.prog 33 2 = some 2 := by kernel_rfl
@[go_sem] theorem fval33_2 : fval Try.prog 33 2 = some (2, false, 1) := by kernel_rfl
@[go_sem] theorem lay37 : lay Try.prog 37 = some (false, 1) := by kernel_rfl
@[go_sem] theorem zero37 : zeroOf Try.prog 37 = some [(.int .u32 0)] := by kernel_rfl
@[go_sem] theorem intK37 : intK Try.prog 37 = some .u32 := by kernel_rfl
@[go_sem] theorem lay49 : lay Try.prog 49 = some (false, 1) := by kernel_rfl
@[go_sem] theorem zero49 : zeroOf Try.prog 49 = some [.nilFunc] := by kernel_rfl
@[go_sem] theorem lay58 : lay Try.prog 58 = some (false, 1) := by kernel_rfl
@[go_sem] theorem zero58 : zeroOf Try.prog 58 = some [.nilFunc] := by kernel_rfl

theorem bld25_0R (a0 : Int) (w : World) : (Instr.build 25 #[(0, (.int .i64 a0))]).run Try.prog w = .ok (.agg #[(.int .i64 a0), (.slice none 0 0), (.int .i64 0)]) w := by kernel_rfl
@[go_sem] theorem bld25_0 {a0 : Int} {K : Value → Prop} : AtPure Try.prog (iBuild 25 #[(0, (.int .i64 a0))]) K = K (.agg #[(.int .i64 a0), (.slice none 0 0), (.int .i64 0)]) := atPure_of fun w => bld25_0R _ w
theorem bld25_0_2_1R (a0 : Int) (a2 : Int) (p1 : Option Addr) (n1 c1 : Nat) (w : World) : (Instr.build 25 #[(0, (.int .i64 a0)), (2, (.int .i64 a2)), (1, (.slice p1 n1 c1))]).run Try.prog w = .ok (.agg #[(.int .i64 a0), (.slice p1 n1 c1), (.int .i64 a2)]) w := by kernel_rfl
@[go_sem] theorem bld25_0_2_1 {a0 : Int} {a2 : Int} {p1 : Option Addr} {n1 c1 : Nat} {K : Value → Prop} : AtPure Try.prog (iBuild 25 #[(0, (.int .i64 a0)), (2, (.int .i64 a2)), (1, (.slice p1 n1 c1))]) K = K (.agg #[(.int .i64 a0), (.slice p1 n1 c1), (.int .i64 a2)]) := atPure_of fun w => bld25_0_2_1R _ _ _ _ _ w
theorem bld33_0_2R (a0 : Int) (p2 : Option Addr) (n2 c2 : Nat) (w : World) : (Instr.build 33 #[(0, (.int .u8 a0)), (2, (.slice p2 n2 c2))]).run Try.prog w = .ok (.agg #[(.int .u8 a0), (.bool false), (.slice p2 n2 c2)]) w := by kernel_rfl
@[go_sem] theorem bld33_0_2 {a0 : Int} {p2 : Option Addr} {n2 c2 : Nat} {K : Value → Prop} : AtPure Try.prog (iBuild 33 #[(0, (.int .u8 a0)), (2, (.slice p2 n2 c2))]) K = K (.agg #[(.int .u8 a0), (.bool false), (.slice p2 n2 c2)]) := atPure_of fun w => bld33_0_2R _ _ _ _ w
theorem bld33_R  (w : World) : (Instr.build 33 #[]).run Try.prog w = .ok (.agg #[(.int .u8 0), (.bool false), (.slice none 0 0)]) w := by kernel_rfl
@[go_sem] theorem bld33_  {K : Value → Prop} : AtPure Try.prog (iBuild 33 #[]) K = K (.agg #[(.int .u8 0), (.bool false), (.slice none 0 0)]) := atPure_of fun w => bld33_R  w
theorem bld25_0_2R (a0 : Int) (a2 : Int) (w : World) : (Instr.build 25 #[(0, (.int .i64 a0)), (2, (.int .i64 a2))]).run Try.prog w = .ok (.agg #[(.int .i64 a0), (.slice none 0 0), (.int .i64 a2)]) w := by kernel_rfl
@[go_sem] theorem bld25_0_2 {a0 : Int} {a2 : Int} {K : Value → Prop} : AtPure Try.prog (iBuild 25 #[(0, (.int .i64 a0)), (2, (.int .i64 a2))]) K = K (.agg #[(.int .i64 a0), (.slice none 0 0), (.int .i64 a2)]) := atPure_of fun w => bld25_0_2R _ _ w
theorem bld33_0_1_2R (a0 : Int) (a1 : Bool) (p2 : Option Addr) (n2 c2 : Nat) (w : World) : (Instr.build 33 #[(0, (.int .u8 a0)), (1, (.bool a1)), (2, (.slice p2 n2 c2))]).run Try.prog w = .ok (.agg #[(.int .u8 a0), (.bool a1), (.slice p2 n2 c2)]) w := by kernel_rfl
@[go_sem] theorem bld33_0_1_2 {a0 : Int} {a1 : Bool} {p2 : Option Addr} {n2 c2 : Nat} {K : Value → Prop} : AtPure Try.prog (iBuild 33 #[(0, (.int .u8 a0)), (1, (.bool a1)), (2, (.slice p2 n2 c2))]) K = K (.agg #[(.int .u8 a0), (.bool a1), (.slice p2 n2 c2)]) := atPure_of fun w => bld33_0_1_2R _ _ _ _ _ w


end Go.Proofs.Ytgpmgnbjpfggmaa.Ty
