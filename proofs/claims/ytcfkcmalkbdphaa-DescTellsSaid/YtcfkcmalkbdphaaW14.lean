/-
  Part 14 of the proof of W: the engine and the walks, in their order.
-/
import Derived.Test.YtcfkcmalkbdphaaW6
import Derived.Test.YtcfkcmalkbdphaaW13
set_option linter.unusedSimpArgs false
set_option linter.unusedVariables false
/-
  Closed facts on the types of the program, for the data level.
-/
namespace Go.Proofs.Ytcfkcmalkbdphaa.Ty
open Go.Eng
@[go_sem] theorem zeroD3 : zeroD Try.prog 3 = some [.v (.int .i64 0)] := by kernel_rfl
@[go_sem] theorem zeroD4 : zeroD Try.prog 4 = some [.v (.bool false)] := by kernel_rfl
@[go_sem] theorem zeroD5 : zeroD Try.prog 5 = some [.v (.int .u8 0)] := by kernel_rfl
@[go_sem] theorem undI5 : Program.underlying Try.prog 5 = some (.int .u8) := by kernel_rfl
@[go_sem] theorem zeroD21 : zeroD Try.prog 21 = some [.v (.int .i32 0)] := by kernel_rfl
@[go_sem] theorem zeroD22 : zeroD Try.prog 22 = some [.v (.slice none 0 0)] := by kernel_rfl
@[go_sem] theorem elOf22 : elOf Try.prog 22 = some (32, 4, 32) := by kernel_rfl
@[go_sem] theorem zeroD28 : zeroD Try.prog 28 = some [.v (.int .u16 0)] := by kernel_rfl
@[go_sem] theorem zeroD29 : zeroD Try.prog 29 = some [.v (.slice none 0 0)] := by kernel_rfl
@[go_sem] theorem elOf29 : elOf Try.prog 29 = some (39, 2, 8) := by kernel_rfl
@[go_sem] theorem zeroD30 : zeroD Try.prog 30 = some [.v (.slice none 0 0)] := by kernel_rfl
@[go_sem] theorem elOf30 : elOf Try.prog 30 = some (39, 2, 8) := by kernel_rfl
@[go_sem] theorem zeroD32 : zeroD Try.prog 32 = some [.v (.int .u8 0), .v (.int .u16 0), .v (.int .u8 0), .v (.slice none 0 0)] := by kernel_rfl
@[go_sem] theorem places32 : places Try.prog 32 = some [(0, 1), (1, 1), (2, 1), (3, 1)] := by kernel_rfl
@[go_sem] theorem zeroD37 : zeroD Try.prog 37 = some [.v (.slice none 0 0)] := by kernel_rfl
@[go_sem] theorem elOf37 : elOf Try.prog 37 = some (22, 1, 24) := by kernel_rfl
@[go_sem] theorem zeroD39 : zeroD Try.prog 39 = some [.v (.int .i32 0), .v (.int .i32 0)] := by kernel_rfl
@[go_sem] theorem places39 : places Try.prog 39 = some [(0, 1), (1, 1)] := by kernel_rfl
@[go_sem] theorem zeroD47 : zeroD Try.prog 47 = some [.v (.slice none 0 0)] := by kernel_rfl
@[go_sem] theorem isBy47 : isBy Try.prog 47 = true := by kernel_rfl
@[go_sem] theorem undSl47 : Program.underlying Try.prog 47 = some (.slice 5) := by kernel_rfl
@[go_sem] theorem elOf47 : elOf Try.prog 47 = some (5, 1, 1) := by kernel_rfl
@[go_sem] theorem zeroD52 : zeroD Try.prog 52 = some [.v (.bool false), .v (.int .u8 0), .v (.int .u8 0), .v (.slice none 0 0)] := by kernel_rfl
@[go_sem] theorem places52 : places Try.prog 52 = some [(0, 1), (1, 1), (2, 1), (3, 1)] := by kernel_rfl
@[go_sem] theorem zeroD76 : zeroD Try.prog 76 = some [.v (.nilFunc)] := by kernel_rfl
@[go_sem] theorem isFnT76 : isFnT Try.prog 76 = True := by kernel_rfl
@[go_sem] theorem zeroD78 : zeroD Try.prog 78 = some [.v (.int .u64 0)] := by kernel_rfl

end Go.Proofs.Ytcfkcmalkbdphaa.Ty
