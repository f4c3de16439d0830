/-
  Part 16 of the proof of Pl: the engine and the walks, in their order.
-/
import Derived.Test.YtlaefellhnkfbaaGreatPl9
import Derived.Test.YtlaefellhnkfbaaGreatPl15
set_option linter.unusedSimpArgs false
set_option linter.unusedVariables false
namespace Go.Proofs.YtlaefellhnkfbaaGreat.Ty
open Go.Eng
@[go_sem] theorem elOf23 : elOf Tryz.prog 23 = some (145, 2, 8) := by kernel_rfl
@[go_sem] theorem zeroD26 : zeroD Tryz.prog 26 = some [.v (.int .i64 0), .v (.slice none 0 0), .v (.int .i64 0), .v (.int .i64 0), .v (.int .i64 0), .v (.int .i64 0), .v (.int .i64 0), .v (.int .i64 0), .v (.int .i64 0), .v (.int .i64 0), .v (.int .i64 0), .v (.int .i64 0), .v (.int .i64 0), .v (.int .i64 0), .v (.int .u32 0)] := by kernel_rfl
@[go_sem] theorem places26 : places Tryz.prog 26 = some [(0, 1), (1, 1), (2, 1), (3, 1), (4, 1), (5, 1), (6, 1), (7, 1), (8, 1), (9, 1), (10, 1), (11, 1), (12, 1), (13, 1), (14, 1)] := by kernel_rfl
@[go_sem] theorem elOf27 : elOf Tryz.prog 27 = some (75, 22, 232) := by kernel_rfl
@[go_sem] theorem zeroD30 : zeroD Tryz.prog 30 = some [.v (.int .u16 0)] := by kernel_rfl
@[go_sem] theorem elOf31 : elOf Tryz.prog 31 = some (145, 2, 8) := by kernel_rfl
@[go_sem] theorem zeroD32 : zeroD Tryz.prog 32 = some [.v (.slice none 0 0)] := by kernel_rfl
@[go_sem] theorem elOf32 : elOf Tryz.prog 32 = some (34, 4, 32) := by kernel_rfl
@[go_sem] theorem zeroD34 : zeroD Tryz.prog 34 = some [.v (.int .u8 0), .v (.int .u16 0), .v (.int .u8 0), .v (.slice none 0 0)] := by kernel_rfl
@[go_sem] theorem places34 : places Tryz.prog 34 = some [(0, 1), (1, 1), (2, 1), (3, 1)] := by kernel_rfl
@[go_sem] theorem zeroD36 : zeroD Tryz.prog 36 = some [.v (.bool false), .v (.bool false), .v (.int .u8 0), .v (.int .u16 0), .v (.int .u8 0), .v (.slice none 0 0), .v (.int .u8 0), .v (.int .u16 0), .v (.int .u8 0), .v (.slice none 0 0)] := by kernel_rfl
@[go_sem] theorem places36 : places Tryz.prog 36 = some [(0, 1), (1, 1), (2, 4), (6, 4)] := by kernel_rfl
@[go_sem] theorem zeroD38 : zeroD Tryz.prog 38 = some [.v (.bool false), .v (.int .u8 0), .v (.int .u8 0), .v (.slice none 0 0)] := by kernel_rfl
@[go_sem] theorem elOf39 : elOf Tryz.prog 39 = some (71, 3, 4) := by kernel_rfl
@[go_sem] theorem zeroD40 : zeroD Tryz.prog 40 = some [.v (.slice none 0 0)] := by kernel_rfl
@[go_sem] theorem elOf40 : elOf Tryz.prog 40 = some (64, 3, 8) := by kernel_rfl
@[go_sem] theorem elOf41 : elOf Tryz.prog 41 = some (132, 3, 16) := by kernel_rfl
@[go_sem] theorem elOf43 : elOf Tryz.prog 43 = some (40, 1, 24) := by kernel_rfl
@[go_sem] theorem elOf44 : elOf Tryz.prog 44 = some (63, 5, 56) := by kernel_rfl
@[go_sem] theorem zeroD46 : zeroD Tryz.prog 46 = some [.v (.int .i64 0), .v (.slice none 0 0)] := by kernel_rfl
@[go_sem] theorem places46 : places Tryz.prog 46 = some [(0, 1), (1, 1)] := by kernel_rfl
@[go_sem] theorem elOf47 : elOf Tryz.prog 47 = some (152, 5, 12) := by kernel_rfl
@[go_sem] theorem zeroD49 : zeroD Tryz.prog 49 = some [.v (.int .u8 0), .v (.int .u16 0), .v (.bool false), .v (.slice none 0 0), .v (.slice none 0 0), .v (.slice none 0 0), .v (.bool false), .v (.bool false), .v (.int .u8 0), .v (.int .u16 0), .v (.int .u8 0), .v (.slice none 0 0), .v (.int .u8 0), .v (.int .u16 0), .v (.int .u8 0), .v (.slice none 0 0), .v (.bool false), .v (.int .u8 0), .v (.int .u8 0), .v (.slice none 0 0), .v (.slice none 0 0), .v (.int .u32 0), .v (.slice none 0 0), .v (.int .u32 0), .v (.slice none 0 0), .v (.slice none 0 0), .v (.int .i64 0), .v (.slice none 0 0), .v (.slice none 0 0), .v (.int .i64 0), .v (.int .i64 0), .v (.int .i64 0)] := by kernel_rfl
@[go_sem] theorem places49 : places Tryz.prog 49 = some [(0, 1), (1, 1), (2, 1), (3, 1), (4, 1), (5, 1), (6, 10), (16, 4), (20, 1), (21, 1), (22, 1), (23, 1), (24, 1), (25, 1), (26, 2), (28, 1), (29, 1), (30, 1), (31, 1)] := by kernel_rfl
@[go_sem] theorem elOf52 : elOf Tryz.prog 52 = some (67, 17, 176) := by kernel_rfl
@[go_sem] theorem elOf60 : elOf Tryz.prog 60 = some (21, 1, 4) := by kernel_rfl
@[go_sem] theorem isBy61 : isBy Tryz.prog 61 = true := by kernel_rfl
@[go_sem] theorem elOf61 : elOf Tryz.prog 61 = some (5, 1, 1) := by kernel_rfl
@[go_sem] theorem zeroD63 : zeroD Tryz.prog 63 = some [.v (.int .u8 0), .v (.int .u16 0), .v (.int .u32 0), .v (.slice none 0 0), .v (.slice none 0 0)] := by kernel_rfl
@[go_sem] theorem places63 : places Tryz.prog 63 = some [(0, 3), (3, 1), (4, 1)] := by kernel_rfl
@[go_sem] theorem zeroD64 : zeroD Tryz.prog 64 = some [.v (.int .u8 0), .v (.int .u16 0), .v (.int .u32 0)] := by kernel_rfl
@[go_sem] theorem zeroD67 : zeroD Tryz.prog 67 = some [.v (.int .u8 0), .v (.int .u8 0), .v (.int .u16 0), .v (.int .u8 0), .v (.slice none 0 0), .v (.slice none 0 0), .v (.int .u8 0), .v (.int .u16 0), .v (.int .u32 0), .v (.slice none 0 0), .v (.slice none 0 0), .v (.int .u8 0), .v (.int .u8 0), .v (.int .u16 0), .v (.int .u32 0), .v (.slice none 0 0), .v (.slice none 0 0)] := by kernel_rfl
@[go_sem] theorem places67 : places Tryz.prog 67 = some [(0, 1), (1, 1), (2, 1), (3, 1), (4, 1), (5, 1), (6, 5), (11, 1), (12, 3), (15, 1), (16, 1)] := by kernel_rfl
@[go_sem] theorem zeroD71 : zeroD Tryz.prog 71 = some [.v (.int .u16 0), .v (.int .u8 0), .v (.int .u8 0)] := by kernel_rfl
@[go_sem] theorem places71 : places Tryz.prog 71 = some [(0, 1), (1, 1), (2, 1)] := by kernel_rfl
@[go_sem] theorem elOf73 : elOf Tryz.prog 73 = some (24, 1, 4) := by kernel_rfl
@[go_sem] theorem zeroD75 : zeroD Tryz.prog 75 = some [.v (.int .u8 0), .v (.int .u8 0), .v (.int .u16 0), .v (.slice none 0 0), .v (.int .u8 0), .v (.int .u8 0), .v (.int .u16 0), .v (.int .u8 0), .v (.slice none 0 0), .v (.slice none 0 0), .v (.int .u8 0), .v (.int .u16 0), .v (.int .u32 0), .v (.slice none 0 0), .v (.slice none 0 0), .v (.int .u8 0), .v (.int .u8 0), .v (.int .u16 0), .v (.int .u32 0), .v (.slice none 0 0), .v (.slice none 0 0), .v (.slice none 0 0)] := by kernel_rfl
@[go_sem] theorem zeroD105 : zeroD Tryz.prog 105 = some [.v (.int .i64 0), .v (.slice none 0 0), .v (.int .i64 0), .v (.int .i64 0), .v (.int .i64 0), .v (.int .i64 0), .v (.int .i64 0), .v (.int .i64 0), .v (.int .i64 0), .v (.int .i64 0), .v (.int .i64 0), .v (.int .i64 0), .v (.int .i64 0), .v (.int .i64 0), .v (.int .u32 0), .v (.int .u8 0), .v (.int .u16 0), .v (.bool false), .v (.slice none 0 0), .v (.slice none 0 0), .v (.slice none 0 0), .v (.bool false), .v (.bool false), .v (.int .u8 0), .v (.int .u16 0), .v (.int .u8 0), .v (.slice none 0 0), .v (.int .u8 0), .v (.int .u16 0), .v (.int .u8 0), .v (.slice none 0 0), .v (.bool false), .v (.int .u8 0), .v (.int .u8 0), .v (.slice none 0 0), .v (.slice none 0 0), .v (.int .u32 0), .v (.slice none 0 0), .v (.int .u32 0), .v (.slice none 0 0), .v (.slice none 0 0), .v (.int .i64 0), .v (.slice none 0 0), .v (.slice none 0 0), .v (.int .i64 0), .v (.int .i64 0), .v (.int .i64 0), .v (.int .u8 0), .v (.int .u8 0), .v (.int .u16 0), .v (.int .u8 0), .v (.slice none 0 0), .v (.slice none 0 0), .v (.int .u8 0), .v (.int .u16 0), .v (.int .u32 0), .v (.slice none 0 0), .v (.slice none 0 0), .v (.int .u8 0), .v (.int .u8 0), .v (.int .u16 0), .v (.int .u32 0), .v (.slice none 0 0), .v (.slice none 0 0), .v (.slice none 0 0), .v (.bool false), .v (.slice none 0 0)] := by kernel_rfl
@[go_sem] theorem places105 : places Tryz.prog 105 = some [(0, 15), (15, 32), (47, 17), (64, 1), (65, 1), (66, 1)] := by kernel_rfl
@[go_sem] theorem elOf112 : elOf Tryz.prog 112 = some (32, 1, 24) := by kernel_rfl
@[go_sem] theorem zeroD130 : zeroD Tryz.prog 130 = some [.v (.int .u64 0)] := by kernel_rfl
@[go_sem] theorem zeroD132 : zeroD Tryz.prog 132 = some [.v (.int .u16 0), .v (.int .u32 0), .v (.int .u64 0)] := by kernel_rfl
@[go_sem] theorem zeroD145 : zeroD Tryz.prog 145 = some [.v (.int .i32 0), .v (.int .i32 0)] := by kernel_rfl
@[go_sem] theorem places145 : places Tryz.prog 145 = some [(0, 1), (1, 1)] := by kernel_rfl
@[go_sem] theorem elOf200 : elOf Tryz.prog 200 = some (203, 5, 40) := by kernel_rfl
@[go_sem] theorem zeroD203 : zeroD Tryz.prog 203 = some [.v (.int .u8 0), .v (.int .u16 0), .v (.int .u8 0), .v (.slice none 0 0), .v (.int .u32 0)] := by kernel_rfl
@[go_sem] theorem places203 : places Tryz.prog 203 = some [(0, 4), (4, 1)] := by kernel_rfl
@[go_sem] theorem esz238 : esz Tryz.prog 238 = none := by kernel_rfl
@[go_sem] theorem asz238 : asz Tryz.prog 238 = some (256, 4) := by kernel_rfl
@[go_sem] theorem alay238 : alay Tryz.prog 238 = some (256, true, 4) := by kernel_rfl
@[go_sem] theorem elOf260 : elOf Tryz.prog 260 = some (3, 1, 8) := by kernel_rfl
end Go.Proofs.YtlaefellhnkfbaaGreat.Ty
