/-
 bF 16 of the proof of Pb: the engine and the walks, in their order.
-/
import Derived.Test.YtlaefellhnkfbaaGreatPb9
import Derived.Test.YtlaefellhnkfbaaGreatPb15
set_option linter.unusedSimpArgs false
set_option linter.unusedVariables false
namespace Go.Proofs.YtlaefellhnkfbaaGreat.Ty
open Go.Eng
@[go_sem] theorem amD : bV Tryz.prog 3 = some [.v (.int .i64 0)] := by kernel_rfl
@[go_sem] theorem am7 : cu Tryz.prog 23 = some (145, 2, 8) := by kernel_rfl
@[go_sem] theorem al8 : bV Tryz.prog 26 = some [.v (.int .i64 0), .v (.slice none 0 0), .v (.int .i64 0), .v (.int .i64 0), .v (.int .i64 0), .v (.int .i64 0), .v (.int .i64 0), .v (.int .i64 0), .v (.int .i64 0), .v (.int .i64 0), .v (.int .i64 0), .v (.int .i64 0), .v (.int .i64 0), .v (.int .i64 0), .v (.int .u32 0)] := by kernel_rfl
@[go_sem] theorem alk : dp Tryz.prog 26 = some [(0, 1), (1, 1), (2, 1), (3, 1), (4, 1), (5, 1), (6, 1), (7, 1), (8, 1), (9, 1), (10, 1), (11, 1), (12, 1), (13, 1), (14, 1)] := by kernel_rfl
@[go_sem] theorem amI : cu Tryz.prog 27 = some (75, 22, 232) := by kernel_rfl
@[go_sem] theorem al2 : bV Tryz.prog 30 = some [.v (.int .u16 0)] := by kernel_rfl
@[go_sem] theorem amt : cu Tryz.prog 31 = some (145, 2, 8) := by kernel_rfl
@[go_sem] theorem alU : bV Tryz.prog 32 = some [.v (.slice none 0 0)] := by kernel_rfl
@[go_sem] theorem anc : cu Tryz.prog 32 = some (34, 4, 32) := by kernel_rfl
@[go_sem] theorem al3 : bV Tryz.prog 34 = some [.v (.int .u8 0), .v (.int .u16 0), .v (.int .u8 0), .v (.slice none 0 0)] := by kernel_rfl
@[go_sem] theorem ajZ : dp Tryz.prog 34 = some [(0, 1), (1, 1), (2, 1), (3, 1)] := by kernel_rfl
@[go_sem] theorem al0 : bV Tryz.prog 36 = some [.v (.bool false), .v (.bool false), .v (.int .u8 0), .v (.int .u16 0), .v (.int .u8 0), .v (.slice none 0 0), .v (.int .u8 0), .v (.int .u16 0), .v (.int .u8 0), .v (.slice none 0 0)] := by kernel_rfl
@[go_sem] theorem akp : dp Tryz.prog 36 = some [(0, 1), (1, 1), (2, 4), (6, 4)] := by kernel_rfl
@[go_sem] theorem ama : bV Tryz.prog 38 = some [.v (.bool false), .v (.int .u8 0), .v (.int .u8 0), .v (.slice none 0 0)] := by kernel_rfl
@[go_sem] theorem ak_ : dp Tryz.prog 38 = some [(0, 1), (1, 1), (2, 1), (3, 1)] := by kernel_rfl
@[go_sem] theorem amv : cu Tryz.prog 39 = some (71, 3, 4) := by kernel_rfl
@[go_sem] theorem alW : bV Tryz.prog 40 = some [.v (.slice none 0 0)] := by kernel_rfl
@[go_sem] theorem amG : cu Tryz.prog 40 = some (64, 3, 8) := by kernel_rfl
@[go_sem] theorem amm : cu Tryz.prog 41 = some (132, 3, 16) := by kernel_rfl
@[go_sem] theorem am3 : cu Tryz.prog 43 = some (40, 1, 24) := by kernel_rfl
@[go_sem] theorem amQ : cu Tryz.prog 44 = some (63, 5, 56) := by kernel_rfl
@[go_sem] theorem amf : bV Tryz.prog 46 = some [.v (.int .i64 0), .v (.slice none 0 0)] := by kernel_rfl
@[go_sem] theorem akj : dp Tryz.prog 46 = some [(0, 1), (1, 1)] := by kernel_rfl
@[go_sem] theorem am0 : cu Tryz.prog 47 = some (152, 5, 12) := by kernel_rfl
@[go_sem] theorem amc : bV Tryz.prog 49 = some [.v (.int .u8 0), .v (.int .u16 0), .v (.bool false), .v (.slice none 0 0), .v (.slice none 0 0), .v (.slice none 0 0), .v (.bool false), .v (.bool false), .v (.int .u8 0), .v (.int .u16 0), .v (.int .u8 0), .v (.slice none 0 0), .v (.int .u8 0), .v (.int .u16 0), .v (.int .u8 0), .v (.slice none 0 0), .v (.bool false), .v (.int .u8 0), .v (.int .u8 0), .v (.slice none 0 0), .v (.slice none 0 0), .v (.int .u32 0), .v (.slice none 0 0), .v (.int .u32 0), .v (.slice none 0 0), .v (.slice none 0 0), .v (.int .i64 0), .v (.slice none 0 0), .v (.slice none 0 0), .v (.int .i64 0), .v (.int .i64 0), .v (.int .i64 0)] := by kernel_rfl
@[go_sem] theorem alw : dp Tryz.prog 49 = some [(0, 1), (1, 1), (2, 1), (3, 1), (4, 1), (5, 1), (6, 10), (16, 4), (20, 1), (21, 1), (22, 1), (23, 1), (24, 1), (25, 1), (26, 2), (28, 1), (29, 1), (30, 1), (31, 1)] := by kernel_rfl
@[go_sem] theorem amg : cu Tryz.prog 52 = some (67, 17, 176) := by kernel_rfl
@[go_sem] theorem amR : cu Tryz.prog 60 = some (21, 1, 4) := by kernel_rfl
@[go_sem] theorem amX : cu Tryz.prog 61 = some (5, 1, 1) := by kernel_rfl
@[go_sem] theorem al6 : bV Tryz.prog 63 = some [.v (.int .u8 0), .v (.int .u16 0), .v (.int .u32 0), .v (.slice none 0 0), .v (.slice none 0 0)] := by kernel_rfl
@[go_sem] theorem akB : dp Tryz.prog 63 = some [(0, 3), (3, 1), (4, 1)] := by kernel_rfl
@[go_sem] theorem alX : bV Tryz.prog 64 = some [.v (.int .u8 0), .v (.int .u16 0), .v (.int .u32 0)] := by kernel_rfl
@[go_sem] theorem al9 : bV Tryz.prog 67 = some [.v (.int .u8 0), .v (.int .u8 0), .v (.int .u16 0), .v (.int .u8 0), .v (.slice none 0 0), .v (.slice none 0 0), .v (.int .u8 0), .v (.int .u16 0), .v (.int .u32 0), .v (.slice none 0 0), .v (.slice none 0 0), .v (.int .u8 0), .v (.int .u8 0), .v (.int .u16 0), .v (.int .u32 0), .v (.slice none 0 0), .v (.slice none 0 0)] := by kernel_rfl
@[go_sem] theorem akQ : dp Tryz.prog 67 = some [(0, 1), (1, 1), (2, 1), (3, 1), (4, 1), (5, 1), (6, 5), (11, 1), (12, 3), (15, 1), (16, 1)] := by kernel_rfl
@[go_sem] theorem al5 : bV Tryz.prog 71 = some [.v (.int .u16 0), .v (.int .u8 0), .v (.int .u8 0)] := by kernel_rfl
@[go_sem] theorem ali : dp Tryz.prog 71 = some [(0, 1), (1, 1), (2, 1)] := by kernel_rfl
@[go_sem] theorem ana : cu Tryz.prog 73 = some (24, 1, 4) := by kernel_rfl
@[go_sem] theorem alZ : bV Tryz.prog 75 = some [.v (.int .u8 0), .v (.int .u8 0), .v (.int .u16 0), .v (.slice none 0 0), .v (.int .u8 0), .v (.int .u8 0), .v (.int .u16 0), .v (.int .u8 0), .v (.slice none 0 0), .v (.slice none 0 0), .v (.int .u8 0), .v (.int .u16 0), .v (.int .u32 0), .v (.slice none 0 0), .v (.slice none 0 0), .v (.int .u8 0), .v (.int .u8 0), .v (.int .u16 0), .v (.int .u32 0), .v (.slice none 0 0), .v (.slice none 0 0), .v (.slice none 0 0)] := by kernel_rfl
@[go_sem] theorem alv : bV Tryz.prog 105 = some [.v (.int .i64 0), .v (.slice none 0 0), .v (.int .i64 0), .v (.int .i64 0), .v (.int .i64 0), .v (.int .i64 0), .v (.int .i64 0), .v (.int .i64 0), .v (.int .i64 0), .v (.int .i64 0), .v (.int .i64 0), .v (.int .i64 0), .v (.int .i64 0), .v (.int .i64 0), .v (.int .u32 0), .v (.int .u8 0), .v (.int .u16 0), .v (.bool false), .v (.slice none 0 0), .v (.slice none 0 0), .v (.slice none 0 0), .v (.bool false), .v (.bool false), .v (.int .u8 0), .v (.int .u16 0), .v (.int .u8 0), .v (.slice none 0 0), .v (.int .u8 0), .v (.int .u16 0), .v (.int .u8 0), .v (.slice none 0 0), .v (.bool false), .v (.int .u8 0), .v (.int .u8 0), .v (.slice none 0 0), .v (.slice none 0 0), .v (.int .u32 0), .v (.slice none 0 0), .v (.int .u32 0), .v (.slice none 0 0), .v (.slice none 0 0), .v (.int .i64 0), .v (.slice none 0 0), .v (.slice none 0 0), .v (.int .i64 0), .v (.int .i64 0), .v (.int .i64 0), .v (.int .u8 0), .v (.int .u8 0), .v (.int .u16 0), .v (.int .u8 0), .v (.slice none 0 0), .v (.slice none 0 0), .v (.int .u8 0), .v (.int .u16 0), .v (.int .u32 0), .v (.slice none 0 0), .v (.slice none 0 0), .v (.int .u8 0), .v (.int .u8 0), .v (.int .u16 0), .v (.int .u32 0), .v (.slice none 0 0), .v (.slice none 0 0), .v (.slice none 0 0), .v (.bool false), .v (.slice none 0 0)] := by kernel_rfl
@[go_sem] theorem aju : dp Tryz.prog 105 = some [(0, 15), (15, 32), (47, 17), (64, 1), (65, 1), (66, 1)] := by kernel_rfl
@[go_sem] theorem al1 : cu Tryz.prog 112 = some (32, 1, 24) := by kernel_rfl
@[go_sem] theorem aly : bV Tryz.prog 130 = some [.v (.int .u64 0)] := by kernel_rfl
@[go_sem] theorem ajS : bV Tryz.prog 132 = some [.v (.int .u16 0), .v (.int .u32 0), .v (.int .u64 0)] := by kernel_rfl
@[go_sem] theorem alj : bV Tryz.prog 145 = some [.v (.int .i32 0), .v (.int .i32 0)] := by kernel_rfl
@[go_sem] theorem ajq : dp Tryz.prog 145 = some [(0, 1), (1, 1)] := by kernel_rfl
@[go_sem] theorem ame : cu Tryz.prog 200 = some (203, 5, 40) := by kernel_rfl
@[go_sem] theorem alf : bV Tryz.prog 203 = some [.v (.int .u8 0), .v (.int .u16 0), .v (.int .u8 0), .v (.slice none 0 0), .v (.int .u32 0)] := by kernel_rfl
@[go_sem] theorem ajD : dp Tryz.prog 203 = some [(0, 4), (4, 1)] := by kernel_rfl
@[go_sem] theorem amu : esz Tryz.prog 238 = none := by kernel_rfl
@[go_sem] theorem amO : asz Tryz.prog 238 = some (256, 4) := by kernel_rfl
@[go_sem] theorem al4 : ag2 Tryz.prog 238 = some (256, true, 4) := by kernel_rfl
@[go_sem] theorem ak3 : bV Tryz.prog 245 = some [.v (.int .u64 0)] := by kernel_rfl
@[go_sem] theorem amb : cu Tryz.prog 260 = some (3, 1, 8) := by kernel_rfl
end Go.Proofs.YtlaefellhnkfbaaGreat.Ty
