import Derived.Test.YthoihfighiolmaaGreatPt7
import Derived.Test.YthoihfighiolmaaGreatProg
set_option linter.unusedSectionVars false
set_option linter.unusedSimpArgs false
set_option linter.unusedVariables false
namespace Go.Proofs.YthoihfighiolmaaGreat.Ty
open Go.Eng
theorem mixed:Tryz.prog.follows .mixedOrders=true:=by kernel_rfl
@[go_sem] theorem cj0:lP Tryz.prog 2=some .i64:=by kernel_rfl
@[go_sem] theorem cj1:lay Tryz.prog 3=some (false,1):=by kernel_rfl
@[go_sem] theorem intK3:lP Tryz.prog 3=some .i64:=by kernel_rfl
@[go_sem] theorem cj2:lay Tryz.prog 4=some (false,1)/\dK Tryz.prog 4=some [(.bool false)]/\Program.underlying Tryz.prog 4=some .bool/\lay Tryz.prog 5=some (false,1)/\lP Tryz.prog 5=some .u8/\Program.underlying Tryz.prog 9=some .string/\lay Tryz.prog 21=some (false,1)/\lP Tryz.prog 21=some .i32/\lay Tryz.prog 22=some (false,1)/\esz Tryz.prog 22=some 2/\eu Tryz.prog 22=true/\lay Tryz.prog 23=some (false,1)/\esz Tryz.prog 23=some 2/\eu Tryz.prog 23=true/\lay Tryz.prog 24=some (false,1)/\lP Tryz.prog 24=some .u32/\lay Tryz.prog 26=some (true,15)/\bg Tryz.prog 26 0=some 0/\bg Tryz.prog 26 1=some 1/\bg Tryz.prog 26 2=some 2/\bg Tryz.prog 26 3=some 3/\bg Tryz.prog 26 4=some 4/\bg Tryz.prog 26 5=some 5/\bg Tryz.prog 26 6=some 6/\bg Tryz.prog 26 7=some 7/\bg Tryz.prog 26 8=some 8/\bg Tryz.prog 26 9=some 9/\bg Tryz.prog 26 10=some 10/\bg Tryz.prog 26 11=some 11/\bg Tryz.prog 26 12=some 12/\bg Tryz.prog 26 13=some 13/\bg Tryz.prog 26 14=some 14/\esz Tryz.prog 27=some 22/\eu Tryz.prog 27=true/\lay Tryz.prog 30=some (false,1)/\lP Tryz.prog 30=some .u16/\lay Tryz.prog 31=some (false,1)/\dK Tryz.prog 31=some [(.slice none 0 0)]/\esz Tryz.prog 31=some 2/\eu Tryz.prog 31=true:=by and_intros<;>kernel_rfl
@[go_sem] theorem el31:cU Tryz.prog 31 138 2 8=true:=by kernel_rfl
@[go_sem] theorem cj3:lay Tryz.prog 32=some (false,1)/\esz Tryz.prog 32=some 4/\eu Tryz.prog 32=true:=by and_intros<;>kernel_rfl
@[go_sem] theorem el32:cU Tryz.prog 32 34 4 32=true:=by kernel_rfl
@[go_sem] theorem cj4:lay Tryz.prog 34=some (true,4):=by kernel_rfl
@[go_sem] theorem zero34:dK Tryz.prog 34=some [(.int .u8 0),(.int .u16 0),(.int .u8 0),(.slice none 0 0)]:=by kernel_rfl
@[go_sem] theorem cj5:bg Tryz.prog 34 0=some 0/\bg Tryz.prog 34 1=some 1/\bg Tryz.prog 34 2=some 2/\bg Tryz.prog 34 3=some 3/\lay Tryz.prog 36=some (true,10)/\bg Tryz.prog 36 0=some 0/\bg Tryz.prog 36 1=some 1/\bg Tryz.prog 36 2=some 2/\bg Tryz.prog 36 3=some 6/\lay Tryz.prog 38=some (true,4)/\bg Tryz.prog 38 0=some 0/\bg Tryz.prog 38 1=some 1/\bg Tryz.prog 38 2=some 2/\bg Tryz.prog 38 3=some 3/\lay Tryz.prog 39=some (false,1)/\esz Tryz.prog 39=some 3/\eu Tryz.prog 39=true/\lay Tryz.prog 40=some (false,1)/\esz Tryz.prog 40=some 3/\eu Tryz.prog 40=true/\lay Tryz.prog 41=some (false,1)/\esz Tryz.prog 41=some 3/\eu Tryz.prog 41=true/\lay Tryz.prog 43=some (false,1)/\esz Tryz.prog 43=some 1/\eu Tryz.prog 43=true/\lay Tryz.prog 44=some (false,1)/\esz Tryz.prog 44=some 5/\eu Tryz.prog 44=true/\bg Tryz.prog 46 0=some 0/\bg Tryz.prog 46 1=some 1/\lay Tryz.prog 47=some (false,1)/\esz Tryz.prog 47=some 5/\eu Tryz.prog 47=true/\lay Tryz.prog 49=some (true,32)/\bg Tryz.prog 49 0=some 0/\bg Tryz.prog 49 1=some 1/\bg Tryz.prog 49 2=some 2/\bg Tryz.prog 49 3=some 3/\bg Tryz.prog 49 4=some 4/\bg Tryz.prog 49 5=some 5/\bg Tryz.prog 49 6=some 6/\bg Tryz.prog 49 7=some 16/\bg Tryz.prog 49 8=some 20/\bg Tryz.prog 49 9=some 21/\bg Tryz.prog 49 10=some 22/\bg Tryz.prog 49 11=some 23/\bg Tryz.prog 49 12=some 24/\bg Tryz.prog 49 13=some 25/\bg Tryz.prog 49 14=some 26/\bg Tryz.prog 49 15=some 28/\bg Tryz.prog 49 16=some 29/\bg Tryz.prog 49 17=some 30/\bg Tryz.prog 49 18=some 31/\lay Tryz.prog 52=some (true,3)/\lay Tryz.prog 53=some (false,1)/\esz Tryz.prog 53=some 1/\eu Tryz.prog 53=true/\lay Tryz.prog 54=some (false,1)/\esz Tryz.prog 54=some 1:=by and_intros<;>kernel_rfl
@[go_sem] theorem cj6:eu Tryz.prog 54=true/\lay Tryz.prog 56=some (true,5)/\bg Tryz.prog 56 0=some 0/\bg Tryz.prog 56 1=some 3/\bg Tryz.prog 56 2=some 4/\lay Tryz.prog 57=some (true,3)/\bg Tryz.prog 57 0=some 0/\lay Tryz.prog 58=some (false,1)/\esz Tryz.prog 58=some 3/\eu Tryz.prog 58=true/\lay Tryz.prog 60=some (true,17)/\bg Tryz.prog 60 0=some 0/\bg Tryz.prog 60 1=some 1/\bg Tryz.prog 60 2=some 2/\bg Tryz.prog 60 3=some 3/\bg Tryz.prog 60 4=some 4/\bg Tryz.prog 60 5=some 5/\bg Tryz.prog 60 6=some 6/\bg Tryz.prog 60 7=some 11/\bg Tryz.prog 60 8=some 12/\bg Tryz.prog 60 9=some 15/\bg Tryz.prog 60 10=some 16/\lay Tryz.prog 61=some (false,1)/\esz Tryz.prog 61=some 1/\eu Tryz.prog 61=true/\lay Tryz.prog 63=some (true,22)/\bg Tryz.prog 63 0=some 0/\bg Tryz.prog 63 1=some 1/\bg Tryz.prog 63 2=some 2/\bg Tryz.prog 63 3=some 3/\bg Tryz.prog 63 4=some 4/\bg Tryz.prog 63 5=some 21/\lay Tryz.prog 65=some (false,1)/\esz Tryz.prog 65=some 17/\eu Tryz.prog 65=true/\lay Tryz.prog 102=some (false,1)/\lP Tryz.prog 102=some .u64/\lay Tryz.prog 104=some (true,3)/\lay Tryz.prog 111=some (true,3)/\bg Tryz.prog 111 0=some 0/\bg Tryz.prog 111 1=some 1/\bg Tryz.prog 111 2=some 2/\esz Tryz.prog 131=some 1/\eu Tryz.prog 131=true/\lay Tryz.prog 138=some (true,2)/\dK Tryz.prog 138=some [(.int .i32 0),(.int .i32 0)]/\bg Tryz.prog 138 0=some 0/\bg Tryz.prog 138 1=some 1/\bg Tryz.prog 170 0=some 0/\bg Tryz.prog 170 1=some 15/\bg Tryz.prog 170 2=some 47/\bg Tryz.prog 170 3=some 64/\bg Tryz.prog 170 4=some 65/\bg Tryz.prog 170 5=some 66/\lay Tryz.prog 201=some (true,5)/\lP Tryz.prog 210=some .u64/\esz Tryz.prog 289=some 5/\eu Tryz.prog 289=true/\lay Tryz.prog 292=some (true,5)/\bg Tryz.prog 292 0=some 0:=by and_intros<;>kernel_rfl
@[go_sem] theorem cj7:bg Tryz.prog 292 1=some 4/\lay Tryz.prog 318=some (false,1)/\lP Tryz.prog 318=some .u64/\lay Tryz.prog 330=some (true,1024)/\esz Tryz.prog 356=some 1/\eu Tryz.prog 356=true:=by and_intros<;>kernel_rfl
theorem sS:Tryz.prog.eqGuardType Tryz.prog.depth 52=false:=by kernel_rfl
theorem ajD(a0 a1 a2 b0 b1 b2:Int)(w:World):(binOp .eql 52 (.agg #[.int .u8 a0,.int .u16 a1,.int .u32 a2]) (.agg #[.int .u8 b0,.int .u16 b1,.int .u32 b2])).run Tryz.prog w= .ok (.bool (a0==b0&&(a1==b1&&(a2==b2)))) w:=by
 go_simp
 by_cases h0:a0=b0<;>by_cases h1:a1=b1<;>by_cases h2:a2=b2<;>simp[*]
theorem ait(a0 a1 a2 b0 b1 b2:Int)(w:World):(binOp .neq 52 (.agg #[.int .u8 a0,.int .u16 a1,.int .u32 a2]) (.agg #[.int .u8 b0,.int .u16 b1,.int .u32 b2])).run Tryz.prog w= .ok (.bool (!(a0==b0&&(a1==b1&&(a2==b2))))) w:=by
 go_simp
 by_cases h0:a0=b0<;>by_cases h1:a1=b1<;>by_cases h2:a2=b2<;>simp[*]
@[go_sem] theorem an4{a0 a1 a2 b0 b1 b2:Int}{y z:Operand}{K:Value->Prop}:AtPure Tryz.prog (bm .eql 52 y z (.agg #[.int .u8 a0,.int .u16 a1,.int .u32 a2]) (.agg #[.int .u8 b0,.int .u16 b1,.int .u32 b2])) K=K (.bool (a0==b0&&(a1==b1&&(a2==b2)))):=
 aA fun w=>by simp only[bm,eqGuard,Sem.run_bind,Sem.run_pure,Result.andThen_ok,Bool.not_true,Bool.false_eq_true,if_false,run_program,sS,Bool.not_false,if_true,ajD]
@[go_sem] theorem an0{a0 a1 a2 b0 b1 b2:Int}{y z:Operand}{K:Value->Prop}:AtPure Tryz.prog (bm .neq 52 y z (.agg #[.int .u8 a0,.int .u16 a1,.int .u32 a2]) (.agg #[.int .u8 b0,.int .u16 b1,.int .u32 b2])) K=K (.bool (!(a0==b0&&(a1==b1&&(a2==b2))))):=
 aA fun w=>by simp only[bm,eqGuard,Sem.run_bind,Sem.run_pure,Result.andThen_ok,Bool.not_true,Bool.false_eq_true,if_false,run_program,sS,Bool.not_false,if_true,ait]
theorem z6:Tryz.prog.eqGuardType Tryz.prog.depth 201=false:=by kernel_rfl
theorem afZ(a0 a1 a2 a3 a4 b0 b1 b2 b3 b4:Int)(w:World):(binOp .neq 201 (.agg #[.int .u8 a0,.int .u16 a1,.int .u32 a2,.int .u8 a3,.int .u8 a4]) (.agg #[.int .u8 b0,.int .u16 b1,.int .u32 b2,.int .u8 b3,.int .u8 b4])).run Tryz.prog w= .ok (.bool (!(a0==b0&&(a1==b1&&(a2==b2&&(a3==b3&&(a4==b4))))))) w:=by
 go_simp
 by_cases h0:a0=b0<;>by_cases h1:a1=b1<;>by_cases h2:a2=b2<;>by_cases h3:a3=b3<;>by_cases h4:a4=b4<;>simp[*]
@[go_sem] theorem anY{a0 a1 a2 a3 a4 b0 b1 b2 b3 b4:Int}{y z:Operand}{K:Value->Prop}:AtPure Tryz.prog (bm .neq 201 y z (.agg #[.int .u8 a0,.int .u16 a1,.int .u32 a2,.int .u8 a3,.int .u8 a4]) (.agg #[.int .u8 b0,.int .u16 b1,.int .u32 b2,.int .u8 b3,.int .u8 b4])) K=K (.bool (!(a0==b0&&(a1==b1&&(a2==b2&&(a3==b3&&(a4==b4))))))):=
 aA fun w=>by simp only[bm,eqGuard,Sem.run_bind,Sem.run_pure,Result.andThen_ok,Bool.not_true,Bool.false_eq_true,if_false,run_program,z6,Bool.not_false,if_true,afZ]
theorem qx:Tryz.prog.eqGuardType Tryz.prog.depth 138=false:=by kernel_rfl
theorem agO(a0 a1 b0 b1:Int)(w:World):(binOp .eql 138 (.agg #[.int .i32 a0,.int .i32 a1]) (.agg #[.int .i32 b0,.int .i32 b1])).run Tryz.prog w= .ok (.bool (a0==b0&&(a1==b1))) w:=by
 go_simp
 by_cases h0:a0=b0<;>by_cases h1:a1=b1<;>simp[*]
theorem aeC(a0 a1 b0 b1:Int)(w:World):(binOp .neq 138 (.agg #[.int .i32 a0,.int .i32 a1]) (.agg #[.int .i32 b0,.int .i32 b1])).run Tryz.prog w= .ok (.bool (!(a0==b0&&(a1==b1)))) w:=by
 go_simp
 by_cases h0:a0=b0<;>by_cases h1:a1=b1<;>simp[*]
@[go_sem] theorem anF{a0 a1 b0 b1:Int}{y z:Operand}{K:Value->Prop}:AtPure Tryz.prog (bm .eql 138 y z (.agg #[.int .i32 a0,.int .i32 a1]) (.agg #[.int .i32 b0,.int .i32 b1])) K=K (.bool (a0==b0&&(a1==b1))):=
 aA fun w=>by simp only[bm,eqGuard,Sem.run_bind,Sem.run_pure,Result.andThen_ok,Bool.not_true,Bool.false_eq_true,if_false,run_program,qx,Bool.not_false,if_true,agO]
@[go_sem] theorem anR{a0 a1 b0 b1:Int}{y z:Operand}{K:Value->Prop}:AtPure Tryz.prog (bm .neq 138 y z (.agg #[.int .i32 a0,.int .i32 a1]) (.agg #[.int .i32 b0,.int .i32 b1])) K=K (.bool (!(a0==b0&&(a1==b1)))):=
 aA fun w=>by simp only[bm,eqGuard,Sem.run_bind,Sem.run_pure,Result.andThen_ok,Bool.not_true,Bool.false_eq_true,if_false,run_program,qx,Bool.not_false,if_true,aeC]
