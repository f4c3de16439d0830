/-
 NodeRepairs is true of every input, of at most 1048576 values together, and never panics: of two peers that know one another, the one that hears the other one's digest asks for what it lacks, and may take, as much as it has room for; it is answered, and has seen it then; told again it asks for nothing of that. No other condition.
-/
import Derived.Test.YtmhmahcdanclnaaGreatNr49
import Derived.Test.YtmhmahcdanclnaaGreatNr50
import Derived.JoinedCond
set_option linter.unusedSectionVars false
set_option linter.unusedSimpArgs false
set_option linter.unusedVariables false
set_option maxRecDepth 10000
/-
 NodeRepairs is true of every input, of at most 1048576 values together, and never panics: of two peers that know one another, the one that hears the other one's digest asks for what it lacks, and may take, as much as it has room for; it is answered, and has seen it then; told again it asks for nothing of that. No other condition.
-/
namespace Go.Proofs.YtmhmahcdanclnaaGreat.V
open Go.Eng Go.ChangeShapes Go.WideShapes Go.RowKit
section
variable {H:Type} {enc:TypeId×Value->H} {w:World} {base:Nat} {sp:Nat->Bool} {held:Bool}
theorem fil_arg{v:Value}{d:DataW H}{ps:List MemPlace}{b0:Nat}(hval:Value.okWide Tryz.prog w .any b0 31 v)(hb:Bk d)(h:DataW.Trod enc Tryz.prog w base sp held 31 v d ps):
  ∃l:List GSpan,HV w (.fz 2 (l.map aQ)) noB v/\(∀g∈l,okS g)/\l.length<=1048576:=by
 obtain⟨a0,len0,cap0,rfl⟩:=okWide_slice Tryz.underlying31 hval;obtain⟨fuel,hf⟩:=h;obtain⟨l,⟨v,V,e1,h1,h2⟩,h3,h4⟩:=alE (x:=(d,ps)) hb hf
 obtain rfl:v= .slice a0 len0 cap0:=by
  have:[Value.slice a0 len0 cap0]=v::V:=e1;cases this;rfl
 exact⟨l,h1,h3,h4⟩
end
end Go.Proofs.YtmhmahcdanclnaaGreat.V
namespace Go.Proofs.YtmhmahcdanclnaaGreat.nodeRepairs
open Go.Eng Go.ChangeShapes Go.WideShapes Go.RowKit
set_option maxRecDepth 100000 in
theorem lifted (os:Os) (started:os.Started) (H:Type) (enc:TypeId×Value->H) (F:Stop.Interp):
  ReturnsInHanded {} Tryz.checked os 6 .any ((Rows.OpenSpec.upto Rows.nodeRepairsSpec).pre6 enc Tryz.prog Tryz.f6 Rows.nodeRepairsUptoRow.domain false) (((Rows.OpenSpec.upto Rows.nodeRepairsSpec).at F).post enc Tryz.prog Tryz.f6 false true false false):=by
 refine returnsInHanded_of_cond (C:=Tryz.checked) (s:=Rows.OpenSpec.upto Rows.nodeRepairsSpec) (k:=Rows.uptoSmall) rfl own started (by kernel_rfl) Tryz.func6
  (OpenSpec.witness (enc:=enc) (C:=Tryz.checked) (s:=Rows.OpenSpec.upto Rows.nodeRepairsSpec) (k:=Rows.uptoSmall) rfl false ⟨#[],#[.agg #[(.int .i64 0),(.slice none 0 0),(.int .i64 0),(.int .i64 0),(.int .i64 0),(.int .i64 0),(.int .i64 0),(.int .i64 0),(.int .i64 0),(.int .i64 0),(.int .i64 0),(.int .i64 0),(.int .i64 0),(.int .i64 0),(.int .u32 0)],(.int .u8 0),(.slice none 0 0)],[]⟩ 8 (by kernel_rfl) (by kernel_rfl) (by kernel_rfl)
   (x:=([.agg [.lit (.int .i64 0),.nil,.lit (.int .i64 0),.lit (.int .i64 0),.lit (.int .i64 0),.lit (.int .i64 0),.lit (.int .i64 0),.lit (.int .i64 0),.lit (.int .i64 0),.lit (.int .i64 0),.lit (.int .i64 0),.lit (.int .i64 0),.lit (.int .i64 0),.lit (.int .i64 0),.lit (.int .u32 0)],.lit (.int .u8 0),.nil],[],[])) (by kernel_rfl) rfl (by kernel_rfl)) ?_
 intro W base args ds gs before hval0 hW _ hk _
 have hval: ∀(j:Nat) t v,Tryz.f6.params[j]? =some t->args[j]? =some v->Value.okWide Tryz.prog W .any base t v:=hval0
 have hW':=hW
 obtain⟨p,q,hA0,hV,rfl,hfz,hnd⟩:=hW
 have hA:DataW.TrodAll enc Tryz.prog W 0 (fun _=>true) true Tryz.f6.params.toList args.toList ds p:=hA0
 rw[Tryz.params6]at hA hval
 obtain⟨v0,vs0,d0,ds0,p0,q0,hargs,rfl,rfl,h0,r0⟩:=trodAll_cons hA
 obtain⟨v1,vs1,d1,ds1,p1,q1,rfl,rfl,rfl,h1,r1⟩:=trodAll_cons r0
 obtain⟨v2,vs2,d2,ds2,p2,q2,rfl,rfl,rfl,h2,r2⟩:=trodAll_cons r1
 obtain⟨rfl,rfl,rfl⟩:=trodAll_nil r2
 obtain rfl:args=#[v0,v1,v2]:=by cases args;simp_all
 obtain⟨rfl,rfl⟩:=trodVars_none hV
 have hv0:=hval 0 26 v0 rfl rfl
 have hv1:=hval 1 5 v1 rfl rfl
 have hv2:=hval 2 31 v2 rfl rfl
 have hbk: ∀d∈[d0,d1,d2]++([]:List (DataW H)),V.Bk d:=fun d hd=>by
  have h1:Rows.uptoBulkAll ([d0,d1,d2]++([]:List (DataW H)))<=1048576:=of_decide_eq_true hk
  have h2:=V.bk_part hd
  exact Nat.le_trans h2 h1
 obtain⟨c,hc,hcs,hcl⟩:=V.conf_arg hv0 (hbk d0 (by simp)) h0
 obtain⟨a1,rfl,_,_,w1⟩:=open_int Tryz.underlying5 hv1 h1
 obtain⟨k1,rfl⟩:=ar0 w1
 obtain⟨f,hf,hfs,hfl⟩:=V.fil_arg hv2 (hbk d2 (by simp)) h2
 exact yw (args:=[_,_,_]) laid arJ full (by kernel_rfl) rfl Tryz.underlying4 (by kernel_rfl) hW' rfl ((V.nodeRepairs_con c k1 f hcs hcl hfl hfs).con (.cons hc (.cons (.plain rfl) (.one hf))))
theorem q0:(Rows.nodeRepairsUptoRow.inPlace==Tryz.pinned.checked.prog.inPlace 6)=true:=by kernel_rfl
theorem q1:(Rows.nodeRepairsUptoRow.unfollowed==Tryz.pinned.checked.prog.unfollowed 6)=true:=by kernel_rfl
theorem q2:(Rows.nodeRepairsUptoRow.recurses==Tryz.pinned.checked.prog.recurses 6)=true:=by kernel_rfl
theorem q3:(Rows.nodeRepairsUptoRow.named==Tryz.pinned.checked.prog.varsNamed 6)=true:=by kernel_rfl
theorem aqd:joinedFacts Tryz.pinned.checked.prog 6 Tryz.f6 (Rows.OpenSpec.upto Rows.nodeRepairsSpec).bare Rows.nodeRepairsUptoRow=true:=by
 unfold joinedFacts;rw[q0,q1,q2,q3];kernel_rfl
theorem over:Rows.nodeRepairsUptoRow.holds Tryz.pinned (Rows.OpenSpec.upto Rows.nodeRepairsSpec):=
 OpenClaim.holds_of_cond 6 Tryz.f6 rfl rfl rfl rfl rfl rfl rfl ⟨rfl,rfl,rfl,rfl,rfl⟩ rfl rfl rfl rfl rfl (by kernel_rfl) Tryz.func6 aqd
  (of_decide_eq_true (by kernel_rfl)) (by unfold Func.isWrapper;first|(rw[if_pos (by decide+kernel)];kernel_rfl)|(rw[if_neg (by decide+kernel)];exact⟨rfl,rfl⟩))
  (fun os started H enc _ F=>lifted os started H enc F)
theorem proved:Rows.NodeRepairsUptoSaid:=over
#print axioms proved
end Go.Proofs.YtmhmahcdanclnaaGreat.nodeRepairs
