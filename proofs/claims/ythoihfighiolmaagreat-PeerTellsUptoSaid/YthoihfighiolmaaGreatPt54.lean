/-
 PeerTells is true of every input, of at most 1048576 values together, and never panics: which configurations are right, and what becomes of a peer, what it says, whom it links to, and what may be, behind anything that comes to it, is exactly as the document defines, or its error. No other condition.
-/
import Derived.Test.YthoihfighiolmaaGreatPt53
import Derived.JoinedCond
set_option linter.unusedSectionVars false
set_option linter.unusedSimpArgs false
set_option linter.unusedVariables false
/-
 PeerTells is true of every input, of at most 1048576 values together, and never panics: which configurations are right, and what becomes of a peer, what it says, whom it links to, and what may be, behind anything that comes to it, is exactly as the document defines, or its error. No other condition.
-/
namespace Go.Proofs.YthoihfighiolmaaGreat.peerTells
open Go.Eng Go.ChangeShapes Go.WideShapes Go.RowKit
set_option maxRecDepth 100000 in
theorem lifted (os:Os) (started:os.Started) (H:Type) (enc:TypeId×Value->H) (F:Stop.Interp):
  ReturnsInHanded {} Tryz.checked os 3 .any ((Rows.OpenSpec.upto Rows.peerTellsSpec).pre6 enc Tryz.prog Tryz.f3 Rows.peerTellsUptoRow.domain false) (((Rows.OpenSpec.upto Rows.peerTellsSpec).at F).post enc Tryz.prog Tryz.f3 false true false false):=by
 refine returnsInHanded_of_cond (C:=Tryz.checked) (s:=Rows.OpenSpec.upto Rows.peerTellsSpec) (k:=Rows.uptoSmall) rfl own started (by kernel_rfl) Tryz.func3
  (OpenSpec.witness (enc:=enc) (C:=Tryz.checked) (s:=Rows.OpenSpec.upto Rows.peerTellsSpec) (k:=Rows.uptoSmall) rfl false ⟨#[],#[.agg #[(.int .i64 0),(.slice none 0 0),(.int .i64 0),(.int .i64 0),(.int .i64 0),(.int .i64 0),(.int .i64 0),(.int .i64 0),(.int .i64 0),(.int .i64 0),(.int .i64 0),(.int .i64 0),(.int .i64 0),(.int .i64 0),(.int .u32 0)],(.int .u8 0),(.slice none 0 0)],[]⟩ 8 (by kernel_rfl) (by kernel_rfl) (by kernel_rfl)
   (x:=([.agg [.lit (.int .i64 0),.nil,.lit (.int .i64 0),.lit (.int .i64 0),.lit (.int .i64 0),.lit (.int .i64 0),.lit (.int .i64 0),.lit (.int .i64 0),.lit (.int .i64 0),.lit (.int .i64 0),.lit (.int .i64 0),.lit (.int .i64 0),.lit (.int .i64 0),.lit (.int .i64 0),.lit (.int .u32 0)],.lit (.int .u8 0),.nil],[],[])) (by kernel_rfl) rfl (by kernel_rfl)) ?_
 intro W base args ds gs before hval0 hW _ hk _
 have hval: ∀(j:Nat) t v,Tryz.f3.params[j]? =some t->args[j]? =some v->Value.okWide Tryz.prog W .any base t v:=hval0
 have hW':=hW
 obtain⟨p,q,hA0,hV,rfl,hfz,hnd⟩:=hW
 have hA:DataW.TrodAll enc Tryz.prog W 0 (fun _=>true) true Tryz.f3.params.toList args.toList ds p:=hA0
 rw[Tryz.params3]at hA hval
 obtain⟨v0,vs0,d0,ds0,p0,q0,hargs,rfl,rfl,h0,r0⟩:=trodAll_cons hA
 obtain⟨v1,vs1,d1,ds1,p1,q1,rfl,rfl,rfl,h1,r1⟩:=trodAll_cons r0
 obtain⟨v2,vs2,d2,ds2,p2,q2,rfl,rfl,rfl,h2,r2⟩:=trodAll_cons r1
 obtain⟨rfl,rfl,rfl⟩:=trodAll_nil r2
 obtain rfl:args=#[v0,v1,v2]:=by cases args;simp_all
 obtain⟨rfl,rfl⟩:=trodVars_none hV
 have hv0:=hval 0 26 v0 rfl rfl
 have hv1:=hval 1 5 v1 rfl rfl
 have hv2:=hval 2 27 v2 rfl rfl
 have hbk: ∀d∈[d0,d1,d2]++([]:List (DataW H)),V.Bk d:=fun d hd=>by
  have h1:Rows.uptoBulkAll ([d0,d1,d2]++([]:List (DataW H)))<=1048576:=of_decide_eq_true hk
  have h2:=V.bk_part hd
  exact Nat.le_trans h2 h1
 obtain⟨c,hc,hcs,hcl⟩:=V.conf_arg hv0 (hbk d0 (by simp)) h0
 obtain⟨a1,rfl,_,_,w1⟩:=open_int Tryz.underlying5 hv1 h1
 obtain⟨k1,rfl⟩:=akJ w1
 obtain⟨ops,ho,hom,hol⟩:=V.Rd.arg V.ops24_r Tryz.underlying27 hv2 (hbk d2 (by simp)) h2
 exact tP (args:=[_,_,_]) laid amz full (by kernel_rfl) rfl Tryz.underlying4 (by kernel_rfl) hW' rfl ((V.peerTells_con c k1 ops hcs (Nat.le_trans hcl (by decide)) (Nat.le_trans hol (by decide)) (fun o h=>⟨Nat.le_trans (hom o h).1.2.1 (by decide),Nat.le_trans (hom o h).1.2.2.1 (by decide),fun d hd=>((hom o h).1.1 d hd).1,(hom o h).2.1⟩) (fun o h=>⟨Nat.le_trans (hom o h).1.2.2.2.1 (by decide),Nat.le_trans (hom o h).1.2.2.2.2.1 (by decide),Nat.le_trans (hom o h).1.2.2.2.2.2.1 (by decide),Nat.le_trans (hom o h).1.2.2.2.2.2.2 (by decide)⟩)).con (.cons hc (.cons (.plain rfl) (.one ho))))
theorem q0:(Rows.peerTellsUptoRow.inPlace==Tryz.pinned.checked.prog.inPlace 3)=true:=by kernel_rfl
theorem q1:(Rows.peerTellsUptoRow.unfollowed==Tryz.pinned.checked.prog.unfollowed 3)=true:=by kernel_rfl
theorem q2:(Rows.peerTellsUptoRow.recurses==Tryz.pinned.checked.prog.recurses 3)=true:=by kernel_rfl
theorem q3:(Rows.peerTellsUptoRow.named==Tryz.pinned.checked.prog.varsNamed 3)=true:=by kernel_rfl
theorem alf:joinedFacts Tryz.pinned.checked.prog 3 Tryz.f3 (Rows.OpenSpec.upto Rows.peerTellsSpec).bare Rows.peerTellsUptoRow=true:=by
 unfold joinedFacts;rw[q0,q1,q2,q3];kernel_rfl
theorem over:Rows.peerTellsUptoRow.holds Tryz.pinned (Rows.OpenSpec.upto Rows.peerTellsSpec):=
 OpenClaim.holds_of_cond 3 Tryz.f3 rfl rfl rfl rfl rfl rfl rfl ⟨rfl,rfl,rfl,rfl,rfl⟩ rfl rfl rfl rfl rfl (by kernel_rfl) Tryz.func3 alf
  (of_decide_eq_true (by kernel_rfl)) (by unfold Func.isWrapper;first|(rw[if_pos (by decide+kernel)];kernel_rfl)|(rw[if_neg (by decide+kernel)];exact⟨rfl,rfl⟩))
  (fun os started H enc _ F=>lifted os started H enc F)
theorem proved:Rows.PeerTellsUptoSaid:=over
#print axioms proved
end Go.Proofs.YthoihfighiolmaaGreat.peerTells
