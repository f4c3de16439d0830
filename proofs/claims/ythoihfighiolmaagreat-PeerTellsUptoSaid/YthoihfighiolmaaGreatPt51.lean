import Derived.Test.YthoihfighiolmaaGreatPt46
import Derived.Test.YthoihfighiolmaaGreatPt47
import Derived.Test.YthoihfighiolmaaGreatPt50
set_option linter.unusedSectionVars false
set_option linter.unusedSimpArgs false
set_option linter.unusedVariables false
set_option maxRecDepth 10000
set_option maxHeartbeats 4000000
namespace Go.Proofs.YthoihfighiolmaaGreat.V
open Go.Eng
attribute [local go_sem] zDesc aP af fzD plR bb a_ aE bj aC ak bk cR z8 z16 z32 z64 encMg aH dE eI List.map_cons List.map_nil
theorem nb1:(((1:Nat):Int) !=1)=false:=rfl
theorem nb0:(((0:Nat):Int) !=0)=false:=rfl
theorem nb2:(((2:Nat):Int) !=2)=false:=rfl
theorem nb4:(((4:Nat):Int) !=4)=false:=rfl
theorem ank:((UInt16.toNat 1:Nat):Int)=1:=rfl
attribute [local go_sem] ank nb0 nb1 nb2 nb4 bne_self_eq_false anw amy ano amH amL anp List.length_cons List.length_nil
theorem ane:okH awA:=sM awC _ (oa awC 0)
theorem aw_hB:okH awB:=sM awC _ (oa awC 1)
theorem aiq:awC.schema.length<=4:=by decide
theorem afJ: ∀s∈awC.schema,okS s:=by
 intro s hs;have hs:s∈[(⟨0,9⟩:GSpan)]:=hs;rw[List.mem_singleton.1 hs];exact⟨by decide,by decide,by decide,by decide⟩
theorem anS:okMg awM:=by
 have e:awM.list=[⟨1,1,0,[]⟩]:=by kernel_rfl
 have e2:awM.table=[]:=by kernel_rfl
 exact⟨by rw[e];simp,by rw[e];simp,by rw[e];simp,by rw[e2];simp⟩
theorem anX:okMg awW:=⟨by decide,by simp[awW],by simp[awW],by decide⟩
theorem anx:okH awB1:=by
 have h:okH (aI awC awB awW.frm awW.inc).1:=ea aw_hB _ _;have h2:okH (bD (aI awC awB awW.frm awW.inc).1 awW.table):=mV h _;have hv:(d_ awC (aI awC awB awW.frm awW.inc).1 awW).view=[⟨0,1,0,[]⟩]:=by kernel_rfl
 have e:awB1=aJ awC (d_ awC (aI awC awB awW.frm awW.inc).1 awW) []:=by kernel_rfl
 rw[e]
 refine ahe ⟨ix h2.g (by
  have:(d_ awC (aI awC awB awW.frm awW.inc).1 awW).view.length<=4000000:=by rw[hv];simp
  exact this) (by
  have: ∀d∈(d_ awC (aI awC awB awW.frm awW.inc).1 awW).view,okF d:=by rw[hv];simp[okF]
  exact this),h2.rs,by rw[hv];exact⟨by simp,by simp⟩,?_⟩ ⟨by simp,by simp⟩ (by simp)
 rw[hv];have e2:(d_ awC (aI awC awB awW.frm awW.inc).1 awW).node=1:=by kernel_rfl
 rw[e2];exact⟨by decide,List.pairwise_singleton _ _⟩
theorem anO: ∃r0 r1 r2 r3:bo,(dq awC awB1 [1,2,3] awL).2=[r0,r1,r2,r3]/\(r0.kind=3/\r0.to=0/\r0.frm=1/\r0.inc=1)/\(r1.kind=5/\r1.to=0/\r1.frm=1/\r1.inc=1)/\(r2.kind=6/\r2.to=0/\r2.frm=1/\r2.inc=1)/\(r3.kind=8/\r3.to=0/\r3.frm=1/\r3.inc=1):=by
 have h:=anz;generalize (dq awC awB1 [1,2,3] awL).2=R at h;have hl:=congrArg List.length h;simp only[List.length_map,List.length_cons,List.length_nil]at hl
 match R,hl,h with
 |[r0,r1,r2,r3],_,h=>
  simp at h;exact⟨r0,r1,r2,r3,rfl,h.1,h.2.1,h.2.2.1,h.2.2.2⟩
theorem amP:awS.view=[⟨0,1,1,[]⟩]:=by kernel_rfl
theorem anK:awS.table=[⟨1,1,1⟩,⟨1,1,0⟩]:=by kernel_rfl
theorem anB:awB1.up=true:=by kernel_rfl
theorem ahz:Con2 Tryz.prog 21 [.agg (ak awS)] (· =plR (.fz 1 (awL.map aQ))):=by
 have e1:cy awS=[0,0]:=by kernel_rfl
 have e2:awS.near=[]:=by kernel_rfl
 have e3:awS.ring.succ.filter=[]:=by kernel_rfl
 have e4:awS.ring.pred.filter=[]:=by kernel_rfl
 exact abh awS (by rw[amP];simp) (by rw[e2];simp) (by rw[e3];simp) (by rw[e4];simp) (by rw[e1];simp)
theorem aiY:Con2 Tryz.prog 45 [.agg (aC awC),.agg (ak awB1),.fz 1 ([1,2,3].map aZ)] (· =plR (.tup [.agg (ak awS),.fz 17 ((dq awC awB1 [1,2,3] awL).2.map encMg)])):=by
 have h1:ok8 awQ.view:=by rw[anJ];exact⟨by simp,by simp⟩
 have h2:awB1.wait.sent=[]:=by kernel_rfl
 have h3:awB1.filter=[]:=by kernel_rfl
 have h4:ok8 (dZ awQ.view (pSelf awQ) awC.swap [1,2,3]).2.1:=by rw[anL];exact⟨by simp,by simp⟩
 exact vv awC awB1 [1,2,3] awL aiq afJ anx anB (by decide) (by simp) (by rw[h2];exact⟨by simp,by simp⟩) ahz (by rw[anH];simp) h4 h1 (by rw[h3];simp)
theorem wy:Con2 Tryz.prog 6 [] (· =plR (.v (.bool true))):=by
 have c1:Con2 Tryz.prog 42 [.v (.int .i64 2)] (· =plR (.agg (aC awC))):=acw 2
 have c2:Con2 Tryz.prog 43 [.agg (aC awC),.v (.int .u8 (UInt8.toNat 0))] (· =plR (.tup [.agg (ak awA),.v (.bool true)])):=by
  have h:=agb awC 0;rw[aw1]at h;simp only[aw3,decide_true,Bool.and_self]at h;exact h
 have c3:Con2 Tryz.prog 43 [.agg (aC awC),.v (.int .u8 (UInt8.toNat 1))] (· =plR (.tup [.agg (ak awB),.v (.bool true)])):=by
  have h:=agb awC 1;rw[aw2]at h;simp only[aw4,decide_true,Bool.and_self]at h;exact h
 have c4:Con2 Tryz.prog 35 [.agg (aC awC),.agg (ak awB),.v (.int .u8 (UInt8.toNat 0))] (· =plR (.tup [.fz 17 ([awM].map encMg),.v (.int .i64 0)])):=by
  have h:=sK awC awB 0 aw_hB.ok;rw[aw5]at h;exact h
 have c5:Con2 Tryz.prog 44 [.agg (aC awC),.agg (ak awA),.agg (encMg awM),.fz 1 (([]:List UInt32).map aZ)] (· =plR (.tup [.agg (ak awA1),.fz 17 ([awW].map encMg)])):=by
  have h:=rZ awC awA awM [] aiq afJ ane anS aw3 (by kernel_rfl) (by kernel_rfl)
  rw[aw6]at h;exact h
 have c6:Con2 Tryz.prog 44 [.agg (aC awC),.agg (ak awB),.agg (encMg awW),.fz 1 (([]:List UInt32).map aZ)] (· =plR (.tup [.agg (ak awB1),.fz 17 (([]:List bo).map encMg)])):=by
  have h:=lW awC awB awW [] aiq afJ aw_hB anX aw4 (by kernel_rfl) (by kernel_rfl)
  rw[aw8]at h;exact h
 have c7:=aiY;obtain⟨r0,r1,r2,r3,hR,f0,f1,f2,f3⟩:=anO;rw[hR]at c7;obtain⟨E,hE⟩: ∃E,E=[r0,r1,r2,r3].map encMg:=⟨_,rfl⟩;have hEl:E.length=4:=by rw[hE];rfl
 have hEk: ∀k,k<4-> ∃(kd:Int) (rest:List DV),E[k]? =some (.v (.int .u8 kd):: .v (.int .u8 1):: .v (.int .u16 1):: .v (.int .u8 0)::rest)/\([[.v (.int .u8 3)],[.v (.int .u8 5)],[.v (.int .u8 6)],[.v (.int .u8 8)]]:List (List DV))[k]? =some [.v (.int .u8 kd)]:=by
  intro k hk;have key: ∀(r:bo) (kd:UInt8),r.kind=kd->r.to=0->r.frm=1->r.inc=1-> ∃rest,encMg r= .v (.int .u8 kd.toNat):: .v (.int .u8 1):: .v (.int .u16 1):: .v (.int .u8 0)::rest:=fun r kd h1 h2 h3 h4=>⟨_,by rw[encMg,h1,h2,h3,h4];rfl⟩
  rw[hE]
  match k,hk with
  |0,_=>obtain⟨x,hx⟩:=key r0 3 f0.1 f0.2.1 f0.2.2.1 f0.2.2.2;exact⟨3,x,by rw[List.map_cons,hx];rfl,rfl⟩
  |1,_=>obtain⟨x,hx⟩:=key r1 5 f1.1 f1.2.1 f1.2.2.1 f1.2.2.2;exact⟨5,x,by rw[List.map_cons,List.map_cons,hx];rfl,rfl⟩
  |2,_=>obtain⟨x,hx⟩:=key r2 6 f2.1 f2.2.1 f2.2.2.1 f2.2.2.2;exact⟨6,x,by rw[List.map_cons,List.map_cons,List.map_cons,hx];rfl,rfl⟩
  |3,_=>obtain⟨x,hx⟩:=key r3 8 f3.1 f3.2.1 f3.2.2.1 f3.2.2.2;exact⟨8,x,by rw[List.map_cons,List.map_cons,List.map_cons,List.map_cons,hx];rfl,rfl⟩
 rw[<-hE]at c7;clear hE;have hMk:awM.kind=1:=by kernel_rfl
 have hMt:awM.to=0:=by kernel_rfl
 have hv1:=aw7;have hv2:=amP;have ht2:=anK;generalize awA=A at c2 c5;generalize awB=B at c3 c4 c6;generalize awM=M at c4 c5 hMk hMt;have hWk:awW.kind=2:=rfl;have hWl:awW.list=[⟨0,1,0,[]⟩]:=rfl;generalize awW=W at c5 c6 hWk hWl;generalize awA1=A1 at c5 hv1;generalize awB1=B1 at c6 c7;generalize awS=S at c7 hv2 ht2;have c8:=lA awC (by have:=aiq;omega)
 have e8:aB awC=true:=by kernel_rfl
 rw[e8]at c8;have c9:Con2 Tryz.prog 7 [.agg (aC ⟨0,[],0,0,0,0,0,0,0,0,0,0,0,0,0⟩)] (· =plR (.v (.bool false))):=lA ⟨0,[],0,0,0,0,0,0,0,0,0,0,0,0,0⟩ (by simp)
 generalize awC=C at c1 c2 c3 c4 c5 c6 c7 c8;refine en_ Tryz.func6 [.tmp 0] (g2_ ?_);refine g2_ ?_;refine cw_ c1 (g2_ ?_);refine cw_ c2 (g2_ ?_);refine cw_ c3 (g2_ ?_);refine cw_ c4 ?_;refine gg_ hMk hMt ?_;refine .inr (.inr (.inl ⟨[oF 0,oF 1,oF 2,oF 3,oF 4,oF 5,oF 6,oF 7,oF 8,oF 9,oF 10],[],by kernel_rfl,?_⟩))
 refine gg_ hMk hMt ?_;refine cx_ c5 (wg_ hMk hMt) ?_;refine gh_ hv1 hWk hWl ?_;refine .inr (.inr (.inl ⟨[oF 0,oF 1,oF 2,oF 3,oF 4,oF 5,oF 6,oF 7,oF 8,oF 9,oF 10],[],by kernel_rfl,g2_ ?_⟩))
 refine cx_ c6 (wi_ hMk hMt hWk hWl) (g2_ ?_);refine cx_ c7 (by simp-implicitDefEqProofs only[go_sem,ab,hMk,hMt,hWk,hWl];rfl) ?_
 refine gh_ hv2 ht2 hEl ?_;refine pY 4 [(153,.d (.v (.int .i64 ((4:Nat):Int)))),(152,.d (.rf 1 0 4)),(6,.d (.fz 17 E)),(1,.loc 1 0)] (fun k=>[]) (fun _=>[(1,⟨aC C,26⟩)]) (fun k=>[(1,.arr 5 1 [[.v (.int .u8 3)],[.v (.int .u8 5)],[.v (.int .u8 6)],[.v (.int .u8 8)]] false)]) 2 (fun k=>True) (aa [] ?_) trivial (fun g k=>by first|rfl|(repeat first|simp-implicitDefEqProofs only[go_sem,ab]|with_reducible refine gl_ ?_)) (by omega) (fun g=>ws_) (fun k hk hF=>?_) (fun hF=>?_)
 ·refine g2_ ?_
  first|done|rfl|exact⟨rfl,rfl⟩
 ·obtain⟨kd,rest,h1,h2⟩:=hEk k hk;refine gh_ h1 h2 hEl ?_;refine⟨k+1,aa [] ?_,rfl⟩;exact ws_
 ·refine g2_ ?_;refine cw_ c8 (g2_ ?_);refine cw_ c9 (g2_ ?_);exact⟨_,rfl,aa [] ws_⟩
end Go.Proofs.YthoihfighiolmaaGreat.V
namespace Go.Proofs.YthoihfighiolmaaGreat.V
open Go.Eng
section
variable {c:ar} {nd:UInt8} {p q:ah} {o:GOp}
theorem fj{a b:ah}{M:List bo}{t:Bool}(h:M.length<=1):(if t=true then (a,M)else (b,[])).2.length<=1:=by
 cases t
 ·exact Nat.zero_le _
 ·exact h
theorem aeW{m:bo}:(d9 c q m).2.length<=1:=by grind [d9]
theorem take_len{m:bo}{dr:List UInt32}:(iG dr c p m).2.length<=1:=by
 unfold iG
 repeat' split
 ·exact Nat.zero_le _
 ·exact fj aeW
 ·exact fj (Nat.zero_le _)
 ·exact fj (Nat.le_refl _)
 ·exact fj (Nat.zero_le _)
 ·exact fj (Nat.zero_le _)
 ·exact fj (Nat.le_refl _)
 ·exact fj (Nat.zero_le _)
 ·exact fj (Nat.zero_le _)
 ·exact fj (Nat.zero_le _)
theorem afN{dr:List UInt32}{L:List UInt8}:(dq c p dr L).2.length<=5:=by grind [dq,dD,aJ,aY,f7,eh,cQ,List.length_append,List.length_map]
theorem afw(hl:(bA p).length<=26):(dY c p o).2.1.length<=26:=by
 unfold dY;split
 ·exact Nat.zero_le _
 split
 ·exact Nat.zero_le _
 split
 ·exact Nat.zero_le _
 split
 ·show(dF c p o.node).1.length<=26;unfold dF;split
  ·exact Nat.zero_le _
  split
  ·exact Nat.zero_le _
  ·exact Nat.le_of_ble_eq_true rfl
 split
 ·show(if p.up=false then []else (bA p).map (pMsg p 9)).length<=26
  split
  ·exact Nat.zero_le _
  ·rw[List.length_map];exact hl
 split
 ·show(if p.up=false then []else (dq c p o.draws (bA (dD c (aJ c (aY c p) []) o.draws).1)).2).length<=26
  split
  ·exact Nat.zero_le _
  ·exact Nat.le_trans afN (by omega)
 split
 ·exact Nat.zero_le _
 split
 ·exact Nat.zero_le _
 ·exact Nat.le_trans take_len (by omega)
theorem amg(h:pq o=true)(hf: ∀d∈o.m.list, ∀s∈d.filter,okS s):okMg o.m/\o.draws.length<=4000000/\o.filter.length<=1048576:=by
 unfold pq at h;simp only[Bool.and_eq_true,List.all_eq_true,decide_eq_true_eq,Bool.not_eq_true',decide_eq_false_iff_not]at h;obtain⟨⟨h1,h2⟩,h3,h4,h5,h6⟩:=h;exact⟨⟨by omega,fun d hd=>by have:=h1 d hd;omega,hf,by omega⟩,by omega,by omega⟩
