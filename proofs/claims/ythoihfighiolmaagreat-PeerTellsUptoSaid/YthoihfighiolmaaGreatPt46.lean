import Derived.Test.YthoihfighiolmaaGreatPt44
import Derived.Test.YthoihfighiolmaaGreatPt45
set_option linter.unusedSectionVars false
set_option linter.unusedSimpArgs false
set_option linter.unusedVariables false
set_option maxRecDepth 10000
set_option maxHeartbeats 8000000
namespace Go.Proofs.YthoihfighiolmaaGreat.V
open Go.Eng
attribute [local go_sem] zDesc aP af fzD plR bb a_ aE bj aC ak bk cR z8 z16 z32 z64 encMg aH dE eI List.map_cons List.map_nil List.set_cons_succ List.set_cons_zero
theorem ye(c:ar)(p:ah)(dr:List UInt32)(hc:aB c=true)(hcs: ∀s∈c.schema,okS s)(hp:okG p)(hu:p.up=true)(hdr:dr.length<=4000000)(hws:ok8 p.wait.sent)(hwl:p.wait.some=true->1<=p.wait.left.toNat)(hz:zR p.ring)
  (hf:bB c.schema p.filter=true) (hP:FP c (bp c) (aY c p)) (ht:(p.table.length:Int)=c.nodes) (hvu:Up bS (aJ c (aY c p) []).view) (hne: ∀d∈(aJ c (aY c p) []).near,d.node≠p.node)
  (hsent:aR (dZ (aJ c (aY c p) []).view (pSelf (aJ c (aY c p) [])) c.swap dr).2.1) (hL9:(bA (dD c (aJ c (aY c p) []) dr).1).length<=4000000):
  Con2 Tryz.prog 63 [.agg (aC c),.agg (ak p),.fz 1 (dr.map aZ)] (· =plR (.tup [.agg (ak (dq c p dr (bA (dD c (aJ c (aY c p) []) dr).1)).1),.fz 17 ((dq c p dr (bA (dD c (aJ c (aY c p) []) dr).1)).2.map encMg)])):=by
 refine Con2.ofEmb ?_;have hrg:=df hc;have k1:=vE p.view hp.ok.view;have k2:=vE p.near hp.ok.near;have k3:=uP p.ring hz;have k4:=wh p.table p.node c.suspect (by have:=hp.table;omega)
 have k5:=vy p.wait hwl;have kd:=lJ (bf p.view) (cI p.wait).2.1 (iO hp.ok.view);have hg2:=pB (c:=c) hp hws;have hpt:((aY c p).table.length:Int)=c.nodes:=by simp[aY,fg];exact ht
 have k6:=fV c (aY c p) [] (by omega) hcs hg2 (show bB c.schema (aY c p).filter=true from hf) hP hpt ⟨by simp,by simp⟩ (by simp)
 have hg3:=iH (c:=c) (l:=[]) hg2 ⟨by simp,by simp⟩ (by simp)
 have hn9:(aJ c (aY c p) []).near.length<=3900000:=Nat.le_trans mq (Nat.le_trans ((lT (c:=c) hg2 (l:=[]) ⟨by simp,by simp⟩ (by simp)).1.u _).2 (by omega))
 have hT1: ∀L,(dq c p dr L).1=(dD c (aJ c (aY c p) []) dr).1:=fun _=>rfl
 have hnd:(aJ c (aY c p) []).node=p.node:=rfl;rw[hT1];clear hT1;obtain⟨L,hL⟩: ∃L,L=bA (dD c (aJ c (aY c p) []) dr).1:=⟨_,rfl⟩;rw[<-hL]at hL9 ⊢;generalize hR1:(dq c p dr L).2=R;unfold dq at hR1;rw[<-hnd]at hne;generalize hq:aJ c (aY c p) []=q at *;simp only at hR1;generalize hpa:aY c p=pa at k6 hq hg2;refine ev_ Tryz.func63 [.cell 6 49,.tmp 7] ?_;refine Vc2.sq (g2_ ?_);refine Vc2.sq (g2_ ?_);rw[hu];refine g2_ ?_;refine Vc2.sq (g2_ ?_);refine ce_ k1 (g2_ ?_);refine Vc2.sq (g2_ ?_);refine ce_ k2 (g2_ ?_);refine Vc2.sq (g2_ ?_);refine ce_ k3 (g2_ ?_);refine Vc2.sq (g2_ ?_);refine ce_ k4 (g2_ ?_);refine Vc2.sq (g2_ ?_);refine ce_ k5 (g2_ ?_);refine Vc2.sq (g2_ ?_);refine Vc2.seqJ (γ:=Unit) (fun _=>⟨[(2,.d (.fz 1 (dr.map aZ))),(3,.loc 3 0),(4,.loc 4 0),(6,.loc 6 0)],[(3,⟨aC c,26⟩),(4,⟨ak pa,49⟩),(6,⟨zPc,49⟩)],[],0,0⟩) (fun _=>True) ?_ (fun _ _=>?_)
 ·refine g2_ ?_;cases hov:(cI p.wait).2.2 with
  | false=>
   have hag:pa={ p with view:=bf p.view,near:=bf p.near,ring:=c_ p.ring,table:=fg p.table p.node c.suspect,wait:=(cI p.wait).1 }:=by
    rw[<-hpa];unfold aY;simp only[hov,Bool.false_eq_true,if_false]
   refine g2_ ?_;refine⟨(),aa [] ?_⟩
   repeat first|simp-implicitDefEqProofs only[go_sem,ab,hag,hu,zPc]|with_reducible refine gl_ ?_
   first|done|rfl|exact⟨rfl,rfl⟩
  | true=>
   have hag:pa={ p with view:=aD (bf p.view) (cI p.wait).2.1,near:=bf p.near,ring:=c_ p.ring,table:=fg p.table p.node c.suspect,wait:=(cI p.wait).1 }:=by
    rw[<-hpa];unfold aY;simp only[hov,if_true]
   refine g2_ ?_;refine ce_ kd (g2_ ?_);refine⟨(),aa [] ?_⟩
   repeat first|simp-implicitDefEqProofs only[go_sem,ab,hag,hu,zPc]|with_reducible refine gl_ ?_
   first|done|rfl|exact⟨rfl,rfl⟩
 obtain⟨q2,hq2⟩: ∃q2,q2=(dD c q dr).1:=⟨_,rfl⟩;obtain⟨S1,hS1⟩: ∃S1,S1=(dD c q dr).2:=⟨_,rfl⟩;rw[<-hq2]at hL hR1 ⊢;rw[<-hS1]at hR1
 have hq2n:q2.node=q.node/\q2.near=q.near/\q2.view=q.view:=by
  rw[hq2];unfold dD;simp only;split<;>exact⟨rfl,rfl,rfl⟩
 have hg4:okP q2:=by
  rw[hq2];unfold dD;simp only;split
  ·exact qm hg3.ok hsent
  ·exact hg3.ok
 have hS1l:S1.length<=1:=by
  rw[hS1];unfold dD;simp only;split<;>simp
 refine Vc2.sq (g2_ ?_);refine cw_ k6 (g2_ ?_);refine Vc2.sq (g2_ ?_);refine Vc2.sq (g2_ ?_);refine .inl ⟨[oF 0,oF 2,oF 4,oF 6,oF 1,oF 5,oT 3,oF 7,oF 8,oF 9,oF 10,oF 11,oF 12,oF 13,oF 14],by kernel_rfl,?_⟩
 have k7:=gd q hg3.ok;have k8:=zX q.view (pSelf q) c.swap dr hvu hg3.ok.view hg3.ok.filter hdr (by omega)
 obtain⟨A,hA⟩: ∃A,A=dZ q.view (pSelf q) c.swap dr:=⟨_,rfl⟩;rw[<-hA]at k8 hsent
 have hkq:dD c q dr=if q.wait.some=false/\A.2.2=true then ({ q with wait:=wStart A.1 2 A.2.1 },[{ pMsg q 3 A.1 with list:=A.2.1 }])else (q,[]):=by
  unfold dD;rw[<-hA]
 rw[hkq]at hq2 hS1;obtain⟨to,sent,ok⟩:=A;simp only at hq2 hS1 k8 hsent;refine g2_ ?_;refine ce_ k7 (g2_ ?_);refine ce_ k8 (g2_ ?_);refine Vc2.seqJ (γ:=Unit) (fun _=>⟨[(2,.d (.fz 1 (dr.map aZ))),(3,.loc 3 0),(4,.loc 4 0),(6,.loc 6 0),(11,.d (.rf 0 0 S1.length))],[(3,⟨aC c,26⟩),(4,⟨ak q2,49⟩),(6,⟨zPc,49⟩)],[(0,.arr 60 17 (S1.map encMg) false)],1,0⟩) (fun _=>True) ?_ (fun _ _=>?_)
 ·cases hw3:q.wait.some with
  |true=>
   rw[hw3,if_neg (by simp)]at hq2 hS1
   simp only at hq2 hS1;rw[hq2,hS1];refine g2_ ?_;refine⟨(),aa [(0,.nil 17)] ?_⟩
   repeat first|simp-implicitDefEqProofs only[go_sem,ab,hw3,zPc]|with_reducible refine gl_ ?_
   first|done|rfl|exact⟨rfl,rfl⟩
  | false=>
   cases ok with
   |false=>
    rw[if_neg (by simp)]at hq2 hS1
    simp only at hq2 hS1;rw[hq2,hS1];refine g2_ ?_;refine⟨(),aa [(0,.nil 17)] ?_⟩
    repeat first|simp-implicitDefEqProofs only[go_sem,ab,hw3,zPc]|with_reducible refine gl_ ?_
    first|done|rfl|exact⟨rfl,rfl⟩
   |true=>
    rw[if_pos ⟨hw3,rfl⟩]at hq2 hS1;simp only at hq2 hS1;have k9:=dL q 3 to sent [];have k10:=ui to 2 sent;refine g2_ ?_;refine cx_ k9 (wf_ hw3) (g2_ ?_);refine cw_ k10 (g2_ ?_);rw[hq2,hS1];refine⟨(),aa [(0,.to 1)] ?_⟩
    repeat first|simp-implicitDefEqProofs only[go_sem,ab,hw3,zPc,List.length_cons,List.length_nil]|with_reducible refine gl_ ?_
    first|done|rfl|exact⟨rfl,rfl⟩
 clear hq2 hS1 hkq hA k8 k7;rw[<-hq2n.1, <-hq2n.2.1]at hne;rw[<-hq2n.2.1]at hn9;have k13:=gd q2 hg4;have k14:=jy q2 q2.near hg4 hg4.near hne;have k19:=fU q2.ring;have hrl:=cQ q2.ring;have k11:=mM q2 hg4.view.1 hg4.near.1;rw[<-hL]at k11;obtain⟨S2,hS2⟩: ∃S2,S2=S1++f7 c q2 dr L:=⟨_,rfl⟩;have hR0:(S2++eh q2)++(aw q2.ring).map (gz q2)=R:=by rw[hS2];exact hR1
 have hS2l:S2.length<=11:=by
  rw[hS2,List.length_append];have:(f7 c q2 dr L).length<=1:=by unfold f7;split<;>simp
  omega
 generalize aw q2.ring=B at k19 hrl hR0;refine Vc2.sq (g2_ ?_);refine ce_ k11 (g2_ ?_);refine Vc2.seqJ (γ:=Unit) (fun _=>⟨[(4,.loc 4 0),(6,.loc 6 0),(11,.d (.rf 0 0 S2.length))],[(4,⟨ak q2,49⟩),(6,⟨zPc,49⟩)],[(0,.arr 60 17 (S2.map encMg) false)],1,0⟩) (fun _=>True) ?_ (fun _ _=>?_)
 ·refine gx_ ?_
  by_cases hLe:L=[]
  ·have hS2e:S2=S1:=by rw[hS2,f7,if_pos hLe,List.append_nil]
   rw[show decide ((0:Int)<(L.length:Int))=false by rw[hLe];rfl]
   refine g2_ ?_;rw[hS2e];refine⟨(),aa [(0,.to 0)] ?_⟩
   repeat first|simp-implicitDefEqProofs only[go_sem,ab,zPc]|with_reducible refine gl_ ?_
   first|done|rfl|exact⟨rfl,rfl⟩
  have hLp:0<L.length:=List.length_pos_iff.2 hLe;rw[show decide ((0:Int)<(L.length:Int))=true from decide_eq_true (by omega)]
  refine g2_ ?_;have hmod:(dj c dr).toNat % L.length<L.length:=Nat.mod_lt _ hLp
  have hlg:(L.map aQ)[(dj c dr).toNat % L.length]? =some [.v (.int .u8 (L.getD ((dj c dr).toNat % L.length) 0).toNat)]:=by
   rw[List.getElem?_map,List.getD_eq_getElem?_getD,List.getElem?_eq_getElem hmod];rfl
  have hkt:f7 c q2 dr L=[{ pMsg q2 5 (L.getD ((dj c dr).toNat % L.length) 0)with list:=bE q2.near (pSelf q2) }]:=by
   rw[f7,if_neg hLe]
  have k15:=fun to2=>dL q2 5 to2 (bE q2.near (pSelf q2)) []
  have fin: ∀j:Nat,j=(dj c dr).toNat % L.length->j<L.length/\(L.map aQ)[j]? =some [.v (.int .u8 (L.getD ((dj c dr).toNat % L.length) 0).toNat)]:=fun j e=>by subst e;exact⟨hmod,hlg⟩
  generalize L.getD ((dj c dr).toNat % L.length) 0=to2 at hkt fin;have hS2m:S2=S1++[{ pMsg q2 5 to2 with list:=bE q2.near (pSelf q2) }]:=by rw[hS2,hkt]
  have k15':=k15 to2
  by_cases h1:c.swap<(dr.length:Int)
  ·obtain⟨sw,hsw2⟩: ∃sw:Nat,c.swap=sw:=⟨c.swap.toNat,by omega⟩
   have hswl:sw<dr.length:=by omega
   have hdg:(dr.map aZ)[sw]? =some [.v (.int .u32 dr[sw].toNat)]:=by rw[List.getElem?_map,List.getElem?_eq_getElem hswl];rfl
   have hkd:dj c dr=dr[sw]:=by
    rw[dj,if_pos ⟨by omega,h1⟩,hsw2,Int.toNat_natCast,List.getD_eq_getElem?_getD,List.getElem?_eq_getElem hswl];rfl
   obtain⟨f1,f2⟩:=fin _ rfl;rw[hkd]at f1 f2;have hd32:=dr[sw].toNat_lt;rw[show decide (c.swap<(dr.length:Int))=true from decide_eq_true h1]
   refine gg_ hsw2 hdg ?_;refine kU (by omega) ?_
   refine g2_ ?_;rw[jt (a:=dr[sw].toNat) (b:=L.length) rfl rfl hLp];generalize dr[sw].toNat % L.length=j at f1 f2;refine g2_ ?_;refine .inl ⟨[oF 0,oF 1,oF 2,oF 3,oF 6,oF 7,oF 4,oF 8,oF 5,oT 9,oF 10,oF 11,oF 12,oF 13],by kernel_rfl,gf_ f2 ?_⟩
   refine ce_ k14 (g2_ ?_);refine cw_ k15' (gx_ ?_);rw[hS2m];refine⟨(),aa [(0,.to 2)] ?_⟩
   repeat first|simp-implicitDefEqProofs only[go_sem,ab,zPc,List.map_append,List.length_append]|with_reducible refine gl_ ?_
   first|done|rfl|exact⟨rfl,rfl⟩
  ·have hkd:dj c dr=0:=by rw[dj,if_neg (fun h=>h1 h.2)]
   obtain⟨f1,f2⟩:=fin 0 (by rw[hkd];simp)
   rw[show decide (c.swap<(dr.length:Int))=false from decide_eq_false h1]
   refine g2_ ?_;refine .inl ⟨[oF 0,oF 1,oF 2,oF 3,oF 6,oF 7,oF 4,oF 8,oF 5,oT 9,oF 10,oF 11,oF 12,oF 13],by kernel_rfl,gf_ f2 ?_⟩
   refine ce_ k14 (g2_ ?_);refine cw_ k15' (gx_ ?_);rw[hS2m];refine⟨(),aa [(0,.to 2)] ?_⟩
   repeat first|simp-implicitDefEqProofs only[go_sem,ab,zPc,List.map_append,List.length_append]|with_reducible refine gl_ ?_
   first|done|rfl|exact⟨rfl,rfl⟩
 clear hS2;obtain⟨S3,hS3⟩: ∃S3,S3=S2++eh q2:=⟨_,rfl⟩;rw[<-hS3]at hR0
 have hS3l:S3.length<=12:=by
  rw[hS3,List.length_append];have:(eh q2).length<=1:=by unfold eh;split<;>simp
  omega
 refine Vc2.seqJ (γ:=Unit) (fun _=>⟨[(4,.loc 4 0),(6,.loc 6 0),(11,.d (.rf 0 0 S3.length))],[(4,⟨ak q2,49⟩),(6,⟨zPc,49⟩)],[(0,.arr 60 17 (S3.map encMg) false)],1,0⟩) (fun _=>True) ?_ (fun _ _=>?_)
 ·have k18:=dL q2 6 q2.ring.succ.node [pSelf q2] [];refine g2_ ?_;cases hh:q2.ring.hs with
  |false=>
   have e:S3=S2:=by rw[hS3,eh,if_neg (by simp[hh]),List.append_nil]
   rw[e];refine g2_ ?_;refine⟨(),aa [(0,.to 0)] ?_⟩
   repeat first|simp-implicitDefEqProofs only[go_sem,ab,zPc,hh]|with_reducible refine gl_ ?_
   first|done|rfl|exact⟨rfl,rfl⟩
  |true=>
   have e:S3=S2++[{ pMsg q2 6 q2.ring.succ.node with list:=[pSelf q2] }]:=by rw[hS3,eh,if_pos hh]
   rw[e];generalize pSelf q2=S at k13 k18;refine g2_ ?_;refine .inl ⟨[oF 0,oF 1,oF 2,oF 6,oF 3,oF 4,oF 5,oT 7,oT 8,oF 9,oF 10,oF 11,oF 12],by kernel_rfl,gf_ hh ?_⟩
   refine CallS.eq k13 (wf_ hh) (.inl ws_) ?_;refine g2_ ?_;refine cx_ k18 (wf_ hh) (gx_ ?_);refine⟨(),aa [(0,.to 3)] ?_⟩
   repeat first|simp-implicitDefEqProofs only[go_sem,ab,zPc,hh,List.map_append,List.length_append]|with_reducible refine gl_ ?_
   first|done|rfl|exact⟨rfl,rfl⟩
 refine Vc2.of ?_;have k20:=fun d:GDesc=>dL q2 8 d.node [] q2.table
 refine g2_ ?_;refine ce_ k19 (g2_ ?_);refine av (γ:=Nat) (fun i=>[(18,.d (.v (.int .i64 (i:Nat)))),(11,.d (.rf 0 0 (S3++(B.take i).map (gz q2)).length))]) (fun _=>[]) (fun i=>[(0,.arr 60 17 ((S3++(B.take i).map (gz q2)).map encMg) false)]) 1 (fun i=>i<=B.length) (fun i=>B.length-i) 0 (aa [(0,.to 0)] ?_) (by omega) (fun i hi=>?_)
 ·repeat first|simp-implicitDefEqProofs only[go_sem,ab,List.take_zero,List.append_nil,zPc]|with_reducible refine gl_ ?_
  first|done|rfl|exact⟨rfl,rfl⟩
 ·have htl:(S3++(B.take i).map (gz q2)).length<=20:=by simp;omega
  refine gx_ ?_;refine aq (fun h=>?_) (fun h=>?_)
  ·have hk:i<B.length:=by omega
   have hgk:=aX (f:=af) hk;have hsn:S3++(B.take (i+1)).map (gz q2)=(S3++(B.take i).map (gz q2))++[gz q2 B[i]]:=by rw[List.take_add_one,List.getElem?_eq_getElem hk,List.map_append,List.append_assoc];rfl
   generalize S3++(B.take i).map (gz q2)=T at htl hsn;have kb:=k20 B[i];generalize B[i]=d at hgk hsn kb;rw[show({ pMsg q2 8 d.node with list:=[],table:=q2.table }:bo)=gz q2 d from rfl]at kb
   generalize gz q2 d=M at kb hsn;refine g2_ ?_;refine .inl ⟨[oF 0,oF 1,oF 2,oF 3,oF 7,oF 4,oF 8,oF 5,oF 6,oF 9,oF 10,oF 11,oF 12],by kernel_rfl,gf_ hgk ?_⟩
   refine cw_ kb (gx_ ?_);refine⟨i+1,aa [(0,.to 2)] ?_,by omega,by omega⟩
   refine x1_ hsn ?_
   try (repeat' (first|rfl|refine And.intro ?_ ?_))
  ·have he:B.take i=B:=List.take_of_length_le (by omega)
   rw[he,hR0]
   repeat first|simp-implicitDefEqProofs only[go_sem,ab,zPc]|with_reducible first|refine gl_ ?_|refine ga_ ?_|refine gn_ ?_
   refine ae ?_ rfl
   repeat first|simp-implicitDefEqProofs only[go_sem,ab,List.length_map,aF]|with_reducible refine gl_ ?_
def tkH(dr:List UInt32)(c:ar)(q:ah)(m:bo):ah×List bo×List GDesc:=
 if m.kind=1 then ((d9 c q m).1,(d9 c q m).2,[])
 else if m.kind=2 then (d_ c q m,[],[])
 else if m.kind=3 then (gr c q m (bP c.swap (aD q.view m.frm) [] dr),[{ pMsg q 4 m.frm with list:=bP c.swap (aD q.view m.frm) [] dr }],[])
 else if m.kind=4 then (j4 c q m,[],[])
 else if m.kind=5\/m.kind=7 then (q,[],m.list)
 else if m.kind=6 then (q,[],m.list)
 else if m.kind=8 then (bD q m.table,[],[])
 else if m.kind=9 then ({ q with table:=eA q.table m.frm m.inc },[],[])
 else (q,[],[])
def tkR(dr:List UInt32)(c:ar)(q:ah)(m:bo):ah:=aJ c (tkH dr c q m).1 (tkH dr c q m).2.2
def tkM(dr:List UInt32)(c:ar)(q:ah)(m:bo):List bo:=(tkH dr c q m).2.1++(if m.kind=6 then [{ pMsg (tkR dr c q m) 7 m.frm with list:=bE (aw (tkR dr c q m).ring) (pSelf (tkR dr c q m)) }]else [])
theorem pT{dr:List UInt32}{c:ar}{p:ah}{m:bo}:iG dr c p m=if p.up=false\/m.to≠p.node then (p,[])else if (aI c p m.frm m.inc).2=true then (tkR dr c (aI c p m.frm m.inc).1 m,tkM dr c (aI c p m.frm m.inc).1 m)else ((aI c p m.frm m.inc).1,[]):=by
 unfold iG
 by_cases h0:p.up=false\/m.to≠p.node
 ·rw[if_pos h0,if_pos h0]
 rw[if_neg h0,if_neg h0];unfold tkM tkR tkH
 by_cases k1:m.kind=1
 ·simp[k1,qw]
 by_cases k2:m.kind=2
 ·simp[k2,gu]
 by_cases k3:m.kind=3
 ·simp[k3,je]
 by_cases k4:m.kind=4
 ·simp[k4,iF]
 by_cases k5:m.kind=5
 ·simp[k5,my]
 by_cases k7:m.kind=7
 ·simp[k7,my]
 by_cases k6:m.kind=6
 ·simp[k6,p4]
 by_cases k8:m.kind=8
 ·simp[k8,xa]
 by_cases k9:m.kind=9
 ·simp[k9,pM]
 ·simp[k1,k2,k3,k4,k5,k6,k7,k8,k9,oW]
theorem ab8{c:ar}{q:ah}{m:bo}:d9 c q m=if m.list.length=1/\(pFine c m.list).length=1/\((pFine c m.list).headD zDesc).node=m.frm/\((pFine c m.list).headD zDesc).inc=m.inc then ({ q with view:=dJ q.view ((pFine c m.list).headD zDesc) q.node c.view },[{ pMsg q 2 m.frm with list:=bE q.view (pSelf q),table:=q.table }])else (q,[]):=by
 unfold d9
 match hl:m.list with
 |[]=>simp
 |[d]=>
  by_cases hd:bp c d=true
  ·simp[pFine,hd]
  ·simp[pFine,hd]
 |a::b::r=>simp
structure TkQ(c:ar)(q:ah):Prop where
 h:okH q
 rt:Rt q.node c.view q.view
 sq:sqR q.reports
 tab:(q.table.length:Int)=c.nodes
def kz(O:List bo):Prop:=O.length<=1
theorem vl(c:ar)(p:ah)(m:bo)(dr:List UInt32)(hc:aB c=true)(hcs: ∀s∈c.schema,okS s)(hp:TkQ c p)(hm:okMg m)(hdr:dr.length<=4000000)
  (hq:TkQ c (aI c p m.frm m.inc).1) (hqs:aR (aI c p m.frm m.inc).1.wait.sent)
  (hx:okG (tkH dr c (aI c p m.frm m.inc).1 m).1/\FP c (bp c) (tkH dr c (aI c p m.frm m.inc).1 m).1/\((tkH dr c (aI c p m.frm m.inc).1 m).1.table.length:Int)=c.nodes/\bB c.schema (tkH dr c (aI c p m.frm m.inc).1 m).1.filter=true)
  (hr:okP (tkR dr c (aI c p m.frm m.inc).1 m)/\ ∀d∈aw (tkR dr c (aI c p m.frm m.inc).1 m).ring,d.node≠(tkR dr c (aI c p m.frm m.inc).1 m).node):
  Con2 Tryz.prog 65 [.agg (aC c),.agg (ak p),.agg (encMg m),.fz 1 (dr.map aZ)] (· =plR (.tup [.agg (ak (iG dr c p m).1),.fz 17 ((iG dr c p m).2.map encMg)])):=by
 refine Con2.ofEmb ?_;have hrg:=df hc;have kh:=jk c p m.frm m.inc hp.h.ok hp.h.rs hp.sq (by have:=hp.h.g.table;omega) (by have:=hp.tab;omega)
 rw[pT];generalize hR:(if p.up=false\/m.to≠p.node then (p,[])else if (aI c p m.frm m.inc).2=true then (tkR dr c (aI c p m.frm m.inc).1 m,tkM dr c (aI c p m.frm m.inc).1 m)else ((aI c p m.frm m.inc).1,[]))=R
 have hlo:aR (tkH dr c (aI c p m.frm m.inc).1 m).2.2/\ ∀d∈(tkH dr c (aI c p m.frm m.inc).1 m).2.2,okF d:=by
  have a:aR m.list/\ ∀d∈m.list,okF d:=⟨hm.ds,hm.fs2⟩;have b:aR []/\ ∀d∈([]:List GDesc),okF d:=⟨⟨by simp,by simp⟩,by simp⟩
  unfold tkH
  repeat' split
  all_goals first|exact a|exact b
 have k6:=fV c (tkH dr c (aI c p m.frm m.inc).1 m).1 (tkH dr c (aI c p m.frm m.inc).1 m).2.2 (by omega) hcs hx.1 hx.2.2.2 hx.2.1 hx.2.2.1 hlo.1 hlo.2
 rw[show aJ c (tkH dr c (aI c p m.frm m.inc).1 m).1 (tkH dr c (aI c p m.frm m.inc).1 m).2.2=tkR dr c (aI c p m.frm m.inc).1 m from rfl]at k6
 clear hx hlo;obtain⟨M,hM⟩: ∃M,M=tkM dr c (aI c p m.frm m.inc).1 m:=⟨_,rfl⟩;rw[<-hM]at hR;unfold tkM at hM;generalize hRR:tkR dr c (aI c p m.frm m.inc).1 m=Rp at *;clear hRR;have hfalse:(aI c p m.frm m.inc).2=false->(aI c p m.frm m.inc).1=p:=qj;generalize aI c p m.frm m.inc=Q at *;obtain⟨q,heard⟩:=Q;simp only at *;obtain⟨H,hH⟩: ∃H,H=tkH dr c q m:=⟨_,rfl⟩;rw[<-hH]at k6 hM;obtain⟨h,O,come⟩:=H;simp only at k6 hM;have hq1:=hq.h.ok;have htq:=hq.h.g.table;have kf:=aaT c m.list (by omega) hm.ds
 have hFi:aR (pFine c m.list):=bu hm.ds;have hFlt: ∀d∈pFine c m.list,d.node.toNat<q.table.length:=fun d hd=>by have:=abl (List.mem_filter.1 hd).2;have:=hq.tab;omega
 have hws: ∀d∈q.view,d.node≠q.node:=fun d hd=>(hq.h.vw.1 d hd).1
 have e: ∀k:UInt8,((m.kind.toNat:Int)==(k.toNat:Int))=decide (m.kind=k):=fun k=>bt m.kind k
 have e1:((m.kind.toNat:Int)==1)=decide (m.kind=1):=e 1;have e2:((m.kind.toNat:Int)==2)=decide (m.kind=2):=e 2;have e3:((m.kind.toNat:Int)==3)=decide (m.kind=3):=e 3;have e4:((m.kind.toNat:Int)==4)=decide (m.kind=4):=e 4;have e5:((m.kind.toNat:Int)==5)=decide (m.kind=5):=e 5;have e6:((m.kind.toNat:Int)==6)=decide (m.kind=6):=e 6;have e7:((m.kind.toNat:Int)==7)=decide (m.kind=7):=e 7;have e8:((m.kind.toNat:Int)==8)=decide (m.kind=8):=e 8;have e9:((m.kind.toNat:Int)==9)=decide (m.kind=9):=e 9;refine ev_ Tryz.func65 [.cell 8 49,.tmp 9] ?_;refine Vc2.sq (g2_ ?_);refine Vc2.sq (g2_ ?_);cases hu:p.up with
 |false=>
  rw[if_pos (Or.inl hu)]at hR;subst hR;refine g2_ ?_;refine ae ?_ rfl;exact wf_ hu
 |true=>
 refine g2_ ?_;rw[ql]
 by_cases hto:m.to≠p.node
 ·rw[if_pos (Or.inr hto)]at hR;subst hR;rw[decide_eq_false hto];refine g2_ ?_;refine ae ?_ rfl;exact wf_ hu
 have hto:m.to=p.node:=Decidable.of_not_not hto;rw[if_neg (by simp[hto,hu])]at hR
 rw[decide_eq_true hto];refine g2_ ?_;refine Vc2.sq (g2_ ?_);refine CallS.eq kh (wf_ hu) (.inl ws_) ?_;refine g2_ ?_;refine Vc2.sq (g2_ ?_);cases heard with
 |false=>
  rw[if_neg (by simp)]at hR
  subst hR;refine g2_ ?_;have hqp:=hfalse rfl;subst hqp;refine g2_ ?_;refine ae ?_ rfl;exact wf_ hu
 |true=>
 rw[if_pos rfl]at hR;subst hR;refine g2_ ?_;refine Vc2.sq (g2_ ?_);refine Vc2.sq (g2_ ?_);have hdl:q.view.length<=4000000:=hq.h.ok.view.1;refine Vc2.seqJ (γ:=Unit) (fun _=>⟨[(4,.loc 4 0),(6,.loc 6 0),(8,.loc 8 0),(10,.loc 10 0),(12,.d (.rf 0 0 O.length)),(13,.d (fzD come))],[(4,⟨aC c,26⟩),(6,⟨encMg m,60⟩),(8,⟨zPc,49⟩),(10,⟨ak h,49⟩)],[(0,.arr 60 17 (O.map encMg) false)],1,0⟩) (fun _=>kz O) ?_ (fun _ hO=>?_)
 ·refine g2_ ?_;rw[e1]
  by_cases c1:m.kind=1
  ·rw [tkH,if_pos c1,ab8]at hH;have hF1:=hFi.1;rw[decide_eq_true c1];refine g2_ ?_;refine ce_ kf (g2_ ?_);refine .inl ⟨[oF 0,oF 1,oF 2,oF 3,oF 4,oF 5,oF 6,oF 7,oF 8,oF 9,oF 10,oF 14,oF 11,oF 15,oF 12,oF 13,oF 16,oF 17,oF 18,oF 19,oF 23,oF 20,oF 24,oF 21,oF 22,oF 25,oF 26],by kernel_rfl,gx_ ?_⟩
   have nov: ∀{P:Prop} [Decidable P], ¬P->(h,O,come)=((if P then ({ q with view:=dJ q.view ((pFine c m.list).headD zDesc) q.node c.view },[{ pMsg q 2 m.frm with list:=bE q.view (pSelf q),table:=q.table }])else (q,[])).1,(if P then ({ q with view:=dJ q.view ((pFine c m.list).headD zDesc) q.node c.view },[{ pMsg q 2 m.frm with list:=bE q.view (pSelf q),table:=q.table }])else (q,[])).2,([]:List GDesc))->h=q/\O=[]/\come=[]:=fun hn hh=>by
    rw[if_neg hn]at hh;simpa using hh
   by_cases n1:m.list.length=1
   ·rw [show((m.list.length:Int)==1)=true by rw[n1];rfl]
    refine gx_ ?_
    by_cases n2:(pFine c m.list).length=1
    ·rw[show(((pFine c m.list).length:Int)==1)=true by rw[n2];rfl]
     obtain⟨d,hd⟩:=List.length_eq_one_iff.1 n2;rw[hd]at hH kf hFi ⊢;rw[hd]at nov;simp only[List.headD_cons,List.length_cons,List.length_nil]at hH nov;refine gf_ @List.getElem?_cons_zero.{0} ?_;rw[bt]
     by_cases n3:d.node=m.frm
     ·rw[decide_eq_true n3];refine gf_ @List.getElem?_cons_zero.{0} ?_;rw[d4]
      by_cases n4:d.inc=m.inc
      ·rw[if_pos ⟨n1,by simp,n3,n4⟩]at hH
       simp only[Prod.mk.injEq]at hH;obtain⟨rfl,rfl,rfl⟩:=hH;have k14:=jy q q.view hq1 hq1.view hws;have k15:=dL q 2 m.frm (bE q.view (pSelf q)) q.table;have k16:=uq q.view d q.node c.view hq1.view (hFi.2 d (by simp)) hq.rt
       rw[decide_eq_true n4];refine g2_ ?_;refine .inl ⟨[oF 0,oF 1,oF 2,oF 4,oF 5,oF 8,oF 3,oF 6,oF 9,oT 7,oF 10,oF 11,oF 12,oF 13],by kernel_rfl,g2_ ?_⟩
       refine ce_ k14 (g2_ ?_);refine ce_ k15 (g2_ ?_);refine .inl ⟨[oF 0,oF 2,oF 5,oF 7,oF 1,oF 3,oF 6,oF 8,oF 4,oF 9,oF 10,oF 11],by kernel_rfl,gf_ @List.getElem?_cons_zero.{0} ?_⟩
       refine ce_ k16 (g2_ ?_);refine⟨(),aa [(0,.to 1)] ?_,by simp[kz]⟩
       repeat first|simp-implicitDefEqProofs only[go_sem,ab,zPc,List.length_cons,List.length_nil]|with_reducible refine gl_ ?_
       first|done|rfl|exact⟨rfl,rfl⟩
      ·obtain⟨rfl,rfl,rfl⟩:=nov (fun g=>n4 g.2.2.2) hH
       rw[decide_eq_false n4];refine g2_ ?_;refine⟨(),aa [(0,.nil 17)] ?_,by simp[kz]⟩
       repeat first|simp-implicitDefEqProofs only[go_sem,ab,zPc]|with_reducible refine gl_ ?_
       first|done|rfl|exact⟨rfl,rfl⟩
     ·obtain⟨rfl,rfl,rfl⟩:=nov (fun g=>n3 g.2.2.1) hH
      rw[decide_eq_false n3];refine g2_ ?_;refine⟨(),aa [(0,.nil 17)] ?_,by simp[kz]⟩
      repeat first|simp-implicitDefEqProofs only[go_sem,ab,zPc]|with_reducible refine gl_ ?_
      first|done|rfl|exact⟨rfl,rfl⟩
    ·obtain⟨rfl,rfl,rfl⟩:=nov (fun g=>n2 g.2.1) hH
     rw[show(((pFine c m.list).length:Int)==1)=false from beq_eq_false_iff_ne.2 (by omega)]
     refine g2_ ?_;refine⟨(),aa [(0,.nil 17)] ?_,by simp[kz]⟩
     repeat first|simp-implicitDefEqProofs only[go_sem,ab,zPc]|with_reducible refine gl_ ?_
     first|done|rfl|exact⟨rfl,rfl⟩
   ·obtain⟨rfl,rfl,rfl⟩:=nov (fun g=>n1 g.1) hH
    rw[show((m.list.length:Int)==1)=false from beq_eq_false_iff_ne.2 (by omega)]
    refine g2_ ?_;refine⟨(),aa [(0,.nil 17)] ?_,by simp[kz]⟩
    repeat first|simp-implicitDefEqProofs only[go_sem,ab,zPc]|with_reducible refine gl_ ?_
    first|done|rfl|exact⟨rfl,rfl⟩
  rw[decide_eq_false c1];refine g2_ ?_;rw[e2]
  by_cases c2:m.kind=2
  ·rw[tkH,if_neg c1,if_pos c2]at hH;simp only[Prod.mk.injEq]at hH;obtain⟨rfl,rfl,rfl⟩:=hH;have k14:=l7 q.table m.table q.node (by omega) (by have:=hm.table;omega)
   have hml:(ct q.table m.table q.node).length=q.table.length:=by simp[ct]
   have k15:=iL q (ct q.table m.table q.node) hq1 (by omega) hml hq.h.rs hq.sq
   rw[<-rW]at k15;have hln:(bD q m.table).node=q.node/\(bD q m.table).view=q.view/\(bD q m.table).table.length=q.table.length:=⟨rfl,rfl,hml⟩;have hlP:okP (bD q m.table):=abn hq1 (by rw[hml];omega) (gw hq.h.rs _)
   have k16:=kR (bD q m.table) (pFine c m.list) hlP hFi (by rw[hln.2.2];exact hFlt)
   have hUo:aR (pCur (bD q m.table) (pFine c m.list)):=bu hFi;have k17:=xb q.view (pCur (bD q m.table) (pFine c m.list)) q.node c.view hq1.view hUo hq.rt (by omega)
   have hWe:d_ c q m={ bD q m.table with view:=dy q.node c.view q.view (pCur (bD q m.table) (pFine c m.list)) }:=rfl;rw[hWe];obtain⟨a1,a2,a3⟩:=hln;generalize pCur (bD q m.table) (pFine c m.list)=U at k16 k17;generalize bD q m.table=q' at k15 k16 a1 a2;rw[<-a1, <-a2]at k17;have ef:dy q'.node c.view q'.view U=dy q.node c.view q.view U:=by rw[a1,a2]
   rw[ef]at k17;rw[decide_eq_true c2];refine g2_ ?_;refine .inl ⟨[oF 0,oF 1,oF 3,oF 5,oF 2,oF 4,oF 6,oT 7,oF 8,oF 9],by kernel_rfl,g2_ ?_⟩
   refine ce_ k14 (g2_ ?_);refine ce_ k15 (g2_ ?_);refine .inl ⟨[oF 0,oF 2,oF 3,oF 4,oF 8,oF 10,oF 1,oF 5,oF 9,oF 11,oT 6,oT 7,oF 12,oF 13,oF 14],by kernel_rfl,g2_ ?_⟩
   refine ce_ kf (g2_ ?_);refine ce_ k16 (g2_ ?_);refine ce_ k17 (g2_ ?_);refine⟨(),aa [(0,.nil 17)] ?_,by simp[kz]⟩
   repeat first|simp-implicitDefEqProofs only[go_sem,ab,zPc]|with_reducible refine gl_ ?_
   first|done|rfl|exact⟨rfl,rfl⟩
  rw[decide_eq_false c2];refine g2_ ?_;rw[e3]
  by_cases c3:m.kind=3
  ·rw[tkH,if_neg c1,if_neg c2,if_pos c3]at hH;simp only[Prod.mk.injEq]at hH;obtain⟨rfl,rfl,rfl⟩:=hH;have k14:=ni q.view c.swap m.frm dr hq.rt.2.2 hq1.view hdr;have hPo:aR (bP c.swap (aD q.view m.frm) [] dr):=⟨by have:=wA c.swap dr (aD q.view m.frm) [];simp at this;omega,fun d hd=>(qa c.swap dr _ _ d hd).elim (fun h=>hq1.view.2 d (List.mem_filter.1 h).1) (fun h=>by cases h)⟩
   have hPw:gr c q m (bP c.swap (aD q.view m.frm) [] dr)={ q with view:=cC (pCur q (pFine c m.list)) q.node c.view q.view (bP c.swap (aD q.view m.frm) [] dr) (pCur q (pFine c m.list)) }:=rfl;rw[hPw];generalize bP c.swap (aD q.view m.frm) [] dr=S at k14 hPo;have k15:=dL q 4 m.frm S [];have k16:=kR q (pFine c m.list) hq1 hFi hFlt;have hUo:aR (pCur q (pFine c m.list)):=bu hFi;have k17:=l9 q.view (pCur q (pFine c m.list)) S q.node c.view hq1.view hUo hPo hq.rt (by omega)
   generalize pCur q (pFine c m.list)=U at k16 k17;rw[decide_eq_true c3];refine g2_ ?_;refine ce_ k14 (g2_ ?_);refine cw_ k15 (g2_ ?_);refine .inl ⟨[oF 0,oF 2,oF 3,oF 4,oF 8,oF 9,oF 11,oF 1,oF 5,oF 10,oF 12,oT 6,oT 7,oF 13,oF 14,oF 15],by kernel_rfl,g2_ ?_⟩
   refine ce_ kf (g2_ ?_);refine ce_ k16 (g2_ ?_);refine ce_ k17 (g2_ ?_);refine⟨(),aa [(0,.to 1)] ?_,by simp[kz]⟩
   repeat first|simp-implicitDefEqProofs only[go_sem,ab,zPc,List.length_cons,List.length_nil]|with_reducible refine gl_ ?_
   first|done|rfl|exact⟨rfl,rfl⟩
  rw[decide_eq_false c3];refine g2_ ?_;rw[e4]
  by_cases c4:m.kind=4
  ·rw[tkH,if_neg c1,if_neg c2,if_neg c3,if_pos c4]at hH;simp only[Prod.mk.injEq]at hH;obtain⟨rfl,rfl,rfl⟩:=hH;have k14:=qC q.wait m.frm
   have hso:aR (du q.wait m.frm).2.1:=by
    unfold du;split
    ·exact hqs
    ·exact⟨by simp,by simp⟩
   have hwo:(du q.wait m.frm).2.2=true->(du q.wait m.frm).1.sent=[]:=by
    unfold du;split
    ·intro _;rfl
    ·intro h;cases h
   have hAe:j4 c q m=if (du q.wait m.frm).2.2=true then { q with wait:=(du q.wait m.frm).1,view:=cC (pCur q (pFine c m.list)) q.node c.view q.view (du q.wait m.frm).2.1 (pCur q (pFine c m.list)) }else q:=rfl
   rw[hAe];generalize du q.wait m.frm=W at k14 hso hwo;obtain⟨w,sent,yes⟩:=W;simp only at hso hwo ⊢;rw[decide_eq_true c4];refine g2_ ?_;refine ce_ k14 (g2_ ?_);cases yes with
   |false=>
    refine g2_ ?_;refine⟨(),aa [(0,.nil 17)] ?_,by simp[kz]⟩
    repeat first|simp-implicitDefEqProofs only[go_sem,ab,zPc,Bool.false_eq_true,if_false]|with_reducible refine gl_ ?_
    first|done|rfl|exact⟨rfl,rfl⟩
   |true=>
    have hw1:=hwo rfl;have hqw:okP { q with wait:=w }:=qm hq1 (by rw[hw1];exact⟨by simp,by simp⟩)
    have k16:Con2 Tryz.prog 132 [.agg (ak { q with wait:=w }),fzD (pFine c m.list)] (· =plR (fzD (pCur q (pFine c m.list)))):=kR { q with wait:=w } (pFine c m.list) hqw hFi hFlt
    have hUo:aR (pCur q (pFine c m.list)):=bu hFi;have k17:=l9 q.view (pCur q (pFine c m.list)) sent q.node c.view hq1.view hUo hso hq.rt (by omega)
    generalize pCur q (pFine c m.list)=U at k16 k17;refine g2_ ?_;refine .inl ⟨[oF 0,oF 2,oF 3,oF 4,oF 8,oF 9,oF 11,oF 1,oF 5,oF 10,oF 12,oT 6,oT 7,oF 13,oF 14,oF 15],by kernel_rfl,g2_ ?_⟩
    refine ce_ kf (g2_ ?_);refine ce_ k16 (g2_ ?_);refine ce_ k17 (g2_ ?_);refine⟨(),aa [(0,.nil 17)] ?_,by simp[kz]⟩
    repeat first|simp-implicitDefEqProofs only[go_sem,ab,zPc,if_true]|with_reducible refine gl_ ?_
    first|done|rfl|exact⟨rfl,rfl⟩
  rw[decide_eq_false c4];refine g2_ ?_;rw[e5]
  have met:(m.kind=5\/m.kind=7\/m.kind=6)->h=q/\O=[]/\come=m.list:=fun g=>by
   rw[tkH,if_neg c1,if_neg c2,if_neg c3,if_neg c4]at hH;rcases g with g|g|g
   ·rw[if_pos (.inl g)]at hH;simpa using hH
   ·rw[if_pos (.inr g)]at hH;simpa using hH
   ·rw[if_neg (by rw[g];decide),if_pos g]at hH;simpa using hH
  by_cases c5:m.kind=5
  ·obtain⟨rfl,rfl,rfl⟩:=met (.inl c5);rw[decide_eq_true c5];refine g2_ ?_;refine⟨(),aa [(0,.nil 17)] ?_,by simp[kz]⟩
   repeat first|simp-implicitDefEqProofs only[go_sem,ab,zPc]|with_reducible refine gl_ ?_
   first|done|rfl|exact⟨rfl,rfl⟩
  rw[decide_eq_false c5];refine g2_ ?_;rw[e6]
  by_cases c6:m.kind=6
  ·obtain⟨rfl,rfl,rfl⟩:=met (.inr (.inr c6));rw[decide_eq_true c6];refine g2_ ?_;refine⟨(),aa [(0,.nil 17)] ?_,by simp[kz]⟩
   repeat first|simp-implicitDefEqProofs only[go_sem,ab,zPc]|with_reducible refine gl_ ?_
   first|done|rfl|exact⟨rfl,rfl⟩
  rw[decide_eq_false c6];refine g2_ ?_;rw[e7]
  by_cases c7:m.kind=7
  ·obtain⟨rfl,rfl,rfl⟩:=met (.inr (.inl c7));rw[decide_eq_true c7];refine g2_ ?_;refine⟨(),aa [(0,.nil 17)] ?_,by simp[kz]⟩
   repeat first|simp-implicitDefEqProofs only[go_sem,ab,zPc]|with_reducible refine gl_ ?_
   first|done|rfl|exact⟨rfl,rfl⟩
  rw[decide_eq_false c7];rw[tkH,if_neg c1,if_neg c2,if_neg c3,if_neg c4,if_neg (by simp[c5,c7]),if_neg c6]at hH
  refine g2_ ?_;rw[e8]
  by_cases c8:m.kind=8
  ·rw[if_pos c8]at hH;simp only[Prod.mk.injEq]at hH;obtain⟨rfl,rfl,rfl⟩:=hH;have k14:=l7 q.table m.table q.node (by omega) (by have:=hm.table;omega)
   have hml:(ct q.table m.table q.node).length=q.table.length:=by simp[ct]
   have k15:=iL q (ct q.table m.table q.node) hq1 (by omega) hml hq.h.rs hq.sq
   rw[<-rW]at k15;generalize bD q m.table=q' at k15;rw[decide_eq_true c8];refine g2_ ?_;refine .inl ⟨[oF 0,oF 1,oF 3,oF 5,oF 2,oF 4,oF 6,oT 7,oF 8,oF 9],by kernel_rfl,g2_ ?_⟩
   refine ce_ k14 (g2_ ?_);refine ce_ k15 (g2_ ?_);refine⟨(),aa [(0,.nil 17)] ?_,by simp[kz]⟩
   repeat first|simp-implicitDefEqProofs only[go_sem,ab,zPc]|with_reducible refine gl_ ?_
   first|done|rfl|exact⟨rfl,rfl⟩
  rw[decide_eq_false c8];rw[if_neg c8]at hH;refine g2_ ?_;rw[e9]
  by_cases c9:m.kind=9
  ·rw[if_pos c9]at hH;simp only[Prod.mk.injEq]at hH;obtain⟨rfl,rfl,rfl⟩:=hH;have k14:=wc q.table m.frm m.inc (by omega)
   generalize eA q.table m.frm m.inc=T at k14;rw[decide_eq_true c9];refine g2_ ?_;refine ce_ k14 (g2_ ?_);refine⟨(),aa [(0,.nil 17)] ?_,by simp[kz]⟩
   repeat first|simp-implicitDefEqProofs only[go_sem,ab,zPc]|with_reducible refine gl_ ?_
   first|done|rfl|exact⟨rfl,rfl⟩
  ·rw[if_neg c9]at hH;simp only[Prod.mk.injEq]at hH;obtain⟨rfl,rfl,rfl⟩:=hH;rw[decide_eq_false c9];refine g2_ ?_;refine⟨(),aa [(0,.nil 17)] ?_,by simp[kz]⟩
   repeat first|simp-implicitDefEqProofs only[go_sem,ab,zPc]|with_reducible refine gl_ ?_
   first|done|rfl|exact⟨rfl,rfl⟩
 have hO:O.length<=1:=hO;refine Vc2.sq (g2_ ?_);refine ce_ k6 (g2_ ?_);refine Vc2.of ?_;refine g2_ ?_;rw[e6]
 by_cases c6:m.kind=6
 ·rw[if_pos c6]at hM;have k14:=fU Rp.ring;have hrl:=cQ Rp.ring;have hrq:=hr.1
  have k15:=jy Rp (aw Rp.ring) hr.1 ⟨by omega,fun d hd=>by
   rcases dU hd with ⟨_,rfl⟩|⟨_,rfl⟩
   ·exact hrq.succ
   ·exact hrq.pred⟩ hr.2
  have k16:=dL Rp 7 m.frm (bE (aw Rp.ring) (pSelf Rp)) [];rw[decide_eq_true c6,hM];refine g2_ ?_;refine .inl ⟨[oF 0,oF 1,oF 2,oF 4,oF 5,oF 3,oF 6,oT 7,oT 8,oF 9,oF 10,oF 11,oF 12],by kernel_rfl,g2_ ?_⟩
  refine ce_ k14 (g2_ ?_);refine ce_ k15 (g2_ ?_);refine cw_ k16 (gx_ ?_);refine⟨by simp[zPc],?_⟩
  refine g2_ ?_;refine ae ?_ rfl;refine x0_ ?_
  try rw[List.take_of_length_le (by simp)]
  try (repeat' (first|rfl|refine And.intro ?_ ?_))
 ·rw[if_neg c6,List.append_nil]at hM;rw[decide_eq_false c6,hM];refine g2_ ?_;refine⟨by simp[zPc],?_⟩
  refine g2_ ?_;refine ae ?_ rfl
  repeat first|simp-implicitDefEqProofs only[go_sem,ab,List.length_map,aF]|with_reducible refine gl_ ?_
end Go.Proofs.YthoihfighiolmaaGreat.V
namespace Go.Proofs.YthoihfighiolmaaGreat.V
open Go.Eng
section
variable {c:ar} {nd:UInt8} {p q:ah} {m:bo} {dr:List UInt32}
theorem hZ:aR []:=⟨by simp,by simp⟩
theorem nC: ∀d∈([]:List GDesc),okF d:=by simp
theorem ac9{w:GW}(h:ok8 w.sent):ok8 (cI w).1.sent:=by
 unfold cI;split
 ·split
  ·exact⟨Nat.zero_le _,fun d hd=>absurd (show d∈([]:List GDesc)from hd) List.not_mem_nil⟩
  ·exact h
 ·exact⟨Nat.zero_le _,fun d hd=>absurd (show d∈([]:List GDesc)from hd) List.not_mem_nil⟩
theorem adG{l:List GDesc}(h:ok8 l):ok8 (bf l):=⟨by rw[bf,List.length_map];exact h.1,fun d hd=>by
 obtain⟨e,h1,rfl⟩:=gj hd
 rw[uZ];exact h.2 e h1⟩
theorem zE{l:List GDesc}{f:GDesc->Bool}(h:ok8 l):ok8 (l.filter f):=⟨Nat.le_trans (List.length_filter_le _ _) h.1,fun d hd=>h.2 d (List.mem_filter.1 hd).1⟩
theorem ajW{l:List GDesc}{self:GDesc}{many:Int}(hl:ok8 l)(hl9:l.length<=99)(hs:self.filter.length<=8):ok8 (dZ l self many dr).2.1:=by
 have hz:ok8 []:=⟨Nat.zero_le _,by simp⟩
 unfold dZ;split
 ·split
  ·split
   ·rename_i o _ _;show ok8 (aco l self many dr o.node);unfold aco;have h1:=mc (many:=many-1) dr (aD l o.node) [];have h2:=fW l o.node;have h3:=akK (many:=many-1) (nd:=o.node) (dr:=dr) hl;simp only[List.length_nil]at h1;refine⟨by rw[List.length_cons];omega,fun d hd=>?_⟩
    rcases List.mem_cons.1 hd with rfl|hd
    ·exact hs
    ·exact h3.2 d hd
   ·exact hz
  ·exact hz
 ·exact hz
end
theorem ahn{f g:List GSpan}(hf: ∀s∈f,okS s)(hg: ∀s∈g,okS s): ∀s∈bV f g,okS s:=by
 intro s hs;unfold bV at hs;split at hs
 ·obtain⟨x,hx,rfl⟩:=List.mem_map.1 hs;exact qn (hf _ (List.of_mem_zip hx).1) (hg _ (List.of_mem_zip hx).2)
 ·cases hs
theorem m6{dom f:List GSpan}(hd: ∀s∈dom,okS s)(hf: ∀s∈f,okS s)(hl:dom.length<=4):(∀s∈(aS dom f).1,okS s)/\(aS dom f).1.length<=8:=by grind [aS,ahn,m_,bV]
section
variable {c:ar} {nd:UInt8} {p q:ah} {o:GOp}
theorem lf(h:okG p){f:List GSpan}(h1: ∀s∈f,okS s)(h2:f.length<=8):okG { p with filter:=f }:=
 ⟨⟨by show f.length<=4000000;omega,h.ok.view,h.ok.near,h.ok.succ,h.ok.pred,h.ok.sent,h.ok.table,h.ok.heard,h.ok.rows,h.ok.reports,h.ok.evs,h.ok.pulls⟩,h1,h.view,h.near,h.succ,h.pred,h.table⟩
theorem Go1.filter(g:Go1 c p q){f:List GSpan}(h1: ∀s∈f,okS s)(h2:f.length<=8):Go1 c p { q with filter:=f }:=
 ⟨⟨lf g.h.g h1 h2,g.h.rs,g.h.v8,g.h.vw⟩,⟨g.pre.table,g.pre.rows,g.pre.heard,g.pre.view⟩,g.node,g.up,g.inc,g.ws,h2,g.tab⟩
theorem aci(hc:aB c=true){node:UInt8}{inc:UInt16}{up:Bool}{t:List an}(ht:(t.length:Int)=c.nodes):Win c { bM c node with inc:=inc,up:=up,table:=t }:=by
 have hr:=df hc;have hn:(((min (max c.nodes 0) 12).toNat:Nat):Int)=c.nodes:=by omega
 refine⟨ht,?_,?_,?_,?_,?_,?_,.inl rfl⟩
 ·simp only[bM,List.length_replicate];exact hn
 ·simp only[bM,List.length_replicate];exact hn
 ·exact mf ⟨by simp only[bM,List.length_nil];omega,zK _⟩ (by omega)
 ·exact mf ⟨by simp only[bM,List.length_nil];omega,zK _⟩ (by omega)
 ·intro k hk d hd;simp only[bM,List.mem_cons,List.not_mem_nil,or_false]at hk;rcases hk with rfl|rfl|rfl
  ·cases hd
  ·cases hd
  ·simp[aw]at hd
 ·intro d hd;simp[bM]at hd
theorem mw(hc:aB c=true)(node:UInt8):((bM c node).table.length:Int)=c.nodes:=by
 have hr:=df hc;simp only[bM,List.length_replicate];omega
theorem am2:ok8 []:=⟨Nat.zero_le _,by simp⟩
structure an2(c:ar)(p:ah)(r:ah×List bo×Int):Prop where
 bd:Bd c p.node r.1
 inc:p.inc<=r.1.inc
 tab:r.1.up=true->p.up=true->TUp p.table r.1.table
 ms: ∀m∈r.2.1,MOk c p m
 quiet:r.2.1≠[]->r.2.2=0/\p.up=true
end
theorem wt(dom f:List GSpan):bB dom (aS dom f).1=true:=by
 unfold aS;split
 ·rfl
 ·split
  ·show bB dom (bV dom f)=true;unfold bV;split
   ·rename_i h1 h2 h;unfold bB;rw[Bool.or_eq_true,Bool.and_eq_true];refine .inr ⟨decide_eq_true (by rw[List.length_map,List.length_zip];omega),List.all_eq_true.2 fun x hx=>?_⟩
    obtain⟨i,hi,rfl⟩:=List.mem_iff_getElem.1 hx;rw[List.length_zip,List.length_map,List.length_zip]at hi;rw[List.getElem_zip,List.getElem_map,List.getElem_zip]
    have hn:=List.any_eq_false.1 h.2 (dom[i]'(by omega),f[i]'(by omega)) (by
     rw[<-List.getElem_zip (l:=dom) (l':=f) (i:=i) (h:=by rw[List.length_zip];omega)]
     exact List.getElem_mem _)
    unfold kT;unfold eM dV cY at hn;unfold dV tG;simp only[decide_eq_true_eq]at hn;simp only[Bool.and_eq_true,Bool.or_eq_true,decide_eq_true_eq];refine⟨by omega,.inr ⟨?_,?_⟩⟩
    ·unfold cf;simp only;split<;>omega
    ·unfold cf;simp only;split<;>omega
   ·rfl
  ·rfl
structure Mid(c:ar)(p:ah):Prop where
 h:okH p
 pre:Pre c p
 ws:ok8 p.wait.sent
 f8:p.filter.length<=8
 fr:bB c.schema p.filter=true
 fp:FP c (bp c) p
 sq:sqR p.reports
 zr:zR p.ring
 wl:p.wait.some=true->1<=p.wait.left.toNat
 nd:(p.node.toNat:Int)<c.nodes
structure Iv(c:ar)(p:ah):Prop where
 m:Mid c p
 nr:Rt p.node c.near p.near
section
variable {c:ar} {p q:ah} {m:bo} {dr:List UInt32}
theorem iP(d:GDesc):bp c d.older=bp c d:=by
 unfold GDesc.older;split<;>rfl
theorem Mid.tab(h:Mid c q){t:List an}{r:List (List cO)}(ht:t.length=q.table.length)(hr:jc r)(hs:sqR r):Mid c { q with table:=t,reports:=r }:=
 ⟨oc h.h (by rw[ht];exact h.h.g.table) hr,⟨by have:=h.pre.table;rw[<-ht]at this;exact this,h.pre.rows,h.pre.heard,h.pre.view⟩,h.ws,h.f8,h.fr,⟨h.fp.view,h.fp.near,h.fp.succ,h.fp.pred⟩,hs,h.zr,h.wl,h.nd⟩
theorem Mid.learn(h:Mid c q)(t:List an):Mid c (bD q t):=h.tab (by simp[ct]) (gw h.h.rs _) (tQ h.sq _)
theorem Mid.left(h:Mid c q)(i:UInt8)(inc:UInt16):Mid c { q with table:=eA q.table i inc }:=h.tab (by simp[eA]) h.h.rs h.sq
theorem Mid.hear(h:Mid c q)(n:UInt8)(i:UInt16):Mid c (aI c q n i).1:=by
 unfold aI;split
 ·exact h
 ·split
  ·exact h
  ·split
   ·exact h
   ·refine h.tab (by simp[cl]) ?_ ?_
    ·split
     ·exact jv h.h.rs
     ·exact h.h.rs
    ·split
     ·exact oM h.sq
     ·exact h.sq
theorem Mid.view(h:Mid c q)(hc:aB c=true){V:List GDesc}(hv:Rt q.node c.view V)(hF: ∀d∈V,okF d)(hf: ∀d∈V,bp c d=true):Mid c { q with view:=V }:=by
 have hr:=df hc;have h1:=hv.1;exact⟨⟨ix h.h.g (by omega) hF,h.h.rs,⟨by show V.length<=1100000;omega,fun d hd=>aeH (by omega) (hf d hd)⟩,hv.2⟩,⟨h.pre.table,h.pre.rows,h.pre.heard,hv⟩,h.ws,h.f8,h.fr,⟨hf,h.fp.near,h.fp.succ,h.fp.pred⟩,h.sq,h.zr,h.wl,h.nd⟩
theorem Mid.wait(h:Mid c q){w:GW}(hw:ok8 w.sent)(hl:w.some=true->1<=w.left.toNat):Mid c { q with wait:=w }:=
 ⟨pG h.h hw.toDs,⟨h.pre.table,h.pre.rows,h.pre.heard,h.pre.view⟩,hw,h.f8,h.fr,⟨h.fp.view,h.fp.near,h.fp.succ,h.fp.pred⟩,h.sq,h.zr,hl,h.nd⟩
theorem Mid.filter(h:Mid c q){f:List GSpan}(h1: ∀s∈f,okS s)(h2:f.length<=8)(h3:bB c.schema f=true):Mid c { q with filter:=f }:=
 ⟨⟨lf h.h.g h1 h2,h.h.rs,h.h.v8,h.h.vw⟩,⟨h.pre.table,h.pre.rows,h.pre.heard,h.pre.view⟩,h.ws,h2,h3,⟨h.fp.view,h.fp.near,h.fp.succ,h.fp.pred⟩,h.sq,h.zr,h.wl,h.nd⟩
theorem agd(hc:aB c=true)(h:Mid c q)(hm:okMg m):Mid c (d9 c q m).1:=by
 unfold d9;split
 ·rename_i d hd;have hdm:d∈m.list:=by rw[hd];exact List.mem_cons_self
  split
  ·rename_i hfi;refine h.view hc (ahI h.pre.view d) (fun x hx=>?_) (fun x hx=>?_)
   ·rcases mZ hx with g|rfl
    ·exact h.h.g.view x g
    ·exact hm.fs2 x hdm
   ·rcases mZ hx with g|rfl
    ·exact h.fp.view x g
    ·exact hfi.2.2
  ·exact h
 ·exact h
theorem wa(hc:aB c=true)(h:Mid c q)(hm:okMg m):Mid c (d_ c q m):=by
 have g2:=h.learn m.table;refine g2.view hc (abu _ _ g2.pre.view) (fun x hx=>?_) (fun x hx=>?_)
 ·rcases pc _ _ x hx with g|g
  ·exact g2.h.g.view x g
  ·exact hm.fs2 x (n7 g)
 ·rcases pc _ _ x hx with g|g
  ·exact g2.fp.view x g
  ·exact qh g
theorem qZ(hc:aB c=true)(h:Mid c q)(hm:okMg m)(sent:List GDesc):Mid c (gr c q m sent):=by
 refine h.view hc (jd _ _ _ h.pre.view) (fun x hx=>?_) (fun x hx=>?_)
 ·rcases eJ _ _ _ x hx with g|g
  ·exact h.h.g.view x g
  ·exact hm.fs2 x (n7 g)
 ·rcases eJ _ _ _ x hx with g|g
  ·exact h.fp.view x g
  ·exact qh g
theorem yr(hc:aB c=true)(h:Mid c q)(hm:okMg m):Mid c (j4 c q m):=by
 unfold j4;simp only;split
 ·refine qZ hc (h.wait (abS h.ws).1 fun e=>?_) hm _
  unfold du at e ⊢;split at e
  ·cases e
  ·rename_i g;rw[if_neg g];exact h.wl e
 ·exact h
theorem amV{l:List GDesc}:FP c (bp c) p-> ∀k∈[pCur p p.view,pCur p p.near,aw (bJ p p.ring),pUse c p l], ∀d∈k,bp c d=true:=fun h k hk d hd=>by
 simp only[List.mem_cons,List.not_mem_nil,or_false]at hk;rcases hk with rfl|rfl|rfl|rfl
 ·exact h.view d (List.mem_filter.1 hd).1
 ·exact h.near d (List.mem_filter.1 hd).1
 ·rcases dU hd with ⟨h1,rfl⟩|⟨h1,rfl⟩
  ·have h2:p.ring.hs=true/\ck p p.ring.succ=true:=by simpa[bJ]using h1
   have e:(bJ p p.ring).succ=p.ring.succ:=by simp[bJ,h2.2]
   rw[e];exact h.succ h2.1
  ·have h2:p.ring.hp=true/\ck p p.ring.pred=true:=by simpa[bJ]using h1
   have e:(bJ p p.ring).pred=p.ring.pred:=by simp[bJ,h2.2]
   rw[e];exact h.pred h2.1
 ·exact qh hd
theorem afv{dom:List GSpan}{s:GDesc}{L:List (List GDesc)}:zR (bN dom s L):=by
 unfold bN;split
 ·exact⟨fun _=>rfl,fun _=>rfl⟩
 ·exact⟨fun h=>(by cases h),fun h=>(by cases h)⟩
theorem af3{dom:List GSpan}{s:GDesc}{L:List (List GDesc)}{f:GDesc->Bool}(h: ∀d∈aV s.node L,f d=true):((bN dom s L).hs=true->f (bN dom s L).succ=true)/\((bN dom s L).hp=true->f (bN dom s L).pred=true):=by
 unfold bN;split
 ·exact⟨fun h=>(by cases h),fun h=>(by cases h)⟩
 ·rename_i hne;exact⟨fun _=>h _ (jE hne),fun _=>h _ (jE hne)⟩
theorem fL(hc:aB c=true)(h:Mid c q){l:List GDesc}(hl:aR l)(hl2: ∀d∈l,okF d):Iv c (aJ c q l):=by
 have hw:=pn (l:=l) hc h.pre;have h4:=amV (l:=l) h.fp
 have hN: ∀d∈(aJ c q l).near,bp c d=true:=fun d hd=>by
  obtain⟨k,h1,h2⟩:=dN (iJ hd);exact h4 k h1 d h2
 have hU: ∀d∈aV (pSelf q).node [(aJ c q l).view,(aJ c q l).near,aw (bJ q q.ring),pUse c q l],bp c d=true:=fun d hd=>by
  obtain⟨k,h1,h2⟩:=dN hd;simp only[List.mem_cons,List.not_mem_nil,or_false]at h1;rcases h1 with rfl|rfl|rfl|rfl
  ·exact h4 (pCur q q.view) (by simp) d h2
  ·exact hN d h2
  ·exact h4 _ (by simp) d h2
  ·exact h4 _ (by simp) d h2
 have hR:=af3 (dom:=c.schema) (f:=bp c) hU;refine⟨⟨⟨iH h.h.g hl hl2,h.h.rs,⟨?_,?_⟩,?_⟩,⟨hw.table,hw.rows,hw.heard,gg h.pre.view _⟩,h.ws,h.f8,h.fr,⟨fun d hd=>h4 _ List.mem_cons_self d hd,hN,hR.1,hR.2⟩,h.sq,afv,h.wl,h.nd⟩,lU hw.near⟩
 ·exact Nat.le_trans (List.length_filter_le _ _) h.h.v8.1
 ·exact fun d hd=>h.h.v8.2 d (List.mem_filter.1 hd).1
 ·exact(gg h.pre.view _).2
theorem acP{l:List GDesc}(hc:aB c=true)(h:Mid c q): ∀d∈aw (aJ c q l).ring,d.node≠(aJ c q l).node:=fun d hd=>
 (sL ((pn (l:=l) hc h.pre).cur _ (List.mem_cons_of_mem _ (List.mem_cons_of_mem _ List.mem_cons_self)) d hd)).1
theorem uV(hc:aB c=true)(h:Mid c q)(hm:okMg m):Mid c (tkH dr c q m).1/\aR (tkH dr c q m).2.2/\ ∀d∈(tkH dr c q m).2.2,okF d:=by
 have a:aR m.list/\ ∀d∈m.list,okF d:=⟨hm.ds,hm.fs2⟩;have b:aR []/\ ∀d∈([]:List GDesc),okF d:=⟨hZ,nC⟩;unfold tkH;split
 ·exact⟨agd hc h hm,b⟩
 split
 ·exact⟨wa hc h hm,b⟩
 split
 ·exact⟨qZ hc h hm _,b⟩
 split
 ·exact⟨yr hc h hm,b⟩
 split
 ·exact⟨h,a⟩
 split
 ·exact⟨h,a⟩
 split
 ·exact⟨h.learn _,b⟩
 split
 ·exact⟨h.left _ _,b⟩
 ·exact⟨h,b⟩
theorem ail(hc:aB c=true)(h:Iv c p)(hm:okMg m):Iv c (iG dr c p m).1:=by
 rw[pT];split
 ·exact h
 split
 ·obtain⟨h1,h2,h3⟩:=uV (dr:=dr) hc (h.m.hear m.frm m.inc) hm;exact fL hc h1 h2 h3
 ·rename_i _ g;show Iv c (aI c p m.frm m.inc).1;rw[qj (by simpa using g)];exact h
theorem jf(h:Mid c p):Mid c (aY c p):=by
 have hv:Rt p.node c.view (aY c p).view/\ok8 (aY c p).view/\ ∀d∈(aY c p).view,bp c d=true:=by
  have h1:=agz h.pre.view;have h2:=adG h.h.v8
  have h3: ∀d∈bf p.view,bp c d=true:=fun d hd=>by
   obtain⟨e,g,rfl⟩:=gj hd;rw[iP];exact h.fp.view e g
  unfold aY;simp only;split
  ·exact⟨gg h1 _,zE h2,fun d hd=>h3 d (List.mem_filter.1 hd).1⟩
  ·exact⟨h1,h2,h3⟩
 refine⟨⟨pB h.h.g h.ws,h.h.rs,hv.2.1,hv.1.2⟩,⟨?_,h.pre.rows,h.pre.heard,hv.1⟩,ac9 h.ws,h.f8,h.fr,⟨hv.2.2,fun d hd=>?_,fun e=>?_,fun e=>?_⟩,h.sq,?_,?_,h.nd⟩
 ·have:=h.pre.table;rw[(agn p.table p.node c.suspect).1]at this;exact this
 ·obtain⟨e,g,rfl⟩:=gj hd;rw[iP];exact h.fp.near e g
 ·have e2:p.ring.hs=true:=e;show bp c (c_ p.ring).succ=true;rw[c_];simp only[e2,if_true,iP];exact h.fp.succ e2
 ·have e2:p.ring.hp=true:=e;show bp c (c_ p.ring).pred=true;rw[c_];simp only[e2,if_true,iP];exact h.fp.pred e2
 ·refine⟨fun e=>?_,fun e=>?_⟩
  ·have e2:p.ring.hs=false:=e;show(c_ p.ring).succ=zDesc;rw[c_];simp[e2]
  ·have e2:p.ring.hp=false:=e;show(c_ p.ring).pred=zDesc;rw[c_];simp[e2]
 ·show(cI p.wait).1.some=true->1<=(cI p.wait).1.left.toNat;unfold cI;split
  ·split
   ·intro e;cases e
   ·rename_i g;intro _;have g2: ¬p.wait.left.toNat<=1:=fun x=>g (UInt8.le_iff_toNat_le.2 x)
    show 1<=(p.wait.left-1).toNat;rw[UInt8.toNat_sub];have:(1:UInt8).toNat=1:=rfl;have:=p.wait.left.toNat_lt;omega
  ·intro e;cases e
theorem acv(hc:aB c=true)(h:Iv c p):p.view.length<=12/\p.near.length<=12:=by
 have hr:=df hc;have h1:=h.m.pre.view.1;have h2:=h.nr.1;omega
theorem iC(hc:aB c=true)(h:Iv c p):(bA p).length<=26:=by
 have h1:(cy p).length<=26:=by
  have:=acv hc h;have:=cQ p.ring;simp[cy];omega
 unfold bA;refine Nat.le_trans ?_ h1
 have h2: ∀(l acc:List UInt8),(l.foldl iE acc).length<=acc.length+l.length:=by
  intro l
  induction l with
  |nil=>intro acc;simp
  |cons x r ih=>
   intro acc;refine Nat.le_trans (ih _) ?_;unfold iE;split<;>simp<;>omega
 have h3:=h2 (aG ltU (cy p)) [];rw[cm]at h3;simpa[dm]using h3
theorem tm(hc:aB c=true)(h:Iv c q):Iv c (dD c q dr).1/\ok8 (dZ q.view (pSelf q) c.swap dr).2.1:=by
 have h8:=ajW (self:=pSelf q) (many:=c.swap) (dr:=dr) h.m.h.v8 (by have:=(acv hc h).1;omega) h.m.f8
 refine⟨?_,h8⟩;unfold dD;simp only;split
 ·exact⟨h.m.wait h8 (fun _=>(show 1<=UInt8.toNat 2 from by decide)),h.nr⟩
 ·exact h
theorem pz(hc:aB c=true){node:UInt8}{inc:UInt16}{up:Bool}{t:List an}(hn:(node.toNat:Int)<c.nodes)(ht:(t.length:Int)=c.nodes):Iv c { bM c node with inc:=inc,up:=up,table:=t }:=by
 have hr:=df hc;have hw:=aci (node:=node) (inc:=inc) (up:=up) hc ht;have hh:=abZ (oa c node) (i:=inc) (b:=up) (t:=t) (by omega)
 refine⟨⟨hh,⟨hw.table,hw.rows,hw.heard,lU hw.view⟩,am2,Nat.zero_le _,rfl,⟨fun d hd=>?_,fun d hd=>?_,fun e=>?_,fun e=>?_⟩,ade _,⟨fun _=>rfl,fun _=>rfl⟩,fun e=>?_,hn⟩,lU hw.near⟩
 ·cases hd
 ·cases hd
 ·cases e
 ·cases e
 ·cases e
theorem amf(hc:aB c=true){node:UInt8}(hn:(node.toNat:Int)<c.nodes):Iv c (bM c node):=pz hc (inc:=0) (up:=false) hn (mw hc node)
theorem abx(hc:aB c=true)(h:Iv c p):Iv c (fQ c p):=pz hc (inc:=p.inc) (up:=false) h.m.nd (mw hc p.node)
theorem ahH(hc:aB c=true)(h:Iv c p):Iv c (bU c p).1:=by
 unfold bU;split
 ·exact h
 ·split
  ·exact h
  ·exact pz hc h.m.nd (by rw[List.length_set];exact mw hc _)
theorem aiP(hc:aB c=true)(hS: ∀s∈c.schema,okS s)(h:Iv c p){o:GOp}(hm:okMg o.m)(hfs: ∀s∈o.filter,okS s):Iv c (dY c p o).1:=by
 have hr:=df hc;obtain⟨n1,n2⟩:=m6 (f:=o.filter) hS hfs (by omega)
 have n3:=wt c.schema o.filter;unfold dY;split
 ·exact ahH hc h
 split
 ·exact abx hc h
 split
 ·simp only;split
  ·exact h
  split
  ·exact fL hc (h.m.filter n1 n2 n3) hZ nC
  ·exact h
 split
 ·exact h
 split
 ·simp only;split
  ·exact h
  ·exact abx hc h
 split
 ·simp only;split
  ·exact h
  ·exact(tm hc (fL hc (jf h.m) hZ nC)).1
 split
 ·exact fL hc (h.m.hear _ _) hZ nC
 split
 ·exact fL hc h.m hm.ds hm.fs2
 ·exact ail hc h hm
