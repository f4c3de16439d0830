import Derived.Test.YtmhmahcdanclnaaGreatNr47
import Derived.Test.YtmhmahcdanclnaaGreatNr48
set_option linter.unusedSectionVars false
set_option linter.unusedSimpArgs false
set_option linter.unusedVariables false
set_option maxRecDepth 10000
set_option maxHeartbeats 8000000
namespace Go.Proofs.YtmhmahcdanclnaaGreat.V
open Go.Eng
section
variable {c:an} {nd:UInt8} {p:af} {f:List GSpan}
theorem pd(hc:az c=true)(hcs: ∀s∈c.schema,okS s)(hB:Bd c nd p)(hf:f.length<=4000000)(hfs: ∀s∈f,okS s):
  Con2 Tryz.prog 29 [.agg (aB c),.agg (ak p),fzS f] (· =plR (.tup [.agg (ak (gG c p f)),.v (.int .i64 (jK c p f))])):=by
 have hr:=bJ hc;obtain⟨n1,n2⟩:=jx (f:=f) hcs hfs (by omega)
 unfold gG jK
 by_cases hu:p.up=false
 ·rw[if_pos hu,if_pos hu];exact agM c p f hB.h.ok hu
 ·rw[if_neg hu,if_neg hu];exact aaY c p f (by omega) hcs hB.h.g hf (mO hB.h.g n1 n2) (by simpa using hu)
structure St0(c:an)(nd:UInt8)(p:af):Prop where
 al:Al nd [] p
 bd:Bd c nd p
 ew:Ew c p 64
 own:p.table[nd.toNat]? =some ⟨1,1,0⟩
 oth: ∀i:UInt8,i≠nd->(i.toNat:Int)<c.nodes->p.table[i.toNat]? =some ⟨0,0,0⟩
 rep:(p.reports.length:Int)=c.nodes
 rows:p.rows[0]? =some ⟨0,0,0⟩
 heard:p.heard[0]? =some ⟨0,0,0⟩
 cnt:p.count=0
 seq:p.seq=0
 buf:p.buf=⟨c.buffer,[]⟩
 pulls:p.pulls=[]
theorem abg(hc:az c=true)(hcs: ∀s∈c.schema,okS s)(hn:(nd.toNat:Int)<c.nodes):(bc c (aY c nd)).2=0/\St0 c nd (bc c (aY c nd)).1:=by
 have hr:=bJ hc;have hrb:=eB hc;obtain⟨s1,s2,s3,s4,s5,s6⟩:=ajr hc hn;have hE0:Ew c (aY c nd) 0:=yk (nd:=nd) (inc:=0) (up:=false) (t:=(aY c nd).table) hrb.1 hrb.2.2.1 ⟨hrb.2.2.2.2.1,hrb.2.2.2.2.2⟩ (Int.le_refl 0);have hE:Ew c (mI c (aY c nd) (nwO 0 [] [] fO)).1 (0+64):=wL ⟨hrb.1,hrb.2.1⟩ hrb.2.2.1 ⟨hrb.2.2.2.2.1,hrb.2.2.2.2.2⟩ hn (Int.le_refl 0) hE0;have hE:Ew c (bc c (aY c nd)).1 64:=hE
 have e:(bc c (aY c nd)).1={ aY c nd with inc:=1,up:=true,table:=(aY c nd).table.set nd.toNat ⟨1,1,0⟩ }:=by
  unfold bc;rw[if_neg (show ¬(aY c nd).up=true by simp[aY]),if_neg (show ¬(aY c nd).inc=65535 by simp[aY])]
  rfl
 have hn2:0<(min (max c.nodes 0) 12).toNat:=by omega
 refine⟨s1,⟨s2.bd.node,s2.up,s2.inc,s2.filter,s3,s4,s5⟩,s2.bd,hE,s2.own,s6,?_,?_,?_,?_,?_,?_,?_⟩
 ·rw[e];simp only[aY,List.length_replicate];omega
 ·rw[e];simp only[aY];rw[List.getElem?_replicate,if_pos hn2]
 ·rw[e];simp only[aY];rw[List.getElem?_replicate,if_pos hn2]
 ·rw[e];rfl
 ·rw[e];rfl
 ·rw[e];rfl
 ·rw[e];rfl
end
structure asN(c:an)(f:List GSpan)(P0 B0:af)(F:List GSpan)(Q0:af)(M:aF)(P1:af):Prop where
 u0:Con2 Tryz.prog 28 [.agg (aB c),.v (.int .u8 0),fzS []] (· =plR (.tup [.agg (ak P0),.v (.bool true)]))
 u1:Con2 Tryz.prog 28 [.agg (aB c),.v (.int .u8 1),fzS []] (· =plR (.tup [.agg (ak B0),.v (.bool true)]))
 w: ∃e:Int,Con2 Tryz.prog 29 [.agg (aB c),.agg (ak B0),fzS f] (· =plR (.tup [.agg (ak Q0),.v (.int .i64 e)]))
 j:Con2 Tryz.prog 30 [.agg (aB c),.agg (ak Q0),.v (.int .u8 0)] (· =plR (.tup [.fz 17 [encMg M],.v (.int .i64 0)]))
 t: ∃L:List aF,Con2 Tryz.prog 31 [.agg (aB c),.agg (ak P0),.agg (encMg M),.fz 1 []] (· =plR (.tup [.agg (ak P1),.fz 17 (L.map encMg),.fz 5 []]))
 kp: ∀V,Kp c V 0 0 P1
 cnt:P1.count=0
 bp:Bd c 0 P1
 ep:Ew c P1 128
 lq:Lq F 0 0 Q0
 bq:Bd c 1 Q0
 eq:Ew c Q0 128
 pq:Q0.pulls=[]
 f8:F.length<=8
theorem ary(c:an)(f:List GSpan)(hc:az c=true)(hcs: ∀s∈c.schema,okS s)(hf:f.length<=8)(hfs: ∀s∈f,okS s): ∃P0 B0 F Q0 M P1,asN c f P0 B0 F Q0 M P1:=by
 have hr:=bJ hc;have hrb:=eB hc;obtain⟨a1,hA⟩:=abg (nd:=0) hc hcs (by show(0:Int)<_;omega)
 obtain⟨b1,hB⟩:=abg (nd:=1) hc hcs (by show(1:Int)<_;omega)
 have wa:=pd (f:=[]) hc hcs hA.bd (by simp) (by simp)
 have wb:=pd (f:=[]) hc hcs hB.bd (by simp) (by simp)
 have wc:=pd (f:=f) hc hcs hB.bd (by omega) hfs
 have u0:=x7 c 0 [] wa;have u1:=x7 c 1 [] wb;rw[a1,(nD hA.al).1,(nD hA.al).2,hA.al.up]at u0;rw[b1,(nD hB.al).1,(nD hB.al).2,hB.al.up]at u1;obtain⟨F,g1,g2,g3⟩:=aph (c:=c) (f:=f) hB.al;have hbq:=(sd (o:=opW f) hc hcs hB.bd hB.ew (fV ..) hfs).bd;rw[hB.bd.node,yX]at hbq;have heq:Ew c (mI c (bc c (aY c 1)).1 (opW f)).1 (64+64):=wL ⟨hrb.1,hrb.2.1⟩ hrb.2.2.1 ⟨hrb.2.2.2.2.1,hrb.2.2.2.2.2⟩ (by rw[hB.bd.node];show(1:Int)<_;omega) (by omega) hB.ew
 rw[yX]at heq;obtain⟨n1,n2⟩:=jx (f:=f) hcs hfs (by omega)
 have hF8:F.length<=8:=by rw[<-g1.filter];exact hbq.f8
 have hFs: ∀s∈F,okS s:=by rw[<-g1.filter];exact hbq.h.g.filter
 generalize (bc c (aY c 0)).1=P0 at *;generalize (bc c (aY c 1)).1=B0 at *;generalize jK c B0 f=e at wc;have hQ:=g2;generalize gG c B0 f=Q0 at *;obtain⟨M,P1,hb⟩:=anC hc hA.al g1 g3 hF8 hFs hA.bd.win.table hA.own (hA.oth 1 (by decide) (by show(1:Int)<_;omega)) (by have:=hA.rep;omega) hA.cnt
 have hj:=afV c Q0 0 hbq.h.ok;rw[hb.m1]at hj;have ht:=ik hc hcs hA.bd hA.ew (by omega) (dr:=[]) (by simp) hb.m2
 have hbp:=(gV (m:=M) (dr:=[]) hc hA.bd hA.ew hb.m2.mg).bd;rw[hA.bd.node]at hbp;have hep:=nC (m:=M) (dr:=[]) ⟨hrb.2.2.2.2.1,hrb.2.2.2.2.2⟩ hA.ew
 obtain⟨L,hL⟩: ∃L,bA c P0 M []=(P1,L,[]):=by
  rcases hb.p1 with h|⟨W,h⟩
  ·exact⟨_,h⟩
  ·exact⟨_,h⟩
 rw[hL]at ht hbp hep;refine⟨P0,B0,F,Q0,M,P1,{ u0:=u0,u1:=u1,w:=⟨e,wc⟩,j:=hj,t:=⟨L,ht⟩,kp:=fun V=>?_,cnt:=hb.p4,bp:=hbp,ep:=hep.more (by omega),lq:=?_,bq:=hbq,eq:=heq,pq:=?_,f8:=hF8 }⟩
 ·have hev:=hb.ev;refine⟨hb.p2,hb.p3,?_,?_,?_,?_⟩
  ·rw[hev.buf,hA.buf];rfl
  ·rw[hev.buf,hA.buf]
  ·rw[hev.seq,hA.seq];rfl
  ·rw[hev.pulls,hA.pulls]
 ·refine⟨g1.node,g1.up,g1.inc,g1.filter,g1.view,g1.near,g1.ring,⟨⟨0,0,0⟩,?_,.inl rfl⟩,?_,⟨⟨0,0,0⟩,?_,.inl rfl⟩⟩
  ·rw[hQ];exact hB.oth 0 (by decide) (by show(0:Int)<_;omega)
  ·rw[hQ];exact hB.rows
  ·rw[hQ];exact hB.heard
 ·rw[hQ];exact hB.pulls
attribute[local go_sem] zDesc aQ ah fzD plR a_ aN aP aD aB ak aE aU z8 z16 z32 z64 encMg ba bP aO aC iD dZ ar List.map_cons List.map_nil SeqW2.eq_1
attribute[local go_sem] arH ast bne_self_eq_false List.length_cons List.length_nil
theorem akA{c:an}(h:az c=true):1<=c.pulls:=by
 unfold az inR at h;simp only[Bool.and_eq_true,decide_eq_true_eq]at h;omega
theorem nodeRepairs_con(c:an)(many:UInt8)(f:List GSpan)(hcs: ∀s∈c.schema,okS s)(hsl:c.schema.length<=1048576)(hfl:f.length<=1048576)(hfs: ∀s∈f,okS s):
  Con2 Tryz.prog 6 [.agg (aB c),.v (.int .u8 many.toNat),fzS f] (· =plR (.v (.bool true))):=by
 have haw:=adR;refine ev_ Tryz.func6 [.tmp 6] ?_;refine Vc2.sq (g2_ ?_);refine Vc2.sq (gx_ ?_)
 by_cases g1:(8:Int)<(c.schema.length:Int)
 ·rw[decide_eq_true g1];refine g2_ ?_;refine cw_ haw (g2_ ?_);exact⟨_,rfl,aa [] ws_⟩
 rw[decide_eq_false g1];refine gx_ ?_
 by_cases g0:(8:Int)<(f.length:Int)
 ·rw[decide_eq_true g0];refine g2_ ?_;refine cw_ haw (g2_ ?_);exact⟨_,rfl,aa [] ws_⟩
 rw[decide_eq_false g0];refine g2_ ?_;refine cw_ (aed c (by omega)) (g2_ ?_)
 cases g2:az c with
 |false=>
  refine g2_ ?_;refine cw_ haw (g2_ ?_);exact⟨_,rfl,aa [] ws_⟩
 |true=>
 refine g2_ ?_
 by_cases g3:c.window<64
 ·rw[decide_eq_true g3];refine g2_ ?_;refine cw_ haw (g2_ ?_);exact⟨_,rfl,aa [] ws_⟩
 rw[decide_eq_false g3];refine g2_ ?_
 by_cases g4:c.suspect<2
 ·rw[decide_eq_true g4];refine g2_ ?_;refine cw_ haw (g2_ ?_);exact⟨_,rfl,aa [] ws_⟩
 rw[decide_eq_false g4];have hrg:=bJ g2;have hrb:=eB g2;obtain⟨P0,B0,F,Q0,M,P1,B⟩:=ary c f g2 hcs (by omega) hfs
 obtain⟨e,wc⟩:=B.w;obtain⟨L,ht⟩:=B.t;have u0:=B.u0;have u1:=B.u1;have hj:=B.j;refine g2_ ?_;refine Vc2.sq (g2_ ?_);refine cw_ u0 (g2_ ?_);refine Vc2.sq (g2_ ?_);refine cw_ u1 (g2_ ?_);refine Vc2.sq (g2_ ?_);refine cw_ wc (g2_ ?_);refine Vc2.sq (g2_ ?_);refine cw_ hj (g2_ ?_);refine Vc2.sq (g2_ ?_);refine Vc2.seqJ (γ:=Unit) (fun _=>⟨[(1,.d (.v (.int .u8 many.toNat))),(3,.loc 3 0),(7,.loc 7 0),(9,.loc 9 0)],[(3,⟨aB c,26⟩),(7,⟨ak P1,49⟩),(9,⟨ak Q0,49⟩)],[],0,0⟩) (fun _=>True) ?_ (fun _ _=>?_)
 ·refine .inl ⟨[oF 0,oF 1,oF 2,oF 3,oF 4,oF 5,oF 6,oF 7,oF 8,oF 9,oF 10],by kernel_rfl,g2_ ?_⟩
  refine cw_ ht (g2_ ?_);refine⟨(),aa [] ?_⟩
  repeat first|simp-implicitDefEqProofs only[go_sem,ab]|with_reducible refine gl_ ?_
  first|done|rfl|exact⟨rfl,rfl⟩
 have hml:=many.toNat_lt;have hm13:many.toNat % 13<13:=Nat.mod_lt _ (by omega)
 have hll:=c.last.toNat_lt;obtain⟨N,hN,hN1,hN2,hN3⟩: ∃N:Nat,min (min ((many.toNat % 13:Nat):Int) c.buffer) (c.last.toNat:Int)=(N:Int)/\N<=12/\(N:Int)<=c.buffer/\N<=c.last.toNat:=⟨(min (min ((many.toNat % 13:Nat):Int) c.buffer) (c.last.toNat:Int)).toNat,by omega,by omega,by omega,by omega⟩
 obtain⟨V,hV⟩: ∃V,V=brK c.schema:=⟨_,rfl⟩;have hfit:fK c.schema V=true:=by rw[hV];exact ajb (amC g2)
 have hbr:=aiy c.schema (by omega) (by omega)
 rw[<-hV]at hbr;have hVl:V.length=c.schema.length:=by rw[hV];unfold brK;rw[List.length_map]
 clear hV;refine Vc2.sq (g2_ ?_);refine Vc2.seqJ (γ:=af) (fun p=>⟨[(3,.loc 3 0),(7,.loc 7 0),(9,.loc 9 0),(13,.loc 13 0)],[(3,⟨aB c,26⟩),(7,⟨ak p,49⟩),(9,⟨ak Q0,49⟩),(13,⟨[.v (.int .i64 N)],3⟩)],[],0,0⟩) (fun p=>Kp c V N 0 p/\p.count=0/\Bd c 0 p/\Ew c p 200) ?_ (fun p hF=>?_)
 ·refine g2_ ?_;rw[nU (a:=many.toNat) (b:=13) (bi:=13) rfl rfl (by omega)]
  refine g2_ ?_;rw[alp,hN];refine g2_ ?_;refine tv (γ:=Nat×af) (fun g=>⟨[(119,.d (.v (.int .i64 g.1))),(118,.d (.v (.int .i64 N))),(3,.loc 3 0),(7,.loc 7 0),(9,.loc 9 0),(13,.loc 13 0)],[(3,⟨aB c,26⟩),(7,⟨ak g.2,49⟩),(9,⟨ak Q0,49⟩),(13,⟨[.v (.int .i64 g.1)],3⟩)],[],0,0⟩) (fun g=>g.1<=N/\Kp c V g.1 0 g.2/\g.2.count=0/\Bd c 0 g.2/\Ew c g.2 (128+g.1)) (fun g=>N+1-g.1) (0,P1) (aa [] ?_) ⟨Nat.zero_le _,B.kp V,B.cnt,B.bp,by simpa using B.ep⟩ (fun g hg=>?_)
  ·repeat first|simp-implicitDefEqProofs only[go_sem,ab]|with_reducible refine gl_ ?_
   first|done|rfl|exact⟨rfl,rfl⟩
  ·obtain⟨j,p⟩:=g;obtain⟨h1,h2,h3,h4,h5⟩:=hg;simp only at h1 h2 h3 h4 h5 ⊢;refine Vc2.sq (g2_ ?_)
   by_cases hj:j<N
   ·rw [decide_eq_true (show(j:Int)<(N:Int)by omega)]
    have kp:=kN g2 (by show((0:Nat):Int)<_;omega) h4 h5 (by omega) (dr:=[]) (vals:=V) (data:=[]) (by simp) (by omega) (by simp)
    have pk:=ap5 (dr:=[]) h2 (by omega) (by omega) (by omega) hfit
    have pb:=(my (vals:=V) (data:=[]) (dr:=[]) g2 h4 h5).bd;have pe:=sK (vals:=V) (data:=[]) (dr:=[]) (by rw[h4.node];show((0:Nat):Int)<_;omega) ⟨hrb.2.2.2.2.1,hrb.2.2.2.2.2⟩ h5
    rw[h4.node]at pb;generalize aT c p V [] []=D at kp pk pb pe;obtain⟨p2,ev,mine,ms,err⟩:=D;simp only at kp pk pb pe;obtain⟨rfl,pk,pc⟩:=pk;refine Vc2.sq (g2_ ?_);refine Vc2.seqJ (γ:=Unit) (fun _=>⟨[(119,.d (.v (.int .i64 j))),(118,.d (.v (.int .i64 N))),(3,.loc 3 0),(7,.loc 7 0),(9,.loc 9 0),(13,.loc 13 0)],[(3,⟨aB c,26⟩),(7,⟨ak p2,49⟩),(9,⟨ak Q0,49⟩),(13,⟨[.v (.int .i64 (j+1:Nat))],3⟩)],[],0,0⟩) (fun _=>True) ?_ (fun _ _=>?_)
    ·refine g2_ ?_
     refine o4 (.fl 0 (.fl 1 (.fl 2 (.fl 3 (.eff 4 true (.eff 5 false (.fl 6 (.fl 7 (.fl 8 (.fl 9 (.fl 10 (.fl 11 (.eff 12 true (.eff 13 true (.eff 14 false (.eff 15 false (.fl 16 (.fl 17 (.fl 18 .done))) .no) .no) .no) (.eff 13 true (.eff 12 true (.eff 14 false (.eff 15 false (.fl 16 (.fl 17 (.fl 18 .done))) .no) .no) .no) .no)))))))) (.eff 12 true (.eff 5 false (.fl 6 (.fl 7 (.fl 8 (.fl 9 (.fl 10 (.fl 11 (.eff 13 true (.eff 14 false (.eff 15 false (.fl 16 (.fl 17 (.fl 18 .done))) .no) .no) .no))))))) (.eff 13 true (.eff 5 false (.fl 6 (.fl 7 (.fl 8 (.fl 9 (.fl 10 (.fl 11 (.eff 14 false (.eff 15 false (.fl 16 (.fl 17 (.fl 18 .done))) .no) .no))))))) .no) .no)) (.eff 13 true (.eff 5 false (.fl 6 (.fl 7 (.fl 8 (.fl 9 (.fl 10 (.fl 11 (.eff 12 true (.eff 14 false (.eff 15 false (.fl 16 (.fl 17 (.fl 18 .done))) .no) .no) .no))))))) (.eff 12 true (.eff 5 false (.fl 6 (.fl 7 (.fl 8 (.fl 9 (.fl 10 (.fl 11 (.eff 14 false (.eff 15 false (.fl 16 (.fl 17 (.fl 18 .done))) .no) .no))))))) .no) .no)) .no))) (.eff 12 true (.eff 4 true (.eff 5 false (.fl 6 (.fl 7 (.fl 8 (.fl 9 (.fl 10 (.fl 11 (.eff 13 true (.eff 14 false (.eff 15 false (.fl 16 (.fl 17 (.fl 18 .done))) .no) .no) .no))))))) (.eff 13 true (.eff 5 false (.fl 6 (.fl 7 (.fl 8 (.fl 9 (.fl 10 (.fl 11 (.eff 14 false (.eff 15 false (.fl 16 (.fl 17 (.fl 18 .done))) .no) .no))))))) .no) .no)) (.eff 13 true (.eff 4 true (.eff 5 false (.fl 6 (.fl 7 (.fl 8 (.fl 9 (.fl 10 (.fl 11 (.eff 14 false (.eff 15 false (.fl 16 (.fl 17 (.fl 18 .done))) .no) .no))))))) .no) .no) .no)) (.eff 13 true (.eff 4 true (.eff 5 false (.fl 6 (.fl 7 (.fl 8 (.fl 9 (.fl 10 (.fl 11 (.eff 12 true (.eff 14 false (.eff 15 false (.fl 16 (.fl 17 (.fl 18 .done))) .no) .no) .no))))))) (.eff 12 true (.eff 5 false (.fl 6 (.fl 7 (.fl 8 (.fl 9 (.fl 10 (.fl 11 (.eff 14 false (.eff 15 false (.fl 16 (.fl 17 (.fl 18 .done))) .no) .no))))))) .no) .no)) (.eff 12 true (.eff 4 true (.eff 5 false (.fl 6 (.fl 7 (.fl 8 (.fl 9 (.fl 10 (.fl 11 (.eff 14 false (.eff 15 false (.fl 16 (.fl 17 (.fl 18 .done))) .no) .no))))))) .no) .no) .no)) .no))))))) [(14,.loc 14 0),(15,.loc 15 0),(18,.d (.v (.int .i64 0)))] [(14,⟨ak p2,49⟩),(15,⟨aE ev,56⟩)] ?_ ?_
     ·refine g2_ ?_
      repeat' (first
       |(with_reducible refine And.intro ?_ ?_)
       |(refine CallS.eqW hbr ?_ (.inl ?_) ?_;(focus (simp-implicitDefEqProofs only[go_sem,ab];done));(focus (simp-implicitDefEqProofs only[go_sem,ab];done));refine g2_ ?_)
       |(refine CallS.eqW kp ?_ (.inl ?_) ?_;(focus (simp-implicitDefEqProofs only[go_sem,ab];done));(focus (simp-implicitDefEqProofs only[go_sem,ab];done));refine g2_ ?_)
       |(refine aa [] ?_;(focus (simp-implicitDefEqProofs only[go_sem,ab];done))))
     refine g2_ ?_;refine .inr (.inr (.inl ⟨[oF 0,oF 1,oF 2,oT 3,oF 4],[7],by kernel_rfl,g2_ ?_⟩))
     refine⟨(),aa [] ?_⟩
     repeat first|simp-implicitDefEqProofs only[go_sem,ab,Int.natCast_add,Int.natCast_one]|with_reducible refine gl_ ?_
     first|done|rfl|exact⟨rfl,rfl⟩
    ·refine Vc2.of ?_;refine g2_ ?_;refine⟨(j+1,p2),aa [] ?_,⟨by omega,pk,pc.trans h3,pb,pe.more (by omega)⟩,by omega⟩
     repeat first|simp-implicitDefEqProofs only[go_sem,ab,Int.natCast_add,Int.natCast_one]|with_reducible refine gl_ ?_
     first|done|rfl|exact⟨rfl,rfl⟩
   ·rw[decide_eq_false (show ¬(j:Int)<(N:Int)by omega)]
    obtain rfl:j=N:=by omega
    refine Vc2.of ?_;refine g2_ ?_;refine⟨p,aa [] ?_,h2,h3,h4,h5.more (by omega)⟩
    repeat first|simp-implicitDefEqProofs only[go_sem,ab]|with_reducible refine gl_ ?_
    first|done|rfl|exact⟨rfl,rfl⟩
 obtain⟨hK,hcnt,hBp,hEp⟩:=hF;clear u0 u1 wc hj ht hbr;refine Vc2.sq (g2_ ?_);refine Vc2.sq (g2_ ?_);refine Vc2.sq (g2_ ?_)
 refine tv (γ:=Nat×Nat×af×af) (fun g=>⟨[(142,.d (.v (.int .i64 g.1))),(141,.d (.v (.int .i64 ((N:Int)+1)))),(20,.d (.v (.int .i64 g.2.1))),(19,.d (.fn 34 [] [.pt 0 0,.pt 1 0,.pt 2 0])),(3,.d (.pt 0 0)),(7,.d (.pt 1 0)),(9,.loc 9 0),(13,.d (.pt 2 0))],[(9,⟨ak g.2.2.2,49⟩)],[(0,.var 26 (aB c)),(1,.var 49 (ak g.2.2.1)),(2,.var 3 [.v (.int .i64 N)])],3,0⟩)
  (fun g=>g.1<=g.2.1/\g.2.1<=N/\Kp c V N 0 g.2.2.1/\g.2.2.1.count.toNat=g.1/\Bd c 0 g.2.2.1/\Ew c g.2.2.1 (300+100*g.1)/\Lq F g.2.1 g.1 g.2.2.2/\g.2.2.2.pulls=[]/\Bd c 1 g.2.2.2/\Ew c g.2.2.2 (300+100*g.1)) (fun g=>N+2-g.1) (0,0,p,Q0) (aa [] ?_)
  ⟨Nat.le_refl _,Nat.zero_le _,hK,by rw[hcnt];rfl,hBp,hEp.more (by omega),B.lq,B.pq,B.bq,B.eq.more (by omega)⟩ (fun g hg=>?_)
 ·repeat first|simp-implicitDefEqProofs only[go_sem,ab]|with_reducible refine gl_ ?_
  first|done|rfl|exact⟨rfl,rfl⟩
 clear hK hcnt hBp hEp;obtain⟨i,t,P,Q⟩:=g;obtain⟨l1,l2,l3,l4,l5,l6,l7,l8,l9,l10⟩:=hg;simp only at l1 l2 l3 l4 l5 l6 l7 l8 l9 l10 ⊢;refine Vc2.sq (g2_ ?_);rw[decide_eq_true (show(i:Int)<(N:Int)+1 by omega)]
 refine Vc2.sq (g2_ ?_)
 -- what is told
 have kt:=amn g2 hcs l5 l6 (by omega) (dr:=[]) (by simp)
 have tb:=(sa (dr:=[]) g2 l5 l6).bd;have te:=aeZ (dr:=[]) hrb.2.1 l6;rw[l5.node]at tb;obtain⟨A,P2,e1,hA,hAl,k1,c1⟩:=anY (dr:=[]) g2 l5 l3 (by omega) hN1 (by omega)
 rw[e1]at kt tb te;simp only at tb te;clear e1;obtain⟨D,hD⟩: ∃D,D=dg P2 1:=⟨_,rfl⟩;have hD1:((D.kind.toNat:Int)==11)=true:=by rw[hD];rfl
 have hD2:((D.to.toNat:Int)==1)=true:=by rw[hD];rfl
 have hD3:D.ids.length=N:=by rw[hD];show(eIds P2.buf.evs).length=N;rw[k1.evs,nB];simp
 rw[<-hD]at kt;obtain⟨MS,hMS⟩: ∃MS,MS=A++[D]:=⟨_,rfl⟩;rw[<-hMS]at kt;have hMl:MS.length=A.length+1:=by rw[hMS];simp
 have hM1: ∀j (h:j<MS.length),(MS[j].kind≠11/\j<A.length)\/MS[j]=D:=fun j h=>by
  subst hMS;rw[List.getElem_append];split
  ·rename_i h1;exact .inl ⟨hA _ (List.getElem_mem h1),h1⟩
  ·exact .inr (by simp)
 clear hMS;refine Vc2.seq (Vc2.blockV ?_);refine Vc2.seqJ (γ:=Unit) (fun _=>⟨[(21,.loc 21 0),(22,.d (.v (.bool true))),(142,.d (.v (.int .i64 i))),(141,.d (.v (.int .i64 ((N:Int)+1)))),(20,.d (.v (.int .i64 t))),(19,.d (.fn 34 [] [.pt 0 0,.pt 1 0,.pt 2 0])),(3,.d (.pt 0 0)),(7,.d (.pt 1 0)),(9,.loc 9 0),(13,.d (.pt 2 0))],[(21,⟨encMg D,60⟩),(9,⟨ak Q,49⟩)],[(0,.var 26 (aB c)),(1,.var 49 (ak P2)),(2,.var 3 [.v (.int .i64 N)])],3,0⟩) (fun _=>True) ?_ (fun _ _=>?_)
 ·refine g2_ ?_;refine im_ Tryz.func34 [.cell 3 60,.tmp 4] (g2_ ?_);refine g2_ ?_;refine cw_ kt (g2_ ?_);refine aw MS.length (fun j=>[]) (fun _=>[]) (fun _=>[(0,.var 26 (aB c)),(1,.var 49 (ak P2)),(2,.var 3 [.v (.int .i64 N)])]) 3 (fun j=>j<=A.length) (aa [] ?_) (Nat.zero_le _) (fun g k=>ws_) (by omega) (fun g=>ws_) (fun j hj hF=>?_) (fun hF=>?_)
  ·repeat first|simp-implicitDefEqProofs only[go_sem,ab]|with_reducible refine gl_ ?_
   first|done|rfl|exact⟨rfl,rfl⟩
  ·have hg:=aZ (f:=encMg) hj;rcases hM1 j hj with ⟨y1,y2⟩|y1
   ·have hne:((MS[j].kind.toNat:Int)==11)=false:=beq_eq_false_iff_ne.2 (fun h=>y1 (UInt8.toNat_inj.1 (by rw[show(11:UInt8).toNat=11 from rfl];omega)))
    generalize MS[j]=y at hg hne;refine gg_ hg hne ?_;refine⟨j+1,aa [] ?_,by omega⟩
    repeat first|simp-implicitDefEqProofs only[go_sem,ab,List.append_eq,List.cons_append,List.nil_append]|with_reducible refine gl_ ?_
    first|done|rfl|exact⟨rfl,rfl⟩
   ·rw[y1]at hg;refine gh_ hg hD1 hD2 ?_;refine .inr (.inr (.inl ⟨[oF 0,oF 1,oF 4,oF 2,oF 3,oF 5,oT 6,oF 7],[3],by kernel_rfl,gf_ hD3 ?_⟩))
    refine⟨(),aa [] ?_⟩
    repeat first|simp-implicitDefEqProofs only[go_sem,ab,List.append_eq,List.cons_append,List.nil_append]|with_reducible refine gl_ ?_
    first|done|rfl|exact⟨rfl,rfl⟩
  ·exfalso;omega
 clear kt hM1 hA hMl
 have hD4:x8 D:=by
  rw[hD];have e1:=tb.h.ok.table;have e2:=tb.win.rows;refine⟨⟨by simp[dg,pMsg],by simp[dg,pMsg],by simp[dg,pMsg],?_⟩,by simp[dg,pMsg,zEvt],?_,?_⟩
  ·show P2.table.length<=1048576;have e3:=tb.win.table;omega
  ·show(iY P2.rows).length<=1048576;unfold iY;refine Nat.le_trans (List.length_filter_le _ _) ?_;rw[List.length_mapIdx];omega
  ·show(eIds P2.buf.evs).length<=500000;rw[k1.evs,nB];simp;omega
 have kd:=ik g2 hcs l9 l10 (by omega) (dr:=[]) (by simp) hD4
 have rb:=(gV (m:=D) (dr:=[]) g2 l9 l10 hD4.mg).bd;have re:=nC (m:=D) (dr:=[]) ⟨hrb.2.2.2.2.1,hrb.2.2.2.2.2⟩ l10;rw[l9.node]at rb;obtain⟨R,e2,q1,q2,q3⟩:=agn (dr:=[]) g2 (by omega) l9 l7 l8 k1 (by omega:P2.count.toNat=i+1) l2 hN1 hN3
 rw[<-hD]at e2;rw[e2]at kd rb re;simp only at rb re;clear e2 hD1 hD2 hD3;obtain⟨AS,hAS⟩: ∃AS:List aF,AS=if N-t=0 then []else [⟨12,1,1,0,[],[],zEvt,0,⟨0,0,0⟩,[],(List.range' t (min (N-t) c.pulls.toNat)).map idK⟩]:=⟨_,rfl⟩
 rw[<-hAS]at kd;refine Vc2.sq (g2_ ?_);refine Vc2.sq (g2_ ?_);refine cw_ kd (g2_ ?_);refine Vc2.seqJ (γ:=Unit) (fun _=>⟨[(24,.d (.fz 17 (AS.map encMg))),(25,.d (.fz 5 [])),(23,.loc 23 0),(142,.d (.v (.int .i64 i))),(141,.d (.v (.int .i64 ((N:Int)+1)))),(20,.d (.v (.int .i64 t))),(19,.d (.fn 34 [] [.pt 0 0,.pt 1 0,.pt 2 0])),(3,.d (.pt 0 0)),(7,.d (.pt 1 0)),(9,.loc 9 0),(13,.d (.pt 2 0))],[(9,⟨ak R,49⟩),(23,⟨ak R,49⟩)],[(0,.var 26 (aB c)),(1,.var 49 (ak P2)),(2,.var 3 [.v (.int .i64 N)])],3,0⟩) (fun _=>True) ?_ (fun _ _=>?_)
 ·refine g2_ ?_;refine⟨(),aa [] ?_⟩
  repeat first|simp-implicitDefEqProofs only[go_sem,ab]|with_reducible refine gl_ ?_
  first|done|rfl|exact⟨rfl,rfl⟩
 clear kd;refine Vc2.sq (g2_ ?_);refine Vc2.sq (g2_ ?_);refine Vc2.sq (g2_ ?_);have hpl:=akA g2
 by_cases h0:N-t=0
 ·rw[if_pos h0]at hAS;subst hAS;obtain rfl:t=N:=by omega
  rw[show(if c.pulls<(t:Int)-(t:Int)then c.pulls else (t:Int)-(t:Int))=0 by split<;>omega]
  refine aw 0 (fun j=>[]) (fun _=>[]) (fun _=>[(0,.var 26 (aB c)),(1,.var 49 (ak P2)),(2,.var 3 [.v (.int .i64 t)])]) 3 (fun _=>True) (aa [] ?_) trivial (fun g k=>ws_) (by omega) (fun g=>ws_) (fun j hj _=>absurd hj (Nat.not_lt_zero _)) (fun _=>?_)
  ·repeat first|simp-implicitDefEqProofs only[go_sem,ab]|with_reducible refine gl_ ?_
   first|done|rfl|exact⟨rfl,rfl⟩
  have hrl:(R.rows.length:Int)=c.nodes:=rb.win.rows;have hr0:=q1.row;obtain⟨X,hX⟩: ∃X,X=R.rows.map aD:=⟨_,rfl⟩;have hXl:X.length=R.rows.length:=by rw[hX,List.length_map]
  have hX0:X[0]? =some (aD (rwK t)):=by rw[hX,List.getElem?_map,hr0];rfl
  refine g2_ ?_;refine Vc2.sq (g2_ ?_);have hXn:((X.length:Int)==c.nodes)=true:=by rw[hXl,hrl];exact beq_self_eq_true _
  refine .inl ⟨[oF 0,oF 1,oF 2,oF 3,oF 4,oF 7,oF 5,oF 8,oF 6,oF 9,oF 10,oF 11,oF 12,oF 13,oF 14,oF 15,oF 20,oF 16,oF 21,oF 17,oF 18,oF 19,oF 22,oF 23,oF 24,oF 25,oF 26,oF 27,oF 28],by kernel_rfl,gf_ (c2_ hX.symm hXn) ?_⟩
  by_cases ht0:t=0
  ·rw[show((t:Int)==0)=true by rw[ht0];rfl]
   refine g2_ ?_;refine cw_ haw (g2_ ?_);exact⟨_,rfl,aa [] ws_⟩
  ·have ht1:((t:Int)==0)=false:=beq_eq_false_iff_ne.2 (by omega)
   have hpre:((rwK t).pre.toNat:Int)=(t:Int):=by
    unfold rwK;rw[if_neg ht0];show((UInt32.ofNat t).toNat:Int)=_;rw[u32_of (by omega)]
   rw[ht1];refine gf_ hX0 ?_;refine nn (by omega) ?_
   refine gg_ hX0 hpre ?_;refine cw_ haw (g2_ ?_);exact⟨_,rfl,aa [] ws_⟩
 ·rw [if_neg h0]at hAS;obtain⟨W,hW⟩: ∃W,W=min (N-t) c.pulls.toNat:=⟨_,rfl⟩;rw[<-hW]at hAS q2;have hW1:1<=W/\t+W<=N/\W<=12:=by omega
  rw[show(if c.pulls<(N:Int)-(t:Int)then c.pulls else (N:Int)-(t:Int))=(W:Int)by split<;>omega]
  obtain⟨m,hm⟩: ∃m:aF,m=⟨12,1,1,0,[],[],zEvt,0,⟨0,0,0⟩,[],(List.range' t W).map idK⟩:=⟨_,rfl⟩;rw[<-hm]at hAS;subst hAS;have m1:m.kind=12:=by rw[hm]
  have m2:m.frm=1:=by rw[hm]
  have m3:m.inc=1:=by rw[hm]
  have m4:m.to=0:=by rw[hm]
  have m5:m.ids=(List.range' t W).map idK:=by rw[hm]
  have m6:x8 m:=by
   rw[hm];refine⟨⟨by simp,by simp,by simp,by simp⟩,by simp[zEvt],by simp,?_⟩
   show((List.range' t W).map idK).length<=500000;simp;omega
  have m7:m.ids.length=W:=by rw[m5];simp
  have mk:((m.kind.toNat:Int)==12)=true:=by rw[m1];rfl
  have mt:((m.to.toNat:Int) !=0)=false:=by rw[m4];rfl
  have hRp:R.pulls.length=W:=by rw[q2];simp
  have kp:=ik g2 hcs tb te (by omega) (dr:=[]) (by simp) m6
  have pb:=(gV (m:=m) (dr:=[]) g2 tb te m6.mg).bd;have pe:=nC (m:=m) (dr:=[]) ⟨hrb.2.2.2.2.1,hrb.2.2.2.2.2⟩ te;rw[tb.node]at pb;obtain⟨P3,e3,k3,c3⟩:=anH (dr:=[]) tb hrg.1 k1 hN1 hW1.2.1 m1 m2 m3 m4 m5;rw[e3]at kp pb pe;simp only at pb pe;clear e3 hm;refine aw 1 (fun j=>[(27,.d (.rf 3 0 j))]) (fun _=>[]) (fun j=>(3,.arr 60 17 (if j=0 then []else [encMg m]) false)::[(0,.var 26 (aB c)),(1,.var 49 (ak P2)),(2,.var 3 [.v (.int .i64 N)])]) 4 (fun _=>True) (aa [(3,.nil 17)] ?_) trivial (fun g k=>ws_) (by omega) (fun g=>ws_) (fun j hj _=>?_) (fun _=>?_)
  ·repeat first|simp-implicitDefEqProofs only[go_sem,ab]|with_reducible refine gl_ ?_
   first|done|rfl|exact⟨rfl,rfl⟩
  ·obtain rfl:j=0:=by omega
   refine gf_ mk ?_;refine⟨0+1,aa [(3,.to 5)] ?_,rfl⟩
   repeat first|simp-implicitDefEqProofs only[go_sem,ab,List.append_eq,List.cons_append,List.nil_append]|with_reducible refine gl_ ?_
   first|done|rfl|exact⟨rfl,rfl⟩
  refine g2_ ?_;refine Vc2.sq (g2_ ?_);rw[show((W:Int)==0)=false from beq_eq_false_iff_ne.2 (by omega)]
  refine g2_ ?_;refine Vc2.sq (gf_ (c4_ m7 mt hRp @List.getElem?_cons_zero.{0}) ?_);obtain⟨AE,hAE⟩: ∃AE,AE=((List.range' t W).map (jP V)).map encMg:=⟨_,rfl⟩;rw[<-hAE]at kp;have hAl:AE.length=W:=by rw[hAE];simp
  have hAg: ∀j,j<W->AE[j]? =some (encMg (jP V (t+j))):=fun j hj=>by
   rw[hAE,List.getElem?_map,List.getElem?_map,List.getElem?_range' hj,Option.map_some,Option.map_some];rw[show t+1*j=t+j by omega]
  clear hAE;refine Vc2.seqJ (γ:=Unit) (fun _=>⟨[(30,.d (.fz 17 AE)),(23,.loc 23 0),(26,.d (.v (.int .i64 W))),(20,.d (.v (.int .i64 t))),(142,.d (.v (.int .i64 i))),(141,.d (.v (.int .i64 ((N:Int)+1)))),(19,.d (.fn 34 [] [.pt 0 0,.pt 1 0,.pt 2 0])),(3,.d (.pt 0 0)),(7,.d (.pt 1 0)),(9,.loc 9 0),(13,.d (.pt 2 0))],[(9,⟨ak R,49⟩),(23,⟨ak P3,49⟩)],[(0,.var 26 (aB c)),(1,.var 49 (ak P2)),(2,.var 3 [.v (.int .i64 N)])],4,0⟩) (fun _=>True) ?_ (fun _ _=>?_)
  ·refine gf_ (c4_ m7 mt hRp @List.getElem?_cons_zero.{0}) ?_;refine .inr (.inr (.inl ⟨[oF 0,oF 1,oF 2,oF 3,oF 4,oF 5,oF 6,oF 7,oF 8,oF 9,oF 10,oF 11,oF 12],[],by kernel_rfl,gf_ @List.getElem?_cons_zero.{0} ?_⟩))
   refine cw_ kp (g2_ ?_);refine⟨(),aa [] ?_⟩
   repeat first|simp-implicitDefEqProofs only[go_sem,ab]|with_reducible refine gl_ ?_
   first|done|rfl|exact⟨rfl,rfl⟩
  clear kp;have hAn:((AE.length:Int) !=(W:Int))=false:=by rw[hAl];exact bne_self_eq_false _
  refine Vc2.sq (gf_ hAn ?_);refine Vc2.seqJ (γ:=Nat×af) (fun g=>⟨[(20,.d (.v (.int .i64 g.1))),(142,.d (.v (.int .i64 i))),(141,.d (.v (.int .i64 ((N:Int)+1)))),(19,.d (.fn 34 [] [.pt 0 0,.pt 1 0,.pt 2 0])),(3,.d (.pt 0 0)),(7,.d (.pt 1 0)),(9,.loc 9 0),(13,.d (.pt 2 0))],[(9,⟨ak g.2,49⟩)],[(0,.var 26 (aB c)),(1,.var 49 (ak P3)),(2,.var 3 [.v (.int .i64 N)])],4,0⟩) (fun g=>g.1=t+W/\Lq F (t+W) (i+1) g.2/\g.2.pulls=[]/\Bd c 1 g.2/\Ew c g.2 (300+100*i+1+W)) ?_ (fun g hg=>?_)
  ·refine gf_ hAl ?_;refine g_ (γ:=Nat×af) (ρ:=[(255,.d (.v (.int .i64 W))),(254,.d (.fz 17 AE)),(142,.d (.v (.int .i64 i))),(141,.d (.v (.int .i64 ((N:Int)+1)))),(19,.d (.fn 34 [] [.pt 0 0,.pt 1 0,.pt 2 0])),(3,.d (.pt 0 0)),(7,.d (.pt 1 0)),(9,.loc 9 0),(13,.d (.pt 2 0))]) W (fun g=>[(20,.d (.v (.int .i64 g.1)))]) (fun g=>[(9,⟨ak g.2,49⟩)]) (fun _=>[(0,.var 26 (aB c)),(1,.var 49 (ak P3)),(2,.var 3 [.v (.int .i64 N)])]) 4 (fun k g=>g.1=t+k/\Lq F (t+k) (i+1) g.2/\g.2.pulls=(List.range' (t+k) (W-k)).map (mi c)/\Bd c 1 g.2/\Ew c g.2 (300+100*i+1+k)) (t,R) (aa [] ?_) ⟨rfl,q1,q2,rb,re.more (by omega)⟩ (fun g k=>by first|rfl|(repeat first|simp-implicitDefEqProofs only[go_sem,ab]|with_reducible refine gl_ ?_)) (by omega) (fun g=>ws_) (fun k g hk hF=>?_) (fun g hF=>?_)
   ·repeat first|simp-implicitDefEqProofs only[go_sem,ab,hAl]|with_reducible refine gl_ ?_
    first|done|rfl|exact⟨rfl,rfl⟩
   ·obtain⟨tk,G⟩:=g;obtain⟨b1,b2,b3,b4,b5⟩:=hF;simp only at b1 b2 b3 b4 b5 ⊢;subst b1;have hg:=hAg k hk;have hw:W-k=(W-k-1)+1:=by omega
    rw[hw]at b3;obtain⟨G2,e4,d1,d2⟩:=anT (dr:=[]) g2 (by omega) b4 b2 b3 hfit (by omega) (by omega) (by omega)
    have hmo:x8 (jP V (t+k)):=⟨⟨by simp[jP],by simp[jP],by simp[jP],by simp[jP]⟩,⟨by show V.length<=1048576;omega,by show([]:List UInt8).length<=1048576;simp⟩,by simp[jP],by simp[jP]⟩
    have kx:=ik g2 hcs b4 b5 (by omega) (dr:=[]) (by simp) hmo
    have xb:=(gV (m:=jP V (t+k)) (dr:=[]) g2 b4 b5 hmo.mg).bd;have xe:=nC (m:=jP V (t+k)) (dr:=[]) ⟨hrb.2.2.2.2.1,hrb.2.2.2.2.2⟩ b5;rw[b4.node]at xb;rw[e4]at kx xb xe;simp only at xb xe;have hv:(jP V (t+k)).ev.vals=V:=rfl;generalize jP V (t+k)=y at hg kx hv;have km:=na G2.filter V (by rw[d1.filter];have:=B.f8;omega) (by omega)
    rw[d1.filter]at km;have hd2:G2.pulls=(List.range' (t+(k+1)) (W-(k+1))).map (mi c):=by rw[d2,show W-k-1=W-(k+1)by omega,show t+k+1=t+(k+1)by omega]
    have hdf:=d1.filter;refine Vc2.of ?_;cases hfm:dH F V with
    |false=>
     rw[hfm]at kx km;simp only[Bool.false_eq_true,if_false]at kx;refine gf_ hg ?_;refine cx_ kx wx_ (gx_ ?_);rw[decide_eq_false (show ¬(1:Int)<(0:Int)by decide)]
     refine g2_ ?_;refine cx_ km (wg_ hv hdf) (g2_ ?_);refine⟨(t+k+1,G2),aa [] ?_,rfl,d1,hd2,xb,xe.more (by omega)⟩
     repeat first|simp-implicitDefEqProofs only[go_sem,ab,Int.natCast_add,Int.natCast_one,List.append_eq,List.cons_append,List.nil_append]|with_reducible refine gl_ ?_
     first|done|rfl|exact⟨rfl,rfl⟩
    |true=>
     rw[hfm]at kx km;simp only[if_true]at kx;refine gf_ hg ?_;refine cx_ kx wx_ (gx_ ?_);rw[decide_eq_false (show ¬(1:Int)<(1:Int)by decide)]
     refine g2_ ?_;refine cx_ km (wg_ hv hdf) (g2_ ?_);refine⟨(t+k+1,G2),aa [] ?_,rfl,d1,hd2,xb,xe.more (by omega)⟩
     repeat first|simp-implicitDefEqProofs only[go_sem,ab,Int.natCast_add,Int.natCast_one,List.append_eq,List.cons_append,List.nil_append]|with_reducible refine gl_ ?_
     first|done|rfl|exact⟨rfl,rfl⟩
   ·obtain⟨b1,b2,b3,b4,b5⟩:=hF;refine g2_ ?_;refine⟨g,aa [] ?_,b1,b2,?_,b4,b5⟩
    ·repeat first|simp-implicitDefEqProofs only[go_sem,ab]|with_reducible refine gl_ ?_
     first|done|rfl|exact⟨rfl,rfl⟩
    ·rw[b3,Nat.sub_self];rfl
  obtain⟨tk,G⟩:=g;obtain⟨b1,b2,b3,b4,b5⟩:=hg;simp only at b1 b2 b3 b4 b5 ⊢;subst b1;refine Vc2.of ?_;refine gf_ b3 ?_;refine Vc2.of ?_;refine g2_ ?_;refine⟨(i+1,t+W,P3,G),aa [] ?_,⟨by show i+1<=t+W;omega,hW1.2.1,k3,by show P3.count.toNat=i+1;rw[c3,c1];omega,pb,pe.more (by show _<=(300:Int)+100*((i+1:Nat):Int);omega),b2,b3,b4,b5.more (by show _<=(300:Int)+100*((i+1:Nat):Int);omega)⟩,by show N+2-(i+1)<N+2-i;omega⟩
  repeat first|simp-implicitDefEqProofs only[go_sem,ab,b3,List.map_nil,Int.natCast_add,Int.natCast_one]|with_reducible refine gl_ ?_
  first|done|rfl|exact⟨rfl,rfl⟩
