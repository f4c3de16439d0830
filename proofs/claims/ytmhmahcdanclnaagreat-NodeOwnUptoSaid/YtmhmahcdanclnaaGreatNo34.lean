import Derived.Test.YtmhmahcdanclnaaGreatNo32
import Derived.Test.YtmhmahcdanclnaaGreatNo33
set_option linter.unusedSectionVars false
set_option linter.unusedSimpArgs false
set_option linter.unusedVariables false
set_option maxRecDepth 10000
set_option maxHeartbeats 40000000
namespace Go.Proofs.YtmhmahcdanclnaaGreat.V
open Go.Eng
def ct(c:ar)(p:af):af:=
 let w:=gG p.wait
 { p with view:=if w.2.2=true then bG (cd p.view) w.2.1 else cd p.view,near:=cd p.near,ring:=jQ p.ring,table:=jz p.table p.node c.suspect,wait:=w.1 }
def ez(c:ar)(p:af)(dr:List UInt32):af×List aK:=
 let a:=jx p.view (pSelf p) c.swap dr
 if p.wait.some=false/\a.2.2=true then ({ p with wait:=wStart a.1 2 a.2.1 },[{ pMsg p 3 a.1 with list:=a.2.1 }])else (p,[])
def gB(c:ar)(dr:List UInt32):UInt32:=if 0<=c.swap/\c.swap<(dr.length:Int)then dr.getD c.swap.toNat 0 else 0
def mi(c:ar)(p:af)(dr:List UInt32)(links:List UInt8):List aK:=
 if links=[]then []else [{ pMsg p 5 (links.getD ((gB c dr).toNat % links.length) 0)with list:=dY p.near (pSelf p) }]
def iY(p:af):List aK:=if p.ring.hs=true then [{ pMsg p 6 p.ring.succ.node with list:=[pSelf p] }]else []
def yE(p:af)(d:GDesc):aK:={ pMsg p 8 d.node with table:=p.table }
def pTick(c:ar)(p:af)(dr:List UInt32)(L:List UInt8):af×List aK:=
 let q:=ez c (aB c (ct c p) []) dr
 (q.1,((q.2++mi c q.1 dr L)++iY q.1)++(aY q.1.ring).map (yE q.1))
theorem xz(d:GDesc):d.older.filter=d.filter:=by
 unfold GDesc.older;split<;>rfl
theorem lR{d:GDesc}(h:okF d):okF d.older:=by
 unfold okF;rw[xz];exact h
theorem lO{l:List GDesc}{d:GDesc}(h:d∈cd l): ∃e∈l,d=e.older:=by
 obtain⟨e,h1,h2⟩:=List.mem_map.1 h;exact⟨e,h1,h2.symm⟩
theorem np{l:List GDesc}(h:cg l):cg (cd l):=⟨by rw[cd,List.length_map];exact h.1,fun d hd=>by
 obtain⟨e,h1,rfl⟩:=lO hd
 rw[xz];exact h.2 e h1⟩
theorem aal{c:ar}{p:af}(hp:okG p)(hw:ok8 p.wait.sent):okG (ct c p):=by
 have hv: ∀d∈cd p.view,okF d:=fun d hd=>by
  obtain⟨e,h1,rfl⟩:=lO hd;exact lR (hp.view e h1)
 have hn: ∀d∈cd p.near,okF d:=fun d hd=>by
  obtain⟨e,h1,rfl⟩:=lO hd;exact lR (hp.near e h1)
 have hv2: ∀d∈(ct c p).view,okF d:=fun d hd=>by
  unfold ct at hd;simp only at hd;split at hd
  ·exact hv d (List.mem_filter.1 hd).1
  ·exact hv d hd
 have hv3:(ct c p).view.length<=4000000:=by
  have h1:=(np hp.ok.view).1;unfold ct;simp only;split
  ·exact Nat.le_trans (List.length_filter_le _ _) h1
  ·exact h1
 have hs:okF (jQ p.ring).succ:=by
  unfold jQ;simp only;split
  ·exact lR hp.succ
  ·exact uP
 have hpr:okF (jQ p.ring).pred:=by
  unfold jQ;simp only;split
  ·exact lR hp.pred
  ·exact uP
 have hwt:cg (gG p.wait).1.sent:=by
  unfold gG;split
  ·split
   ·exact⟨Nat.zero_le _,fun d hd=>by cases hd⟩
   ·exact hw.toDs
  ·exact⟨Nat.zero_le _,fun d hd=>by cases hd⟩
 have ht:(jz p.table p.node c.suspect).length=p.table.length:=by simp[jz]
 exact⟨⟨hp.ok.filter,⟨hv3,fun d hd=>(hv2 d hd).1⟩,np hp.ok.near,hs.1,hpr.1,hwt,by show(jz p.table p.node c.suspect).length<=4000000;rw[ht];exact hp.ok.table,hp.ok.heard,hp.ok.rows,hp.ok.reports,hp.ok.evs,hp.ok.pulls⟩,
  hp.filter,hv2,hn,hs,hpr,by show(jz p.table p.node c.suspect).length<=12;rw[ht];exact hp.table⟩
theorem ak8{p:af}(h:okP p){w:GW}(hw:cg w.sent):okP { p with wait:=w }:=
 ⟨h.filter,h.view,h.near,h.succ,h.pred,hw,h.table,h.heard,h.rows,h.reports,h.evs,h.pulls⟩
theorem aiE{l:List GDesc}{d:GDesc}(hl:l.length<=4000000/\ ∀d∈l,d.filter.length<=4000000)(hd:d.filter.length<=4000000)(hl9:l.length<=3900000:=by omega):cg (dY l d):=by
 refine⟨?_,fun x hx=>?_⟩
 ·simp only[dY,List.length_append,List.length_cons,List.length_take,List.length_drop];omega
 ·simp only[dY,List.mem_append,List.mem_cons]at hx;rcases hx with h|h|h
  ·exact hl.2 x (List.mem_of_mem_take h)
  ·rw[h];exact hd
  ·exact hl.2 x (List.mem_of_mem_drop h)
def zMc:List DV:=[.v (.int .u8 0),.v (.int .u8 0),.v (.int .u16 0),.v (.int .u8 0),.v (.slice none 0 0),.v (.slice none 0 0),.v (.int .u8 0),.v (.int .u16 0),.v (.int .u32 0),.v (.slice none 0 0),.v (.slice none 0 0),.v (.int .u8 0),.v (.int .u8 0),.v (.int .u16 0),.v (.int .u32 0),.v (.slice none 0 0),.v (.slice none 0 0)]
attribute [local go_sem] zDesc aS ah fzD plR ba aL aR aC aE ak az aU z8 z16 z32 z64 encMg a_ b_ gj List.map_cons List.map_nil
end Go.Proofs.YtmhmahcdanclnaaGreat.V
namespace Go.Eng
def asY(e sz:Nat)(l:List (List DV))(a':DV)(n:Nat)(r:Res):Prop:= ∃k a,r.d= .tup [a,.rf k 0 n]/\lk r.H k=some (.arr e sz l false)/\wk1 a' (embD r.H a)/\fT a=true/\k∉idsD r.H a
theorem Con2.keepT{P:Program}{f:FuncId}{args:List DV}{e sz n:Nat}{l:List (List DV)}{a':DV}(h:Con2 P f args (asY e sz l a' n)):Con2 P f args (· =⟨.tup [a',.rf 0 0 n],[(0,.arr e sz l false)],1⟩):=by
 intro u vs hv;obtain⟨hb,hc⟩:=h u vs hv;refine⟨hb,fun w hu=>(hc w hu).mono ?_⟩
 rintro e' w' ⟨r,u',h1,h2,h3,⟨d2,H2,nx2⟩,⟨k,a,rfl,hk,he,hp,hni⟩,β,us,s,hr,hs⟩
 obtain⟨us',g1,g2,g3⟩:=hr.ros (idsD H2 a);have h0:=hr.slot 0;rw[hs]at h0;obtain⟨w0,e0,V,rfl,va,V1,rfl,hva,vr,V2,rfl,hvr,hV2⟩: ∃w,SV.v r= .v w/\HV us (.tup [a,.rf k 0 n]) β w:=h0;cases e0;obtain rfl:V2=[]:=hV2;have hrow:=(g2.row k (.arr e sz l false) ((oP _ hni).trans hk)).2;cases hd1:embD H2 a with
 |none=>rw[hd1]at he;exact he.elim
 |some d1=>
 rw[hd1]at he;have h4:=fR (H:=H2) g1 a d1 va g3 (.inl hp) hva hd1;have h5:HV us' a' noB va:=gT (us:=us') (β:=noB) a' d1 va he h4;have hfin:HVs us' [a',.rf 0 0 n] (fun id=>if id=0 then β k else .no) [va,vr]:=⟨va,[vr],rfl,HV.mono (Sub.refl _) a' noB _ (aes _) va h5,vr,[],rfl,hvr,rfl⟩
 refine⟨_,u',h1,h2,h3,_,rfl,fun id=>if id=0 then β k else .no,us',⟨[(0,.v (.tuple #[va,vr]))],[]⟩,⟨⟨hr.base.1.trans g1,hr.base.2.trans g1⟩,g2.sub,fun t=>?_,fun k=>rfl,fun id r hr=>?_,fun id hi=>?_,fun id hi=>absurd hi (Nat.not_lt_zero _),Nat.zero_le _,fun i j ri rj b hij hi hj=>?_⟩,rfl⟩
 ·show HS us' _ ((lk [(0,DSV.d (.tup [a',.rf 0 0 n]))] t).getD DSV.unk) ((lk [(0,SV.v (.tuple #[va,vr]))] t).getD SV.unk)
  by_cases e:0=t
  ·subst e;exact⟨_,rfl,_,rfl,hfin⟩
  ·rw[aj e];trivial
 ·have hr:lk [(0,Row.arr e sz l false)] id=some r:=hr
  by_cases e:0=id
  ·subst e;rw[ax]at hr;cases hr;exact⟨Nat.zero_lt_one,hrow⟩
  ·rw[aj e]at hr;cases hr
 ·have hi:1<=id:=hi;exact if_neg (by omega)
 ·have hi:lk [(0,Row.arr e sz l false)] i=some ri:=hi;have hj:lk [(0,Row.arr e sz l false)] j=some rj:=hj
  by_cases e1:0=i
  ·subst e1;rw[aj hij]at hj;cases hj
  ·rw[aj e1]at hi;cases hi
end Go.Eng
namespace Go.Proofs.YtmhmahcdanclnaaGreat.V
open Go.Eng
attribute [local go_sem] zDesc aS ah fzD plR ba aL aR aC aE ak az aU z8 z16 z32 z64 encMg a_ b_ gj List.map_cons List.map_nil
theorem amP(c:ar)(p:af)(dr:List UInt32)(L:List UInt8)(hc:c.schema.length<=4)(hcs: ∀s∈c.schema,okS s)(hp:okH p)(hu:p.up=true)(hsw:c.swap<=9223372036854775807)(hdr:dr.length<=4000000)(hws:ok8 p.wait.sent)
  (hL:Con2 Tryz.prog 91 [.agg (ak (ez c (aB c (ct c p) []) dr).1)] (· =plR (.fz 1 (L.map aA)))) (hLn:L.length<=4000000)
  (hsent:ok8 (jx (aB c (ct c p) []).view (pSelf (aB c (ct c p) [])) c.swap dr).2.1) (v8:ok8 (aB c (ct c p) []).view) (f8:p.filter.length<=8):
  Con2 Tryz.prog 96 [.agg (aE c),.agg (ak p),.fz 1 (dr.map aH)] (· =⟨.tup [.agg (ak (pTick c p dr L).1),.rf 0 0 (pTick c p dr L).2.length],[(0,.arr 60 17 ((pTick c p dr L).2.map encMg) false)],1⟩):=by
 refine Con2.keepT ?_;have k0:=bp p hp.ok;have k1:Con2 Tryz.prog 170 [fzD p.view] (· =plR (fzD (cd p.view))):=iV (o3 p.view hp.ok.view)
 have k2:Con2 Tryz.prog 170 [fzD p.near] (· =plR (fzD (cd p.near))):=iV (o3 p.near hp.ok.near)
 have k3:=aed p.ring hp.ok.succ hp.ok.pred;have k4:=aih p.table p.node c.suspect (by have:=hp.g.table;omega)
 have k5:=aq9 p.wait hws;have kd:Con2 Tryz.prog 174 [fzD (cd p.view),.v (.int .u8 (gG p.wait).2.1.toNat)] (· =plR (fzD (bG (cd p.view) (gG p.wait).2.1))):=iV (sj (cd p.view) (yA hp.vw).2 _ (np hp.ok.view))
 have hg2:=aal (c:=c) hp.g hws;have k6:=cD c (ct c p) [] hc hcs hg2 ⟨by simp,by simp⟩ (by simp)
 have hg3:=je (c:=c) (l:=[]) hg2 ⟨by simp,by simp⟩ (by simp)
 have hn9:(aB c (ct c p) []).near.length<=3900000:=Nat.le_trans uN (Nat.le_trans ((qM (c:=c) hg2 (l:=[]) ⟨by simp,by simp⟩ (by simp)).1.u _).2 (by omega))
 have hf8:(pSelf (aB c (ct c p) [])).filter.length<=8:=f8;have k21:=bh [] ⟨by simp,by simp⟩
 have k21b:=ec [] (by simp)
 have hT1:(pTick c p dr L).1=(ez c (aB c (ct c p) []) dr).1:=rfl;rw[hT1];clear hT1;generalize hR1:(pTick c p dr L).2=R;unfold pTick at hR1;generalize hq:aB c (ct c p) []=q at *;simp only at hR1;generalize hpa:ct c p=pa at k6 hq hg2;refine ev_ Tryz.func96 [.cell 6 49,.tmp 7] ?_;refine Vc2.sq (g2_ ?_);refine Vc2.sq (g2_ ?_);refine cw_ k0 (g2_ ?_);refine Vc2.sq (g2_ ?_);rw[hu];refine g2_ ?_;refine Vc2.sq (g2_ ?_);refine cw_ k1 (g2_ ?_);refine Vc2.sq (g2_ ?_);refine cw_ k2 (g2_ ?_);refine Vc2.sq (g2_ ?_);refine cw_ k3 (g2_ ?_);refine Vc2.sq (g2_ ?_);refine cw_ k4 (g2_ ?_);refine Vc2.sq (g2_ ?_);refine cw_ k5 (g2_ ?_);refine Vc2.sq (g2_ ?_);refine Vc2.seqJ (γ:=Unit) (fun _=>⟨[(2,.d (.fz 1 (dr.map aH))),(3,.loc 3 0),(4,.loc 4 0),(6,.loc 6 0),(7,.d (.v (.slice none 0 0)))],[(3,⟨aE c,26⟩),(4,⟨ak pa,49⟩),(6,⟨zPc,49⟩)],[],0,0⟩) (fun _=>True) ?_ (fun _ _=>?_)
 ·refine g2_ ?_;cases hov:(gG p.wait).2.2 with
  | false=>
   have hag:pa={ p with view:=cd p.view,near:=cd p.near,ring:=jQ p.ring,table:=jz p.table p.node c.suspect,wait:=(gG p.wait).1 }:=by
    rw[<-hpa];unfold ct;simp only[hov,Bool.false_eq_true,if_false]
   refine g2_ ?_;refine⟨(),aa [] ?_⟩
   repeat first|simp-implicitDefEqProofs only[go_sem,ab,hag,hu,zPc]|with_reducible refine gl_ ?_
   first|done|rfl|exact⟨rfl,rfl⟩
  | true=>
   have hag:pa={ p with view:=bG (cd p.view) (gG p.wait).2.1,near:=cd p.near,ring:=jQ p.ring,table:=jz p.table p.node c.suspect,wait:=(gG p.wait).1 }:=by
    rw[<-hpa];unfold ct;simp only[hov,if_true]
   refine g2_ ?_;refine cw_ kd (g2_ ?_);refine⟨(),aa [] ?_⟩
   repeat first|simp-implicitDefEqProofs only[go_sem,ab,hag,hu,zPc]|with_reducible refine gl_ ?_
   first|done|rfl|exact⟨rfl,rfl⟩
 obtain⟨q2,hq2⟩: ∃q2,q2=(ez c q dr).1:=⟨_,rfl⟩;obtain⟨S1,hS1⟩: ∃S1,S1=(ez c q dr).2:=⟨_,rfl⟩;rw[<-hq2]at hL hR1 ⊢;rw[<-hS1]at hR1
 have hg4:okP q2:=by
  rw[hq2];unfold ez;simp only;split
  ·exact ak8 hg3.ok hsent.toDs
  ·exact hg3.ok
 have hn9:q2.near.length<=3900000:=by
  rw[hq2];unfold ez;simp only;split
  ·exact hn9
  ·exact hn9
 have htb:q2.table.length<=12:=by
  rw[hq2];unfold ez;simp only;split
  ·exact hg3.table
  ·exact hg3.table
 have hS1l:S1.length<=1:=by
  rw[hS1];unfold ez;simp only;split<;>simp
 refine Vc2.sq (g2_ ?_);refine .inl ⟨[oF 0,oF 1,oF 2,oF 4,oT 3,oF 5,oF 6,oF 7],by kernel_rfl,g2_ ?_⟩
 refine cw_ k6 (g2_ ?_)
 refine Vc2.seqJ (γ:=Bool) (fun g=>match g with
  |true=>⟨[(11,.d (.pt 0 0)),(6,.loc 6 0),(7,.d (.v (.slice none 0 0)))],[(6,⟨zPc,49⟩)],[(1,.arr 60 17 (S1.map encMg) false),(0,.var 203 (aE c++(ak q2++(zMc++[.fz 1 (dr.map aH),.v (.bool false),.rf 1 0 S1.length]))))],2,0⟩
  |false=>⟨[(11,.loc 64 0),(6,.loc 6 0),(7,.d (.v (.slice none 0 0)))],[(64,⟨(aE c++(ak q2++(zMc++[.fz 1 (dr.map aH),.v (.bool false),.v (.slice none 0 0)]))),203⟩),(6,⟨zPc,49⟩)],[],0,0⟩) (fun g=>g=true\/S1=[]) ?_ (fun g hg=>?_)
 ·refine g2_ ?_;cases hw3:q.wait.some with
  |true=>
   have e:ez c q dr=(q,[]):=by unfold ez;rw[hw3];simp
   rw[e]at hq2 hS1;simp only at hq2 hS1;refine g2_ ?_;refine⟨false,aa [] ?_,.inr hS1⟩
   repeat first|simp-implicitDefEqProofs only[go_sem,ab,hq2,hw3,zMc,zPc]|with_reducible refine gl_ ?_
   first|done|rfl|exact⟨rfl,rfl⟩
  | false=>
   have k7:=ji q hg3.ok;have k8:=as1 q.view (pSelf q) c.swap dr v8 hf8 hdr hsw;generalize hca:jx q.view (pSelf q) c.swap dr=a at k8 hsent;obtain⟨to,sent,ok⟩:=a;simp only at k8 hsent
   have hkq:ez c q dr=if ok=true then ({ q with wait:=wStart to 2 sent },[{ pMsg q 3 to with list:=sent }])else (q,[]):=by
    unfold ez;rw[hca,hw3];simp
   rw[hkq]at hq2 hS1;refine g2_ ?_;refine im_ Tryz.func175 [] (g2_ ?_);refine g2_ ?_;refine .inl ⟨[oF 0,oF 5,oF 10,oF 15,oF 1,oF 6,oF 11,oF 16,oF 2,oF 7,oF 12,oF 17,oF 3,oF 8,oF 13,oF 18,oF 4,oF 14,oT 9,oF 19,oF 20,oF 21,oF 22,oF 23,oF 24,oF 25,oF 26],by kernel_rfl,g2_ ?_⟩
   refine cx_ k7 (wf_ hw3) (g2_ ?_);refine cx_ k8 (wf_ hw3) (g2_ ?_);cases ok with
   |false=>
    rw[if_neg (by decide)]at hq2 hS1
    simp only at hq2 hS1;refine g2_ ?_;rw[hq2,hS1];refine⟨true,aa [(1,.nil 17),(0,.to 0)] ?_,.inl rfl⟩
    repeat first|simp-implicitDefEqProofs only[go_sem,ab,hw3,List.length_nil,List.map_nil,zMc,zPc,List.append_eq,List.cons_append,List.nil_append]|with_reducible refine gl_ ?_
    first|done|rfl|exact⟨rfl,rfl⟩
   |true=>
    rw[if_pos rfl]at hq2 hS1;simp only at hq2 hS1;have k9:=ao6 to 2 sent hsent;have k10:Con2 Tryz.prog 80 [.agg (ak { q with wait:=wStart to 2 sent }),.v (.int .u8 (UInt8.toNat 3)),.v (.int .u8 to.toNat)] (· =plR (.agg (encMg (pMsg q 3 to)))):=gp { q with wait:=wStart to 2 sent } 3 to
    have k11:=bh sent hsent.toDs;have hM1t:(pMsg q 3 to).table=[]:=rfl;generalize pMsg q 3 to=M1 at k10 hS1 hM1t;refine g2_ ?_;refine cw_ k9 (g2_ ?_);refine im_ Tryz.func177 [] (g2_ ?_);refine g2_ ?_;refine cw_ k10 (g2_ ?_);refine cw_ k11 (g2_ ?_);refine cw_ k21b (g2_ ?_);refine .inl ⟨[oF 0,oF 1,oF 5,oF 2,oF 3,oF 4,oT 6,oF 7,oF 8,oF 9,oF 10],by kernel_rfl,gx_ ?_⟩
    rw[hq2,hS1];refine⟨true,aa [(1,.to 2),(0,.to 0)] ?_,.inl rfl⟩
    repeat first|simp-implicitDefEqProofs only[go_sem,ab,hw3,hM1t,List.length_cons,List.length_nil,zMc,zPc,List.append_eq,List.cons_append,List.nil_append]|with_reducible refine gl_ ?_
    first|done|rfl|exact⟨rfl,rfl⟩
 clear hq2 hS1;have k13:=ji q2 hg4;have k14:=oY q2.near (pSelf q2) hg4.near hg4.filter;have k16:=bh (dY q2.near (pSelf q2)) (aiE hg4.near hg4.filter hn9);have k17:=bh [pSelf q2] ⟨by simp,fun d hd=>by rw[List.mem_singleton.1 hd];exact hg4.filter⟩
 have k19:=i7 q2.ring hg4.succ hg4.pred;have hrl:=f5 q2.ring;have k15: ∀to2:UInt8,Con2 Tryz.prog 80 [.agg (ak q2),.v (.int .u8 (UInt8.toNat 5)),.v (.int .u8 to2.toNat)] (· =plR (.agg (encMg (pMsg q2 5 to2)))):=fun to2=>gp q2 5 to2
 have k18:Con2 Tryz.prog 80 [.agg (ak q2),.v (.int .u8 (UInt8.toNat 6)),.v (.int .u8 q2.ring.succ.node.toNat)] (· =plR (.agg (encMg (pMsg q2 6 q2.ring.succ.node)))):=gp q2 6 q2.ring.succ.node
 have k20: ∀d:GDesc,Con2 Tryz.prog 80 [.agg (ak q2),.v (.int .u8 (UInt8.toNat 8)),.v (.int .u8 d.node.toNat)] (· =plR (.agg (encMg (pMsg q2 8 d.node)))):=fun d=>gp q2 8 d.node
 have k22:=ec (q2.table.map aR) (by rw[List.length_map];omega)
 obtain⟨S2,hS2⟩: ∃S2,S2=S1++mi c q2 dr L:=⟨_,rfl⟩;have hR0:(S2++iY q2)++(aY q2.ring).map (yE q2)=R:=by rw[hS2];exact hR1
 have hS2l:S2.length<=11:=by
  rw[hS2,List.length_append];have:(mi c q2 dr L).length<=1:=by unfold mi;split<;>simp
  omega
 generalize aY q2.ring=B at k19 hrl hR0;refine Vc2.seqJ (γ:=Unit) (fun _=>⟨[(11,.d (.pt 0 0)),(6,.loc 6 0),(7,.d (.v (.slice none 0 0)))],[(6,⟨zPc,49⟩)],[(1,.arr 60 17 (S2.map encMg) false),(0,.var 203 (aE c++(ak q2++(zMc++[.fz 1 (dr.map aH),.v (.bool false),.rf 1 0 S2.length]))))],2,0⟩) (fun _=>True) ?_ (fun _ _=>?_)
 ·cases g;simp only at hg ⊢;have hg:=hg.resolve_left (by decide)
  repeat first|simp-implicitDefEqProofs only[go_sem,ab,zMc,zPc,List.append_eq,List.cons_append,List.nil_append]|with_reducible first|refine gl_ ?_|refine ga_ ?_|refine gn_ ?_
  refine il_ Tryz.func176 [] ?_;refine Vc2.sq (g2_ ?_);refine cw_ hL (gx_ ?_);refine Vc2.sq (gx_ ?_)
  by_cases hLe:L=[]
  ·have hS2e:S2=S1:=by rw[hS2,mi,if_pos hLe,List.append_nil]
   rw[show((L.length:Int)==0)=true by rw[hLe];rfl]
   refine g2_ ?_;rw[hS2e]
   first
    |(refine⟨(),aa [(1,.nil 17),(0,.to 0)] ?_⟩;(focus (repeat first|simp-implicitDefEqProofs only[go_sem,ab,hg,List.map_nil,List.length_nil,zMc,zPc,List.append_eq,List.cons_append,List.nil_append]|with_reducible refine gl_ ?_;done)))
  have hLp:0<L.length:=List.length_pos_iff.2 hLe;rw[show((L.length:Int)==0)=false from beq_eq_false_iff_ne.2 (by omega)]
  refine g2_ ?_;refine Vc2.sq (g2_ ?_);refine Vc2.seqJ (γ:=Unit) (fun _=>⟨[(0,.d (.pt 0 0)),(2,.d (.fz 1 (L.map aA))),(3,.d (.v (.int .u32 (gB c dr).toNat)))],[],[(0,.var 203 (aE c++(ak q2++(zMc++[.fz 1 (dr.map aH),.v (.bool false),.v (.slice none 0 0)]))))],1,1⟩) (fun _=>True) ?_ (fun _ _=>Vc2.of ?_)
  rotate_left 2
  simp only
  repeat first|simp-implicitDefEqProofs only[go_sem,ab,zMc,zPc,List.append_eq,List.cons_append,List.nil_append]|with_reducible first|refine gl_ ?_|refine ga_ ?_|refine gn_ ?_
  refine il_ Tryz.func176 [] ?_;refine Vc2.sq (g2_ ?_);refine cw_ hL (gx_ ?_);refine Vc2.sq (gx_ ?_)
  by_cases hLe:L=[]
  ·have hS2e:S2=S1:=by rw[hS2,mi,if_pos hLe,List.append_nil]
   rw[show((L.length:Int)==0)=true by rw[hLe];rfl]
   refine g2_ ?_;rw[hS2e]
   first
    |(refine⟨(),aa [(1,.to 1),(0,.to 0)] ?_⟩;(focus (repeat first|simp-implicitDefEqProofs only[go_sem,ab,zMc,zPc,List.append_eq,List.cons_append,List.nil_append]|with_reducible refine gl_ ?_;done)))
  have hLp:0<L.length:=List.length_pos_iff.2 hLe;rw[show((L.length:Int)==0)=false from beq_eq_false_iff_ne.2 (by omega)]
  refine g2_ ?_;refine Vc2.sq (g2_ ?_);refine Vc2.seqJ (γ:=Unit) (fun _=>⟨[(0,.d (.pt 0 0)),(2,.d (.fz 1 (L.map aA))),(3,.d (.v (.int .u32 (gB c dr).toNat)))],[],[(1,.arr 60 17 (S1.map encMg) false),(0,.var 203 (aE c++(ak q2++(zMc++[.fz 1 (dr.map aH),.v (.bool false),.rf 1 0 S1.length]))))],2,2⟩) (fun _=>True) ?_ (fun _ _=>Vc2.of ?_)
  any_goals
   refine g2_ ?_;refine .inl ⟨[oF 0,oF 1,oF 2,oF 3,oF 4,oF 5,oF 6,oF 7,oF 12,oF 8,oF 13,oF 9,oF 14,oF 10,oF 15,oF 11,oF 16,oF 17,oF 18],by kernel_rfl,g2_ ?_⟩
   by_cases h0:0<=c.swap
   ·rw[show decide (0<=c.swap)=true from decide_eq_true h0]
    refine gx_ ?_
    by_cases h1:c.swap<(dr.length:Int)
    ·obtain⟨sw,hsw2⟩: ∃sw:Nat,c.swap=sw:=⟨c.swap.toNat,by omega⟩
     have hswl:sw<dr.length:=by omega
     have hdg:(dr.map aH)[sw]? =some [.v (.int .u32 dr[sw].toNat)]:=by rw[List.getElem?_map,List.getElem?_eq_getElem hswl];rfl
     have hkd:gB c dr=dr[sw]:=by
      rw[gB,if_pos ⟨h0,h1⟩,hsw2,Int.toNat_natCast,List.getD_eq_getElem?_getD,List.getElem?_eq_getElem hswl];rfl
     rw[show decide (c.swap<(dr.length:Int))=true from decide_eq_true h1]
     refine g2_ ?_;refine .inl ⟨[oF 0,oF 4,oF 1,oF 5,oF 2,oF 6,oF 3,oF 7,oF 8,oF 9,oF 10,oF 11],by kernel_rfl,?_⟩
     refine gg_ hsw2 hdg ?_;refine⟨(),aa [] ?_⟩
     repeat first|simp-implicitDefEqProofs only[go_sem,ab,hkd,hsw2,zMc,zPc,List.append_eq,List.cons_append,List.nil_append]|with_reducible refine gl_ ?_
     first|done|rfl|exact⟨rfl,rfl⟩
    ·have hkd:gB c dr=0:=by rw[gB,if_neg (fun h=>h1 h.2)]
     rw[show decide (c.swap<(dr.length:Int))=false from decide_eq_false h1]
     refine g2_ ?_;refine⟨(),aa [] ?_⟩
     repeat first|simp-implicitDefEqProofs only[go_sem,ab,hkd,zMc,zPc,List.append_eq,List.cons_append,List.nil_append]|with_reducible refine gl_ ?_
     first|done|rfl|exact⟨rfl,rfl⟩
   ·have hkd:gB c dr=0:=by rw[gB,if_neg (fun h=>h0 h.1)]
    rw[show decide (0<=c.swap)=false from decide_eq_false h0]
    refine gx_ ?_;refine⟨(),aa [] ?_⟩
    repeat first|simp-implicitDefEqProofs only[go_sem,ab,hkd,zMc,zPc,List.append_eq,List.cons_append,List.nil_append]|with_reducible refine gl_ ?_
    first|done|rfl|exact⟨rfl,rfl⟩
   done
  all_goals
   generalize hkd:gB c dr=dw;have hmod:dw.toNat % L.length<L.length:=Nat.mod_lt _ hLp
   have hlg:(L.map aA)[dw.toNat % L.length]? =some [.v (.int .u8 (L.getD (dw.toNat % L.length) 0).toNat)]:=by
    rw[List.getElem?_map,List.getD_eq_getElem?_getD,List.getElem?_eq_getElem hmod];rfl
   have hkt:mi c q2 dr L=[{ pMsg q2 5 (L.getD (dw.toNat % L.length) 0)with list:=dY q2.near (pSelf q2) }]:=by
    rw[mi,if_neg hLe,hkd]
   have hd32:=dw.toNat_lt
   repeat first|simp-implicitDefEqProofs only[go_sem,ab,zMc,zPc,List.append_eq,List.cons_append,List.nil_append]|with_reducible first|refine gl_ ?_|refine ga_ ?_|refine gn_ ?_
   rw[nA (a:=dw.toNat) (b:=L.length) rfl rfl hLp];refine gf_ hlg ?_;generalize L.getD (dw.toNat % L.length) 0=to2 at hlg hkt ⊢;have hS2m:S2.map encMg=S1.map encMg++[encMg { pMsg q2 5 to2 with list:=dY q2.near (pSelf q2) }]:=by rw[hS2,hkt,List.map_append];rfl
   have hS2e:S2.length=S1.length+1:=by rw[hS2,hkt,List.length_append];rfl
   have kk:=k15 to2;have hM2t:(pMsg q2 5 to2).table=[]:=rfl;generalize pMsg q2 5 to2=M2 at kk hS2m hM2t;refine .inl ⟨[oF 0,oF 1,oF 2,oF 7,oF 3,oF 8,oF 4,oF 9,oF 5,oF 10,oF 6,oT 11,oF 12,oF 13],by kernel_rfl,g2_ ?_⟩
   refine cw_ k13 (g2_ ?_);refine cx_ k14 (by simp-implicitDefEqProofs only[go_sem,ab,pSelf]) (g2_ ?_)
   refine im_ Tryz.func177 [] (g2_ ?_);refine g2_ ?_;refine cw_ kk (g2_ ?_);refine cw_ k16 (g2_ ?_);refine cw_ k21b (g2_ ?_);refine .inl ⟨[oF 0,oF 1,oF 5,oF 2,oF 3,oF 4,oT 6,oF 7,oF 8,oF 9,oF 10],by kernel_rfl,gx_ ?_⟩
  ·refine⟨(),aa [(1,.to 3),(0,.to 0)] ?_⟩
   repeat first|simp-implicitDefEqProofs only[go_sem,ab,hS2m,hS2e,hM2t,pSelf,List.length_append,zMc,zPc,List.append_eq,List.cons_append,List.nil_append]|with_reducible refine gl_ ?_
   first|done|rfl|exact⟨rfl,rfl⟩
  ·refine⟨(),aa [(1,.to 2),(0,.to 0)] ?_⟩
   repeat first|simp-implicitDefEqProofs only[go_sem,ab,hS2m,hS2e,hM2t,hg,List.map_nil,List.length_nil,pSelf,List.length_append,zMc,zPc,List.append_eq,List.cons_append,List.nil_append]|with_reducible refine gl_ ?_
   first|done|rfl|exact⟨rfl,rfl⟩
 obtain⟨S3,hS3⟩: ∃S3,S3=S2++iY q2:=⟨_,rfl⟩;have hR:S3++B.map (yE q2)=R:=by rw[hS3];exact hR0
 have hS3l:S3.length<=12:=by
  rw[hS3,List.length_append];have:(iY q2).length<=1:=by unfold iY;split<;>simp
  omega
 refine Vc2.seqJ (γ:=Unit) (fun _=>⟨[(11,.d (.pt 0 0)),(6,.loc 6 0),(7,.d (.v (.slice none 0 0)))],[(6,⟨zPc,49⟩)],[(1,.arr 60 17 (S3.map encMg) false),(0,.var 203 (aE c++(ak q2++(zMc++[.fz 1 (dr.map aH),.v (.bool false),.rf 1 0 S3.length]))))],2,0⟩) (fun _=>True) ?_ (fun _ _=>?_)
 ·repeat first|simp-implicitDefEqProofs only[go_sem,ab,zMc,zPc,List.append_eq,List.cons_append,List.nil_append]|with_reducible first|refine gl_ ?_|refine ga_ ?_|refine gn_ ?_
  cases hs2:q2.ring.hs with
  |false=>
   have e:S3=S2:=by rw[hS3,iY,if_neg (by rw[hs2];decide),List.append_nil]
   refine g2_ ?_;rw[e];refine⟨(),aa [(1,.to 1),(0,.to 0)] ?_⟩
   repeat first|simp-implicitDefEqProofs only[go_sem,ab,hs2,zMc,zPc,List.append_eq,List.cons_append,List.nil_append]|with_reducible refine gl_ ?_
   first|done|rfl|exact⟨rfl,rfl⟩
  |true=>
   have hS3m:S3.map encMg=S2.map encMg++[encMg { pMsg q2 6 q2.ring.succ.node with list:=[pSelf q2] }]:=by rw[hS3,iY,if_pos hs2,List.map_append];rfl
   have hS3e:S3.length=S2.length+1:=by rw[hS3,iY,if_pos hs2,List.length_append];rfl
   have hM3t:(pMsg q2 6 q2.ring.succ.node).table=[]:=rfl;generalize pMsg q2 6 q2.ring.succ.node=M3 at k18 hS3m hM3t;refine g2_ ?_;refine .inl ⟨[oF 0,oF 1,oF 8,oF 2,oF 9,oF 3,oF 10,oF 4,oF 11,oF 5,oF 6,oF 7,oT 12,oT 13,oF 14],by kernel_rfl,g2_ ?_⟩
   refine cx_ k13 (wf_ hs2) (g2_ ?_);refine im_ Tryz.func177 [] (g2_ ?_);refine g2_ ?_;refine cx_ k18 (by simp-implicitDefEqProofs only[go_sem,ab,hs2,pSelf]) (g2_ ?_)
   refine cx_ k17 (by simp-implicitDefEqProofs only[go_sem,ab,hs2,pSelf]) (g2_ ?_)
   refine cw_ k21b (g2_ ?_);refine .inl ⟨[oF 0,oF 1,oF 5,oF 2,oF 3,oF 4,oT 6,oF 7,oF 8,oF 9,oF 10],by kernel_rfl,gx_ ?_⟩
   refine⟨(),aa [(1,.to 4),(0,.to 0)] ?_⟩
   repeat first|simp-implicitDefEqProofs only[go_sem,ab,hS3m,hS3e,hM3t,hs2,pSelf,zMc,zPc,List.append_eq,List.cons_append,List.nil_append]|with_reducible refine gl_ ?_
   first|done|rfl|exact⟨rfl,rfl⟩
 clear hS3;obtain⟨SA,hSA⟩: ∃SA:Nat->List aK,SA=fun k=>S3++(B.take k).map (yE q2):=⟨_,rfl⟩
 have hS0:SA 0=S3:=by rw[hSA];simp
 have hSn: ∀k (hk:k<B.length),SA (k+1)=SA k++[yE q2 B[k]]:=fun k hk=>by
  rw[hSA];simp only;rw[List.take_add_one,List.getElem?_eq_getElem hk,List.map_append, <-List.append_assoc];rfl
 have hSl: ∀k,(SA k).length<=20:=fun k=>by
  rw[hSA];simp only[List.length_append,List.length_map,List.length_take];omega
 have hSe:SA B.length=R:=by
  rw[hSA, <-hR];show _++(B.take B.length).map _=_;rw[List.take_of_length_le (Nat.le_refl _)]
 refine Vc2.of ?_
 repeat first|simp-implicitDefEqProofs only[go_sem,ab,zMc,zPc,List.append_eq,List.cons_append,List.nil_append]|with_reducible first|refine gl_ ?_|refine ga_ ?_|refine gn_ ?_
 refine cw_ k19 (gx_ ?_);refine adT B.length ([(103,.d (.v (.int .i64 B.length))),(102,.d (.fz 4 (B.map ah)))]++[(11,.d (.pt 0 0)),(6,.loc 6 0),(7,.d (.v (.slice none 0 0)))]) (fun k=>[]) (fun _=>[(6,⟨zPc,49⟩)]) (fun k=>[(1,.arr 60 17 ((SA k).map encMg) false),(0,.var 203 (aE c++(ak q2++(zMc++[.fz 1 (dr.map aH),.v (.bool false),.rf 1 0 (SA k).length]))))]) 2 (fun _=>True) (aa [(1,.to 1),(0,.to 0)] ?_) trivial (fun g k=>by first|rfl|(repeat first|simp-implicitDefEqProofs only[go_sem,ab]|with_reducible refine gl_ ?_)) (by omega) (fun g=>ws_) (fun k hk _=>?_) (fun _=>?_)
 ·repeat first|simp-implicitDefEqProofs only[go_sem,ab,hS0,zMc,zPc,List.append_eq,List.cons_append,List.nil_append]|with_reducible refine gl_ ?_
  first|done|rfl|exact⟨rfl,rfl⟩
 ·have hAl:=hSl k;have kk:=k20 B[k];have hsl:(SA (k+1)).length=(SA k).length+1:=by rw[hSn k hk];simp
  have hsm:(SA (k+1)).map encMg=(SA k).map encMg++[encMg { pMsg q2 8 B[k].node with table:=q2.table }]:=by rw[hSn k hk,List.map_append,List.map_cons,List.map_nil];rfl
  repeat first|simp-implicitDefEqProofs only[go_sem,ab,aV hk,zMc,zPc,List.append_eq,List.cons_append,List.nil_append]|with_reducible first|refine gl_ ?_|refine ga_ ?_|refine gn_ ?_
  generalize B[k]=d at kk hsm;have hM4:(pMsg q2 8 d.node).list=[]:=rfl;generalize pMsg q2 8 d.node=M4 at kk hsm hM4;refine .inl ⟨[oF 0,oF 1,oF 3,oF 2,oF 4,oF 5,oF 6,oF 7,oF 8],by kernel_rfl,g2_ ?_⟩
  refine im_ Tryz.func177 [] (g2_ ?_);refine g2_ ?_;refine cw_ kk (g2_ ?_);refine cw_ k21 (g2_ ?_);refine cw_ k22 (g2_ ?_);refine .inl ⟨[oF 0,oF 1,oF 5,oF 2,oF 3,oF 4,oT 6,oF 7,oF 8,oF 9,oF 10],by kernel_rfl,gx_ ?_⟩
  refine⟨k+1,aa [(1,.to 3),(0,.to 0)] ?_,rfl⟩
  repeat first|simp-implicitDefEqProofs only[go_sem,ab,hsm,hsl,hM4,zMc,zPc,List.append_eq,List.cons_append,List.nil_append]|with_reducible refine gl_ ?_
  first|done|rfl|exact⟨rfl,rfl⟩
 ·rw[hSe]
  repeat first|simp-implicitDefEqProofs only[go_sem,ab,zPc,zMc,zPc,List.append_eq,List.cons_append,List.nil_append]|with_reducible first|refine gl_ ?_|refine ga_ ?_|refine gn_ ?_
  refine .inr (.inr (.inl ⟨[oF 0,oF 4,oF 1,oF 5,oF 2,oF 6,oF 3,oF 7,oT 8,oF 9],[6],by kernel_rfl,g2_ ?_⟩))
  refine⟨⟨_,_,_⟩,⟨1,_,rfl,rfl,?_,rfl,?_⟩,gy _⟩
  ·exact ws_
  ·intro h;cases h
end Go.Proofs.YtmhmahcdanclnaaGreat.V
namespace Go.Eng
def ltU(a b:UInt8):Bool:=decide (a<b)
def ov(acc:List UInt8)(x:UInt8):List UInt8:=if acc.getLast? =some x then acc else acc++[x]
def dt(l:List UInt8):List UInt8:=l.foldl ov []
theorem lY{l:List UInt8}{j:Nat}(h:j<l.length):dt (l.take (j+1))=ov (dt (l.take j)) l[j]:=by
 rw[dt,List.take_add_one,List.getElem?_eq_getElem h,List.foldl_append];rfl
theorem vm{l:List UInt8}: ∀{j:Nat} (h:j<l.length),(dt (l.take (j+1))).getLast? =some l[j]:=by grind [lY,ov]
theorem qS(l:List UInt8): ∀j,(dt (l.take j)).length<=j
 |0=>by simp[dt]
 | j+1=>by
  have ih:=qS l j
  by_cases h:j<l.length
  ·rw[lY h,ov];split
   ·omega
   ·rw[List.length_append];simp;omega
  ·rw[List.take_of_length_le (by omega)]at ih⊢
   omega
theorem afG{l:List UInt8}{j:Nat}(h:j+1<l.length)(he:l[j+1]=l[j]):dt (l.take (j+1+1))=dt (l.take (j+1)):=by grind [lY,ov,vm]
theorem xe{l:List UInt8}{j:Nat}(h:j+1<l.length)(he:l[j+1]≠l[j]):dt (l.take (j+1+1))=dt (l.take (j+1))++[l[j+1]]:=by grind [lY,ov,vm]
def h_(l:List UInt8)(j:Nat):List UInt8:=dt (l.take j)++l.drop (dt (l.take j)).length
theorem ajr{l:List UInt8}{j:Nat}(h:j<=l.length):(h_ l j).length=l.length:=by grind [qS,h_,List.length_append,List.length_drop]
theorem wH{l:List UInt8}{j i:Nat}(h1:(dt (l.take j)).length<=i):(h_ l j)[i]? =l[i]?:=by grind [h_]
theorem amT{l:List UInt8}{j:Nat}(h:j+1<l.length)(he:l[j+1]≠l[j])(hc:(dt (l.take (j+1))).length<l.length):(h_ l (j+1)).set (dt (l.take (j+1))).length l[j+1]=h_ l (j+1+1):=by
 rw[h_,h_,xe h he];generalize dt (l.take (j+1))=C at hc;rw[List.set_append_right _ _ (Nat.le_refl _),Nat.sub_self,List.drop_eq_getElem_cons hc,List.set_cons_zero,List.append_assoc,List.length_append];rfl
def cj(p:af):List UInt8:=[p.view,p.near,aY p.ring].flatten.map (·.node)
def aQ(p:af):List UInt8:=dt (aW ltU (cj p))
def atn(e sz:Nat)(l:List (List DV))(n:Nat)(r:Res):Prop:= ∃k,r.d= .rf k 0 n/\lk r.H k=some (.arr e sz l false)
theorem Con2.own{P:Program}{f:FuncId}{args:List DV}{e sz n:Nat}{l:List (List DV)}(h:Con2 P f args (atn e sz l n)):Con2 P f args (· =⟨.rf 0 0 n,[(0,.arr e sz l false)],1⟩):=by
 intro u vs hv;obtain⟨hb,hc⟩:=h u vs hv;refine⟨hb,fun w hu=>(hc w hu).mono ?_⟩
 rintro e' w' ⟨r,u',h1,h2,h3,⟨d2,H2,nx2⟩,⟨k,rfl,hk⟩,β,us,s,hr,hs⟩
 have h0:=hr.slot 0;rw[hs]at h0;obtain⟨w0,e0,hv⟩: ∃w,SV.v r= .v w/\HV us (.rf k 0 n) β w:=h0;cases e0;have hrow:=(hr.row k _ hk).2;have hfin:HV us (.rf 0 0 n) (fun id=>if id=0 then β k else .no) r:=hv
 refine⟨_,u',h1,h2,h3,_,rfl,fun id=>if id=0 then β k else .no,us,⟨[(0,.v r)],[]⟩,⟨hr.base,hr.sub,fun t=>?_,fun k=>rfl,fun id r hr=>?_,fun id hi=>?_,fun id hi=>absurd hi (Nat.not_lt_zero _),Nat.zero_le _,fun i j ri rj b hij hi hj=>?_⟩,rfl⟩
 ·show HS us _ ((lk [(0,DSV.d (.rf 0 0 n))] t).getD DSV.unk) ((lk [(0,SV.v r)] t).getD SV.unk)
  by_cases e:0=t
  ·subst e;exact⟨_,rfl,hfin⟩
  ·rw[aj e];trivial
 ·have hr:lk [(0,Row.arr e sz l false)] id=some r:=hr
  by_cases e:0=id
  ·subst e;rw[ax]at hr;cases hr;exact⟨Nat.zero_lt_one,hrow⟩
  ·rw[aj e]at hr;cases hr
 ·have hi:1<=id:=hi;exact if_neg (by omega)
 ·have hi:lk [(0,Row.arr e sz l false)] i=some ri:=hi;have hj:lk [(0,Row.arr e sz l false)] j=some rj:=hj
  by_cases e1:0=i
  ·subst e1;rw[aj hij]at hj;cases hj
  ·rw[aj e1]at hi;cases hi
end Go.Eng
namespace Go.Proofs.YtmhmahcdanclnaaGreat.V
open Go.Eng
attribute [local go_sem] zDesc aS ah fzD plR ba aL aR aC aE ak az aU z8 z16 z32 z64 c00 encMg a_ b_ List.map_cons List.map_nil aA
@[local go_sem] theorem ata:aaw Tryz.prog 5=true:=by kernel_rfl
theorem aiw(a b:Nat):Con2 Tryz.prog 340 [.v (.int .u8 a),.v (.int .u8 b)] (· =plR (.v (.bool (decide ((a:Int)<(b:Int)))))):=by
 refine en_ Tryz.func340 [.tmp 4] (g2_ ?_);refine g2_ ?_;refine ce_ (tJ a) (g2_ ?_);exact⟨_,rfl,aa [] ws_⟩
theorem eP(a b:UInt8):Con2 Tryz.prog 340 [.v (.int .u8 a.toNat),.v (.int .u8 b.toNat)] (· =plR (.v (.bool (decide ((a.toNat:Int)<(b.toNat:Int)))))):=aiw a.toNat b.toNat
theorem aoh(l:List UInt8)(hl:l.length<=1000){L0:List (List DV)}{ρ σ nb K}(hk:K (.rf 1 0 (dt l).length) ⟨ρ,σ,[(1,.arr 5 1 ((dt l).map aA) false),(0,.arr 32 1 L0 false)],2,nb⟩):
  CallS Tryz.prog false 167 [.rf 1 0 l.length] ⟨ρ,σ,[(1,.arr 5 1 (l.map aA) false),(0,.arr 32 1 L0 false)],2,nb⟩ K:=by
 refine im_ Tryz.func167 [.tmp 2] (g2_ ?_);refine g2_ ?_
 by_cases h2:(l.length:Int)<2
 ·have e:dt l=l:=by
   match l,h2 with
   |[],_=>rfl
   |[x],_=>rfl
   |x::y::r,h=>simp at h;omega
  rw[e]at hk;rw[decide_eq_true h2];refine g2_ ?_;exact hk
 rw[decide_eq_false h2];refine g2_ ?_;refine bt (γ:=Nat) (fun j=>[(3,.d (.v (.int .i64 ((j+1:Nat):Int))))]) (fun _=>[]) (fun j=>[(1,.arr 5 1 (l.map aA) false),(0,.arr 32 1 L0 false)]) 2 (fun j=>j+1<=l.length/\dt (l.take (j+1))=l.take (j+1)) (fun j=>l.length-j) 0 (aa [] ?_) ⟨by omega,?_⟩ (fun j hj=>?_)
 ·refine g2_ ?_
  first|done|rfl|exact⟨rfl,rfl⟩
 ·cases l with
  |nil=>simp at h2
  |cons x r=>rfl
 obtain⟨hj1,hj2⟩:=hj;refine g2_ ?_
 by_cases h3:j+1<l.length
 ·rw [decide_eq_true (show((j+1:Nat):Int)<(l.length:Int)by omega)]
  have g1:(l.map aA)[j+1]? =some [.v (.int .u8 l[j+1].toNat)]:=by rw[List.getElem?_map,List.getElem?_eq_getElem h3];rfl
  have g2:(l.map aA)[j]? =some [.v (.int .u8 (l[j]'(by omega)).toNat)]:=by rw[List.getElem?_map,List.getElem?_eq_getElem (by omega)];rfl
  have e1:((j+1:Nat):Int)-1=(j:Nat):=by omega
  refine g2_ ?_;refine .inl ⟨[oF 0,oF 1,oF 4,oF 5,oF 2,oF 6,oF 3,oF 7,oF 8,oF 9],by kernel_rfl,?_⟩
  refine gh_ g1 g2 e1 ?_
  by_cases h4:l[j+1]=l[j]
  ·rw[show((l[j+1].toNat:Int)==(l[j].toNat:Int))=true by rw[h4];exact beq_self_eq_true _]
   refine gx_ ?_;have b0:dt (l.take (j+1+0+1))=l.take (j+1):=(afG h3 h4).trans hj2;have b1:h_ l (j+1+0+1)=l:=by rw[h_,b0,List.length_take,Nat.min_eq_left (by omega),List.take_append_drop]
   have b2:(dt (l.take (j+1+0+1))).length=j+1:=by rw[b0,List.length_take];omega
   refine bt (γ:=Nat) (fun k=>[(5,.d (.v (.int .i64 ((k+1:Nat):Int)))),(3,.d (.v (.int .i64 (dt (l.take (j+1+k+1))).length)))]) (fun _=>[]) (fun k=>[(1,.arr 5 1 ((h_ l (j+1+k+1)).map aA) false),(0,.arr 32 1 L0 false)]) 2 (fun k=>j+1+k+1<=l.length/\(dt (l.take (j+1+k+1))).length<=j+1+k) (fun k=>l.length-k) 0 (aa [] ?_) ⟨by omega,by rw[b2];omega⟩ (fun k hk2=>?_)
   ·refine gf_ (c2_ b1 b2) ?_
    first|done|rfl|exact⟨rfl,rfl⟩
   obtain⟨hk1,hk3⟩:=hk2;have hRl:((h_ l (j+1+k+1)).map aA).length=l.length:=by rw[List.length_map,ajr hk1]
   refine g2_ ?_
   by_cases h5:k+1<l.length-(j+1)
   ·rw[decide_eq_true (show((k+1:Nat):Int)<((l.length-(j+1):Nat):Int)by omega)]
    have hq:j+1+k+1<l.length:=by omega
    have g3:((h_ l (j+1+k+1)).map aA)[j+1+(k+1)]? =some [.v (.int .u8 l[j+1+k+1].toNat)]:=by rw[List.getElem?_map,wH (by omega),List.getElem?_eq_getElem (by omega)];rfl
    have g4:((h_ l (j+1+k+1)).map aA)[j+1+k]? =some [.v (.int .u8 (l[j+1+k]'(by omega)).toNat)]:=by rw[List.getElem?_map,wH hk3,List.getElem?_eq_getElem (by omega)];rfl
    have e5:((k+1:Nat):Int)-1=(k:Nat):=by omega
    have hset:l[j+1+k+1]≠l[j+1+k]->((h_ l (j+1+k+1)).map aA).set (dt (l.take (j+1+k+1))).length [.v (.int .u8 l[j+1+k+1].toNat)]=(h_ l (j+1+k+1+1)).map aA:=fun h=>by
     rw[<-amT hq h (by omega),List.map_set];rfl
    have hcn:l[j+1+k+1]≠l[j+1+k]->(dt (l.take (j+1+k+1+1))).length=(dt (l.take (j+1+k+1))).length+1:=fun h=>by rw[xe hq h,List.length_append];rfl
    have hce:l[j+1+k+1]=l[j+1+k]->dt (l.take (j+1+k+1+1))=dt (l.take (j+1+k+1)):=afG hq;have hcr:l[j+1+k+1]=l[j+1+k]->h_ l (j+1+k+1+1)=h_ l (j+1+k+1):=fun h=>by rw[h_,h_,hce h]
    refine g2_ ?_;refine .inl ⟨[oF 0,oF 1,oF 4,oF 5,oF 2,oF 6,oF 3,oF 7,oF 8,oF 9],by kernel_rfl,?_⟩
    refine gi_ g3 g4 e5 hRl ?_
    by_cases h6:l[j+1+k+1]=l[j+1+k]
    ·rw[show((l[j+1+k+1].toNat:Int) !=(l[j+1+k].toNat:Int))=false by rw[h6];exact bne_self_eq_false _]
     refine g2_ ?_;refine⟨k+1,aa [] ?_,⟨by omega,by rw[show j+1+(k+1)+1=j+1+k+1+1 by omega,hce h6];omega⟩,by omega⟩
     rw[show j+1+(k+1)+1=j+1+k+1+1 by omega,hce h6,hcr h6]
     refine g2_ ?_;rfl
    ·rw[show((l[j+1+k+1].toNat:Int) !=(l[j+1+k].toNat:Int))=true from bne_iff_ne.2 (fun h=>h6 (UInt8.toNat_inj.1 (by omega)))]
     have hcl:(dt (l.take (j+1+k+1))).length<l.length:=by omega
     have gC:((h_ l (j+1+k+1)).map aA)[(dt (l.take (j+1+k+1))).length]? =some [.v (.int .u8 l[(dt (l.take (j+1+k+1))).length].toNat)]:=by rw[List.getElem?_map,wH (Nat.le_refl _),List.getElem?_eq_getElem hcl];rfl
     have hs6:=hset h6;have hc6:=hcn h6;refine gf_ (c4_ g3 g4 gC (c2_ e5 hRl)) ?_;refine⟨k+1,aa [] ?_,⟨by omega,by rw[show j+1+(k+1)+1=j+1+k+1+1 by omega,hc6];omega⟩,by omega⟩
     rw[show j+1+(k+1)+1=j+1+k+1+1 by omega, <-hs6,hc6]
     refine g2_ ?_;exact⟨rfl,rfl,rfl,rfl⟩
   ·rw[decide_eq_false (show ¬((k+1:Nat):Int)<((l.length-(j+1):Nat):Int)by omega)]
    have eN:l.take (j+1+k+1)=l:=List.take_of_length_le (by omega)
    have eR:(h_ l (j+1+k+1)).map aA=(dt l++l.drop (dt l).length).map aA:=by rw[h_,eN]
    have eL:(dt l).length<l.length:=by rw[eN]at hk3;omega
    have eT:List.take (dt l).length ((dt l++l.drop (dt l).length).map aA)=(dt l).map aA:=by rw[<-List.map_take,List.take_left]
    rw[eN,eR];rw[eR]at hRl;refine gf_ hRl ?_;rw[Nat.sub_zero,eT];exact hk
  ·rw[show((l[j+1].toNat:Int)==(l[j].toNat:Int))=false from beq_eq_false_iff_ne.2 (fun h=>h4 (UInt8.toNat_inj.1 (by omega)))]
   refine g2_ ?_;refine⟨j+1,aa [] ?_,⟨by omega,?_⟩,by omega⟩
   ·refine g2_ ?_;rfl
   ·rw[xe h3 h4,hj2];rw[List.take_add_one (i:=j+1),List.getElem?_eq_getElem h3];rfl
 ·rw[decide_eq_false (show ¬((j+1:Nat):Int)<(l.length:Int)by omega)]
  have e:dt l=l:=by
   have:=hj2;rw[List.take_of_length_le (by omega)]at this
   exact this
  rw[e]at hk;refine g2_ ?_;exact hk
theorem vF(p:af)(h1:p.view.length<=300)(h2:p.near.length<=300)(h4:p.ring.succ.filter.length<=4000000)(h5:p.ring.pred.filter.length<=4000000)(h12:(cj p).length<=700)
  (hs: ∀{L0:List (List DV)} {ρ:List (Nat×DSV)} {σ:List (Nat×eF)} {nb:Nat} {K:DV->DS->Prop},K (.tup []) ⟨ρ,σ,[(1,.arr 5 1 ((aW ltU (cj p)).map aA) false),(0,.arr 32 1 L0 false)],2,nb⟩->
   CallS Tryz.prog false 166 [.rf 1 0 (cj p).length] ⟨ρ,σ,[(1,.arr 5 1 ((cj p).map aA) false),(0,.arr 32 1 L0 false)],2,nb⟩ K):Con2 Tryz.prog 91 [.agg (ak p)] (· =⟨.rf 0 0 (aQ p).length,[(0,.arr 5 1 ((aQ p).map aA) false)],1⟩):=by
 refine Con2.own ?_;have hr:=i7 p.ring h4 h5;have hrl:=f5 p.ring;have el:cj p=[p.view,p.near,aY p.ring].flatten.map (·.node):=rfl
 unfold aQ;generalize aY p.ring=B at hr hrl el;obtain⟨L,hL⟩: ∃L:List (List GDesc),L=[p.view,p.near,B]:=⟨_,rfl⟩;rw[<-hL]at el;have hLl:L.length=3:=by rw[hL];rfl
 have hge: ∀k (hk:k<3),([[fzD p.view],[fzD p.near],[fzD B]]:List (List DV))[k]? =some [fzD (L[k]'(by omega))]:=fun k hk=>by
  subst hL
  match k,hk with
  |0,_=>rfl
  |1,_=>rfl
  |2,_=>rfl
 have hll: ∀k (hk:k<3),(L[k]'(by omega)).length<=300:=fun k hk=>by
  subst hL
  match k,hk with
  |0,_=>exact h1
  |1,_=>exact h2
  |2,_=>exact Nat.le_trans hrl (by omega)
 refine en_ Tryz.func91 [.tmp 2] (g2_ ?_);refine g2_ ?_;refine .inl ⟨[oF 0,oF 2,oF 4,oF 9,oF 1,oF 3,oF 5,oT 6,oF 7,oF 8],by kernel_rfl,g2_ ?_⟩
 refine ce_ hr (g2_ ?_);refine aq 3 (fun k=>[(3,.d (.rf 1 0 ((L.take k).flatten.map (·.node)).length))]) (fun _=>[]) (fun k=>[(1,.arr 5 1 (((L.take k).flatten.map (·.node)).map aA) false),(0,.arr 32 1 [[fzD p.view],[fzD p.near],[fzD B]] false)]) 2 (fun k=>True) (aa [(1,.nil 1),(0,.to 0)] ?_) trivial (fun g k=>by first|rfl|(repeat first|simp-implicitDefEqProofs only[go_sem,ab]|with_reducible refine gl_ ?_)) (by omega) (fun g=>ws_) (fun k hk hF=>?_) (fun hF=>?_)
 ·repeat first|simp-implicitDefEqProofs only[go_sem,ab,List.take_zero,List.flatten_nil]|with_reducible refine gl_ ?_
  first|done|rfl|exact⟨rfl,rfl⟩
 ·have hg:=hge k hk;have hl:=hll k hk;have hsn:(L.take (k+1)).flatten=(L.take k).flatten++L[k]:=by rw[List.take_add_one,List.getElem?_eq_getElem (by omega),List.flatten_append];simp
  generalize L[k]=lk at hg hl hsn
  have hfl:(L.take k).flatten.length<=900:=by
   rw[hL]
   match k,hk with
   |0,_=>simp
   |1,_=>simp;omega
   |2,_=>simp;omega
  simp only[fzD]at hg;refine gf_ hg ?_;refine aq lk.length (fun j=>[(3,.d (.rf 1 0 (((L.take k).flatten++lk.take j).map (·.node)).length))]) (fun _=>[]) (fun j=>[(1,.arr 5 1 ((((L.take k).flatten++lk.take j).map (·.node)).map aA) false),(0,.arr 32 1 [[fzD p.view],[fzD p.near],[fzD B]] false)]) 2 (fun j=>True) (aa [(1,.to 1),(0,.to 0)] ?_) trivial (fun g j=>by first|rfl|(repeat first|simp-implicitDefEqProofs only[go_sem,ab]|with_reducible refine gl_ ?_)) (by omega) (fun g=>ws_) (fun j hj _=>?_) (fun _=>?_)
  ·repeat first|simp-implicitDefEqProofs only[go_sem,ab,List.take_zero,List.append_nil]|with_reducible refine gl_ ?_
   first|done|rfl|exact⟨rfl,rfl⟩
  ·have hs2:(L.take k).flatten++lk.take (j+1)=((L.take k).flatten++lk.take j)++[lk[j]]:=by rw[List.take_add_one,List.getElem?_eq_getElem hj,List.append_assoc];rfl
   have hfl2:((L.take k).flatten++lk.take j).length<=1200:=by rw[List.length_append,List.length_take];omega
   generalize (L.take k).flatten++lk.take j=A at hs2 hfl2;refine gf_ (mE_ hj) ?_;generalize lk[j]=d at hs2;refine gx_ ?_;refine⟨j+1,aa [(1,.to 3),(0,.to 0)] ?_,rfl⟩;exact y1_ hs2
  ·rw[List.take_of_length_le (Nat.le_refl lk.length), <-hsn];refine g2_ ?_;refine⟨k+1,aa [(1,.to 1),(0,.to 0)] ?_,rfl⟩;exact ws_
 ·rw[List.take_of_length_le (show L.length<=3 by omega), <-el]
  refine g2_ ?_;refine hs ?_;have h13:(aW ltU (cj p)).length=(cj p).length:=cr;refine g2_ ?_;rw[<-h13];refine aoh (aW ltU (cj p)) (by omega) ?_
  refine g2_ ?_;exact⟨⟨_,_,_⟩,⟨1,rfl,rfl⟩,gy _⟩
theorem aiS(p:af)(h1:p.view.length<=300)(h2:p.near.length<=300)(h4:p.ring.succ.filter.length<=4000000)(h5:p.ring.pred.filter.length<=4000000)(h12:(cj p).length<=700)
  (hs: ∀{L0:List (List DV)} {ρ:List (Nat×DSV)} {σ:List (Nat×eF)} {nb:Nat} {K:DV->DS->Prop},K (.tup []) ⟨ρ,σ,[(1,.arr 5 1 ((aW ltU (cj p)).map aA) false),(0,.arr 32 1 L0 false)],2,nb⟩->
   CallS Tryz.prog false 166 [.rf 1 0 (cj p).length] ⟨ρ,σ,[(1,.arr 5 1 ((cj p).map aA) false),(0,.arr 32 1 L0 false)],2,nb⟩ K):Con2 Tryz.prog 91 [.agg (ak p)] (· =plR (.fz 1 ((aQ p).map aA))):=
 Con2.emb (vF p h1 h2 h4 h5 h12 hs) (wf_ @an) rfl
end Go.Proofs.YtmhmahcdanclnaaGreat.V
namespace Go.Proofs.YtmhmahcdanclnaaGreat.V
open Go.Eng
def plainC(n:Int):ar:=⟨n,[⟨0,9⟩],3,2,2,2,3,8,4,3,3,4,60,200,100⟩
theorem xy(c:ar)(node:UInt8):okH (bF c node):=by
 have h:=ae6 c node;refine⟨⟨h,fun s hs=>absurd (show s∈([]:List GSpan)from hs) List.not_mem_nil,fun d hd=>absurd (show d∈([]:List GDesc)from hd) List.not_mem_nil,fun d hd=>absurd (show d∈([]:List GDesc)from hd) List.not_mem_nil,uP,uP,?_⟩,?_,⟨Nat.zero_le _,fun d hd=>absurd (show d∈([]:List GDesc)from hd) List.not_mem_nil⟩,ac1 _⟩
 ·simp only[bF,List.length_replicate];omega
 ·refine⟨?_,fun r hr=>?_⟩
  ·simp only[bF,List.length_replicate];omega
  ·simp only[bF,List.mem_replicate]at hr;rw[hr.2,jS];omega
theorem afh{p:af}(h:okH p){i:UInt16}{b:Bool}{t:List au}(ht:t.length<=12):okH { p with inc:=i,up:=b,table:=t }:=
 ⟨⟨⟨h.g.ok.filter,h.g.ok.view,h.g.ok.near,h.g.ok.succ,h.g.ok.pred,h.g.ok.sent,by show t.length<=4000000;omega,h.g.ok.heard,h.g.ok.rows,h.g.ok.reports,h.g.ok.evs,h.g.ok.pulls⟩,h.g.filter,h.g.view,h.g.near,h.g.succ,h.g.pred,ht⟩,h.rs,h.v8,h.vw⟩
theorem ahe(c:ar)(p:af)(hp:okH p):okH (bE c p).1:=by grind [bE,afh,xy,List.length_set,bF,List.length_replicate]
attribute [local go_sem] zDesc aS ah fzD plR ba aL aR aC aE ak az aU z8 z16 z32 z64 encMg a_ b_ gj List.map_cons List.map_nil
theorem af3(n:Int):Con2 Tryz.prog 104 [.v (.int .i64 n)] (· =plR (.agg (aE (plainC n)))):=by
 refine Con2.ofEmb ?_;refine en_ Tryz.func104 [.cell 2 26] (g2_ ?_);refine g2_ ?_;refine ae ?_ rfl;refine gf_ @plainC.eq_1 ?_;rfl
theorem aiC(c:ar)(p:af)(L:List UInt8)(hp:okP p)(hu:p.up=true)(hL:Con2 Tryz.prog 91 [.agg (ak p)] (· =plR (.fz 1 (L.map aA))))(hLn:L.length<=4000000):
  Con2 Tryz.prog 49 [.agg (aE c),.agg (ak p)] (· =plR (.tup [.agg (ak (jZ c p)),.fz 17 ((L.map (pMsg p 9)).map encMg),.v (.int .i64 0)])):=by
 refine Con2.ofEmb ?_;have kd:=u6 c p;have km:=fun to=>gp p 9 to
 obtain⟨f,hf⟩: ∃f:UInt8->aK,f=pMsg p 9:=⟨_,rfl⟩;rw[<-hf]at km ⊢;generalize jZ c p=D at kd ⊢;refine en_ Tryz.func49 [.cell 4 49,.tmp 5,.tmp 6] (g2_ ?_);refine g2_ ?_;rw[hu];refine g2_ ?_;refine cx_ hL (wf_ hu) (gx_ ?_);refine aq L.length (fun k=>[(7,.d (.rf 0 0 ((L.take k).map f).length))]) (fun _=>[]) (fun k=>[(0,.arr 60 17 (((L.take k).map f).map encMg) false)]) 1 (fun _=>True) (aa [(0,.nil 17)] ?_) trivial (fun g k=>ws_) (by omega) (fun g=>ws_) (fun k hk _=>?_) (fun _=>?_)
 ·refine x0_ ?_
  first|done|rfl|exact⟨rfl,rfl⟩
 ·have hg:(L.map aA)[k]? =some [.v (.int .u8 L[k].toNat)]:=by rw[List.getElem?_map,List.getElem?_eq_getElem hk];rfl
  have hsn:(L.take (k+1)).map f=(L.take k).map f++[f L[k]]:=by rw[List.take_add_one,List.getElem?_eq_getElem hk,List.map_append];rfl
  have hsl:(L.take (k+1)).length=((L.take k).map f).length+1:=by have:=congrArg List.length hsn;rw[List.length_map,List.length_append]at this;exact this
  have hsl2:((L.take k).map f).length<=4000000:=by rw[List.length_map,List.length_take];omega
  have kk:=km L[k];generalize (L.take k).map f=A at hsn hsl hsl2;generalize f L[k]=x at hsn kk;refine gf_ hg ?_;refine cx_ kk (wf_ hu) (gx_ ?_);refine⟨k+1,aa [(0,.to 2)] ?_,rfl⟩;exact y1_ (c2_ hsn hsl)
 ·rw[List.take_of_length_le (Nat.le_refl L.length)];have hsl3:(L.map f).length<=4000000:=by rw[List.length_map];omega
  generalize L.map f=A at hsl3 ⊢;refine g2_ ?_;refine cx_ kd (wf_ hu) (g2_ ?_);refine ae ?_ rfl;exact ws_
def gH(dr:List UInt32)(c:ar)(p:af)(m:aK):af×List aK:=
 if p.up=false\/m.to≠p.node then (p,[])
 else if m.kind=1 then aak c p m
 else if m.kind=2 then lv c p m
 else if m.kind=3 then nL dr c p m
 else if m.kind=4 then lI c p m
 else if m.kind=5\/m.kind=7 then xG c p m
 else if m.kind=6 then xn c p m
 else if m.kind=8 then ae8 c p m
 else if m.kind=9 then se c p m
 else xV c p m
theorem yD: ∀n:Fin 256,(n.val=1\/n.val=2\/n.val=3\/n.val=4\/n.val=5\/n.val=6\/n.val=7\/n.val=8\/n.val=9)\/lkF fW (UInt8.ofNat n.val)=none:=of_decide_eq_true (by kernel_rfl)
theorem abU{k:UInt8}(h1:k≠1)(h2:k≠2)(h3:k≠3)(h4:k≠4)(h5:k≠5)(h6:k≠6)(h7:k≠7)(h8:k≠8)(h9:k≠9):lkF fW k=none:=by
 have e: ∀n:Nat,n<256->k.toNat=n->k=UInt8.ofNat n:=fun n hn h=>by rw[<-h];exact(UInt8.ofNat_toNat).symm
 have hk:=k.toNat_lt;rcases yD ⟨k.toNat,hk⟩with h|h
 ·simp only at h;rcases h with h|h|h|h|h|h|h|h|h
  ·exact absurd (e 1 (by omega) h) h1
  ·exact absurd (e 2 (by omega) h) h2
  ·exact absurd (e 3 (by omega) h) h3
  ·exact absurd (e 4 (by omega) h) h4
  ·exact absurd (e 5 (by omega) h) h5
  ·exact absurd (e 6 (by omega) h) h6
  ·exact absurd (e 7 (by omega) h) h7
  ·exact absurd (e 8 (by omega) h) h8
  ·exact absurd (e 9 (by omega) h) h9
 ·have e2:UInt8.ofNat k.toNat=k:=UInt8.ofNat_toNat;simp only at h;rw[e2]at h;exact h
theorem take_all(c:ar)(p:af)(m:aK)(dr:List UInt32)(hc:c.schema.length<=4)(hcs: ∀s∈c.schema,okS s)(hp:okH p)(hm:okMg m)(hdr:dr.length<=4000000)(hws:ok8 p.wait.sent):
  Con2 Tryz.prog 83 [.agg (aE c),.agg (ak p),.agg (encMg m),.fz 1 (dr.map aH)] (· =plR (.tup [.agg (ak (gH dr c p m).1),.fz 17 ((gH dr c p m).2.map encMg)])):=by
 unfold gH
 by_cases h0:p.up=false\/m.to≠p.node
 ·rw[if_pos h0];rcases h0 with h|h
  ·exact vM c p m dr hp.ok h
  ·exact aoo c p m dr hp.ok h
 rw[if_neg h0]
 have hu:p.up=true:=by
  cases h:p.up with
  |true=>rfl
  |false=>exact absurd (.inl h) h0
 have hto:m.to=p.node:=Classical.byContradiction fun h=>h0 (.inr h)
 by_cases k1:m.kind=1
 ·rw[if_pos k1];exact ahR c p m dr hc hcs hp hm hu hto k1
 rw[if_neg k1]
 by_cases k2:m.kind=2
 ·rw[if_pos k2];exact yl c p m dr hc hcs hp hm hu hto k2
 rw[if_neg k2]
 by_cases k3:m.kind=3
 ·rw[if_pos k3];exact wL c p m dr hc hcs hp hm hu hto k3 hdr
 rw[if_neg k3]
 by_cases k4:m.kind=4
 ·rw[if_pos k4];exact uw c p m dr hc hcs hp hm hu hto k4 hws
 rw[if_neg k4]
 by_cases k5:m.kind=5\/m.kind=7
 ·rw[if_pos k5];rcases k5 with k|k
  ·exact wt c p m dr hc hcs hp hm hu hto (.inl k)
  ·exact wt c p m dr hc hcs hp hm hu hto (.inr k)
 rw[if_neg k5]
 by_cases k6:m.kind=6
 ·rw[if_pos k6];exact abG c p m dr hc hcs hp hm hu hto k6
 rw[if_neg k6]
 by_cases k8:m.kind=8
 ·rw[if_pos k8];exact ah7 c p m dr hc hcs hp hm hu hto k8
 rw[if_neg k8]
 by_cases k9:m.kind=9
 ·rw[if_pos k9];exact ab2 c p m dr hc hcs hp hm hu hto k9
 rw[if_neg k9];exact acO c p m dr hc hcs hp hu hto (abU k1 k2 k3 k4 (fun h=>k5 (.inl h)) k6 (fun h=>k5 (.inr h)) k8 k9)
end Go.Proofs.YtmhmahcdanclnaaGreat.V
namespace Go.Proofs.YtmhmahcdanclnaaGreat.V
open Go.Eng
def gu(s:List GSpan)(v:List Int):Bool:=decide (v.length=s.length)&&((List.zip s v).all fun x=>decide (x.1.a<=x.2)&&decide (x.2<=x.1.b))
def fb(f:List GSpan)(v:List Int):Bool:= !f.isEmpty&&gu f v
def bZ(s:List GSpan)(e:GEvt):Bool:=
 gu s e.vals&&(decide (e.data.length<=64)&&(decide (e.id.node.toNat<12)&&(decide (1<=e.id.inc.toNat)&&decide (1<=e.id.seq.toNat))))
def j5(c:ar)(p:af)(e:GEvt):Bool:=
 if bZ c.schema e=false\/c.nodes<=(e.id.node.toNat:Int)\/c.last.toNat<e.id.seq.toNat then false
 else if e.id.node=p.node/\p.inc.toNat<=e.id.inc.toNat then false
 else match p.rows[e.id.node.toNat]? with
  |none=>false
  |some r=>iJ r e.id c.window
def cL(x:GID)(a:GAsk):Bool:=decide (a.id.node=x.node)&&decide (a.id.inc.toNat<x.inc.toNat)
def aI(c:ar)(p:af)(e:GEvt):af×Bool×Bool:=
  if p.up=false\/j5 c p e=false then (p,false,false)
  else ({ p with
      rows:=p.rows.modify e.id.node.toNat fun r=>(cO r e.id c.window).1
      pulls:=(Eng.pDrop p.pulls e.id).filter fun a=> !cL e.id a
      buf:=(dk p.buf e).1
      passed:=if (dk p.buf e).2=52 then p.passed+1 else p.passed },true,fb p.filter e.vals)
def gK(dr:List UInt32)(n:Int):List UInt32:=dr.drop n.toNat
def gb(c:ar)(p:af)(e:GEvt)(hops:UInt8)(links:List UInt8)(dr:List UInt32):List aK:=
 (iz c.fanout.toNat links (gK dr (c.swap+1))).map fun to=>{ pMsg p 10 to with ev:=e,hops:=hops }
def dN(l:List UInt8)(a b:UInt8):List UInt8:=l.filter fun x=> !(decide (x=a)||decide (x=b))
def aD(c :ar)(p:af)(vals:List Int)(data:List UInt8)(dr:List UInt32):af×GEvt×Bool×List aK×Int:=
  let e:GEvt:=⟨⟨p.node,p.inc,p.seq+1⟩,vals,data⟩
  if p.up=false then (p,zEvt,false,[],53)
  else if bZ c.schema e=false then (p,zEvt,false,[],51)
  else if c.last.toNat<=p.seq.toNat then (p,zEvt,false,[],55)
  else
    let full:=decide (p.buf.room<=(p.buf.evs.length:Int))
    let k:=bK p.buf p.node p.inc
    if full=true/\k.2.2≠0 then (p,zEvt,false,[],k.2.2)
    else
      let b:=dk (if full=true then k.1 else p.buf) e
      if b.2≠0 then (p,zEvt,false,[],b.2)
      else
        let q:af:={ p with
          buf:=b.1
          evicted:=if full=true then p.evicted+1 else p.evicted
          seq:=p.seq+1
          rows:=p.rows.set p.node.toNat ⟨p.inc,p.seq+1,0⟩ }
        (q,e,fb p.filter vals,gb c q e (UInt8.ofNat (c.hops % 256).toNat) (aQ q) dr,0)
def bC(p:af)(x:GID):af:=
 if cm p.reports p.table p.node p.rows x=false then p
 else if (bY p.buf x).2=0 then { p with buf:=(bY p.buf x).1,collected:=p.collected+1 }else p
def gn(p:af):af:=(eIds p.buf.evs).foldl bC p
def xQ(p:af)(to:UInt8):aK:=
 { pMsg p 11 to with origin:=⟨p.node,p.inc,p.count⟩,table:=p.table,marks:=kU p.rows,ids:=eIds p.buf.evs,hops:=12 }
def eu(c:ar)(p:af)(dr:List UInt32):af×List aK:=
 if p.up=false then (p,[])
 else
  let p1:=gn { p with pulls:=Eng.pTick p.pulls }
  let t:=V.pTick c p1 dr (aQ (ez c (aB c (ct c p1) []) dr).1)
  let q:af:={ t.1 with count:=if t.1.count.toNat<4294967295 then t.1.count+1 else t.1.count }
  (q,t.2++(aQ q).map (xQ q))
def tz(c:ar)(o:UInt8)(s:List GAsk×List GID)(x:GID):List GAsk×List GID:=
 if nt x c.nodes c.last=false then s
 else if abM s.1 ⟨x,o,UInt8.ofNat (c.patience % 256).toNat⟩ c.pulls=0 then (yV s.1 ⟨x,o,UInt8.ofNat (c.patience % 256).toNat⟩ c.pulls,s.2++[x])else s
def nJ(c:ar)(p:af)(m:aK):af×List aK:=
 let s:=(fE m.ids p.rows c.window).foldl (tz c m.origin.node) (p.pulls,[])
 ({ p with pulls:=s.1 },if s.2=[]then []else [{ pMsg p 12 m.origin.node with ids:=s.2 }])
def qZ(p:af)(m:aK):List aK:=
 (dN (aQ p) m.frm m.origin.node).map fun to=>{ pMsg p 11 to with hops:=m.hops-1,origin:=m.origin,table:=m.table,marks:=m.marks,ids:=m.ids }
def bB(c:ar)(p:af)(m:aK):af×List aK:=
 if c.nodes<=(m.origin.node.toNat:Int)\/m.origin.node=p.node then (p,[])
 else match p.heard[m.origin.node.toNat]? with
  |none=>(p,[])
  | some k=>
   if nn m.origin { k with node:=m.origin.node }=false then (p,[])
   else if (aw c p m.origin.node m.origin.inc).2=false then (p,[])
   else
    let q:=(aw c p m.origin.node m.origin.inc).1
    let q1:af:=bx { q with heard:=q.heard.set m.origin.node.toNat m.origin } m.table
    let q2:af:={ q1 with reports:=cl q1.reports m.origin.node m.marks }
    ((nJ c q2 m).1,(nJ c q2 m).2++if m.hops=0 then []else qZ (nJ c q2 m).1 m)
def kZ(c:ar)(p:af)(m:aK)(dr:List UInt32):af×List aK×List GEvt:=
 let a:=aI c p m.ev
 if a.2.1=false then (p,[],[])
 else (a.1,if m.hops=0 then []else gb c a.1 m.ev (m.hops-1) (dN (aQ a.1) m.frm m.ev.id.node) dr,if a.2.2=true then [m.ev]else [])
def nN(p:af)(m:aK):List aK:=
 m.ids.filterMap fun x=>(p.buf.evs.find? fun e=>decide (e.id=x)).map fun e=>{ pMsg p 10 m.frm with ev:=e }
def bN(c:ar)(p:af)(m:aK)(dr:List UInt32):af×List aK×List GEvt:=
 if ¬(m.kind=10\/m.kind=11\/m.kind=12)then ((gH dr c p m).1,(gH dr c p m).2,[])
 else if p.up=false\/m.to≠p.node then (p,[],[])
 else if (aw c p m.frm m.inc).2=false then ((aw c p m.frm m.inc).1,[],[])
 else
  let q:=aB c (aw c p m.frm m.inc).1 []
  let r:af×List aK×List GEvt:=
   if m.kind=10 then kZ c q m dr
   else if m.kind=12 then (q,nN q m,[])
   else ((bB c q m).1,(bB c q m).2,[])
  (aB c r.1 [],r.2.1,r.2.2)
attribute[local go_sem] aS ah fzD plR ba aL aR aC aE ak az aU z8 z16 z32 z64 encMg aN b_
section
variable {s:List GSpan} {v:List Int} {k:Nat}
theorem tZ(hl:v.length=s.length)(h1:k<s.length)(h2:k<v.length)(h: ¬(s[k].a<=v[k]/\v[k]<=s[k].b)):gu s v=false:=by
 unfold gu;rw[Bool.and_eq_false_iff];right;rw[List.all_eq_false];refine⟨(s[k],v[k]),?_,by simpa using h⟩
 rw[List.mem_iff_getElem];exact⟨k,by simp;omega,by simp⟩
theorem vz(hl:v.length=s.length)(h: ∀j (h1:j<s.length) (h2:j<v.length),s[j].a<=v[j]/\v[j]<=s[j].b):gu s v=true:=by
 unfold gu;rw[decide_eq_true hl,Bool.true_and,List.all_eq_true];intro x hx;obtain⟨j,hj,rfl⟩:=List.mem_iff_getElem.1 hx
 have hj2:j<s.length/\j<v.length:=by
  rw[List.length_zip]at hj;omega
 have:=h j hj2.1 hj2.2;simpa using this
theorem uY(hl:v.length≠s.length):gu s v=false:=by
 unfold gu;rw[decide_eq_false hl];rfl
end
def FitK(s:List GSpan)(v:List Int)(k:Nat):Prop:= ∀j,j<k-> ∀(h1:j<s.length) (h2:j<v.length),s[j].a<=v[j]/\v[j]<=s[j].b
theorem FitK.snoc{s:List GSpan}{v:List Int}{k:Nat}(h:FitK s v k)(h1:k<s.length)(h2:k<v.length)(g:s[k].a<=v[k]/\v[k]<=s[k].b):FitK s v (k+1):=fun j hj a b=>by
 by_cases e:j=k
 ·subst e;exact g
 ·exact h j (by omega) a b
theorem abj(s:List GSpan)(v:List Int)(hs:s.length<=4000000)(hv:v.length<=4000000):Con2 Tryz.prog 72 [.fz 2 (s.map aS),.fz 1 (v.map b_)] (· =plR (.v (.bool (gu s v)))):=by
 refine Con2.ofEmb ?_;refine en_ Tryz.func72 [.tmp 4] (g2_ ?_);refine gx_ ?_;refine cU (fun h=>?_) (fun h=>?_)
 ·rw[uY (by omega)]
  refine g2_ ?_;refine ae ?_ rfl;exact ws_
 ·have hl:v.length=s.length:=by omega
  refine gx_ ?_;refine aq s.length (fun _=>[]) (fun _=>[]) (fun _=>[]) 0 (FitK s v) (aa [] ?_) (fun j hj=>by omega) (fun g k=>ws_) (by omega) (fun g=>ws_) (fun k hk hF=>?_) (fun hF=>?_)
  ·refine g2_ ?_
   try rfl
  ·have hkv:k<v.length:=by omega
   repeat first|simp-implicitDefEqProofs only[go_sem,ab,aV hk]|with_reducible first|refine gl_ ?_|refine ga_ ?_|refine gn_ ?_
   refine .inl ⟨[oF 0,oF 1,oF 4,oF 2,oF 5,oF 3,oF 6,oF 7,oF 8,oF 9,oF 12,oF 10,oF 13,oF 11,oF 14,oF 15],by kernel_rfl,?_⟩
   repeat first|simp-implicitDefEqProofs only[go_sem,ab,aV hk,aV hkv,List.length_map]|with_reducible first|refine gl_ ?_|refine ga_ ?_|refine gn_ ?_
   by_cases h1:v[k]<s[k].a
   ·rw[decide_eq_true h1,tZ hl hk hkv (by omega)]
    refine g2_ ?_;refine ae ?_ rfl;exact ws_
   ·rw[decide_eq_false h1];refine gf_ (c2_ (mE_ hk) (mE_ hkv)) ?_
    by_cases h2:s[k].b<v[k]
    ·rw[decide_eq_true h2,tZ hl hk hkv (by omega)]
     refine g2_ ?_;refine ae ?_ rfl;exact ws_
    ·rw[decide_eq_false h2];refine g2_ ?_;refine⟨k+1,aa [] ?_,rfl,hF.snoc hk hkv ⟨by omega,by omega⟩⟩
     exact ws_
  ·rw[vz hl (fun j h1 h2=>hF j h1 h1 h2)]
   refine g2_ ?_;refine ae ?_ rfl;exact ws_
theorem mF(f:List GSpan)(v:List Int)(hf:f.length<=4000000)(hv:v.length<=4000000):Con2 Tryz.prog 25 [.fz 2 (f.map aS),.fz 1 (v.map b_)] (· =plR (.v (.bool (fb f v)))):=by
 refine Con2.ofEmb ?_;unfold fb;refine en_ Tryz.func25 [.tmp 4] (g2_ ?_);refine gx_ ?_
 by_cases h0:f.length=0
 ·have e0:f=[]:=List.eq_nil_of_length_eq_zero h0;rw[show((f.length:Int)==0)=true by rw[h0];rfl]
  subst e0;refine g2_ ?_;refine ae ?_ rfl;exact y1_ (c2_ @List.isEmpty_nil.{0} @Bool.false_and)
 have e0:f.isEmpty=false:=by cases f with|nil=>exact absurd rfl h0|cons=>rfl
 rw[show((f.length:Int)==0)=false from beq_eq_false_iff_ne.2 (by omega),e0,Bool.not_false,Bool.true_and]
 refine gx_ ?_
 by_cases hl:f.length=v.length
 ·rw[show((f.length:Int) !=(v.length:Int))=false by rw[hl];simp]
  refine gx_ ?_;refine aq f.length (fun _=>[]) (fun _=>[]) (fun _=>[]) 0 (FitK f v) (aa [] ?_) (fun j hj=>by omega) (fun g k=>ws_) (by omega) (fun g=>ws_) (fun k hk hF=>?_) (fun hF=>?_)
  ·refine g2_ ?_
   try rfl
  ·have hkv:k<v.length:=by omega
   have hh:=akV f[k] v[k]
   repeat first|simp-implicitDefEqProofs only[go_sem,ab,aV hk]|with_reducible first|refine gl_ ?_|refine ga_ ?_|refine gn_ ?_
   refine .inl ⟨[oF 0,oF 1,oF 2,oF 3,oF 4,oF 5,oF 6],by kernel_rfl,?_⟩
   repeat first|simp-implicitDefEqProofs only[go_sem,ab,aV hk,aV hkv,List.length_map]|with_reducible first|refine gl_ ?_|refine ga_ ?_|refine gn_ ?_
   refine ce_ hh (g2_ ?_)
   by_cases h1:f[k].a<=v[k]/\v[k]<=f[k].b
   ·rw[decide_eq_true h1.1,decide_eq_true h1.2];refine g2_ ?_;refine⟨k+1,aa [] ?_,rfl,hF.snoc hk hkv h1⟩;exact ws_
   ·rw[show(decide (f[k].a<=v[k])&&decide (v[k]<=f[k].b))=false by rw[Bool.and_eq_false_iff];simp only[decide_eq_false_iff_not];omega,tZ hl.symm hk hkv h1]
    refine g2_ ?_;refine ae ?_ rfl;exact ws_
  ·rw[vz hl.symm (fun j h1 h2=>hF j h1 h1 h2)]
   refine g2_ ?_;refine ae ?_ rfl;exact ws_
 ·rw[show((f.length:Int) !=(v.length:Int))=true by simp;omega,uY (by omega)]
  refine g2_ ?_;refine ae ?_ rfl;exact ws_
theorem sM(s:List GSpan)(e:GEvt)(hs:s.length<=4000000)(hv:e.vals.length<=4000000)(hd:e.data.length<=4000000):Con2 Tryz.prog 24 [.fz 2 (s.map aS),.agg (az e)] (· =plR (.v (.bool (bZ s e)))):=by
 refine Con2.ofEmb ?_;have hx:=e.id.bd;unfold bZ;refine en_ Tryz.func24 [.tmp 4] (g2_ ?_);refine g2_ ?_;refine ce_ (abj s e.vals hs hv) (g2_ ?_);cases h1:gu s e.vals with
 |false=>
  rw[Bool.false_and];refine g2_ ?_;refine ae ?_ rfl;exact ws_
 |true=>
 rw[Bool.true_and];refine gx_ ?_
 by_cases h2:e.data.length<=64
 case neg=>
  rw[decide_eq_false h2,decide_eq_false (show ¬(e.data.length:Int)<=64 by omega),Bool.false_and]
  refine g2_ ?_;refine ae ?_ rfl;exact ws_
 rw[decide_eq_true h2,decide_eq_true (show(e.data.length:Int)<=64 by omega),Bool.true_and]
 refine g2_ ?_
 by_cases h3:e.id.node.toNat<12
 case neg=>
  rw[decide_eq_false h3,decide_eq_false (show ¬(e.id.node.toNat:Int)<12 by omega),Bool.false_and]
  refine g2_ ?_;refine ae ?_ rfl;exact ws_
 rw[decide_eq_true h3,decide_eq_true (show(e.id.node.toNat:Int)<12 by omega),Bool.true_and]
 refine g2_ ?_
 by_cases h4:1<=e.id.inc.toNat
 case neg=>
  rw[decide_eq_false h4,decide_eq_false (show ¬(1:Int)<=e.id.inc.toNat by omega),Bool.false_and]
  refine g2_ ?_;refine ae ?_ rfl;exact ws_
 rw[decide_eq_true h4,decide_eq_true (show(1:Int)<=e.id.inc.toNat by omega),Bool.true_and]
 refine g2_ ?_
 by_cases h5:1<=e.id.seq.toNat
 case neg=>
  rw[decide_eq_false h5,decide_eq_false (show ¬(1:Int)<=e.id.seq.toNat by omega)]
  refine g2_ ?_;refine ae ?_ rfl;exact ws_
 rw[decide_eq_true h5,decide_eq_true (show(1:Int)<=e.id.seq.toNat by omega)]
 refine g2_ ?_;refine ae ?_ rfl;exact ws_
def ajH(t:List (List GMark)):Prop:=t.length<=4000000/\ ∀r∈t,r.length<=4000000
theorem uL{t:List (List GMark)}{k:Nat}(h:k<t.length):(bk t)[k]? =some [.fz 3 (t[k].map aL)]:=by rw[bk,aV h]
theorem fe{t:List (List GMark)}:(bk t).length=t.length:=by rw[bk,List.length_map]
theorem aoc(t:List (List GMark))(m n:UInt8)(ht:ajH t):Con2 Tryz.prog 71 [.fz 1 (bk t),.v (.int .u8 m.toNat),.v (.int .u8 n.toNat)] (· =plR (.agg (aL (aph t m n)))):=by
 refine Con2.ofEmb ?_;have hm:=m.toNat_lt;have hn:=n.toNat_lt;have ht1:=ht.1;unfold aph;refine en_ Tryz.func71 [.cell 6 57] (g2_ ?_);refine gf_ @fe ?_
 by_cases h1:m.toNat<t.length
 ·have hr:=ht.2 _ (List.getElem_mem h1);rw[decide_eq_false (show ¬(t.length:Int)<=m.toNat by omega),List.getElem?_eq_getElem h1]
  refine gg_ @fe (uL h1) ?_
  by_cases h2:n.toNat<t[m.toNat].length
  ·rw[decide_eq_false (show ¬(t[m.toNat].length:Int)<=n.toNat by omega)]
   simp only[List.getElem?_eq_getElem h2];refine gf_ (c3_ @fe (uL h1) (mE_ h2)) ?_;refine ae ?_ rfl;exact ws_
  ·rw[decide_eq_true (show(t[m.toNat].length:Int)<=n.toNat by omega)]
   simp only[List.getElem?_eq_none (show t[m.toNat].length<=n.toNat by omega)]
   refine g2_ ?_;refine ae ?_ rfl;exact ws_
 ·rw[decide_eq_true (show(t.length:Int)<=m.toNat by omega),List.getElem?_eq_none (by omega)]
  refine g2_ ?_;refine ae ?_ rfl;exact ws_
theorem aoC(t:List (List GMark))(self:UInt8)(rows:List GRow)(x:GID)(k:Nat)(m:au)(ht:ajH t)(hr:rows.length<=4000000)(hx:x.node.toNat<rows.length)(hk:k<=4000000):
  Con2 Tryz.prog 68 [.v (.int .i64 (k:Nat)),.agg (aR m),.fp [.v (.int .u8 self.toNat)],.fp (aN x),.fp [.fz 3 (rows.map aC)],.fp [.fz 1 (bk t)]] (· =plR (.v (.bool (nT t self rows x k m)))):=by
 refine Con2.ofEmb ?_;have hx1:=x.bd;have hs:=self.toNat_lt;have c1:=yX x.node rows[x.node.toNat];have c2:=mC (rwMark x.node rows[x.node.toNat]) x;have c3:=aoc t (UInt8.ofNat k) x.node ht;have c4:=mC (aph t (UInt8.ofNat k) x.node) x;have c5:=mC ⟨x.node,0,0⟩ x;unfold nT;refine en_ Tryz.func68 [.tmp 8] (g2_ ?_);refine g2_ ?_;rw[nv]
 by_cases h1:m.inc=0
 ·rw[decide_eq_true h1,if_pos (.inl h1)];refine g2_ ?_;refine ae ?_ rfl;exact ws_
 rw[decide_eq_false h1];refine g2_ ?_;rw[abv]
 by_cases h2:m.state=3
 ·rw[decide_eq_true h2,if_pos (.inr h2)];refine g2_ ?_;refine ae ?_ rfl;exact ws_
 rw[decide_eq_false h2,if_neg (by simp[h1,h2])]
 refine g2_ ?_;refine kR (fun h3=>?_) (fun h3=>?_)
 ·rw[if_pos (by omega),List.getElem?_eq_getElem hx]
  refine .inl ⟨[oF 0,oF 2,oF 3,oF 8,oF 1,oF 4,oF 5,oF 6,oT 7,oF 9,oF 10,oF 11],by kernel_rfl,?_⟩
  repeat first|simp-implicitDefEqProofs only[go_sem,ab,aV hx,List.length_map]|with_reducible first|refine gl_ ?_|refine ga_ ?_|refine gn_ ?_
  refine ce_ c1 (g2_ ?_);refine ce_ c2 (g2_ ?_);refine ae ?_ rfl;exact ws_
 ·rw[if_neg (by omega)]
  refine g2_ ?_;refine aZ (fun h4=>?_) (fun h4=>?_)
  ·rw[if_pos (by omega)]
   have e8:(UInt8.ofNat k).toNat=k:=by rw[UInt8.toNat_ofNat'];exact Nat.mod_eq_of_lt (by omega)
   rw[e8]at c3;refine .inl ⟨[oF 0,oF 1,oF 3,oF 6,oF 2,oF 4,oT 5,oF 7,oF 8,oF 9],by kernel_rfl,?_⟩
   ((try (with_reducible refine av ?_));(try simp-implicitDefEqProofs only[go_sem,ab]);repeat ((first|(with_reducible refine av ?_)|(with_reducible refine cV (by omega) ?_)|(with_reducible refine And.intro (by omega) ?_));(try simp-implicitDefEqProofs only[go_sem,ab])))
   refine gF (by omega) ?_
   refine g2_ ?_;refine ce_ c3 (g2_ ?_);refine ce_ c4 (g2_ ?_);refine ae ?_ rfl;exact ws_
  ·rw[if_neg (by omega)]
   refine g2_ ?_;refine ce_ c5 (g2_ ?_);refine ae ?_ rfl;exact ws_
theorem ah2{t:List (List GMark)}{ms:List au}{self:UInt8}{rows:List GRow}{x:GID}(hx:x.node.toNat<rows.length){k:Nat}(hk:k<ms.length)(h:nT t self rows x k ms[k]=true):cm t ms self rows x=false:=by
 unfold cm;rw[if_neg (by omega)]
 have:(ms.mapIdx fun k m=>nT t self rows x k m).any id=true:=List.any_eq_true.2 ⟨true,List.mem_iff_getElem.2 ⟨k,by simpa using hk,by simpa using h⟩,rfl⟩
 rw[this];rfl
theorem aeo{t:List (List GMark)}{ms:List au}{self:UInt8}{rows:List GRow}{x:GID}(hx:x.node.toNat<rows.length)(h: ∀k (hk:k<ms.length),nT t self rows x k ms[k]=false):cm t ms self rows x=true:=by grind [cm,nT]
theorem jG(t:List (List GMark))(ms:List au)(self:UInt8)(rows:List GRow)(x:GID)(ht:ajH t)(hm:ms.length<=4000000)(hr:rows.length<=4000000):
  Con2 Tryz.prog 22 [.fz 1 (bk t),.fz 3 (ms.map aR),.v (.int .u8 self.toNat),.fz 3 (rows.map aC),.agg (aN x)] (· =plR (.v (.bool (cm t ms self rows x)))):=by
 refine Con2.ofEmb ?_;have hx1:=x.bd;have c1:=fun (hx:x.node.toNat<rows.length) k m hk=>aoC t self rows x k m ht hr hx hk
 refine en_ Tryz.func22 [.tmp 10] (g2_ ?_);refine gx_ ?_;refine aZ (fun h=>?_) (fun h=>?_)
 ·have e:cm t ms self rows x=false:=if_pos (by omega)
  rw[e];refine g2_ ?_;refine ae ?_ rfl;exact ws_
 ·have hx:x.node.toNat<rows.length:=by omega
  have c1:=c1 hx;refine gx_ ?_;generalize bk t=T at c1;refine aq ms.length (fun _=>[]) (fun _=>[]) (fun _=>[(3,.var 43 [.fz 1 T]),(2,.var 41 [.fz 3 (rows.map aC)]),(1,.var 54 (aN x)),(0,.var 5 [.v (.int .u8 self.toNat)])]) 4 (fun k=> ∀j (hj:j<ms.length),j<k->nT t self rows x j ms[j]=false) (aa [] ?_) (fun j _ hj=>by omega) (fun g k=>ws_) (by omega) (fun g=>ws_) (fun k hk hF=>?_) (fun hF=>?_)
  ·refine g2_ ?_
   try rfl
  ·have c1:=c1 k ms[k] (by omega)
   repeat first|simp-implicitDefEqProofs only[go_sem,ab,aV hk,List.nil_append,List.cons_append]|with_reducible first|refine gl_ ?_|refine ga_ ?_|refine gn_ ?_
   refine CallS.eq c1 ws_ (.inr ws_) ?_;refine g2_ ?_;cases hb:nT t self rows x k ms[k]with
   |true=>
    rw[ah2 hx hk hb];refine g2_ ?_;refine ae ?_ rfl;exact ws_
   | false=>
    refine g2_ ?_;refine⟨k+1,aa [] ?_,rfl,fun j hj hjk=>?_⟩
    ·exact ws_
    ·by_cases e:j=k
     ·subst e;exact hb
     ·exact hF j hj (by omega)
  ·rw[aeo hx (fun k hk=>hF k hk hk)]
   refine g2_ ?_;refine ae ?_ rfl;exact ws_
end Go.Proofs.YtmhmahcdanclnaaGreat.V
namespace Go.Eng
theorem jv{r:Nat->Option Rn}{c c':List DV}(hc:wkDs r c c'): ∀{a a':List (List DV)} (k:Nat),gg r a a'->gg r (a.set k c) (a'.set k c')
 |[],a',k,h=>by simp only[gg]at h;subst h;exact rfl
 |d::l,[],k,h=>by simp[gg]at h
 |d::l,e::m,0,h=>⟨hc,h.2⟩
 |d::l,e::m,k+1,h=>⟨h.1,jv hc k h.2⟩
theorem qB{r:Nat->Option Rn}{j k n:Nat}(h:r j=some (.to k)):wkDs r [.rf j 0 n] [.rf k 0 n]:=⟨by show wkRf 0 n (r j) (.rf k 0 n);rw[h];exact⟨rfl,rfl,rfl⟩,rfl⟩
theorem an0{r:Nat->Option Rn}{l:List (List DV)}:wkDs r [.fz 3 l] [.fz 3 l]:=⟨⟨rfl,rfl⟩,rfl⟩
theorem ao5{r:Nat->Option Rn}{t:List (List GMark)}{k:Nat}:gg r (dH [.v (.slice none 0 0)] (bk t) k) (dH [.v (.slice none 0 0)] (bk t) k):=oX fun cs hc=>by
 unfold dH at hc;rcases List.mem_append.1 hc with hc|hc
 ·obtain⟨x,_,rfl⟩:=List.mem_map.1 (List.mem_of_mem_take hc);exact⟨⟨rfl,rfl⟩,rfl⟩
 ·rw[(List.mem_replicate.1 hc).2];exact⟨rfl,rfl⟩
def oneR(t:List (List GMark))(i n j:Nat):List (List DV):=(bk t).set i [.rf j 0 n]
end Go.Eng
namespace Go.Proofs.YtmhmahcdanclnaaGreat.V
open Go.Eng
attribute [local go_sem] aS ah fzD plR ba aL aR aC aE ak az aU z8 z16 z32 z64 encMg aN b_
theorem yq(l:List (List GMark))(i:Nat)(hi:i<l.length)(hl:fQ l):Con2 Tryz.prog 319 [.fz 1 (bk l)] (· =⟨.rf 0 0 l.length,[(0,.nst 40 1 (oneR l i l[i].length 1)),(1,.arr 57 3 (l[i].map aL) false)],2⟩):=by
 obtain⟨hl1,hl2⟩:=hl;have hLl:(bk l).length=l.length:=by rw[bk,List.length_map]
 have hge0: ∀k (hk:k<l.length),(bk l)[k]? =some [DV.fz 3 (l[k].map aL)]:=fun k hk=>by rw[bk,List.getElem?_map,List.getElem?_eq_getElem hk];rfl
 have hwk: ∀r k,gg r (dH [.v (.slice none 0 0)] (bk l) k) (dH [.v (.slice none 0 0)] (bk l) k):=fun r k=>ao5
 unfold oneR;obtain⟨nH,hnH⟩: ∃nH:Nat->List (Nat×Row),nH=fun k=>if k<=i then [(0,.nst 40 1 (dH [.v (.slice none 0 0)] (bk l) k))]else [(0,.nst 40 1 ((dH [.v (.slice none 0 0)] (bk l) k).set i [.rf 1 0 l[i].length])),(1,.arr 57 3 (l[i].map aL) false)]:=⟨_,rfl⟩
 have hn1: ∀k,k<=i->nH k=[(0,.nst 40 1 (dH [.v (.slice none 0 0)] (bk l) k))]:=fun k h=>by rw[hnH];exact if_pos h
 have hn2: ∀k,i<k->nH k=[(0,.nst 40 1 ((dH [.v (.slice none 0 0)] (bk l) k).set i [.rf 1 0 l[i].length])),(1,.arr 57 3 (l[i].map aL) false)]:=fun k h=>by rw[hnH];exact if_neg (by omega)
 clear hnH;have hends:(dH [.v (.slice none 0 0)] (bk l) l.length)=bk l:=by rw[<-hLl];exact jw
 generalize bk l=L at hLl hge0 hwk hn1 hn2 hends ⊢;refine en_ Tryz.func319 [.tmp 2] (g2_ ?_);refine gf_ hLl ?_;refine aq l.length (fun k=>[]) (fun _=>[]) nH 2 (fun _=>True) (aa [(0,.to 0)] ?_) trivial (fun g k=>ws_) (by omega) (fun g=>ws_) (fun k hk _=>?_) (fun _=>?_)
 ·rw[hn1 0 (by omega)]
  refine gf_ (c2_ @ox hLl) ?_;exact⟨rfl,rfl,rfl,rfl,rfl⟩
 ·have hk2:k<L.length:=by omega
  have hge:=hge0 k hk;have hge2:L[k]=[DV.fz 3 (l[k].map aL)]:=by rw[List.getElem?_eq_getElem hk2]at hge;exact Option.some.inj hge
  have hps:=js (z:=[.v (.slice none 0 0)]) hk2;rw[hge2]at hps;have hw1:=hwk (rnOf [(0,.to 0)] 2) (k+1);rcases Nat.lt_trichotomy k i with h1|h1|h1
  ·rw[hn1 k (by omega)]
   repeat first|simp-implicitDefEqProofs only[go_sem,ab,hge,cT hk2,cE (Nat.le_of_lt hk2),List.contains_nil]|with_reducible first|refine gl_ ?_|refine ga_ ?_|refine gn_ ?_
   refine ce_ (ic (l[k].map aL) (by rw[List.length_map];have:=hl2 _ (List.getElem_mem hk);omega)) ?_
   repeat first|simp-implicitDefEqProofs only[go_sem,ab,cT hk2,cE (Nat.le_of_lt hk2),List.contains_nil]|with_reducible first|refine gl_ ?_|refine ga_ ?_|refine gn_ ?_
   refine⟨k+1,aa [(0,.to 0)] ?_,rfl⟩;rw[hn1 (k+1) (by omega)]
   refine g2_ ?_;rw[hps];exact hwk _ _
  ·subst h1;rw[hn1 k (by omega)]
   repeat first|simp-implicitDefEqProofs only[go_sem,ab,hge,cT hk2,cE (Nat.le_of_lt hk2),List.contains_nil]|with_reducible first|refine gl_ ?_|refine ga_ ?_|refine gn_ ?_
   refine ce_ (kF (l[k].map aL) (by rw[List.length_map];have:=hl2 _ (List.getElem_mem hk);omega)) ?_
   repeat first|simp-implicitDefEqProofs only[go_sem,ab,cT hk2,cE (Nat.le_of_lt hk2),List.contains_nil]|with_reducible first|refine gl_ ?_|refine ga_ ?_|refine gn_ ?_
   refine⟨k+1,aa [(0,.to 0),(1,.to 2)] ?_,rfl⟩;rw[hn2 (k+1) (by omega)]
   refine g2_ ?_;rw[<-hps,List.set_set];exact jv (qB rfl) k (hwk _ _)
  ·have hgt:((dH [.v (.slice none 0 0)] L k).set i [.rf 1 0 l[i].length])[k]? =some [DV.v (.slice none 0 0)]:=by rw[List.getElem?_set_ne (by omega),cT hk2]
   rw[hn2 k h1]
   repeat first|simp-implicitDefEqProofs only[go_sem,ab,hge,hgt,List.length_set,cE (Nat.le_of_lt hk2),List.contains_nil]|with_reducible first|refine gl_ ?_|refine ga_ ?_|refine gn_ ?_
   refine ce_ (ic (l[k].map aL) (by rw[List.length_map];have:=hl2 _ (List.getElem_mem hk);omega)) ?_
   repeat first|simp-implicitDefEqProofs only[go_sem,ab,hgt,List.length_set,cE (Nat.le_of_lt hk2),List.contains_nil]|with_reducible first|refine gl_ ?_|refine ga_ ?_|refine gn_ ?_
   refine⟨k+1,aa [(0,.to 0),(1,.to 1)] ?_,rfl⟩;rw[hn2 (k+1) (by omega)]
   refine g2_ ?_;rw[List.set_comm _ _ (by omega),hps]
   exact jv (qB rfl) i (hwk _ _)
 ·rw[hn2 l.length hi];refine gf_ hends ?_;refine⟨_,rfl,aa [(0,.to 0),(1,.to 1)] ?_⟩;refine g2_ ?_;have hw1:=hwk (rnOf [(0,.to 0),(1,.to 1)] 2) l.length;rw[hends]at hw1;exact jv (qB rfl) i hw1
theorem sK: ∀(ks:List GMark) (row:List GMark),(ks.foldl iW row).length=row.length
 |[],_=>rfl
 | a::ks,row=>by
  rw[List.foldl_cons,sK ks];unfold iW;split
  ·rfl
  ·split
   ·rw[List.length_set]
   ·rfl
theorem aci{f:FuncId}{args:List DV}{t:List (List GMark)}{i:Nat}{R:List GMark}{n:Nat}(hn:n=R.length)(h:Con2 Tryz.prog f args (· =⟨.rf 0 0 t.length,[(0,.nst 40 1 (oneR t i n 1)),(1,.arr 57 3 (R.map aL) false)],2⟩)):
  Con2 Tryz.prog f args (· =plR (.fz 1 (bk (t.set i R)))):=by
 subst hn
 have h2:=Con2.frz (l':=bk (t.set i R)) [1] h (id:=0) rfl (by
  unfold oneR;have e:bk (t.set i R)=(bk t).set i [.fz 3 (R.map aL)]:=by simp[bk]
  rw[e];refine pN (c:=[.rf 1 0 R.length]) (c':=[.fz 3 (R.map aL)]) ⟨?_,rfl,fun i hi=>hi⟩ i (qc (fun x=>⟨rfl,rfl,rfl⟩) t)
  simp[embDs,embD,rfD,embC,lk,an])
 refine h2.emb ?_ rfl;have hl:(bk (t.set i R)).length=t.length:=by rw[bk,List.length_map,List.length_set]
 have e2:List.take t.length (bk (t.set i R))=bk (t.set i R):=List.take_of_length_le (by rw[hl];exact Nat.le_refl _)
 simp[embD,setH,roHs,roH,lk,rfD,hl,e2]
theorem aej(t:List (List GMark))(m:UInt8)(ks:List GMark)(ht:fQ t)(hk:ks.length<=4000000):Con2 Tryz.prog 255 [.fz 1 (bk t),.v (.int .u8 m.toNat),.fz 3 (ks.map aL)] (· =plR (.fz 1 (bk (cl t m ks)))):=by
 have hm:=m.toNat_lt;have ht1:=ht.1
 by_cases h1:m.toNat<t.length
 case neg=>
  have e:cl t m ks=t:=by unfold cl;rw[List.modify_eq_self (by omega)]
  rw[e];refine Con2.ofEmb ?_;refine en_ Tryz.func255 [.tmp 6] (g2_ ?_);refine g2_ ?_;refine ce_ (t0 t ht) (gf_ @fe ?_);rw[decide_eq_true (show(t.length:Int)<=m.toNat by omega)]
  refine g2_ ?_;refine ae ?_ rfl;refine gf_ @fe ?_;rw[List.take_of_length_le (by rw[fe];exact Nat.le_refl _)]
 have hr1:=ht.2 _ (List.getElem_mem h1);have e:cl t m ks=t.set m.toNat (ks.foldl iW t[m.toNat]):=by unfold cl;rw[gl _ _ h1]
 rw[e];have hc:=yq t m.toNat h1 ht
 have hog:(oneR t m.toNat t[m.toNat].length 1)[m.toNat]? =some [.rf 1 0 t[m.toNat].length]:=by
  unfold oneR;rw[List.getElem?_set_self (by rw[fe];exact h1)]
 have hol:(oneR t m.toNat t[m.toNat].length 1).length=t.length:=by unfold oneR;rw[List.length_set,fe]
 have how: ∀r:Nat->Option Rn,r 1=some (.to 1)->gg r (oneR t m.toNat t[m.toNat].length 1) (oneR t m.toNat t[m.toNat].length 1):=fun r hr=>by
  unfold oneR;exact jv (qB hr) _ (af_ (fun x=>an0) t)
 have hosh:(oneR t m.toNat t[m.toNat].length 1).map (shDs 0)=oneR t m.toNat t[m.toNat].length 1:=by
  unfold oneR;rw[List.map_set,show shDs 0 [.rf 1 0 t[m.toNat].length]=[.rf 1 0 t[m.toNat].length]from rfl]
  congr 1
  unfold bk;rw[List.map_map];rfl
 obtain⟨R,hR⟩: ∃R:Nat->List GMark,R=fun k=>(ks.take k).foldl iW t[m.toNat]:=⟨_,rfl⟩
 have hR0:R 0=t[m.toNat]:=by rw[hR];rfl
 have hRe:R ks.length=ks.foldl iW t[m.toNat]:=by rw[hR];simp only;rw[List.take_length]
 have hRl: ∀k,(R k).length=t[m.toNat].length:=fun k=>by rw[hR];exact sK _ _
 have hRn: ∀k (hk:k<ks.length),R (k+1)=iW (R k) ks[k]:=fun k hk=>by
  rw[hR];simp only;rw[List.take_add_one,List.getElem?_eq_getElem hk,Option.toList_some,List.foldl_append];rfl
 rw[<-hRe];refine aci (i:=m.toNat) (R:=R ks.length) (n:=t[m.toNat].length) (hRl _).symm ?_;clear hR hRe e;generalize t[m.toNat].length=n at hc hog hol how hosh hRl hr1;generalize oneR t m.toNat n 1=O at hc hog hol how hosh;rw[<-hR0]at hc;refine en_ Tryz.func255 [.tmp 6] (g2_ ?_);refine g2_ ?_;refine ce_ hc (gf_ hosh ?_);rw[decide_eq_false (show ¬(t.length:Int)<=m.toNat by omega)]
 refine gg_ hog hol ?_;refine aq ks.length (fun k=>[]) (fun _=>[]) (fun k=>[(0,.nst 40 1 O),(1,.arr 57 3 ((R k).map aL) false)]) 2 (fun _=>True) (aa [] ?_) trivial (fun g k=>ws_) (by omega) (fun g=>ws_) (fun k hk2 _=>?_) (fun _=>?_)
 ·refine g2_ ?_;exact⟨rfl,how _ rfl⟩
 ·have h5:=hRl k;have h6:=hRn k hk2;have h7:=ks[k].node.toNat_lt;generalize R k=A at h5 h6;subst h5;unfold iW at h6;refine gf_ (mE_ hk2) ?_;refine .inl ⟨[oF 0,oF 3,oF 1,oF 4,oF 2,oF 5,oF 6,oF 7,oF 8,oF 9,oF 10,oF 11,oF 12,oF 13,oF 14],by kernel_rfl,g2_ ?_⟩
  by_cases g1:ks[k].node.toNat<A.length
  case neg=>
   rw[decide_eq_false (show ¬(ks[k].node.toNat:Int)<(A.length:Int)by omega)]
   rw[List.getElem?_eq_none (by omega)]at h6
   simp only at h6;refine g2_ ?_;refine⟨k+1,aa [] ?_,rfl⟩;rw[h6];refine g2_ ?_;exact how _ rfl
  rw[decide_eq_true (show(ks[k].node.toNat:Int)<(A.length:Int)by omega)]
  rw[List.getElem?_eq_getElem g1]at h6;simp only at h6;have kn:=rl ks[k] A[ks[k].node.toNat];refine gf_ (c2_ (mE_ hk2) (mE_ g1)) ?_;refine ce_ kn (g2_ ?_);cases g2:nn ks[k] A[ks[k].node.toNat]with
  |false=>
   rw[if_neg (by rw[g2];simp)]at h6
   refine g2_ ?_;refine⟨k+1,aa [] ?_,rfl⟩;rw[h6];refine g2_ ?_;exact how _ rfl
  |true=>
   rw[if_pos g2]at h6;refine gf_ (mE_ g1) ?_;refine⟨k+1,aa [] ?_,rfl⟩;rw[h6];refine x0_ ?_;exact how _ rfl
 ·refine g2_ ?_;refine⟨_,rfl,aa [] ?_⟩;refine g2_ ?_;exact how _ rfl
end Go.Proofs.YtmhmahcdanclnaaGreat.V
namespace Go.Proofs.YtmhmahcdanclnaaGreat.V
open Go.Eng
attribute [local go_sem] aS ah fzD plR ba aL aR aC aE ak az aU z8 z16 z32 z64
