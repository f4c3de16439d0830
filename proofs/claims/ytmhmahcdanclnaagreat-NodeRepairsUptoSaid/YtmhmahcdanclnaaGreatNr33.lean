import Derived.Test.YtmhmahcdanclnaaGreatNr31
import Derived.Test.YtmhmahcdanclnaaGreatNr32
import Derived.Sort.AssemblyPlain
set_option linter.unusedSectionVars false
set_option linter.unusedSimpArgs false
set_option linter.unusedVariables false
set_option maxRecDepth 10000
set_option maxHeartbeats 40000000
namespace Go.Proofs.YtmhmahcdanclnaaGreat.V
open Go.Eng
def bQ(c:an)(p:af):af:=
 let w:=gF p.wait
 { p with view:=if w.2.2=true then bK (cf p.view) w.2.1 else cf p.view,near:=cf p.near,ring:=i7 p.ring,table:=gi p.table p.node c.suspect,wait:=w.1 }
def dy(c:an)(p:af)(dr:List UInt32):af×List aF:=
 let a:=jg p.view (pSelf p) c.swap dr
 if p.wait.some=false/\a.2.2=true then ({ p with wait:=wStart a.1 2 a.2.1 },[{ pMsg p 3 a.1 with list:=a.2.1 }])else (p,[])
def gD(c:an)(dr:List UInt32):UInt32:=if 0<=c.swap/\c.swap<(dr.length:Int)then dr.getD c.swap.toNat 0 else 0
def mu(c:an)(p:af)(dr:List UInt32)(links:List UInt8):List aF:=
 if links=[]then []else [{ pMsg p 5 (links.getD ((gD c dr).toNat % links.length) 0)with list:=dM p.near (pSelf p) }]
def jb(p:af):List aF:=if p.ring.hs=true then [{ pMsg p 6 p.ring.succ.node with list:=[pSelf p] }]else []
def aaR(p:af)(d:GDesc):aF:={ pMsg p 8 d.node with table:=p.table }
def pTick(c:an)(p:af)(dr:List UInt32)(L:List UInt8):af×List aF:=
 let q:=dy c (ay c (bQ c p) []) dr
 (q.1,((q.2++mu c q.1 dr L)++jb q.1)++(aR q.1.ring).map (aaR q.1))
theorem wW(d:GDesc):d.older.filter=d.filter:=by
 unfold GDesc.older;split<;>rfl
theorem lI{d:GDesc}(h:okF d):okF d.older:=by
 unfold okF;rw[wW];exact h
theorem jz{l:List GDesc}{d:GDesc}(h:d∈cf l): ∃e∈l,d=e.older:=by
 obtain⟨e,h1,h2⟩:=List.mem_map.1 h;exact⟨e,h1,h2.symm⟩
theorem mM{l:List GDesc}(h:ck l):ck (cf l):=⟨by rw[cf,List.length_map];exact h.1,fun d hd=>by
 obtain⟨e,h1,rfl⟩:=jz hd
 rw[wW];exact h.2 e h1⟩
theorem aa1{c:an}{p:af}(hp:okG p)(hw:ok8 p.wait.sent):okG (bQ c p):=by
 have hv: ∀d∈cf p.view,okF d:=fun d hd=>by
  obtain⟨e,h1,rfl⟩:=jz hd;exact lI (hp.view e h1)
 have hn: ∀d∈cf p.near,okF d:=fun d hd=>by
  obtain⟨e,h1,rfl⟩:=jz hd;exact lI (hp.near e h1)
 have hv2: ∀d∈(bQ c p).view,okF d:=fun d hd=>by
  unfold bQ at hd;simp only at hd;split at hd
  ·exact hv d (List.mem_filter.1 hd).1
  ·exact hv d hd
 have hv3:(bQ c p).view.length<=4000000:=by
  have h1:=(mM hp.ok.view).1;unfold bQ;simp only;split
  ·exact Nat.le_trans (List.length_filter_le _ _) h1
  ·exact h1
 have hs:okF (i7 p.ring).succ:=by
  unfold i7;simp only;split
  ·exact lI hp.succ
  ·exact wq
 have hpr:okF (i7 p.ring).pred:=by
  unfold i7;simp only;split
  ·exact lI hp.pred
  ·exact wq
 have hwt:ck (gF p.wait).1.sent:=by
  unfold gF;split
  ·split
   ·exact⟨Nat.zero_le _,fun d hd=>by cases hd⟩
   ·exact hw.toDs
  ·exact⟨Nat.zero_le _,fun d hd=>by cases hd⟩
 have ht:(gi p.table p.node c.suspect).length=p.table.length:=by simp[gi]
 exact⟨⟨hp.ok.filter,⟨hv3,fun d hd=>(hv2 d hd).1⟩,mM hp.ok.near,hs.1,hpr.1,hwt,by show(gi p.table p.node c.suspect).length<=4000000;rw[ht];exact hp.ok.table,hp.ok.heard,hp.ok.rows,hp.ok.reports,hp.ok.evs,hp.ok.pulls⟩,
  hp.filter,hv2,hn,hs,hpr,by show(gi p.table p.node c.suspect).length<=12;rw[ht];exact hp.table⟩
theorem ajv{p:af}(h:okP p){w:GW}(hw:ck w.sent):okP { p with wait:=w }:=
 ⟨h.filter,h.view,h.near,h.succ,h.pred,hw,h.table,h.heard,h.rows,h.reports,h.evs,h.pulls⟩
theorem ahX{l:List GDesc}{d:GDesc}(hl:l.length<=4000000/\ ∀d∈l,d.filter.length<=4000000)(hd:d.filter.length<=4000000)(hl9:l.length<=3900000:=by omega):ck (dM l d):=by
 refine⟨?_,fun x hx=>?_⟩
 ·simp only[dM,List.length_append,List.length_cons,List.length_take,List.length_drop];omega
 ·simp only[dM,List.mem_append,List.mem_cons]at hx;rcases hx with h|h|h
  ·exact hl.2 x (List.mem_of_mem_take h)
  ·rw[h];exact hd
  ·exact hl.2 x (List.mem_of_mem_drop h)
def zMc:List DV:=[.v (.int .u8 0),.v (.int .u8 0),.v (.int .u16 0),.v (.int .u8 0),.v (.slice none 0 0),.v (.slice none 0 0),.v (.int .u8 0),.v (.int .u16 0),.v (.int .u32 0),.v (.slice none 0 0),.v (.slice none 0 0),.v (.int .u8 0),.v (.int .u8 0),.v (.int .u16 0),.v (.int .u32 0),.v (.slice none 0 0),.v (.slice none 0 0)]
attribute [local go_sem] zDesc aQ ah fzD plR a_ aN aP aD aB ak aE aU z8 z16 z32 z64 encMg ba bP iD List.map_cons List.map_nil
end Go.Proofs.YtmhmahcdanclnaaGreat.V
namespace Go.Eng
def asa(e sz:Nat)(l:List (List DV))(a':DV)(n:Nat)(r:Res):Prop:= ∃k a,r.d= .tup [a,.rf k 0 n]/\lk r.H k=some (.arr e sz l false)/\wk1 a' (embD r.H a)/\fR a=true/\k∉idsD r.H a
theorem Con2.keepT{P:Program}{f:FuncId}{args:List DV}{e sz n:Nat}{l:List (List DV)}{a':DV}(h:Con2 P f args (asa e sz l a' n)):Con2 P f args (· =⟨.tup [a',.rf 0 0 n],[(0,.arr e sz l false)],1⟩):=by
 intro u vs hv;obtain⟨hb,hc⟩:=h u vs hv;refine⟨hb,fun w hu=>(hc w hu).mono ?_⟩
 rintro e' w' ⟨r,u',h1,h2,h3,⟨d2,H2,nx2⟩,⟨k,a,rfl,hk,he,hp,hni⟩,β,us,s,hr,hs⟩
 obtain⟨us',g1,g2,g3⟩:=hr.ros (idsD H2 a);have h0:=hr.slot 0;rw[hs]at h0;obtain⟨w0,e0,V,rfl,va,V1,rfl,hva,vr,V2,rfl,hvr,hV2⟩: ∃w,SV.v r= .v w/\HV us (.tup [a,.rf k 0 n]) β w:=h0;cases e0;obtain rfl:V2=[]:=hV2;have hrow:=(g2.row k (.arr e sz l false) ((pB _ hni).trans hk)).2;cases hd1:embD H2 a with
 |none=>rw[hd1]at he;exact he.elim
 |some d1=>
 rw[hd1]at he;have h4:=fX (H:=H2) g1 a d1 va g3 (.inl hp) hva hd1;have h5:HV us' a' noB va:=gT (us:=us') (β:=noB) a' d1 va he h4;have hfin:HVs us' [a',.rf 0 0 n] (fun id=>if id=0 then β k else .no) [va,vr]:=⟨va,[vr],rfl,HV.mono (Sub.refl _) a' noB _ (aca _) va h5,vr,[],rfl,hvr,rfl⟩
 refine⟨_,u',h1,h2,h3,_,rfl,fun id=>if id=0 then β k else .no,us',⟨[(0,.v (.tuple #[va,vr]))],[]⟩,⟨⟨hr.base.1.trans g1,hr.base.2.trans g1⟩,g2.sub,fun t=>?_,fun k=>rfl,fun id r hr=>?_,fun id hi=>?_,fun id hi=>absurd hi (Nat.not_lt_zero _),Nat.zero_le _,fun i j ri rj b hij hi hj=>?_⟩,rfl⟩
 ·show HS us' _ ((lk [(0,DSV.d (.tup [a',.rf 0 0 n]))] t).getD DSV.unk) ((lk [(0,SV.v (.tuple #[va,vr]))] t).getD SV.unk)
  by_cases e:0=t
  ·subst e;exact⟨_,rfl,_,rfl,hfin⟩
  ·rw[aj e];trivial
 ·have hr:lk [(0,Row.arr e sz l false)] id=some r:=hr
  by_cases e:0=id
  ·subst e;rw[ax]at hr;cases hr;exact⟨Nat.zero_lt_one,hrow⟩
  ·rw[aj e]at hr;cases hr
 ·have hi:1<=id:=hi;exact if_neg (by omega)
 ·have hi:lk [(0,Row.arr e sz l false)] i=some ri:=hi;have hj:lk [(0,Row.arr e sz l false)] j=some rj:=hj
  by_cases e1:0=i
  ·subst e1;rw[aj hij]at hj;cases hj
  ·rw[aj e1]at hi;cases hi
end Go.Eng
namespace Go.Proofs.YtmhmahcdanclnaaGreat.V
open Go.Eng
attribute [local go_sem] zDesc aQ ah fzD plR a_ aN aP aD aB ak aE aU z8 z16 z32 z64 encMg ba bP iD List.map_cons List.map_nil
theorem ak3(c:an)(p:af)(dr:List UInt32)(L:List UInt8)(hc:c.schema.length<=4)(hcs: ∀s∈c.schema,okS s)(hp:okH p)(hu:p.up=true)(hsw:c.swap<=9223372036854775807)(hdr:dr.length<=4000000)(hws:ok8 p.wait.sent)
  (hL:Con2 Tryz.prog 91 [.agg (ak (dy c (ay c (bQ c p) []) dr).1)] (· =plR (.fz 1 (L.map aC)))) (hLn:L.length<=4000000)
  (hsent:ok8 (jg (ay c (bQ c p) []).view (pSelf (ay c (bQ c p) [])) c.swap dr).2.1) (v8:ok8 (ay c (bQ c p) []).view) (f8:p.filter.length<=8):
  Con2 Tryz.prog 96 [.agg (aB c),.agg (ak p),.fz 1 (dr.map aI)] (· =⟨.tup [.agg (ak (pTick c p dr L).1),.rf 0 0 (pTick c p dr L).2.length],[(0,.arr 60 17 ((pTick c p dr L).2.map encMg) false)],1⟩):=by
 refine Con2.keepT ?_;have k0:=bE p hp.ok;have k1:Con2 Tryz.prog 170 [fzD p.view] (· =plR (fzD (cf p.view))):=iX (pn p.view hp.ok.view)
 have k2:Con2 Tryz.prog 170 [fzD p.near] (· =plR (fzD (cf p.near))):=iX (pn p.near hp.ok.near)
 have k3:=acR p.ring hp.ok.succ hp.ok.pred;have k4:=af9 p.table p.node c.suspect (by have:=hp.g.table;omega)
 have k5:=aqq p.wait hws;have kd:Con2 Tryz.prog 174 [fzD (cf p.view),.v (.int .u8 (gF p.wait).2.1.toNat)] (· =plR (fzD (bK (cf p.view) (gF p.wait).2.1))):=iX (qT (cf p.view) (zu hp.vw).2 _ (mM hp.ok.view))
 have hg2:=aa1 (c:=c) hp.g hws;have k6:=cx c (bQ c p) [] hc hcs hg2 ⟨by simp,by simp⟩ (by simp)
 have hg3:=jw (c:=c) (l:=[]) hg2 ⟨by simp,by simp⟩ (by simp)
 have hn9:(ay c (bQ c p) []).near.length<=3900000:=Nat.le_trans vm (Nat.le_trans ((qI (c:=c) hg2 (l:=[]) ⟨by simp,by simp⟩ (by simp)).1.u _).2 (by omega))
 have hf8:(pSelf (ay c (bQ c p) [])).filter.length<=8:=f8;have k21:=bk [] ⟨by simp,by simp⟩
 have k21b:=dY [] (by simp)
 have hT1:(pTick c p dr L).1=(dy c (ay c (bQ c p) []) dr).1:=rfl;rw[hT1];clear hT1;generalize hR1:(pTick c p dr L).2=R;unfold pTick at hR1;generalize hq:ay c (bQ c p) []=q at *;simp only at hR1;generalize hpa:bQ c p=pa at k6 hq hg2;refine ev_ Tryz.func96 [.cell 6 49,.tmp 7] ?_;refine Vc2.sq (g2_ ?_);refine Vc2.sq (g2_ ?_);refine cw_ k0 (g2_ ?_);refine Vc2.sq (g2_ ?_);rw[hu];refine g2_ ?_;refine Vc2.sq (g2_ ?_);refine cw_ k1 (g2_ ?_);refine Vc2.sq (g2_ ?_);refine cw_ k2 (g2_ ?_);refine Vc2.sq (g2_ ?_);refine cw_ k3 (g2_ ?_);refine Vc2.sq (g2_ ?_);refine cw_ k4 (g2_ ?_);refine Vc2.sq (g2_ ?_);refine cw_ k5 (g2_ ?_);refine Vc2.sq (g2_ ?_);refine Vc2.seqJ (γ:=Unit) (fun _=>⟨[(2,.d (.fz 1 (dr.map aI))),(3,.loc 3 0),(4,.loc 4 0),(6,.loc 6 0),(7,.d (.v (.slice none 0 0)))],[(3,⟨aB c,26⟩),(4,⟨ak pa,49⟩),(6,⟨zPc,49⟩)],[],0,0⟩) (fun _=>True) ?_ (fun _ _=>?_)
 ·refine g2_ ?_;cases hov:(gF p.wait).2.2 with
  | false=>
   have hag:pa={ p with view:=cf p.view,near:=cf p.near,ring:=i7 p.ring,table:=gi p.table p.node c.suspect,wait:=(gF p.wait).1 }:=by
    rw[<-hpa];unfold bQ;simp only[hov,Bool.false_eq_true,if_false]
   refine g2_ ?_;refine⟨(),aa [] ?_⟩
   repeat first|simp-implicitDefEqProofs only[go_sem,ab,hag,hu,zPc]|with_reducible refine gl_ ?_
   first|done|rfl|exact⟨rfl,rfl⟩
  | true=>
   have hag:pa={ p with view:=bK (cf p.view) (gF p.wait).2.1,near:=cf p.near,ring:=i7 p.ring,table:=gi p.table p.node c.suspect,wait:=(gF p.wait).1 }:=by
    rw[<-hpa];unfold bQ;simp only[hov,if_true]
   refine g2_ ?_;refine cw_ kd (g2_ ?_);refine⟨(),aa [] ?_⟩
   repeat first|simp-implicitDefEqProofs only[go_sem,ab,hag,hu,zPc]|with_reducible refine gl_ ?_
   first|done|rfl|exact⟨rfl,rfl⟩
 obtain⟨q2,hq2⟩: ∃q2,q2=(dy c q dr).1:=⟨_,rfl⟩;obtain⟨S1,hS1⟩: ∃S1,S1=(dy c q dr).2:=⟨_,rfl⟩;rw[<-hq2]at hL hR1 ⊢;rw[<-hS1]at hR1
 have hg4:okP q2:=by
  rw[hq2];unfold dy;simp only;split
  ·exact ajv hg3.ok hsent.toDs
  ·exact hg3.ok
 have hn9:q2.near.length<=3900000:=by
  rw[hq2];unfold dy;simp only;split
  ·exact hn9
  ·exact hn9
 have htb:q2.table.length<=12:=by
  rw[hq2];unfold dy;simp only;split
  ·exact hg3.table
  ·exact hg3.table
 have hS1l:S1.length<=1:=by
  rw[hS1];unfold dy;simp only;split<;>simp
 refine Vc2.sq (g2_ ?_);refine .inl ⟨[oF 0,oF 1,oF 2,oF 4,oT 3,oF 5,oF 6,oF 7],by kernel_rfl,g2_ ?_⟩
 refine cw_ k6 (g2_ ?_)
 refine Vc2.seqJ (γ:=Bool) (fun g=>match g with
  |true=>⟨[(11,.d (.pt 0 0)),(6,.loc 6 0),(7,.d (.v (.slice none 0 0)))],[(6,⟨zPc,49⟩)],[(1,.arr 60 17 (S1.map encMg) false),(0,.var 203 (aB c++(ak q2++(zMc++[.fz 1 (dr.map aI),.v (.bool false),.rf 1 0 S1.length]))))],2,0⟩
  |false=>⟨[(11,.loc 64 0),(6,.loc 6 0),(7,.d (.v (.slice none 0 0)))],[(64,⟨(aB c++(ak q2++(zMc++[.fz 1 (dr.map aI),.v (.bool false),.v (.slice none 0 0)]))),203⟩),(6,⟨zPc,49⟩)],[],0,0⟩) (fun g=>g=true\/S1=[]) ?_ (fun g hg=>?_)
 ·refine g2_ ?_;cases hw3:q.wait.some with
  |true=>
   have e:dy c q dr=(q,[]):=by unfold dy;rw[hw3];simp
   rw[e]at hq2 hS1;simp only at hq2 hS1;refine g2_ ?_;refine⟨false,aa [] ?_,.inr hS1⟩
   repeat first|simp-implicitDefEqProofs only[go_sem,ab,hq2,hw3,zMc,zPc]|with_reducible refine gl_ ?_
   first|done|rfl|exact⟨rfl,rfl⟩
  | false=>
   have k7:=gU q hg3.ok;have k8:=asB q.view (pSelf q) c.swap dr v8 hf8 hdr hsw;generalize hca:jg q.view (pSelf q) c.swap dr=a at k8 hsent;obtain⟨to,sent,ok⟩:=a;simp only at k8 hsent
   have hkq:dy c q dr=if ok=true then ({ q with wait:=wStart to 2 sent },[{ pMsg q 3 to with list:=sent }])else (q,[]):=by
    unfold dy;rw[hca,hw3];simp
   rw[hkq]at hq2 hS1;refine g2_ ?_;refine im_ Tryz.func175 [] (g2_ ?_);refine g2_ ?_;refine .inl ⟨[oF 0,oF 5,oF 10,oF 15,oF 1,oF 6,oF 11,oF 16,oF 2,oF 7,oF 12,oF 17,oF 3,oF 8,oF 13,oF 18,oF 4,oF 14,oT 9,oF 19,oF 20,oF 21,oF 22,oF 23,oF 24,oF 25,oF 26],by kernel_rfl,g2_ ?_⟩
   refine cx_ k7 (wf_ hw3) (g2_ ?_);refine cx_ k8 (wf_ hw3) (g2_ ?_);cases ok with
   |false=>
    rw[if_neg (by decide)]at hq2 hS1
    simp only at hq2 hS1;refine g2_ ?_;rw[hq2,hS1];refine⟨true,aa [(1,.nil 17),(0,.to 0)] ?_,.inl rfl⟩
    repeat first|simp-implicitDefEqProofs only[go_sem,ab,hw3,List.length_nil,List.map_nil,zMc,zPc,List.append_eq,List.cons_append,List.nil_append]|with_reducible refine gl_ ?_
    first|done|rfl|exact⟨rfl,rfl⟩
   |true=>
    rw[if_pos rfl]at hq2 hS1;simp only at hq2 hS1;have k9:=apl to 2 sent hsent;have k10:Con2 Tryz.prog 80 [.agg (ak { q with wait:=wStart to 2 sent }),.v (.int .u8 (UInt8.toNat 3)),.v (.int .u8 to.toNat)] (· =plR (.agg (encMg (pMsg q 3 to)))):=gm { q with wait:=wStart to 2 sent } 3 to
    have k11:=bk sent hsent.toDs;have hM1t:(pMsg q 3 to).table=[]:=rfl;generalize pMsg q 3 to=M1 at k10 hS1 hM1t;refine g2_ ?_;refine cw_ k9 (g2_ ?_);refine im_ Tryz.func177 [] (g2_ ?_);refine g2_ ?_;refine cw_ k10 (g2_ ?_);refine cw_ k11 (g2_ ?_);refine cw_ k21b (g2_ ?_);refine .inl ⟨[oF 0,oF 1,oF 5,oF 2,oF 3,oF 4,oT 6,oF 7,oF 8,oF 9,oF 10],by kernel_rfl,gx_ ?_⟩
    rw[hq2,hS1];refine⟨true,aa [(1,.to 2),(0,.to 0)] ?_,.inl rfl⟩
    repeat first|simp-implicitDefEqProofs only[go_sem,ab,hw3,hM1t,List.length_cons,List.length_nil,zMc,zPc,List.append_eq,List.cons_append,List.nil_append]|with_reducible refine gl_ ?_
    first|done|rfl|exact⟨rfl,rfl⟩
 clear hq2 hS1;have k13:=gU q2 hg4;have k14:=oL q2.near (pSelf q2) hg4.near hg4.filter;have k16:=bk (dM q2.near (pSelf q2)) (ahX hg4.near hg4.filter hn9);have k17:=bk [pSelf q2] ⟨by simp,fun d hd=>by rw[List.mem_singleton.1 hd];exact hg4.filter⟩
 have k19:=ju q2.ring hg4.succ hg4.pred;have hrl:=fM q2.ring;have k15: ∀to2:UInt8,Con2 Tryz.prog 80 [.agg (ak q2),.v (.int .u8 (UInt8.toNat 5)),.v (.int .u8 to2.toNat)] (· =plR (.agg (encMg (pMsg q2 5 to2)))):=fun to2=>gm q2 5 to2
 have k18:Con2 Tryz.prog 80 [.agg (ak q2),.v (.int .u8 (UInt8.toNat 6)),.v (.int .u8 q2.ring.succ.node.toNat)] (· =plR (.agg (encMg (pMsg q2 6 q2.ring.succ.node)))):=gm q2 6 q2.ring.succ.node
 have k20: ∀d:GDesc,Con2 Tryz.prog 80 [.agg (ak q2),.v (.int .u8 (UInt8.toNat 8)),.v (.int .u8 d.node.toNat)] (· =plR (.agg (encMg (pMsg q2 8 d.node)))):=fun d=>gm q2 8 d.node
 have k22:=dY (q2.table.map aP) (by rw[List.length_map];omega)
 obtain⟨S2,hS2⟩: ∃S2,S2=S1++mu c q2 dr L:=⟨_,rfl⟩;have hR0:(S2++jb q2)++(aR q2.ring).map (aaR q2)=R:=by rw[hS2];exact hR1
 have hS2l:S2.length<=11:=by
  rw[hS2,List.length_append];have:(mu c q2 dr L).length<=1:=by unfold mu;split<;>simp
  omega
 generalize aR q2.ring=B at k19 hrl hR0;refine Vc2.seqJ (γ:=Unit) (fun _=>⟨[(11,.d (.pt 0 0)),(6,.loc 6 0),(7,.d (.v (.slice none 0 0)))],[(6,⟨zPc,49⟩)],[(1,.arr 60 17 (S2.map encMg) false),(0,.var 203 (aB c++(ak q2++(zMc++[.fz 1 (dr.map aI),.v (.bool false),.rf 1 0 S2.length]))))],2,0⟩) (fun _=>True) ?_ (fun _ _=>?_)
 ·cases g;simp only at hg ⊢;have hg:=hg.resolve_left (by decide)
  repeat first|simp-implicitDefEqProofs only[go_sem,ab,zMc,zPc,List.append_eq,List.cons_append,List.nil_append]|with_reducible first|refine gl_ ?_|refine ga_ ?_|refine gn_ ?_
  refine il_ Tryz.func176 [] ?_;refine Vc2.sq (g2_ ?_);refine cw_ hL (gx_ ?_);refine Vc2.sq (gx_ ?_)
  by_cases hLe:L=[]
  ·have hS2e:S2=S1:=by rw[hS2,mu,if_pos hLe,List.append_nil]
   rw[show((L.length:Int)==0)=true by rw[hLe];rfl]
   refine g2_ ?_;rw[hS2e]
   first
    |(refine⟨(),aa [(1,.nil 17),(0,.to 0)] ?_⟩;(focus (repeat first|simp-implicitDefEqProofs only[go_sem,ab,hg,List.map_nil,List.length_nil,zMc,zPc,List.append_eq,List.cons_append,List.nil_append]|with_reducible refine gl_ ?_;done)))
  have hLp:0<L.length:=List.length_pos_iff.2 hLe;rw[show((L.length:Int)==0)=false from beq_eq_false_iff_ne.2 (by omega)]
  refine g2_ ?_;refine Vc2.sq (g2_ ?_);refine Vc2.seqJ (γ:=Unit) (fun _=>⟨[(0,.d (.pt 0 0)),(2,.d (.fz 1 (L.map aC))),(3,.d (.v (.int .u32 (gD c dr).toNat)))],[],[(0,.var 203 (aB c++(ak q2++(zMc++[.fz 1 (dr.map aI),.v (.bool false),.v (.slice none 0 0)]))))],1,1⟩) (fun _=>True) ?_ (fun _ _=>Vc2.of ?_)
  rotate_left 2
  simp only
  repeat first|simp-implicitDefEqProofs only[go_sem,ab,zMc,zPc,List.append_eq,List.cons_append,List.nil_append]|with_reducible first|refine gl_ ?_|refine ga_ ?_|refine gn_ ?_
  refine il_ Tryz.func176 [] ?_;refine Vc2.sq (g2_ ?_);refine cw_ hL (gx_ ?_);refine Vc2.sq (gx_ ?_)
  by_cases hLe:L=[]
  ·have hS2e:S2=S1:=by rw[hS2,mu,if_pos hLe,List.append_nil]
   rw[show((L.length:Int)==0)=true by rw[hLe];rfl]
   refine g2_ ?_;rw[hS2e]
   first
    |(refine⟨(),aa [(1,.to 1),(0,.to 0)] ?_⟩;(focus (repeat first|simp-implicitDefEqProofs only[go_sem,ab,zMc,zPc,List.append_eq,List.cons_append,List.nil_append]|with_reducible refine gl_ ?_;done)))
  have hLp:0<L.length:=List.length_pos_iff.2 hLe;rw[show((L.length:Int)==0)=false from beq_eq_false_iff_ne.2 (by omega)]
  refine g2_ ?_;refine Vc2.sq (g2_ ?_);refine Vc2.seqJ (γ:=Unit) (fun _=>⟨[(0,.d (.pt 0 0)),(2,.d (.fz 1 (L.map aC))),(3,.d (.v (.int .u32 (gD c dr).toNat)))],[],[(1,.arr 60 17 (S1.map encMg) false),(0,.var 203 (aB c++(ak q2++(zMc++[.fz 1 (dr.map aI),.v (.bool false),.rf 1 0 S1.length]))))],2,2⟩) (fun _=>True) ?_ (fun _ _=>Vc2.of ?_)
  any_goals
   refine g2_ ?_;refine .inl ⟨[oF 0,oF 1,oF 2,oF 3,oF 4,oF 5,oF 6,oF 7,oF 12,oF 8,oF 13,oF 9,oF 14,oF 10,oF 15,oF 11,oF 16,oF 17,oF 18],by kernel_rfl,g2_ ?_⟩
   by_cases h0:0<=c.swap
   ·rw[show decide (0<=c.swap)=true from decide_eq_true h0]
    refine gx_ ?_
    by_cases h1:c.swap<(dr.length:Int)
    ·obtain⟨sw,hsw2⟩: ∃sw:Nat,c.swap=sw:=⟨c.swap.toNat,by omega⟩
     have hswl:sw<dr.length:=by omega
     have hdg:(dr.map aI)[sw]? =some [.v (.int .u32 dr[sw].toNat)]:=by rw[List.getElem?_map,List.getElem?_eq_getElem hswl];rfl
     have hkd:gD c dr=dr[sw]:=by
      rw[gD,if_pos ⟨h0,h1⟩,hsw2,Int.toNat_natCast,List.getD_eq_getElem?_getD,List.getElem?_eq_getElem hswl];rfl
     rw[show decide (c.swap<(dr.length:Int))=true from decide_eq_true h1]
     refine g2_ ?_;refine .inl ⟨[oF 0,oF 4,oF 1,oF 5,oF 2,oF 6,oF 3,oF 7,oF 8,oF 9,oF 10,oF 11],by kernel_rfl,?_⟩
     refine gg_ hsw2 hdg ?_;refine⟨(),aa [] ?_⟩
     repeat first|simp-implicitDefEqProofs only[go_sem,ab,hkd,hsw2,zMc,zPc,List.append_eq,List.cons_append,List.nil_append]|with_reducible refine gl_ ?_
     first|done|rfl|exact⟨rfl,rfl⟩
    ·have hkd:gD c dr=0:=by rw[gD,if_neg (fun h=>h1 h.2)]
     rw[show decide (c.swap<(dr.length:Int))=false from decide_eq_false h1]
     refine g2_ ?_;refine⟨(),aa [] ?_⟩
     repeat first|simp-implicitDefEqProofs only[go_sem,ab,hkd,zMc,zPc,List.append_eq,List.cons_append,List.nil_append]|with_reducible refine gl_ ?_
     first|done|rfl|exact⟨rfl,rfl⟩
   ·have hkd:gD c dr=0:=by rw[gD,if_neg (fun h=>h0 h.1)]
    rw[show decide (0<=c.swap)=false from decide_eq_false h0]
    refine gx_ ?_;refine⟨(),aa [] ?_⟩
    repeat first|simp-implicitDefEqProofs only[go_sem,ab,hkd,zMc,zPc,List.append_eq,List.cons_append,List.nil_append]|with_reducible refine gl_ ?_
    first|done|rfl|exact⟨rfl,rfl⟩
   done
  all_goals
   generalize hkd:gD c dr=dw;have hmod:dw.toNat % L.length<L.length:=Nat.mod_lt _ hLp
   have hlg:(L.map aC)[dw.toNat % L.length]? =some [.v (.int .u8 (L.getD (dw.toNat % L.length) 0).toNat)]:=by
    rw[List.getElem?_map,List.getD_eq_getElem?_getD,List.getElem?_eq_getElem hmod];rfl
   have hkt:mu c q2 dr L=[{ pMsg q2 5 (L.getD (dw.toNat % L.length) 0)with list:=dM q2.near (pSelf q2) }]:=by
    rw[mu,if_neg hLe,hkd]
   have hd32:=dw.toNat_lt
   repeat first|simp-implicitDefEqProofs only[go_sem,ab,zMc,zPc,List.append_eq,List.cons_append,List.nil_append]|with_reducible first|refine gl_ ?_|refine ga_ ?_|refine gn_ ?_
   rw[nU (a:=dw.toNat) (b:=L.length) rfl rfl hLp];refine gf_ hlg ?_;generalize L.getD (dw.toNat % L.length) 0=to2 at hlg hkt ⊢;have hS2m:S2.map encMg=S1.map encMg++[encMg { pMsg q2 5 to2 with list:=dM q2.near (pSelf q2) }]:=by rw[hS2,hkt,List.map_append];rfl
   have hS2e:S2.length=S1.length+1:=by rw[hS2,hkt,List.length_append];rfl
   have kk:=k15 to2;have hM2t:(pMsg q2 5 to2).table=[]:=rfl;generalize pMsg q2 5 to2=M2 at kk hS2m hM2t;refine .inl ⟨[oF 0,oF 1,oF 2,oF 7,oF 3,oF 8,oF 4,oF 9,oF 5,oF 10,oF 6,oT 11,oF 12,oF 13],by kernel_rfl,g2_ ?_⟩
   refine cw_ k13 (g2_ ?_);refine cx_ k14 (by simp-implicitDefEqProofs only[go_sem,ab,pSelf]) (g2_ ?_)
   refine im_ Tryz.func177 [] (g2_ ?_);refine g2_ ?_;refine cw_ kk (g2_ ?_);refine cw_ k16 (g2_ ?_);refine cw_ k21b (g2_ ?_);refine .inl ⟨[oF 0,oF 1,oF 5,oF 2,oF 3,oF 4,oT 6,oF 7,oF 8,oF 9,oF 10],by kernel_rfl,gx_ ?_⟩
  ·refine⟨(),aa [(1,.to 3),(0,.to 0)] ?_⟩
   repeat first|simp-implicitDefEqProofs only[go_sem,ab,hS2m,hS2e,hM2t,pSelf,List.length_append,zMc,zPc,List.append_eq,List.cons_append,List.nil_append]|with_reducible refine gl_ ?_
   first|done|rfl|exact⟨rfl,rfl⟩
  ·refine⟨(),aa [(1,.to 2),(0,.to 0)] ?_⟩
   repeat first|simp-implicitDefEqProofs only[go_sem,ab,hS2m,hS2e,hM2t,hg,List.map_nil,List.length_nil,pSelf,List.length_append,zMc,zPc,List.append_eq,List.cons_append,List.nil_append]|with_reducible refine gl_ ?_
   first|done|rfl|exact⟨rfl,rfl⟩
 obtain⟨S3,hS3⟩: ∃S3,S3=S2++jb q2:=⟨_,rfl⟩;have hR:S3++B.map (aaR q2)=R:=by rw[hS3];exact hR0
 have hS3l:S3.length<=12:=by
  rw[hS3,List.length_append];have:(jb q2).length<=1:=by unfold jb;split<;>simp
  omega
 refine Vc2.seqJ (γ:=Unit) (fun _=>⟨[(11,.d (.pt 0 0)),(6,.loc 6 0),(7,.d (.v (.slice none 0 0)))],[(6,⟨zPc,49⟩)],[(1,.arr 60 17 (S3.map encMg) false),(0,.var 203 (aB c++(ak q2++(zMc++[.fz 1 (dr.map aI),.v (.bool false),.rf 1 0 S3.length]))))],2,0⟩) (fun _=>True) ?_ (fun _ _=>?_)
 ·repeat first|simp-implicitDefEqProofs only[go_sem,ab,zMc,zPc,List.append_eq,List.cons_append,List.nil_append]|with_reducible first|refine gl_ ?_|refine ga_ ?_|refine gn_ ?_
  cases hs2:q2.ring.hs with
  |false=>
   have e:S3=S2:=by rw[hS3,jb,if_neg (by rw[hs2];decide),List.append_nil]
   refine g2_ ?_;rw[e];refine⟨(),aa [(1,.to 1),(0,.to 0)] ?_⟩
   repeat first|simp-implicitDefEqProofs only[go_sem,ab,hs2,zMc,zPc,List.append_eq,List.cons_append,List.nil_append]|with_reducible refine gl_ ?_
   first|done|rfl|exact⟨rfl,rfl⟩
  |true=>
   have hS3m:S3.map encMg=S2.map encMg++[encMg { pMsg q2 6 q2.ring.succ.node with list:=[pSelf q2] }]:=by rw[hS3,jb,if_pos hs2,List.map_append];rfl
   have hS3e:S3.length=S2.length+1:=by rw[hS3,jb,if_pos hs2,List.length_append];rfl
   have hM3t:(pMsg q2 6 q2.ring.succ.node).table=[]:=rfl;generalize pMsg q2 6 q2.ring.succ.node=M3 at k18 hS3m hM3t;refine g2_ ?_;refine .inl ⟨[oF 0,oF 1,oF 8,oF 2,oF 9,oF 3,oF 10,oF 4,oF 11,oF 5,oF 6,oF 7,oT 12,oT 13,oF 14],by kernel_rfl,g2_ ?_⟩
   refine cx_ k13 (wf_ hs2) (g2_ ?_);refine im_ Tryz.func177 [] (g2_ ?_);refine g2_ ?_;refine cx_ k18 (by simp-implicitDefEqProofs only[go_sem,ab,hs2,pSelf]) (g2_ ?_)
   refine cx_ k17 (by simp-implicitDefEqProofs only[go_sem,ab,hs2,pSelf]) (g2_ ?_)
   refine cw_ k21b (g2_ ?_);refine .inl ⟨[oF 0,oF 1,oF 5,oF 2,oF 3,oF 4,oT 6,oF 7,oF 8,oF 9,oF 10],by kernel_rfl,gx_ ?_⟩
   refine⟨(),aa [(1,.to 4),(0,.to 0)] ?_⟩
   repeat first|simp-implicitDefEqProofs only[go_sem,ab,hS3m,hS3e,hM3t,hs2,pSelf,zMc,zPc,List.append_eq,List.cons_append,List.nil_append]|with_reducible refine gl_ ?_
   first|done|rfl|exact⟨rfl,rfl⟩
 clear hS3;obtain⟨SA,hSA⟩: ∃SA:Nat->List aF,SA=fun k=>S3++(B.take k).map (aaR q2):=⟨_,rfl⟩
 have hS0:SA 0=S3:=by rw[hSA];simp
 have hSn: ∀k (hk:k<B.length),SA (k+1)=SA k++[aaR q2 B[k]]:=fun k hk=>by
  rw[hSA];simp only;rw[List.take_add_one,List.getElem?_eq_getElem hk,List.map_append, <-List.append_assoc];rfl
 have hSl: ∀k,(SA k).length<=20:=fun k=>by
  rw[hSA];simp only[List.length_append,List.length_map,List.length_take];omega
 have hSe:SA B.length=R:=by
  rw[hSA, <-hR];show _++(B.take B.length).map _=_;rw[List.take_of_length_le (Nat.le_refl _)]
 refine Vc2.of ?_
 repeat first|simp-implicitDefEqProofs only[go_sem,ab,zMc,zPc,List.append_eq,List.cons_append,List.nil_append]|with_reducible first|refine gl_ ?_|refine ga_ ?_|refine gn_ ?_
 refine cw_ k19 (gx_ ?_);refine abV B.length ([(103,.d (.v (.int .i64 B.length))),(102,.d (.fz 4 (B.map ah)))]++[(11,.d (.pt 0 0)),(6,.loc 6 0),(7,.d (.v (.slice none 0 0)))]) (fun k=>[]) (fun _=>[(6,⟨zPc,49⟩)]) (fun k=>[(1,.arr 60 17 ((SA k).map encMg) false),(0,.var 203 (aB c++(ak q2++(zMc++[.fz 1 (dr.map aI),.v (.bool false),.rf 1 0 (SA k).length]))))]) 2 (fun _=>True) (aa [(1,.to 1),(0,.to 0)] ?_) trivial (fun g k=>by first|rfl|(repeat first|simp-implicitDefEqProofs only[go_sem,ab]|with_reducible refine gl_ ?_)) (by omega) (fun g=>ws_) (fun k hk _=>?_) (fun _=>?_)
 ·repeat first|simp-implicitDefEqProofs only[go_sem,ab,hS0,zMc,zPc,List.append_eq,List.cons_append,List.nil_append]|with_reducible refine gl_ ?_
  first|done|rfl|exact⟨rfl,rfl⟩
 ·have hAl:=hSl k;have kk:=k20 B[k];have hsl:(SA (k+1)).length=(SA k).length+1:=by rw[hSn k hk];simp
  have hsm:(SA (k+1)).map encMg=(SA k).map encMg++[encMg { pMsg q2 8 B[k].node with table:=q2.table }]:=by rw[hSn k hk,List.map_append,List.map_cons,List.map_nil];rfl
  repeat first|simp-implicitDefEqProofs only[go_sem,ab,aZ hk,zMc,zPc,List.append_eq,List.cons_append,List.nil_append]|with_reducible first|refine gl_ ?_|refine ga_ ?_|refine gn_ ?_
  generalize B[k]=d at kk hsm;have hM4:(pMsg q2 8 d.node).list=[]:=rfl;generalize pMsg q2 8 d.node=M4 at kk hsm hM4;refine .inl ⟨[oF 0,oF 1,oF 3,oF 2,oF 4,oF 5,oF 6,oF 7,oF 8],by kernel_rfl,g2_ ?_⟩
  refine im_ Tryz.func177 [] (g2_ ?_);refine g2_ ?_;refine cw_ kk (g2_ ?_);refine cw_ k21 (g2_ ?_);refine cw_ k22 (g2_ ?_);refine .inl ⟨[oF 0,oF 1,oF 5,oF 2,oF 3,oF 4,oT 6,oF 7,oF 8,oF 9,oF 10],by kernel_rfl,gx_ ?_⟩
  refine⟨k+1,aa [(1,.to 3),(0,.to 0)] ?_,rfl⟩
  repeat first|simp-implicitDefEqProofs only[go_sem,ab,hsm,hsl,hM4,zMc,zPc,List.append_eq,List.cons_append,List.nil_append]|with_reducible refine gl_ ?_
  first|done|rfl|exact⟨rfl,rfl⟩
 ·rw[hSe]
  repeat first|simp-implicitDefEqProofs only[go_sem,ab,zPc,zMc,zPc,List.append_eq,List.cons_append,List.nil_append]|with_reducible first|refine gl_ ?_|refine ga_ ?_|refine gn_ ?_
  refine .inr (.inr (.inl ⟨[oF 0,oF 4,oF 1,oF 5,oF 2,oF 6,oF 3,oF 7,oT 8,oF 9],[6],by kernel_rfl,g2_ ?_⟩))
  refine⟨⟨_,_,_⟩,⟨1,_,rfl,rfl,?_,rfl,?_⟩,gx _⟩
  ·exact ws_
  ·intro h;cases h
end Go.Proofs.YtmhmahcdanclnaaGreat.V
namespace Go.Eng
def ltU(a b:UInt8):Bool:=decide (a<b)
def h_(acc:List UInt8)(x:UInt8):List UInt8:=if acc.getLast? =some x then acc else acc++[x]
def dd(l:List UInt8):List UInt8:=l.foldl h_ []
theorem lQ{l:List UInt8}{j:Nat}(h:j<l.length):dd (l.take (j+1))=h_ (dd (l.take j)) l[j]:=by
 rw[dd,List.take_add_one,List.getElem?_eq_getElem h,List.foldl_append];rfl
theorem vi{l:List UInt8}: ∀{j:Nat} (h:j<l.length),(dd (l.take (j+1))).getLast? =some l[j]:=by grind [lQ,h_]
theorem qO(l:List UInt8): ∀j,(dd (l.take j)).length<=j
 |0=>by simp[dd]
 | j+1=>by
  have ih:=qO l j
  by_cases h:j<l.length
  ·rw[lQ h,h_];split
   ·omega
   ·rw[List.length_append];simp;omega
  ·rw[List.take_of_length_le (by omega)]at ih⊢
   omega
theorem afM{l:List UInt8}{j:Nat}(h:j+1<l.length)(he:l[j+1]=l[j]):dd (l.take (j+1+1))=dd (l.take (j+1)):=by grind [lQ,h_,vi]
theorem yq{l:List UInt8}{j:Nat}(h:j+1<l.length)(he:l[j+1]≠l[j]):dd (l.take (j+1+1))=dd (l.take (j+1))++[l[j+1]]:=by grind [lQ,h_,vi]
def iG(l:List UInt8)(j:Nat):List UInt8:=dd (l.take j)++l.drop (dd (l.take j)).length
theorem alL{l:List UInt8}{j:Nat}(h:j<=l.length):(iG l j).length=l.length:=by grind [qO,iG,List.length_append,List.length_drop]
theorem xJ{l:List UInt8}{j i:Nat}(h1:(dd (l.take j)).length<=i):(iG l j)[i]? =l[i]?:=by grind [iG]
theorem ake{l:List UInt8}{j:Nat}(h:j+1<l.length)(he:l[j+1]≠l[j])(hc:(dd (l.take (j+1))).length<l.length):(iG l (j+1)).set (dd (l.take (j+1))).length l[j+1]=iG l (j+1+1):=by
 rw[iG,iG,yq h he];generalize dd (l.take (j+1))=C at hc;rw[List.set_append_right _ _ (Nat.le_refl _),Nat.sub_self,List.drop_eq_getElem_cons hc,List.set_cons_zero,List.append_assoc,List.length_append];rfl
def bF(p:af):List UInt8:=[p.view,p.near,aR p.ring].flatten.map (·.node)
def aH(p:af):List UInt8:=dd (aS ltU (bF p))
def asF(e sz:Nat)(l:List (List DV))(n:Nat)(r:Res):Prop:= ∃k,r.d= .rf k 0 n/\lk r.H k=some (.arr e sz l false)
theorem Con2.own{P:Program}{f:FuncId}{args:List DV}{e sz n:Nat}{l:List (List DV)}(h:Con2 P f args (asF e sz l n)):Con2 P f args (· =⟨.rf 0 0 n,[(0,.arr e sz l false)],1⟩):=by
 intro u vs hv;obtain⟨hb,hc⟩:=h u vs hv;refine⟨hb,fun w hu=>(hc w hu).mono ?_⟩
 rintro e' w' ⟨r,u',h1,h2,h3,⟨d2,H2,nx2⟩,⟨k,rfl,hk⟩,β,us,s,hr,hs⟩
 have h0:=hr.slot 0;rw[hs]at h0;obtain⟨w0,e0,hv⟩: ∃w,SV.v r= .v w/\HV us (.rf k 0 n) β w:=h0;cases e0;have hrow:=(hr.row k _ hk).2;have hfin:HV us (.rf 0 0 n) (fun id=>if id=0 then β k else .no) r:=hv
 refine⟨_,u',h1,h2,h3,_,rfl,fun id=>if id=0 then β k else .no,us,⟨[(0,.v r)],[]⟩,⟨hr.base,hr.sub,fun t=>?_,fun k=>rfl,fun id r hr=>?_,fun id hi=>?_,fun id hi=>absurd hi (Nat.not_lt_zero _),Nat.zero_le _,fun i j ri rj b hij hi hj=>?_⟩,rfl⟩
 ·show HS us _ ((lk [(0,DSV.d (.rf 0 0 n))] t).getD DSV.unk) ((lk [(0,SV.v r)] t).getD SV.unk)
  by_cases e:0=t
  ·subst e;exact⟨_,rfl,hfin⟩
  ·rw[aj e];trivial
 ·have hr:lk [(0,Row.arr e sz l false)] id=some r:=hr
  by_cases e:0=id
  ·subst e;rw[ax]at hr;cases hr;exact⟨Nat.zero_lt_one,hrow⟩
  ·rw[aj e]at hr;cases hr
 ·have hi:1<=id:=hi;exact if_neg (by omega)
 ·have hi:lk [(0,Row.arr e sz l false)] i=some ri:=hi;have hj:lk [(0,Row.arr e sz l false)] j=some rj:=hj
  by_cases e1:0=i
  ·subst e1;rw[aj hij]at hj;cases hj
  ·rw[aj e1]at hi;cases hi
end Go.Eng
namespace Go.Proofs.YtmhmahcdanclnaaGreat.V
open Go.Eng
attribute [local go_sem] zDesc aQ ah fzD plR a_ aN aP aD aB ak aE aU z8 z16 z32 z64 c00 encMg ba bP List.map_cons List.map_nil aC
@[local go_sem] theorem as0:aa_ Tryz.prog 5=true:=by kernel_rfl
theorem ah8(a b:Nat):Con2 Tryz.prog 340 [.v (.int .u8 a),.v (.int .u8 b)] (· =plR (.v (.bool (decide ((a:Int)<(b:Int)))))):=by
 refine en_ Tryz.func340 [.tmp 4] (g2_ ?_);refine g2_ ?_;refine ce_ (qU a) (g2_ ?_);exact⟨_,rfl,aa [] ws_⟩
theorem eO(a b:UInt8):Con2 Tryz.prog 340 [.v (.int .u8 a.toNat),.v (.int .u8 b.toNat)] (· =plR (.v (.bool (decide ((a.toNat:Int)<(b.toNat:Int)))))):=ah8 a.toNat b.toNat
theorem am3(l:List UInt8)(hl:l.length<=1000){L0:List (List DV)}{ρ σ nb K}(hk:K (.rf 1 0 (dd l).length) ⟨ρ,σ,[(1,.arr 5 1 ((dd l).map aC) false),(0,.arr 32 1 L0 false)],2,nb⟩):
  CallS Tryz.prog false 167 [.rf 1 0 l.length] ⟨ρ,σ,[(1,.arr 5 1 (l.map aC) false),(0,.arr 32 1 L0 false)],2,nb⟩ K:=by
 refine im_ Tryz.func167 [.tmp 2] (g2_ ?_);refine g2_ ?_
 by_cases h2:(l.length:Int)<2
 ·have e:dd l=l:=by
   match l,h2 with
   |[],_=>rfl
   |[x],_=>rfl
   |x::y::r,h=>simp at h;omega
  rw[e]at hk;rw[decide_eq_true h2];refine g2_ ?_;exact hk
 rw[decide_eq_false h2];refine g2_ ?_;refine bG (γ:=Nat) (fun j=>[(3,.d (.v (.int .i64 ((j+1:Nat):Int))))]) (fun _=>[]) (fun j=>[(1,.arr 5 1 (l.map aC) false),(0,.arr 32 1 L0 false)]) 2 (fun j=>j+1<=l.length/\dd (l.take (j+1))=l.take (j+1)) (fun j=>l.length-j) 0 (aa [] ?_) ⟨by omega,?_⟩ (fun j hj=>?_)
 ·refine g2_ ?_
  first|done|rfl|exact⟨rfl,rfl⟩
 ·cases l with
  |nil=>simp at h2
  |cons x r=>rfl
 obtain⟨hj1,hj2⟩:=hj;refine g2_ ?_
 by_cases h3:j+1<l.length
 ·rw [decide_eq_true (show((j+1:Nat):Int)<(l.length:Int)by omega)]
  have g1:(l.map aC)[j+1]? =some [.v (.int .u8 l[j+1].toNat)]:=by rw[List.getElem?_map,List.getElem?_eq_getElem h3];rfl
  have g2:(l.map aC)[j]? =some [.v (.int .u8 (l[j]'(by omega)).toNat)]:=by rw[List.getElem?_map,List.getElem?_eq_getElem (by omega)];rfl
  have e1:((j+1:Nat):Int)-1=(j:Nat):=by omega
  refine g2_ ?_;refine .inl ⟨[oF 0,oF 1,oF 4,oF 5,oF 2,oF 6,oF 3,oF 7,oF 8,oF 9],by kernel_rfl,?_⟩
  refine gh_ g1 g2 e1 ?_
  by_cases h4:l[j+1]=l[j]
  ·rw[show((l[j+1].toNat:Int)==(l[j].toNat:Int))=true by rw[h4];exact beq_self_eq_true _]
   refine gx_ ?_;have b0:dd (l.take (j+1+0+1))=l.take (j+1):=(afM h3 h4).trans hj2;have b1:iG l (j+1+0+1)=l:=by rw[iG,b0,List.length_take,Nat.min_eq_left (by omega),List.take_append_drop]
   have b2:(dd (l.take (j+1+0+1))).length=j+1:=by rw[b0,List.length_take];omega
   refine bG (γ:=Nat) (fun k=>[(5,.d (.v (.int .i64 ((k+1:Nat):Int)))),(3,.d (.v (.int .i64 (dd (l.take (j+1+k+1))).length)))]) (fun _=>[]) (fun k=>[(1,.arr 5 1 ((iG l (j+1+k+1)).map aC) false),(0,.arr 32 1 L0 false)]) 2 (fun k=>j+1+k+1<=l.length/\(dd (l.take (j+1+k+1))).length<=j+1+k) (fun k=>l.length-k) 0 (aa [] ?_) ⟨by omega,by rw[b2];omega⟩ (fun k hk2=>?_)
   ·refine gf_ (c2_ b1 b2) ?_
    first|done|rfl|exact⟨rfl,rfl⟩
   obtain⟨hk1,hk3⟩:=hk2;have hRl:((iG l (j+1+k+1)).map aC).length=l.length:=by rw[List.length_map,alL hk1]
   refine g2_ ?_
   by_cases h5:k+1<l.length-(j+1)
   ·rw[decide_eq_true (show((k+1:Nat):Int)<((l.length-(j+1):Nat):Int)by omega)]
    have hq:j+1+k+1<l.length:=by omega
    have g3:((iG l (j+1+k+1)).map aC)[j+1+(k+1)]? =some [.v (.int .u8 l[j+1+k+1].toNat)]:=by rw[List.getElem?_map,xJ (by omega),List.getElem?_eq_getElem (by omega)];rfl
    have g4:((iG l (j+1+k+1)).map aC)[j+1+k]? =some [.v (.int .u8 (l[j+1+k]'(by omega)).toNat)]:=by rw[List.getElem?_map,xJ hk3,List.getElem?_eq_getElem (by omega)];rfl
    have e5:((k+1:Nat):Int)-1=(k:Nat):=by omega
    have hset:l[j+1+k+1]≠l[j+1+k]->((iG l (j+1+k+1)).map aC).set (dd (l.take (j+1+k+1))).length [.v (.int .u8 l[j+1+k+1].toNat)]=(iG l (j+1+k+1+1)).map aC:=fun h=>by
     rw[<-ake hq h (by omega),List.map_set];rfl
    have hcn:l[j+1+k+1]≠l[j+1+k]->(dd (l.take (j+1+k+1+1))).length=(dd (l.take (j+1+k+1))).length+1:=fun h=>by rw[yq hq h,List.length_append];rfl
    have hce:l[j+1+k+1]=l[j+1+k]->dd (l.take (j+1+k+1+1))=dd (l.take (j+1+k+1)):=afM hq;have hcr:l[j+1+k+1]=l[j+1+k]->iG l (j+1+k+1+1)=iG l (j+1+k+1):=fun h=>by rw[iG,iG,hce h]
    refine g2_ ?_;refine .inl ⟨[oF 0,oF 1,oF 4,oF 5,oF 2,oF 6,oF 3,oF 7,oF 8,oF 9],by kernel_rfl,?_⟩
    refine gi_ g3 g4 e5 hRl ?_
    by_cases h6:l[j+1+k+1]=l[j+1+k]
    ·rw[show((l[j+1+k+1].toNat:Int) !=(l[j+1+k].toNat:Int))=false by rw[h6];exact bne_self_eq_false _]
     refine g2_ ?_;refine⟨k+1,aa [] ?_,⟨by omega,by rw[show j+1+(k+1)+1=j+1+k+1+1 by omega,hce h6];omega⟩,by omega⟩
     rw[show j+1+(k+1)+1=j+1+k+1+1 by omega,hce h6,hcr h6]
     refine g2_ ?_;rfl
    ·rw[show((l[j+1+k+1].toNat:Int) !=(l[j+1+k].toNat:Int))=true from bne_iff_ne.2 (fun h=>h6 (UInt8.toNat_inj.1 (by omega)))]
     have hcl:(dd (l.take (j+1+k+1))).length<l.length:=by omega
     have gC:((iG l (j+1+k+1)).map aC)[(dd (l.take (j+1+k+1))).length]? =some [.v (.int .u8 l[(dd (l.take (j+1+k+1))).length].toNat)]:=by rw[List.getElem?_map,xJ (Nat.le_refl _),List.getElem?_eq_getElem hcl];rfl
     have hs6:=hset h6;have hc6:=hcn h6;refine gf_ (c4_ g3 g4 gC (c2_ e5 hRl)) ?_;refine⟨k+1,aa [] ?_,⟨by omega,by rw[show j+1+(k+1)+1=j+1+k+1+1 by omega,hc6];omega⟩,by omega⟩
     rw[show j+1+(k+1)+1=j+1+k+1+1 by omega, <-hs6,hc6]
     refine g2_ ?_;exact⟨rfl,rfl,rfl,rfl⟩
   ·rw[decide_eq_false (show ¬((k+1:Nat):Int)<((l.length-(j+1):Nat):Int)by omega)]
    have eN:l.take (j+1+k+1)=l:=List.take_of_length_le (by omega)
    have eR:(iG l (j+1+k+1)).map aC=(dd l++l.drop (dd l).length).map aC:=by rw[iG,eN]
    have eL:(dd l).length<l.length:=by rw[eN]at hk3;omega
    have eT:List.take (dd l).length ((dd l++l.drop (dd l).length).map aC)=(dd l).map aC:=by rw[<-List.map_take,List.take_left]
    rw[eN,eR];rw[eR]at hRl;refine gf_ hRl ?_;rw[Nat.sub_zero,eT];exact hk
  ·rw[show((l[j+1].toNat:Int)==(l[j].toNat:Int))=false from beq_eq_false_iff_ne.2 (fun h=>h4 (UInt8.toNat_inj.1 (by omega)))]
   refine g2_ ?_;refine⟨j+1,aa [] ?_,⟨by omega,?_⟩,by omega⟩
   ·refine g2_ ?_;rfl
   ·rw[yq h3 h4,hj2];rw[List.take_add_one (i:=j+1),List.getElem?_eq_getElem h3];rfl
 ·rw[decide_eq_false (show ¬((j+1:Nat):Int)<(l.length:Int)by omega)]
  have e:dd l=l:=by
   have:=hj2;rw[List.take_of_length_le (by omega)]at this
   exact this
  rw[e]at hk;refine g2_ ?_;exact hk
theorem uM(p:af)(h1:p.view.length<=300)(h2:p.near.length<=300)(h4:p.ring.succ.filter.length<=4000000)(h5:p.ring.pred.filter.length<=4000000)(h12:(bF p).length<=700)
  (hs: ∀{L0:List (List DV)} {ρ:List (Nat×DSV)} {σ:List (Nat×eF)} {nb:Nat} {K:DV->DS->Prop},K (.tup []) ⟨ρ,σ,[(1,.arr 5 1 ((aS ltU (bF p)).map aC) false),(0,.arr 32 1 L0 false)],2,nb⟩->
   CallS Tryz.prog false 166 [.rf 1 0 (bF p).length] ⟨ρ,σ,[(1,.arr 5 1 ((bF p).map aC) false),(0,.arr 32 1 L0 false)],2,nb⟩ K):Con2 Tryz.prog 91 [.agg (ak p)] (· =⟨.rf 0 0 (aH p).length,[(0,.arr 5 1 ((aH p).map aC) false)],1⟩):=by
 refine Con2.own ?_;have hr:=ju p.ring h4 h5;have hrl:=fM p.ring;have el:bF p=[p.view,p.near,aR p.ring].flatten.map (·.node):=rfl
 unfold aH;generalize aR p.ring=B at hr hrl el;obtain⟨L,hL⟩: ∃L:List (List GDesc),L=[p.view,p.near,B]:=⟨_,rfl⟩;rw[<-hL]at el;have hLl:L.length=3:=by rw[hL];rfl
 have hge: ∀k (hk:k<3),([[fzD p.view],[fzD p.near],[fzD B]]:List (List DV))[k]? =some [fzD (L[k]'(by omega))]:=fun k hk=>by
  subst hL
  match k,hk with
  |0,_=>rfl
  |1,_=>rfl
  |2,_=>rfl
 have hll: ∀k (hk:k<3),(L[k]'(by omega)).length<=300:=fun k hk=>by
  subst hL
  match k,hk with
  |0,_=>exact h1
  |1,_=>exact h2
  |2,_=>exact Nat.le_trans hrl (by omega)
 refine en_ Tryz.func91 [.tmp 2] (g2_ ?_);refine g2_ ?_;refine .inl ⟨[oF 0,oF 2,oF 4,oF 9,oF 1,oF 3,oF 5,oT 6,oF 7,oF 8],by kernel_rfl,g2_ ?_⟩
 refine ce_ hr (g2_ ?_);refine aw 3 (fun k=>[(3,.d (.rf 1 0 ((L.take k).flatten.map (·.node)).length))]) (fun _=>[]) (fun k=>[(1,.arr 5 1 (((L.take k).flatten.map (·.node)).map aC) false),(0,.arr 32 1 [[fzD p.view],[fzD p.near],[fzD B]] false)]) 2 (fun k=>True) (aa [(1,.nil 1),(0,.to 0)] ?_) trivial (fun g k=>by first|rfl|(repeat first|simp-implicitDefEqProofs only[go_sem,ab]|with_reducible refine gl_ ?_)) (by omega) (fun g=>ws_) (fun k hk hF=>?_) (fun hF=>?_)
 ·repeat first|simp-implicitDefEqProofs only[go_sem,ab,List.take_zero,List.flatten_nil]|with_reducible refine gl_ ?_
  first|done|rfl|exact⟨rfl,rfl⟩
 ·have hg:=hge k hk;have hl:=hll k hk;have hsn:(L.take (k+1)).flatten=(L.take k).flatten++L[k]:=by rw[List.take_add_one,List.getElem?_eq_getElem (by omega),List.flatten_append];simp
  generalize L[k]=lk at hg hl hsn
  have hfl:(L.take k).flatten.length<=900:=by
   rw[hL]
   match k,hk with
   |0,_=>simp
   |1,_=>simp;omega
   |2,_=>simp;omega
  simp only[fzD]at hg;refine gf_ hg ?_;refine aw lk.length (fun j=>[(3,.d (.rf 1 0 (((L.take k).flatten++lk.take j).map (·.node)).length))]) (fun _=>[]) (fun j=>[(1,.arr 5 1 ((((L.take k).flatten++lk.take j).map (·.node)).map aC) false),(0,.arr 32 1 [[fzD p.view],[fzD p.near],[fzD B]] false)]) 2 (fun j=>True) (aa [(1,.to 1),(0,.to 0)] ?_) trivial (fun g j=>by first|rfl|(repeat first|simp-implicitDefEqProofs only[go_sem,ab]|with_reducible refine gl_ ?_)) (by omega) (fun g=>ws_) (fun j hj _=>?_) (fun _=>?_)
  ·repeat first|simp-implicitDefEqProofs only[go_sem,ab,List.take_zero,List.append_nil]|with_reducible refine gl_ ?_
   first|done|rfl|exact⟨rfl,rfl⟩
  ·have hs2:(L.take k).flatten++lk.take (j+1)=((L.take k).flatten++lk.take j)++[lk[j]]:=by rw[List.take_add_one,List.getElem?_eq_getElem hj,List.append_assoc];rfl
   have hfl2:((L.take k).flatten++lk.take j).length<=1200:=by rw[List.length_append,List.length_take];omega
   generalize (L.take k).flatten++lk.take j=A at hs2 hfl2;refine gf_ (mE_ hj) ?_;generalize lk[j]=d at hs2;refine gx_ ?_;refine⟨j+1,aa [(1,.to 3),(0,.to 0)] ?_,rfl⟩;exact y1_ hs2
  ·rw[List.take_of_length_le (Nat.le_refl lk.length), <-hsn];refine g2_ ?_;refine⟨k+1,aa [(1,.to 1),(0,.to 0)] ?_,rfl⟩;exact ws_
 ·rw[List.take_of_length_le (show L.length<=3 by omega), <-el]
  refine g2_ ?_;refine hs ?_;have h13:(aS ltU (bF p)).length=(bF p).length:=bY;refine g2_ ?_;rw[<-h13];refine am3 (aS ltU (bF p)) (by omega) ?_
  refine g2_ ?_;exact⟨⟨_,_,_⟩,⟨1,rfl,rfl⟩,gx _⟩
theorem agA(p:af)(h1:p.view.length<=300)(h2:p.near.length<=300)(h4:p.ring.succ.filter.length<=4000000)(h5:p.ring.pred.filter.length<=4000000)(h12:(bF p).length<=700)
  (hs: ∀{L0:List (List DV)} {ρ:List (Nat×DSV)} {σ:List (Nat×eF)} {nb:Nat} {K:DV->DS->Prop},K (.tup []) ⟨ρ,σ,[(1,.arr 5 1 ((aS ltU (bF p)).map aC) false),(0,.arr 32 1 L0 false)],2,nb⟩->
   CallS Tryz.prog false 166 [.rf 1 0 (bF p).length] ⟨ρ,σ,[(1,.arr 5 1 ((bF p).map aC) false),(0,.arr 32 1 L0 false)],2,nb⟩ K):Con2 Tryz.prog 91 [.agg (ak p)] (· =plR (.fz 1 ((aH p).map aC))):=
 Con2.emb (uM p h1 h2 h4 h5 h12 hs) (wf_ @ao) rfl
end Go.Proofs.YtmhmahcdanclnaaGreat.V
namespace Go.Proofs.YtmhmahcdanclnaaGreat.V
open Go.Eng
def plainC(n:Int):an:=⟨n,[⟨0,9⟩],3,2,2,2,3,8,4,3,3,4,60,200,100⟩
theorem xq(c:an)(node:UInt8):okH (aY c node):=by
 have h:=aeV c node;refine⟨⟨h,fun s hs=>absurd (show s∈([]:List GSpan)from hs) List.not_mem_nil,fun d hd=>absurd (show d∈([]:List GDesc)from hd) List.not_mem_nil,fun d hd=>absurd (show d∈([]:List GDesc)from hd) List.not_mem_nil,wq,wq,?_⟩,?_,⟨Nat.zero_le _,fun d hd=>absurd (show d∈([]:List GDesc)from hd) List.not_mem_nil⟩,adX _⟩
 ·simp only[aY,List.length_replicate];omega
 ·refine⟨?_,fun r hr=>?_⟩
  ·simp only[aY,List.length_replicate];omega
  ·simp only[aY,List.mem_replicate]at hr;rw[hr.2,jX];omega
theorem aeK{p:af}(h:okH p){i:UInt16}{b:Bool}{t:List aq}(ht:t.length<=12):okH { p with inc:=i,up:=b,table:=t }:=
 ⟨⟨⟨h.g.ok.filter,h.g.ok.view,h.g.ok.near,h.g.ok.succ,h.g.ok.pred,h.g.ok.sent,by show t.length<=4000000;omega,h.g.ok.heard,h.g.ok.rows,h.g.ok.reports,h.g.ok.evs,h.g.ok.pulls⟩,h.g.filter,h.g.view,h.g.near,h.g.succ,h.g.pred,ht⟩,h.rs,h.v8,h.vw⟩
theorem ahF(c:an)(p:af)(hp:okH p):okH (bc c p).1:=by grind [bc,aeK,xq,List.length_set,aY,List.length_replicate]
attribute [local go_sem] zDesc aQ ah fzD plR a_ aN aP aD aB ak aE aU z8 z16 z32 z64 encMg ba bP iD List.map_cons List.map_nil
theorem ag_(n:Int):Con2 Tryz.prog 104 [.v (.int .i64 n)] (· =plR (.agg (aB (plainC n)))):=by
 refine Con2.ofEmb ?_;refine en_ Tryz.func104 [.cell 2 26] (g2_ ?_);refine g2_ ?_;refine ae ?_ rfl;refine gf_ @plainC.eq_1 ?_;rfl
def gr(dr:List UInt32)(c:an)(p:af)(m:aF):af×List aF:=
 if p.up=false\/m.to≠p.node then (p,[])
 else if m.kind=1 then v9 c p m
 else if m.kind=2 then lp c p m
 else if m.kind=3 then nJ dr c p m
 else if m.kind=4 then lT c p m
 else if m.kind=5\/m.kind=7 then xr c p m
 else if m.kind=6 then yf c p m
 else if m.kind=8 then ae0 c p m
 else if m.kind=9 then sL c p m
 else xf c p m
theorem zk: ∀n:Fin 256,(n.val=1\/n.val=2\/n.val=3\/n.val=4\/n.val=5\/n.val=6\/n.val=7\/n.val=8\/n.val=9)\/lkF fY (UInt8.ofNat n.val)=none:=of_decide_eq_true (by kernel_rfl)
theorem ac4{k:UInt8}(h1:k≠1)(h2:k≠2)(h3:k≠3)(h4:k≠4)(h5:k≠5)(h6:k≠6)(h7:k≠7)(h8:k≠8)(h9:k≠9):lkF fY k=none:=by
 have e: ∀n:Nat,n<256->k.toNat=n->k=UInt8.ofNat n:=fun n hn h=>by rw[<-h];exact(UInt8.ofNat_toNat).symm
 have hk:=k.toNat_lt;rcases zk ⟨k.toNat,hk⟩with h|h
 ·simp only at h;rcases h with h|h|h|h|h|h|h|h|h
  ·exact absurd (e 1 (by omega) h) h1
  ·exact absurd (e 2 (by omega) h) h2
  ·exact absurd (e 3 (by omega) h) h3
  ·exact absurd (e 4 (by omega) h) h4
  ·exact absurd (e 5 (by omega) h) h5
  ·exact absurd (e 6 (by omega) h) h6
  ·exact absurd (e 7 (by omega) h) h7
  ·exact absurd (e 8 (by omega) h) h8
  ·exact absurd (e 9 (by omega) h) h9
 ·have e2:UInt8.ofNat k.toNat=k:=UInt8.ofNat_toNat;simp only at h;rw[e2]at h;exact h
theorem take_all(c:an)(p:af)(m:aF)(dr:List UInt32)(hc:c.schema.length<=4)(hcs: ∀s∈c.schema,okS s)(hp:okH p)(hm:okMg m)(hdr:dr.length<=4000000)(hws:ok8 p.wait.sent):
  Con2 Tryz.prog 83 [.agg (aB c),.agg (ak p),.agg (encMg m),.fz 1 (dr.map aI)] (· =plR (.tup [.agg (ak (gr dr c p m).1),.fz 17 ((gr dr c p m).2.map encMg)])):=by
 unfold gr
 by_cases h0:p.up=false\/m.to≠p.node
 ·rw[if_pos h0];rcases h0 with h|h
  ·exact uL c p m dr hp.ok h
  ·exact apy c p m dr hp.ok h
 rw[if_neg h0]
 have hu:p.up=true:=by
  cases h:p.up with
  |true=>rfl
  |false=>exact absurd (.inl h) h0
 have hto:m.to=p.node:=Classical.byContradiction fun h=>h0 (.inr h)
 by_cases k1:m.kind=1
 ·rw[if_pos k1];exact agz c p m dr hc hcs hp hm hu hto k1
 rw[if_neg k1]
 by_cases k2:m.kind=2
 ·rw[if_pos k2];exact yz c p m dr hc hcs hp hm hu hto k2
 rw[if_neg k2]
 by_cases k3:m.kind=3
 ·rw[if_pos k3];exact ym c p m dr hc hcs hp hm hu hto k3 hdr
 rw[if_neg k3]
 by_cases k4:m.kind=4
 ·rw[if_pos k4];exact uf c p m dr hc hcs hp hm hu hto k4 hws
 rw[if_neg k4]
 by_cases k5:m.kind=5\/m.kind=7
 ·rw[if_pos k5];rcases k5 with k|k
  ·exact wj c p m dr hc hcs hp hm hu hto (.inl k)
  ·exact wj c p m dr hc hcs hp hm hu hto (.inr k)
 rw[if_neg k5]
 by_cases k6:m.kind=6
 ·rw[if_pos k6];exact ad6 c p m dr hc hcs hp hm hu hto k6
 rw[if_neg k6]
 by_cases k8:m.kind=8
 ·rw[if_pos k8];exact ahs c p m dr hc hcs hp hm hu hto k8
 rw[if_neg k8]
 by_cases k9:m.kind=9
 ·rw[if_pos k9];exact acY c p m dr hc hcs hp hm hu hto k9
 rw[if_neg k9];exact ab3 c p m dr hc hcs hp hu hto (ac4 k1 k2 k3 k4 (fun h=>k5 (.inl h)) k6 (fun h=>k5 (.inr h)) k8 k9)
end Go.Proofs.YtmhmahcdanclnaaGreat.V
namespace Go.Proofs.YtmhmahcdanclnaaGreat.V
open Go.Eng
def fK(s:List GSpan)(v:List Int):Bool:=decide (v.length=s.length)&&((List.zip s v).all fun x=>decide (x.1.a<=x.2)&&decide (x.2<=x.1.b))
def dH(f:List GSpan)(v:List Int):Bool:= !f.isEmpty&&fK f v
def cO(s:List GSpan)(e:GEvt):Bool:=
 fK s e.vals&&(decide (e.data.length<=64)&&(decide (e.id.node.toNat<12)&&(decide (1<=e.id.inc.toNat)&&decide (1<=e.id.seq.toNat))))
def jN(c:an)(p:af)(e:GEvt):Bool:=
 if cO c.schema e=false\/c.nodes<=(e.id.node.toNat:Int)\/c.last.toNat<e.id.seq.toNat then false
 else if e.id.node=p.node/\p.inc.toNat<=e.id.inc.toNat then false
 else match p.rows[e.id.node.toNat]? with
  |none=>false
  |some r=>gH r e.id c.window
def fG(x:GID)(a:GAsk):Bool:=decide (a.id.node=x.node)&&decide (a.id.inc.toNat<x.inc.toNat)
def aV(c:an)(p:af)(e:GEvt):af×Bool×Bool:=
  if p.up=false\/jN c p e=false then (p,false,false)
  else ({ p with
      rows:=p.rows.modify e.id.node.toNat fun r=>(cS r e.id c.window).1
      pulls:=(Eng.pDrop p.pulls e.id).filter fun a=> !fG e.id a
      buf:=(dX p.buf e).1
      passed:=if (dX p.buf e).2=52 then p.passed+1 else p.passed },true,dH p.filter e.vals)
def gL(dr:List UInt32)(n:Int):List UInt32:=dr.drop n.toNat
def f_(c:an)(p:af)(e:GEvt)(hops:UInt8)(links:List UInt8)(dr:List UInt32):List aF:=
 (iJ c.fanout.toNat links (gL dr (c.swap+1))).map fun to=>{ pMsg p 10 to with ev:=e,hops:=hops }
def dK(l:List UInt8)(a b:UInt8):List UInt8:=l.filter fun x=> !(decide (x=a)||decide (x=b))
def aT(c :an)(p:af)(vals:List Int)(data:List UInt8)(dr:List UInt32):af×GEvt×Bool×List aF×Int:=
  let e:GEvt:=⟨⟨p.node,p.inc,p.seq+1⟩,vals,data⟩
  if p.up=false then (p,zEvt,false,[],53)
  else if cO c.schema e=false then (p,zEvt,false,[],51)
  else if c.last.toNat<=p.seq.toNat then (p,zEvt,false,[],55)
  else
    let full:=decide (p.buf.room<=(p.buf.evs.length:Int))
    let k:=cF p.buf p.node p.inc
    if full=true/\k.2.2≠0 then (p,zEvt,false,[],k.2.2)
    else
      let b:=dX (if full=true then k.1 else p.buf) e
      if b.2≠0 then (p,zEvt,false,[],b.2)
      else
        let q:af:={ p with
          buf:=b.1
          evicted:=if full=true then p.evicted+1 else p.evicted
          seq:=p.seq+1
          rows:=p.rows.set p.node.toNat ⟨p.inc,p.seq+1,0⟩ }
        (q,e,dH p.filter vals,f_ c q e (UInt8.ofNat (c.hops % 256).toNat) (aH q) dr,0)
def cq(p:af)(x:GID):af:=
 if cG p.reports p.table p.node p.rows x=false then p
 else if (cT p.buf x).2=0 then { p with buf:=(cT p.buf x).1,collected:=p.collected+1 }else p
def lB(p:af):af:=(eIds p.buf.evs).foldl cq p
def dg(p:af)(to:UInt8):aF:=
 { pMsg p 11 to with origin:=⟨p.node,p.inc,p.count⟩,table:=p.table,marks:=iY p.rows,ids:=eIds p.buf.evs,hops:=12 }
def gI(c:an)(p:af)(dr:List UInt32):af×List aF:=
 if p.up=false then (p,[])
 else
  let p1:=lB { p with pulls:=Eng.pTick p.pulls }
  let t:=V.pTick c p1 dr (aH (dy c (ay c (bQ c p1) []) dr).1)
  let q:af:={ t.1 with count:=if t.1.count.toNat<4294967295 then t.1.count+1 else t.1.count }
  (q,t.2++(aH q).map (dg q))
def mn(c:an)(o:UInt8)(s:List GAsk×List GID)(x:GID):List GAsk×List GID:=
 if j4 x c.nodes c.last=false then s
 else if pErr s.1 ⟨x,o,UInt8.ofNat (c.patience % 256).toNat⟩ c.pulls=0 then (pAdd s.1 ⟨x,o,UInt8.ofNat (c.patience % 256).toNat⟩ c.pulls,s.2++[x])else s
def iM(c:an)(p:af)(m:aF):af×List aF:=
 let s:=(dE m.ids p.rows c.window).foldl (mn c m.origin.node) (p.pulls,[])
 ({ p with pulls:=s.1 },if s.2=[]then []else [{ pMsg p 12 m.origin.node with ids:=s.2 }])
def lh(p:af)(m:aF):List aF:=
 (dK (aH p) m.frm m.origin.node).map fun to=>{ pMsg p 11 to with hops:=m.hops-1,origin:=m.origin,table:=m.table,marks:=m.marks,ids:=m.ids }
def bS(c:an)(p:af)(m:aF):af×List aF:=
 if c.nodes<=(m.origin.node.toNat:Int)\/m.origin.node=p.node then (p,[])
 else match p.heard[m.origin.node.toNat]? with
  |none=>(p,[])
  | some k=>
   if jV m.origin { k with node:=m.origin.node }=false then (p,[])
   else if (au c p m.origin.node m.origin.inc).2=false then (p,[])
   else
    let q:=(au c p m.origin.node m.origin.inc).1
    let q1:af:=bu { q with heard:=q.heard.set m.origin.node.toNat m.origin } m.table
    let q2:af:={ q1 with reports:=bZ q1.reports m.origin.node m.marks }
    ((iM c q2 m).1,(iM c q2 m).2++if m.hops=0 then []else lh (iM c q2 m).1 m)
def js(c:an)(p:af)(m:aF)(dr:List UInt32):af×List aF×List GEvt:=
 let a:=aV c p m.ev
 if a.2.1=false then (p,[],[])
 else (a.1,if m.hops=0 then []else f_ c a.1 m.ev (m.hops-1) (dK (aH a.1) m.frm m.ev.id.node) dr,if a.2.2=true then [m.ev]else [])
def ku(p:af)(m:aF):List aF:=
 m.ids.filterMap fun x=>(p.buf.evs.find? fun e=>decide (e.id=x)).map fun e=>{ pMsg p 10 m.frm with ev:=e }
def bA(c:an)(p:af)(m:aF)(dr:List UInt32):af×List aF×List GEvt:=
 if ¬(m.kind=10\/m.kind=11\/m.kind=12)then ((gr dr c p m).1,(gr dr c p m).2,[])
 else if p.up=false\/m.to≠p.node then (p,[],[])
 else if (au c p m.frm m.inc).2=false then ((au c p m.frm m.inc).1,[],[])
 else
  let q:=ay c (au c p m.frm m.inc).1 []
  let r:af×List aF×List GEvt:=
   if m.kind=10 then js c q m dr
   else if m.kind=12 then (q,ku q m,[])
   else ((bS c q m).1,(bS c q m).2,[])
  (ay c r.1 [],r.2.1,r.2.2)
theorem xX(far:UInt16->UInt16->UInt16)(here:UInt16)(dom:List GSpan)(d:GDesc):cZ far here dom [d]=d:=by
 have h0:fx far here dom [d] 0=(0,far here (eu dom d)):=rfl
 have h:fx far here dom [d] 1=(0,far here (eu dom d)):=by
  rw[qP (k:=0) (by simp),h0]
  exact if_neg (by simp)
 show [d].getD (fx far here dom [d] 1).1 zDesc=d;rw[h];rfl
theorem qt{dom:List GSpan}{self d:GDesc}{ls:List (List GDesc)}(h:bl self.node ls=[d]):cj dom self ls=⟨true,true,d,d⟩:=by grind [cj,xX]
theorem aal{dom:List GSpan}{self:GDesc}{ls:List (List GDesc)}(h:bl self.node ls=[]):cj dom self ls=⟨false,false,zDesc,zDesc⟩:=by
 unfold cj;rw[if_pos h]
theorem pw{own:List GSpan}{self:UInt8}{room:Int}{ls:List (List GDesc)}(h:fScored own (bl self ls)=[]):ct own self room ls=[]:=by
 unfold ct;split
 ·rfl
 ·rw[h];simp[aS]
theorem agl{c:an}{p:af}{d:GDesc}(hv:p.view=[d])(hc:ch p d=true)(hn:p.near=[])(hr:p.ring=⟨false,false,zDesc,zDesc⟩)(hu:bl p.node [[d],[],[],[]]=[d])(hs:fScored p.filter [d]=[]):
  ay c p []={ p with view:=[d],near:=[],ring:=⟨true,true,d,d⟩ }:=by
 have e1:pCur p p.view=[d]:=by rw[hv];simp[pCur,hc]
 have e2:pCur p p.near=[]:=by rw[hn];rfl
 have e3:aR (bH p p.ring)=[]:=by rw[hr];rfl
 have e4:pUse c p []=[]:=rfl;have e5:ct p.filter p.node c.near [[d],[],[],[]]=[]:=pw (by rw[hu];exact hs)
 have e6:cj c.schema (pSelf p) [[d],[],[],[]]=⟨true,true,d,d⟩:=qt hu;unfold ay;simp only[e1,e2,e3,e4,e5,e6]
theorem ain{d:GDesc}{self:UInt8}{room:Int}(h1:d.node≠self)(h2:d.inc≠0)(h3:0<room):ey [] d self room=[d]:=by
 have h:dz [] d self room=([d],true):=by
  unfold dz;rw[if_neg (by simp[h1,h2])]
  show(if room<=(0:Int)then _ else _)=_
  rw[if_neg (by omega)];rfl
 unfold ey;rw[h];rfl
theorem fill_one{d:GDesc}{self:UInt8}{room:Int}(h1:d.node≠self)(h2:d.inc≠0)(h3:0<room):eI self room [] [d]=[d]:=by
 have h:dz [] d self room=([d],true):=by
  unfold dz;rw[if_neg (by simp[h1,h2])]
  show(if room<=(0:Int)then _ else _)=_
  rw[if_neg (by omega)];rfl
 rw[eI,h];rfl
structure Tab(c:an)(p:af)(a b:aq):Prop where
 len:(p.table.length:Int)=c.nodes
 a:p.table[0]? =some a
 b:p.table[1]? =some b
theorem rU{c:an}{p:af}{node:UInt8}{inc:UInt16}{m:aq}(h1:(node.toNat:Int)<c.nodes)(hl:(p.table.length:Int)=c.nodes)(h2:node≠p.node)(h3:inc≠0)(hm:p.table[node.toNat]? =some m)(h4: ¬inc<m.inc)(h5: ¬(inc=m.inc/\m.state=3)):
  au c p node inc=({ p with table:=de p.table node inc,reports:=if m.inc<inc then dU p.reports node else p.reports },true):=by grind [au]
theorem jj{l:List aq}{i:UInt8}{inc:UInt16}{k:Nat}:(de l i inc)[k]? =(l[k]?).map (if i.toNat=k then gE inc else id):=by grind [de]
structure Sh(c:an)(p:af)(nd:UInt8)(i:UInt16)(v:List GDesc)(r:eJ)(a b:aq):Prop where
 h:okH p
 node:p.node=nd
 inc:p.inc=i
 up:p.up=true
 filter:p.filter=[]
 view:p.view=v
 near:p.near=[]
 ring:p.ring=r
 tab:Tab c p a b
def zR:eJ:=⟨false,false,zDesc,zDesc⟩
theorem ao5{c:an}(h2:2<=c.nodes)(h12:c.nodes<=12)(nd:UInt8):((aY c nd).table.length:Int)=c.nodes:=by
 simp only[aY,List.length_replicate];omega
theorem aif{l m:List aq}{self:UInt8}{k:Nat}:(dJ l m self)[k]? =(l[k]?).map (mMg m self k):=by
 rw[dJ,List.getElem?_mapIdx]
structure as6(c:an)(A B:af)(M:aF)(P1:af)(W:aF)(Q1:af)(P2:af):Prop where
 a1:bc c (aY c 0)=(A,0)
 a2:A.up=true
 a3:okH A
 b1:bc c (aY c 1)=(B,0)
 b2:B.up=true
 b3:okH B
 m1:iB c B 0=([M],0)
 m2:okMg M
 m3:M.to=A.node
 m4:M.kind=1
 p1:v9 c A M=(P1,[W])
 p2:okH P1
 p3:P1.up=true
 w1:okMg W
 w2:W.to=B.node
 w3:W.kind=2
 q1:lp c B W=(Q1,[])
 q2:okH Q1
 q3:Q1.up=true
 q4:bF Q1=[0,0]
 q5:Q1.node=1
 q6:Q1.inc=1
 q7:Q1.view.length<=300/\Q1.near.length<=300
 e1:okMg (pMsg Q1 9 0)
 e2:(pMsg Q1 9 0).to=P1.node
 r1:sL c P1 (pMsg Q1 9 0)=(P2,[])
 r2:Sh c P2 0 1 [] zR ⟨1,1,0⟩ ⟨1,3,0⟩
end Go.Proofs.YtmhmahcdanclnaaGreat.V
namespace Go.Eng
open Go.Sort
theorem swoU:SWO ltU where
 irrefl x:=by simp[ltU]
 trans x y z:=by simp only[ltU,decide_eq_true_eq];exact UInt8.lt_trans
 ntrans x y z:=by
  simp only[ltU,decide_eq_false_iff_not,UInt8.not_lt];intro h1 h2;exact UInt8.le_trans h2 h1
theorem asX(x y:UInt8)(h1:ltU x y=false)(h2:ltU y x=false):x=y:=by grind [ltU]
def bR(d:Array UInt8):List (List DV):=d.toList.map aC
theorem ajU(d:Array UInt8):(bR d).length=d.size:=by simp[bR]
theorem aW{d:Array UInt8}{i:Nat}(h:i<d.size):(bR d)[i]? =some [.v (.int .u8 d[i]!.toNat)]:=by
 rw[bR,List.getElem?_map,Array.getElem?_toList,Array.getElem?_eq_getElem h,getElem!_pos d i h];rfl
theorem e_{d:Array UInt8}{i:Nat}{x:UInt8}:(bR d).set i [.v (.int .u8 x.toNat)]=bR (d.setIfInBounds i x):=by
 rw[bR,bR,Array.toList_setIfInBounds,List.map_set];rfl
theorem dI{d:Array UInt8}{i j:Nat}{x:UInt8}(h:j<d.size):(bR (d.setIfInBounds i x))[j]? =some [.v (.int .u8 (d.setIfInBounds i x)[j]!.toNat)]:=aW (by simpa using h)
theorem asb(l:List UInt8):l.map aC=bR l.toArray:=rfl
theorem dS{d:Array UInt8}{i j:Nat}:bR ((d.setIfInBounds i d[j]!).setIfInBounds j d[i]!)=bR (swp d i j):=rfl
section
variable {α:Type} {lt:α->α->Bool}
theorem qW{x:α}{P:List α}: ∀j,j<=P.length->dC lt x P j<=j/\(∀i y,dC lt x P j<=i->i<j->P[i]? =some y->lt x y=true)/\(dC lt x P j=0\/ ∃y,P[dC lt x P j-1]? =some y/\lt x y=false)
 |0,_=>⟨Nat.le_refl _,fun i y _ h=>absurd h (Nat.not_lt_zero _),.inl rfl⟩
 | j+1,h=>by
  have hj:j<P.length:=h;cases hc:lt x P[j]with
  |true=>
   rw[ni hj hc];obtain⟨h1,h2,h3⟩:=qW (x:=x) (P:=P) j (by omega)
   refine⟨by omega,fun i y hi hij hy=>?_,h3⟩
   by_cases e:i=j
   ·subst e;rw[List.getElem?_eq_getElem hj]at hy;cases hy;exact hc
   ·exact h2 i y hi (by omega) hy
  |false=>
   rw[mT hj hc];refine⟨Nat.le_refl _,fun i y hi hij=>by omega,.inr ⟨P[j],?_,hc⟩⟩
   rw[Nat.add_sub_cancel,List.getElem?_eq_getElem hj]
abbrev Asc(lt:α->α->Bool)(P:List α):Prop:=P.Pairwise fun a b=>lt b a=false
theorem ajk[Inhabited α](hS:SWO lt){P:List α}{x:α}(h:Asc lt P):Asc lt (kA lt P x):=by
 obtain⟨h1,h2,h3⟩:=qW (lt:=lt) (x:=x) (P:=P) P.length (Nat.le_refl _);rw[kA,cm];generalize dC lt x P P.length=k at h1 h2 h3
 have hd: ∀y∈P.drop k,lt x y=true:=fun y hy=>by
  obtain⟨i,hi,rfl⟩:=List.mem_iff_getElem.1 hy;rw[List.length_drop]at hi;exact h2 (k+i) _ (by omega) (by omega) (by rw[List.getElem_drop];exact List.getElem?_eq_getElem (by omega))
 have ht: ∀y∈P.take k,lt x y=false:=fun y hy=>by
  obtain⟨i,hi,rfl⟩:=List.mem_iff_getElem.1 hy;rw[List.length_take]at hi;rcases h3 with h3|⟨z,hz,h4⟩
  ·omega
  ·obtain⟨hk,rfl⟩:=List.getElem?_eq_some_iff.1 hz;rw[List.getElem_take]
   by_cases e:i=k-1
   ·subst e;exact h4
   ·exact hS.ntrans _ _ _ h4 (List.pairwise_iff_getElem.1 h i (k-1) (by omega) hk (by omega))
 have hasym: ∀y,lt x y=true->lt y x=false:=fun y hy=>by
  cases hc:lt y x with
  |false=>rfl
  |true=>have:=hS.trans x y x hy hc;rw[hS.irrefl]at this;cases this
 refine List.pairwise_append.2 ⟨h.sublist (List.take_sublist _ _),List.pairwise_cons.2 ⟨fun y hy=>hasym y (hd y hy),h.sublist (List.drop_sublist _ _)⟩,fun a ha b hb=>?_⟩
 rcases List.mem_cons.1 hb with rfl|hb
 ·exact ht a ha
 ·have:=(List.take_append_drop k P).symm▸h;exact(List.pairwise_append.1 this).2.2 a ha b hb
theorem wg{P:List α}{x:α}:(kA lt P x).Perm (x::P):=by grind [kA,cm,List.perm_middle,List.take_append_drop]
theorem kE[Inhabited α](hS:SWO lt): ∀(l P:List α),Asc lt P->Asc lt (l.foldl (kA lt) P)/\(l.foldl (kA lt) P).Perm (l++P)
 |[],P,h=>⟨h,List.Perm.refl _⟩
 |x::r,P,h=>by
  obtain⟨h1,h2⟩:=kE hS r (kA lt P x) (ajk hS h);refine⟨h1,h2.trans ?_⟩;have e1:(r++kA lt P x).Perm (r++(x::P)):=(List.Perm.refl r).append wg;exact e1.trans List.perm_middle
theorem sf[Inhabited α](hS:SWO lt)(l:List α):Asc lt (aS lt l):=(kE hS l [] List.Pairwise.nil).1
theorem abr[Inhabited α](hS:SWO lt)(l:List α):(aS lt l).Perm l:=by
 have:=(kE hS l [] List.Pairwise.nil).2
 rwa[List.append_nil]at this
end
def Todo(R:Array UInt8->Prop)(a b:Nat)(d:Array UInt8):Prop:= ∀d',PermIn a b d d'->SortedIn ltU a b d'->R d'
section
variable {R:Array UInt8->Prop} {a b mid:Nat} {d d1 d2:Array UInt8}
theorem Todo.perm(h:Todo R a b d)(hp:PermIn a b d d1):Todo R a b d1:=fun d' h1 h2=>h d' (permIn_trans _ _ _ _ _ hp h1) h2
theorem Todo.done(h:Todo R a b d)(hs:SortedIn ltU a b d):R d:=h d (permIn_refl _ _ _) hs
theorem ab6(l:List UInt8):Todo (fun d=>d.toList=aS ltU l) 0 l.length l.toArray:=by
 have key: ∀d':Array UInt8,PermIn 0 l.length l.toArray d'->SortedIn ltU 0 l.length d'->d'.toList=l.mergeSort (fun x y=> !ltU y x):=fun d' h1 h2=>
  sorted_unique_holds swoU asX l.toArray d' (by simpa using h1) (by simpa using h2)
 intro d' h1 h2;show d'.toList=aS ltU l;rw[key d' h1 h2];refine(key (aS ltU l).toArray ⟨by simp[bY],fun i hi=>?_,?_⟩ fun i j _ hij hj=>?_).symm
 ·have hi:l.length<=i:=by omega
  rw[getElem!_neg _ _ (by simp[bY];omega),getElem!_neg _ _ (by simp;omega)]
 ·have e1:((aS ltU l).toArray.extract 0 l.length).toList=aS ltU l:=by
   simp;rw[List.take_of_length_le (by rw[bY];omega)]
  have e2:(l.toArray.extract 0 l.length).toList=l:=by simp
  rw[e1,e2];exact abr swoU l
 ·have hl:(aS ltU l).length=l.length:=bY;have:=List.pairwise_iff_getElem.1 (sf swoU l) i j (by omega) (by omega) hij
  rw[getElem!_pos _ j (by simp;omega),getElem!_pos _ i (by simp;omega)]
  simpa using this
theorem Todo.right(h:Todo R a b d)(hb:b<=d.size)(h1:a<=mid)(h2:mid<b)(hp:PermIn a b d d1)(hlo: ∀i,a<=i->i<mid->ltU d1[i]! d1[mid]! =true)(hhi: ∀i,mid<i->i<b->ltU d1[i]! d1[mid]! =false)
  (hp2:PermIn a mid d1 d2) (hs2:SortedIn ltU a mid d2):Todo R (mid+1) b d2/\Below ltU (mid+1) b d2:=by
 have z1:d1.size=d.size:=hp.1;have z2:d2.size=d1.size:=hp2.1;refine⟨fun d' g1 g2=>h d' ?_ ?_,.inr fun i hi hib=>?_⟩
 ·exact permIn_trans _ _ _ _ _ hp (permIn_trans _ _ _ _ _ (permIn_mono _ _ _ _ a b (Nat.le_refl _) (by omega) (by omega) hp2) (permIn_mono _ _ _ _ a b (by omega) (Nat.le_refl _) (by omega) g1))
 ·have em:d'[mid]! =d1[mid]!:=(g1.2.1 mid (.inl (by omega))).trans (hp2.2.1 mid (.inr (Nat.le_refl _)))
  refine sorted_glue swoU (mid:=mid) (hs2.congr fun i hi him=>g1.2.1 i (.inl (by omega))) g2 (fun i hi him=>?_) (fun i him hib=>?_)
  ·rw[em,g1.2.1 i (.inl (by omega))]
   exact permIn_all d1 d2 a mid (fun x=>ltU x d1[mid]! =true) (by omega) hp2 hlo i hi him
  ·rw[em];refine permIn_all d2 d' (mid+1) b (fun x=>ltU x d1[mid]! =false) (by omega) g1 (fun j hj hjb=>?_) i (by omega) hib
   rw[hp2.2.1 j (.inr (by omega))]
   exact hhi j (by omega) hjb
 ·rw[Nat.add_sub_cancel,hp2.2.1 i (.inr (by omega)),hp2.2.1 mid (.inr (Nat.le_refl _))]
  exact hhi i (by omega) hib
theorem Todo.left(h:Todo R a b d)(hb:b<=d.size)(h1:a<=mid)(h2:mid<b)(hp:PermIn a b d d1)(hlo: ∀i,a<=i->i<mid->ltU d1[i]! d1[mid]! =true)(hhi: ∀i,mid<i->i<b->ltU d1[i]! d1[mid]! =false)
  (hbl:Below ltU a b d) (hp2:PermIn (mid+1) b d1 d2) (hs2:SortedIn ltU (mid+1) b d2):Todo R a mid d2/\Below ltU a mid d2:=by
 have z1:d1.size=d.size:=hp.1;have z2:d2.size=d1.size:=hp2.1;have hpa:PermIn a b d d2:=permIn_trans _ _ _ _ _ hp (permIn_mono _ _ _ _ a b (by omega) (Nat.le_refl _) (by omega) hp2)
 refine⟨fun d' g1 g2=>h d' ?_ ?_,(hbl.perm hb hpa).mono (by omega)⟩
 ·exact permIn_trans _ _ _ _ _ hpa (permIn_mono _ _ _ _ a b (Nat.le_refl _) (by omega) (by omega) g1)
 ·have em:d'[mid]! =d1[mid]!:=(g1.2.1 mid (.inr (Nat.le_refl _))).trans (hp2.2.1 mid (.inl (by omega)))
  refine sorted_glue swoU (mid:=mid) g2 (hs2.congr fun i hi him=>g1.2.1 i (.inr (by omega))) (fun i hi him=>?_) (fun i him hib=>?_)
  ·rw[em];refine permIn_all d2 d' a mid (fun x=>ltU x d1[mid]! =true) (by omega) g1 (fun j hj hjm=>?_) i hi him
   rw[hp2.2.1 j (.inl (by omega))]
   exact hlo j hj hjm
  ·rw[em,g1.2.1 i (.inr (by omega))]
   exact permIn_all d1 d2 (mid+1) b (fun x=>ltU x d1[mid]! =false) (by omega) hp2 (fun j hj hjb=>hhi j (by omega) hjb) i (by omega) hib
theorem Todo.equal{p:UInt8}(h:Todo R a b d)(hb:b<=d.size)(h1:a<mid)(h2:mid<=b)(hp:PermIn a b d d1)(hlo: ∀i,a<=i->i<mid->ltU p d1[i]! =false)(hhi: ∀i,mid<=i->i<b->ltU p d1[i]! =true)
  (hge: ∀i,a<=i->i<b->ltU d[i]! p=false):Todo R mid b d1/\Below ltU mid b d1:=by
 have z1:d1.size=d.size:=hp.1;have hge1:=permIn_all d d1 a b (fun x=>ltU x p=false) hb hp hge
 refine⟨fun d' g1 g2=>h d' ?_ ?_,.inr fun i hi hib=>?_⟩
 ·exact permIn_trans _ _ _ _ _ hp (permIn_mono _ _ _ _ a b (by omega) (Nat.le_refl _) (by omega) g1)
 ·refine sorted_glue_eq swoU p g2 (fun i hi him=>?_) (fun i hi him=>?_) (fun i him hib=>?_)
  ·rw[g1.2.1 i (.inl (by omega))];exact hlo i hi him
  ·rw[g1.2.1 i (.inl (by omega))];exact hge1 i hi (by omega)
  ·exact permIn_all d1 d' mid b (fun x=>ltU p x=true) (by omega) g1 hhi i him hib
 ·have g1:=hlo (mid-1) (by omega) (by omega)
  have g2:=hhi i hi hib;cases hc:ltU d1[i]! d1[mid-1]! with
  |false=>rfl
  |true=>have:=swoU.trans _ _ _ g2 hc;rw[g1]at this;cases this
