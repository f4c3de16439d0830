import Derived.Test.YthoihfighiolmaaGreatPt34
import Derived.Test.YthoihfighiolmaaGreatPt36
import Derived.Test.YthoihfighiolmaaGreatPt41
import Derived.Sort.AssemblyPlain
set_option linter.unusedSectionVars false
set_option linter.unusedSimpArgs false
set_option linter.unusedVariables false
set_option maxRecDepth 10000
set_option maxHeartbeats 40000000
namespace Go.Proofs.YthoihfighiolmaaGreat.V
open Go.Eng
def aY(c:ar)(p:ah):ah:=
 let w:=cI p.wait
 { p with view:=if w.2.2=true then aD (bf p.view) w.2.1 else bf p.view,near:=bf p.near,ring:=c_ p.ring,table:=fg p.table p.node c.suspect,wait:=w.1 }
def dD(c:ar)(p:ah)(dr:List UInt32):ah×List bo:=
 let a:=dZ p.view (pSelf p) c.swap dr
 if p.wait.some=false/\a.2.2=true then ({ p with wait:=wStart a.1 2 a.2.1 },[{ pMsg p 3 a.1 with list:=a.2.1 }])else (p,[])
def dj(c:ar)(dr:List UInt32):UInt32:=if 0<=c.swap/\c.swap<(dr.length:Int)then dr.getD c.swap.toNat 0 else 0
def f7(c:ar)(p:ah)(dr:List UInt32)(links:List UInt8):List bo:=
 if links=[]then []else [{ pMsg p 5 (links.getD ((dj c dr).toNat % links.length) 0)with list:=bE p.near (pSelf p) }]
def eh(p:ah):List bo:=if p.ring.hs=true then [{ pMsg p 6 p.ring.succ.node with list:=[pSelf p] }]else []
def gz(p:ah)(d:GDesc):bo:={ pMsg p 8 d.node with table:=p.table }
def dq(c:ar)(p:ah)(dr:List UInt32)(L:List UInt8):ah×List bo:=
 let q:=dD c (aJ c (aY c p) []) dr
 (q.1,((q.2++f7 c q.1 dr L)++eh q.1)++(aw q.1.ring).map (gz q.1))
theorem uZ(d:GDesc):d.older.filter=d.filter:=by
 unfold GDesc.older;split<;>rfl
theorem j6{d:GDesc}(h:okF d):okF d.older:=by
 unfold okF;rw[uZ];exact h
theorem gj{l:List GDesc}{d:GDesc}(h:d∈bf l): ∃e∈l,d=e.older:=by
 obtain⟨e,h1,h2⟩:=List.mem_map.1 h;exact⟨e,h1,h2.symm⟩
theorem iO{l:List GDesc}(h:aR l):aR (bf l):=⟨by rw[bf,List.length_map];exact h.1,fun d hd=>by
 obtain⟨e,h1,rfl⟩:=gj hd
 rw[uZ];exact h.2 e h1⟩
theorem pB{c:ar}{p:ah}(hp:okG p)(hw:ok8 p.wait.sent):okG (aY c p):=by
 have hv: ∀d∈bf p.view,okF d:=fun d hd=>by
  obtain⟨e,h1,rfl⟩:=gj hd;exact j6 (hp.view e h1)
 have hn: ∀d∈bf p.near,okF d:=fun d hd=>by
  obtain⟨e,h1,rfl⟩:=gj hd;exact j6 (hp.near e h1)
 have hv2: ∀d∈(aY c p).view,okF d:=fun d hd=>by
  unfold aY at hd;simp only at hd;split at hd
  ·exact hv d (List.mem_filter.1 hd).1
  ·exact hv d hd
 have hv3:(aY c p).view.length<=4000000:=by
  have h1:=(iO hp.ok.view).1;unfold aY;simp only;split
  ·exact Nat.le_trans (List.length_filter_le _ _) h1
  ·exact h1
 have hs:okF (c_ p.ring).succ:=by
  unfold c_;simp only;split
  ·exact j6 hp.succ
  ·exact rG
 have hpr:okF (c_ p.ring).pred:=by
  unfold c_;simp only;split
  ·exact j6 hp.pred
  ·exact rG
 have hwt:aR (cI p.wait).1.sent:=by
  unfold cI;split
  ·split
   ·exact⟨Nat.zero_le _,fun d hd=>by cases hd⟩
   ·exact hw.toDs
  ·exact⟨Nat.zero_le _,fun d hd=>by cases hd⟩
 have ht:(fg p.table p.node c.suspect).length=p.table.length:=by simp[fg]
 exact⟨⟨hp.ok.filter,⟨hv3,fun d hd=>(hv2 d hd).1⟩,iO hp.ok.near,hs.1,hpr.1,hwt,by show(fg p.table p.node c.suspect).length<=4000000;rw[ht];exact hp.ok.table,hp.ok.heard,hp.ok.rows,hp.ok.reports,hp.ok.evs,hp.ok.pulls⟩,
  hp.filter,hv2,hn,hs,hpr,by show(fg p.table p.node c.suspect).length<=12;rw[ht];exact hp.table⟩
theorem qm{p:ah}(h:okP p){w:GW}(hw:aR w.sent):okP { p with wait:=w }:=
 ⟨h.filter,h.view,h.near,h.succ,h.pred,hw,h.table,h.heard,h.rows,h.reports,h.evs,h.pulls⟩
theorem so{l:List GDesc}{d:GDesc}(hl:l.length<=4000000/\ ∀d∈l,d.filter.length<=4000000)(hd:d.filter.length<=4000000)(hl9:l.length<=3900000:=by omega):aR (bE l d):=by
 refine⟨?_,fun x hx=>?_⟩
 ·simp only[bE,List.length_append,List.length_cons,List.length_take,List.length_drop];omega
 ·simp only[bE,List.mem_append,List.mem_cons]at hx;rcases hx with h|h|h
  ·exact hl.2 x (List.mem_of_mem_take h)
  ·rw[h];exact hd
  ·exact hl.2 x (List.mem_of_mem_drop h)
def zMc:List DV:=[.v (.int .u8 0),.v (.int .u8 0),.v (.int .u16 0),.v (.int .u8 0),.v (.slice none 0 0),.v (.slice none 0 0),.v (.int .u8 0),.v (.int .u16 0),.v (.int .u32 0),.v (.slice none 0 0),.v (.slice none 0 0),.v (.int .u8 0),.v (.int .u8 0),.v (.int .u16 0),.v (.int .u32 0),.v (.slice none 0 0),.v (.slice none 0 0)]
attribute [local go_sem] zDesc aP af fzD plR bb a_ aE bj aC ak bk cR z8 z16 z32 z64 encMg aH dE eI List.map_cons List.map_nil
end Go.Proofs.YthoihfighiolmaaGreat.V
namespace Go.Eng
def amq(e sz:Nat)(l:List (List DV))(a':DV)(n:Nat)(r:Res):Prop:= ∃k a,r.d= .tup [a,.rf k 0 n]/\lk r.H k=some (.arr e sz l false)/\wk1 a' (embD r.H a)/\fP a=true/\k∉idsD r.H a
theorem Con2.keepT{P:Program}{f:FuncId}{args:List DV}{e sz n:Nat}{l:List (List DV)}{a':DV}(h:Con2 P f args (amq e sz l a' n)):Con2 P f args (· =⟨.tup [a',.rf 0 0 n],[(0,.arr e sz l false)],1⟩):=by
 intro u vs hv;obtain⟨hb,hc⟩:=h u vs hv;refine⟨hb,fun w hu=>(hc w hu).mono ?_⟩
 rintro e' w' ⟨r,u',h1,h2,h3,⟨d2,H2,nx2⟩,⟨k,a,rfl,hk,he,hp,hni⟩,β,us,s,hr,hs⟩
 obtain⟨us',g1,g2,g3⟩:=hr.ros (idsD H2 a);have h0:=hr.slot 0;rw[hs]at h0;obtain⟨w0,e0,V,rfl,va,V1,rfl,hva,vr,V2,rfl,hvr,hV2⟩: ∃w,SV.v r= .v w/\HV us (.tup [a,.rf k 0 n]) β w:=h0;cases e0;obtain rfl:V2=[]:=hV2;have hrow:=(g2.row k (.arr e sz l false) ((mF _ hni).trans hk)).2;cases hd1:embD H2 a with
 |none=>rw[hd1]at he;exact he.elim
 |some d1=>
 rw[hd1]at he;have h4:=fB (H:=H2) g1 a d1 va g3 (.inl hp) hva hd1;have h5:HV us' a' noB va:=gi (us:=us') (β:=noB) a' d1 va he h4;have hfin:HVs us' [a',.rf 0 0 n] (fun id=>if id=0 then β k else .no) [va,vr]:=⟨va,[vr],rfl,HV.mono (Sub.refl _) a' noB _ (yQ _) va h5,vr,[],rfl,hvr,rfl⟩
 refine⟨_,u',h1,h2,h3,_,rfl,fun id=>if id=0 then β k else .no,us',⟨[(0,.v (.tuple #[va,vr]))],[]⟩,⟨⟨hr.base.1.trans g1,hr.base.2.trans g1⟩,g2.sub,fun t=>?_,fun k=>rfl,fun id r hr=>?_,fun id hi=>?_,fun id hi=>absurd hi (Nat.not_lt_zero _),Nat.zero_le _,fun i j ri rj b hij hi hj=>?_⟩,rfl⟩
 ·show HS us' _ ((lk [(0,DSV.d (.tup [a',.rf 0 0 n]))] t).getD DSV.unk) ((lk [(0,SV.v (.tuple #[va,vr]))] t).getD SV.unk)
  by_cases e:0=t
  ·subst e;exact⟨_,rfl,_,rfl,hfin⟩
  ·rw[aj e];trivial
 ·have hr:lk [(0,Row.arr e sz l false)] id=some r:=hr
  by_cases e:0=id
  ·subst e;rw[au]at hr;cases hr;exact⟨Nat.zero_lt_one,hrow⟩
  ·rw[aj e]at hr;cases hr
 ·have hi:1<=id:=hi;exact if_neg (by omega)
 ·have hi:lk [(0,Row.arr e sz l false)] i=some ri:=hi;have hj:lk [(0,Row.arr e sz l false)] j=some rj:=hj
  by_cases e1:0=i
  ·subst e1;rw[aj hij]at hj;cases hj
  ·rw[aj e1]at hi;cases hi
end Go.Eng
namespace Go.Proofs.YthoihfighiolmaaGreat.V
open Go.Eng
attribute [local go_sem] zDesc aP af fzD plR bb a_ aE bj aC ak bk cR z8 z16 z32 z64 encMg aH dE eI List.map_cons List.map_nil
theorem agG(c:ar)(p:ah)(dr:List UInt32)(L:List UInt8)(hc:c.schema.length<=4)(hcs: ∀s∈c.schema,okS s)(hp:okH p)(hu:p.up=true)(hsw:c.swap<=9223372036854775807)(hdr:dr.length<=4000000)(hws:ok8 p.wait.sent)
  (hL:Con2 Tryz.prog 21 [.agg (ak (dD c (aJ c (aY c p) []) dr).1)] (· =plR (.fz 1 (L.map aQ)))) (hLn:L.length<=4000000)
  (hsent:ok8 (dZ (aJ c (aY c p) []).view (pSelf (aJ c (aY c p) [])) c.swap dr).2.1) (v8:ok8 (aJ c (aY c p) []).view) (f8:p.filter.length<=8):
  Con2 Tryz.prog 45 [.agg (aC c),.agg (ak p),.fz 1 (dr.map aZ)] (· =⟨.tup [.agg (ak (dq c p dr L).1),.rf 0 0 (dq c p dr L).2.length],[(0,.arr 60 17 ((dq c p dr L).2.map encMg) false)],1⟩):=by
 refine Con2.keepT ?_;have k0:=bn p hp.ok;have k1:Con2 Tryz.prog 113 [fzD p.view] (· =plR (fzD (bf p.view))):=ep (mW p.view hp.ok.view)
 have k2:Con2 Tryz.prog 113 [fzD p.near] (· =plR (fzD (bf p.near))):=ep (mW p.near hp.ok.near)
 have k3:=aaO p.ring hp.ok.succ hp.ok.pred;have k4:=ac8 p.table p.node c.suspect (by have:=hp.g.table;omega)
 have k5:=al1 p.wait hws;have kd:Con2 Tryz.prog 117 [fzD (bf p.view),.v (.int .u8 (cI p.wait).2.1.toNat)] (· =plR (fzD (aD (bf p.view) (cI p.wait).2.1))):=ep (qo (bf p.view) (xy hp.vw).2 _ (iO hp.ok.view))
 have hg2:=pB (c:=c) hp.g hws;have k6:=cx c (aY c p) [] hc hcs hg2 ⟨by simp,by simp⟩ (by simp)
 have hg3:=iH (c:=c) (l:=[]) hg2 ⟨by simp,by simp⟩ (by simp)
 have hn9:(aJ c (aY c p) []).near.length<=3900000:=Nat.le_trans mq (Nat.le_trans ((lT (c:=c) hg2 (l:=[]) ⟨by simp,by simp⟩ (by simp)).1.u _).2 (by omega))
 have hf8:(pSelf (aJ c (aY c p) [])).filter.length<=8:=f8;have k21:=bh [] ⟨by simp,by simp⟩
 have k21b:=fw [] (by simp)
 have hT1:(dq c p dr L).1=(dD c (aJ c (aY c p) []) dr).1:=rfl;rw[hT1];clear hT1;generalize hR1:(dq c p dr L).2=R;unfold dq at hR1;generalize hq:aJ c (aY c p) []=q at *;simp only at hR1;generalize hpa:aY c p=pa at k6 hq hg2;refine ev_ Tryz.func45 [.cell 6 49,.tmp 7] ?_;refine Vc2.sq (g2_ ?_);refine Vc2.sq (g2_ ?_);refine cw_ k0 (g2_ ?_);refine Vc2.sq (g2_ ?_);rw[hu];refine g2_ ?_;refine Vc2.sq (g2_ ?_);refine cw_ k1 (g2_ ?_);refine Vc2.sq (g2_ ?_);refine cw_ k2 (g2_ ?_);refine Vc2.sq (g2_ ?_);refine cw_ k3 (g2_ ?_);refine Vc2.sq (g2_ ?_);refine cw_ k4 (g2_ ?_);refine Vc2.sq (g2_ ?_);refine cw_ k5 (g2_ ?_);refine Vc2.sq (g2_ ?_);refine Vc2.seqJ (γ:=Unit) (fun _=>⟨[(2,.d (.fz 1 (dr.map aZ))),(3,.loc 3 0),(4,.loc 4 0),(6,.loc 6 0),(7,.d (.v (.slice none 0 0)))],[(3,⟨aC c,26⟩),(4,⟨ak pa,49⟩),(6,⟨zPc,49⟩)],[],0,0⟩) (fun _=>True) ?_ (fun _ _=>?_)
 ·refine g2_ ?_;cases hov:(cI p.wait).2.2 with
  | false=>
   have hag:pa={ p with view:=bf p.view,near:=bf p.near,ring:=c_ p.ring,table:=fg p.table p.node c.suspect,wait:=(cI p.wait).1 }:=by
    rw[<-hpa];unfold aY;simp only[hov,Bool.false_eq_true,if_false]
   refine g2_ ?_;refine⟨(),aa [] ?_⟩
   repeat first|simp-implicitDefEqProofs only[go_sem,ab,hag,hu,zPc]|with_reducible refine gl_ ?_
   first|done|rfl|exact⟨rfl,rfl⟩
  | true=>
   have hag:pa={ p with view:=aD (bf p.view) (cI p.wait).2.1,near:=bf p.near,ring:=c_ p.ring,table:=fg p.table p.node c.suspect,wait:=(cI p.wait).1 }:=by
    rw[<-hpa];unfold aY;simp only[hov,if_true]
   refine g2_ ?_;refine cw_ kd (g2_ ?_);refine⟨(),aa [] ?_⟩
   repeat first|simp-implicitDefEqProofs only[go_sem,ab,hag,hu,zPc]|with_reducible refine gl_ ?_
   first|done|rfl|exact⟨rfl,rfl⟩
 obtain⟨q2,hq2⟩: ∃q2,q2=(dD c q dr).1:=⟨_,rfl⟩;obtain⟨S1,hS1⟩: ∃S1,S1=(dD c q dr).2:=⟨_,rfl⟩;rw[<-hq2]at hL hR1 ⊢;rw[<-hS1]at hR1
 have hg4:okP q2:=by
  rw[hq2];unfold dD;simp only;split
  ·exact qm hg3.ok hsent.toDs
  ·exact hg3.ok
 have hn9:q2.near.length<=3900000:=by
  rw[hq2];unfold dD;simp only;split
  ·exact hn9
  ·exact hn9
 have htb:q2.table.length<=12:=by
  rw[hq2];unfold dD;simp only;split
  ·exact hg3.table
  ·exact hg3.table
 have hS1l:S1.length<=1:=by
  rw[hS1];unfold dD;simp only;split<;>simp
 refine Vc2.sq (g2_ ?_);refine .inl ⟨[oF 0,oF 1,oF 2,oF 4,oT 3,oF 5,oF 6,oF 7],by kernel_rfl,g2_ ?_⟩
 refine cw_ k6 (g2_ ?_)
 refine Vc2.seqJ (γ:=Bool) (fun g=>match g with
  |true=>⟨[(11,.d (.pt 0 0)),(6,.loc 6 0),(7,.d (.v (.slice none 0 0)))],[(6,⟨zPc,49⟩)],[(1,.arr 60 17 (S1.map encMg) false),(0,.var 170 (aC c++(ak q2++(zMc++[.fz 1 (dr.map aZ),.v (.bool false),.rf 1 0 S1.length]))))],2,0⟩
  |false=>⟨[(11,.loc 64 0),(6,.loc 6 0),(7,.d (.v (.slice none 0 0)))],[(64,⟨(aC c++(ak q2++(zMc++[.fz 1 (dr.map aZ),.v (.bool false),.v (.slice none 0 0)]))),170⟩),(6,⟨zPc,49⟩)],[],0,0⟩) (fun g=>g=true\/S1=[]) ?_ (fun g hg=>?_)
 ·refine g2_ ?_;cases hw3:q.wait.some with
  |true=>
   have e:dD c q dr=(q,[]):=by unfold dD;rw[hw3];simp
   rw[e]at hq2 hS1;simp only at hq2 hS1;refine g2_ ?_;refine⟨false,aa [] ?_,.inr hS1⟩
   repeat first|simp-implicitDefEqProofs only[go_sem,ab,hq2,hw3,zMc,zPc]|with_reducible refine gl_ ?_
   first|done|rfl|exact⟨rfl,rfl⟩
  | false=>
   have k7:=fD q hg3.ok;have k8:=ann q.view (pSelf q) c.swap dr v8 hf8 hdr hsw;generalize hca:dZ q.view (pSelf q) c.swap dr=a at k8 hsent;obtain⟨to,sent,ok⟩:=a;simp only at k8 hsent
   have hkq:dD c q dr=if ok=true then ({ q with wait:=wStart to 2 sent },[{ pMsg q 3 to with list:=sent }])else (q,[]):=by
    unfold dD;rw[hca,hw3];simp
   rw[hkq]at hq2 hS1;refine g2_ ?_;refine im_ Tryz.func118 [] (g2_ ?_);refine g2_ ?_;refine .inl ⟨[oF 0,oF 5,oF 10,oF 15,oF 1,oF 6,oF 11,oF 16,oF 2,oF 7,oF 12,oF 17,oF 3,oF 8,oF 13,oF 18,oF 4,oF 14,oT 9,oF 19,oF 20,oF 21,oF 22,oF 23,oF 24,oF 25,oF 26],by kernel_rfl,g2_ ?_⟩
   refine cx_ k7 (wf_ hw3) (g2_ ?_);refine cx_ k8 (wf_ hw3) (g2_ ?_);cases ok with
   |false=>
    rw[if_neg (by decide)]at hq2 hS1
    simp only at hq2 hS1;refine g2_ ?_;rw[hq2,hS1];refine⟨true,aa [(1,.nil 17),(0,.to 0)] ?_,.inl rfl⟩
    repeat first|simp-implicitDefEqProofs only[go_sem,ab,hw3,List.length_nil,List.map_nil,zMc,zPc,List.append_eq,List.cons_append,List.nil_append]|with_reducible refine gl_ ?_
    first|done|rfl|exact⟨rfl,rfl⟩
   |true=>
    rw[if_pos rfl]at hq2 hS1;simp only at hq2 hS1;have k9:=aj0 to 2 sent hsent;have k10:Con2 Tryz.prog 94 [.agg (ak { q with wait:=wStart to 2 sent }),.v (.int .u8 (UInt8.toNat 3)),.v (.int .u8 to.toNat)] (· =plR (.agg (encMg (pMsg q 3 to)))):=fe { q with wait:=wStart to 2 sent } 3 to
    have k11:=bh sent hsent.toDs;have hM1t:(pMsg q 3 to).table=[]:=rfl;generalize pMsg q 3 to=M1 at k10 hS1 hM1t;refine g2_ ?_;refine cw_ k9 (g2_ ?_);refine im_ Tryz.func120 [] (g2_ ?_);refine g2_ ?_;refine cw_ k10 (g2_ ?_);refine cw_ k11 (g2_ ?_);refine cw_ k21b (g2_ ?_);refine .inl ⟨[oF 0,oF 1,oF 5,oF 2,oF 3,oF 4,oT 6,oF 7,oF 8,oF 9,oF 10],by kernel_rfl,gx_ ?_⟩
    rw[hq2,hS1];refine⟨true,aa [(1,.to 2),(0,.to 0)] ?_,.inl rfl⟩
    repeat first|simp-implicitDefEqProofs only[go_sem,ab,hw3,hM1t,List.length_cons,List.length_nil,zMc,zPc,List.append_eq,List.cons_append,List.nil_append]|with_reducible refine gl_ ?_
    first|done|rfl|exact⟨rfl,rfl⟩
 clear hq2 hS1;have k13:=fD q2 hg4;have k14:=mm q2.near (pSelf q2) hg4.near hg4.filter;have k16:=bh (bE q2.near (pSelf q2)) (so hg4.near hg4.filter hn9);have k17:=bh [pSelf q2] ⟨by simp,fun d hd=>by rw[List.mem_singleton.1 hd];exact hg4.filter⟩
 have k19:=j7 q2.ring hg4.succ hg4.pred;have hrl:=cQ q2.ring;have k15: ∀to2:UInt8,Con2 Tryz.prog 94 [.agg (ak q2),.v (.int .u8 (UInt8.toNat 5)),.v (.int .u8 to2.toNat)] (· =plR (.agg (encMg (pMsg q2 5 to2)))):=fun to2=>fe q2 5 to2
 have k18:Con2 Tryz.prog 94 [.agg (ak q2),.v (.int .u8 (UInt8.toNat 6)),.v (.int .u8 q2.ring.succ.node.toNat)] (· =plR (.agg (encMg (pMsg q2 6 q2.ring.succ.node)))):=fe q2 6 q2.ring.succ.node
 have k20: ∀d:GDesc,Con2 Tryz.prog 94 [.agg (ak q2),.v (.int .u8 (UInt8.toNat 8)),.v (.int .u8 d.node.toNat)] (· =plR (.agg (encMg (pMsg q2 8 d.node)))):=fun d=>fe q2 8 d.node
 have k22:=fw (q2.table.map aE) (by rw[List.length_map];omega)
 obtain⟨S2,hS2⟩: ∃S2,S2=S1++f7 c q2 dr L:=⟨_,rfl⟩;have hR0:(S2++eh q2)++(aw q2.ring).map (gz q2)=R:=by rw[hS2];exact hR1
 have hS2l:S2.length<=11:=by
  rw[hS2,List.length_append];have:(f7 c q2 dr L).length<=1:=by unfold f7;split<;>simp
  omega
 generalize aw q2.ring=B at k19 hrl hR0;refine Vc2.seqJ (γ:=Unit) (fun _=>⟨[(11,.d (.pt 0 0)),(6,.loc 6 0),(7,.d (.v (.slice none 0 0)))],[(6,⟨zPc,49⟩)],[(1,.arr 60 17 (S2.map encMg) false),(0,.var 170 (aC c++(ak q2++(zMc++[.fz 1 (dr.map aZ),.v (.bool false),.rf 1 0 S2.length]))))],2,0⟩) (fun _=>True) ?_ (fun _ _=>?_)
 ·cases g;simp only at hg ⊢;have hg:=hg.resolve_left (by decide)
  repeat first|simp-implicitDefEqProofs only[go_sem,ab,zMc,zPc,List.append_eq,List.cons_append,List.nil_append]|with_reducible first|refine gl_ ?_|refine ga_ ?_|refine gn_ ?_
  refine il_ Tryz.func119 [] ?_;refine Vc2.sq (g2_ ?_);refine cw_ hL (gx_ ?_);refine Vc2.sq (gx_ ?_)
  by_cases hLe:L=[]
  ·have hS2e:S2=S1:=by rw[hS2,f7,if_pos hLe,List.append_nil]
   rw[show((L.length:Int)==0)=true by rw[hLe];rfl]
   refine g2_ ?_;rw[hS2e]
   first
    |(refine⟨(),aa [(1,.nil 17),(0,.to 0)] ?_⟩;(focus (repeat first|simp-implicitDefEqProofs only[go_sem,ab,hg,List.map_nil,List.length_nil,zMc,zPc,List.append_eq,List.cons_append,List.nil_append]|with_reducible refine gl_ ?_;done)))
  have hLp:0<L.length:=List.length_pos_iff.2 hLe;rw[show((L.length:Int)==0)=false from beq_eq_false_iff_ne.2 (by omega)]
  refine g2_ ?_;refine Vc2.sq (g2_ ?_);refine Vc2.seqJ (γ:=Unit) (fun _=>⟨[(0,.d (.pt 0 0)),(2,.d (.fz 1 (L.map aQ))),(3,.d (.v (.int .u32 (dj c dr).toNat)))],[],[(0,.var 170 (aC c++(ak q2++(zMc++[.fz 1 (dr.map aZ),.v (.bool false),.v (.slice none 0 0)]))))],1,1⟩) (fun _=>True) ?_ (fun _ _=>Vc2.of ?_)
  rotate_left 2
  simp only
  repeat first|simp-implicitDefEqProofs only[go_sem,ab,zMc,zPc,List.append_eq,List.cons_append,List.nil_append]|with_reducible first|refine gl_ ?_|refine ga_ ?_|refine gn_ ?_
  refine il_ Tryz.func119 [] ?_;refine Vc2.sq (g2_ ?_);refine cw_ hL (gx_ ?_);refine Vc2.sq (gx_ ?_)
  by_cases hLe:L=[]
  ·have hS2e:S2=S1:=by rw[hS2,f7,if_pos hLe,List.append_nil]
   rw[show((L.length:Int)==0)=true by rw[hLe];rfl]
   refine g2_ ?_;rw[hS2e]
   first
    |(refine⟨(),aa [(1,.to 1),(0,.to 0)] ?_⟩;(focus (repeat first|simp-implicitDefEqProofs only[go_sem,ab,zMc,zPc,List.append_eq,List.cons_append,List.nil_append]|with_reducible refine gl_ ?_;done)))
  have hLp:0<L.length:=List.length_pos_iff.2 hLe;rw[show((L.length:Int)==0)=false from beq_eq_false_iff_ne.2 (by omega)]
  refine g2_ ?_;refine Vc2.sq (g2_ ?_);refine Vc2.seqJ (γ:=Unit) (fun _=>⟨[(0,.d (.pt 0 0)),(2,.d (.fz 1 (L.map aQ))),(3,.d (.v (.int .u32 (dj c dr).toNat)))],[],[(1,.arr 60 17 (S1.map encMg) false),(0,.var 170 (aC c++(ak q2++(zMc++[.fz 1 (dr.map aZ),.v (.bool false),.rf 1 0 S1.length]))))],2,2⟩) (fun _=>True) ?_ (fun _ _=>Vc2.of ?_)
  any_goals
   refine g2_ ?_;refine .inl ⟨[oF 0,oF 1,oF 2,oF 3,oF 4,oF 5,oF 6,oF 7,oF 12,oF 8,oF 13,oF 9,oF 14,oF 10,oF 15,oF 11,oF 16,oF 17,oF 18],by kernel_rfl,g2_ ?_⟩
   by_cases h0:0<=c.swap
   ·rw[show decide (0<=c.swap)=true from decide_eq_true h0]
    refine gx_ ?_
    by_cases h1:c.swap<(dr.length:Int)
    ·obtain⟨sw,hsw2⟩: ∃sw:Nat,c.swap=sw:=⟨c.swap.toNat,by omega⟩
     have hswl:sw<dr.length:=by omega
     have hdg:(dr.map aZ)[sw]? =some [.v (.int .u32 dr[sw].toNat)]:=by rw[List.getElem?_map,List.getElem?_eq_getElem hswl];rfl
     have hkd:dj c dr=dr[sw]:=by
      rw[dj,if_pos ⟨h0,h1⟩,hsw2,Int.toNat_natCast,List.getD_eq_getElem?_getD,List.getElem?_eq_getElem hswl];rfl
     rw[show decide (c.swap<(dr.length:Int))=true from decide_eq_true h1]
     refine g2_ ?_;refine .inl ⟨[oF 0,oF 4,oF 1,oF 5,oF 2,oF 6,oF 3,oF 7,oF 8,oF 9,oF 10,oF 11],by kernel_rfl,?_⟩
     refine gg_ hsw2 hdg ?_;refine⟨(),aa [] ?_⟩
     repeat first|simp-implicitDefEqProofs only[go_sem,ab,hkd,hsw2,zMc,zPc,List.append_eq,List.cons_append,List.nil_append]|with_reducible refine gl_ ?_
     first|done|rfl|exact⟨rfl,rfl⟩
    ·have hkd:dj c dr=0:=by rw[dj,if_neg (fun h=>h1 h.2)]
     rw[show decide (c.swap<(dr.length:Int))=false from decide_eq_false h1]
     refine g2_ ?_;refine⟨(),aa [] ?_⟩
     repeat first|simp-implicitDefEqProofs only[go_sem,ab,hkd,zMc,zPc,List.append_eq,List.cons_append,List.nil_append]|with_reducible refine gl_ ?_
     first|done|rfl|exact⟨rfl,rfl⟩
   ·have hkd:dj c dr=0:=by rw[dj,if_neg (fun h=>h0 h.1)]
    rw[show decide (0<=c.swap)=false from decide_eq_false h0]
    refine gx_ ?_;refine⟨(),aa [] ?_⟩
    repeat first|simp-implicitDefEqProofs only[go_sem,ab,hkd,zMc,zPc,List.append_eq,List.cons_append,List.nil_append]|with_reducible refine gl_ ?_
    first|done|rfl|exact⟨rfl,rfl⟩
   done
  all_goals
   generalize hkd:dj c dr=dw;have hmod:dw.toNat % L.length<L.length:=Nat.mod_lt _ hLp
   have hlg:(L.map aQ)[dw.toNat % L.length]? =some [.v (.int .u8 (L.getD (dw.toNat % L.length) 0).toNat)]:=by
    rw[List.getElem?_map,List.getD_eq_getElem?_getD,List.getElem?_eq_getElem hmod];rfl
   have hkt:f7 c q2 dr L=[{ pMsg q2 5 (L.getD (dw.toNat % L.length) 0)with list:=bE q2.near (pSelf q2) }]:=by
    rw[f7,if_neg hLe,hkd]
   have hd32:=dw.toNat_lt
   repeat first|simp-implicitDefEqProofs only[go_sem,ab,zMc,zPc,List.append_eq,List.cons_append,List.nil_append]|with_reducible first|refine gl_ ?_|refine ga_ ?_|refine gn_ ?_
   rw[jt (a:=dw.toNat) (b:=L.length) rfl rfl hLp];refine gf_ hlg ?_;generalize L.getD (dw.toNat % L.length) 0=to2 at hlg hkt ⊢;have hS2m:S2.map encMg=S1.map encMg++[encMg { pMsg q2 5 to2 with list:=bE q2.near (pSelf q2) }]:=by rw[hS2,hkt,List.map_append];rfl
   have hS2e:S2.length=S1.length+1:=by rw[hS2,hkt,List.length_append];rfl
   have kk:=k15 to2;have hM2t:(pMsg q2 5 to2).table=[]:=rfl;generalize pMsg q2 5 to2=M2 at kk hS2m hM2t;refine .inl ⟨[oF 0,oF 1,oF 2,oF 7,oF 3,oF 8,oF 4,oF 9,oF 5,oF 10,oF 6,oT 11,oF 12,oF 13],by kernel_rfl,g2_ ?_⟩
   refine cw_ k13 (g2_ ?_);refine cx_ k14 (by simp-implicitDefEqProofs only[go_sem,ab,pSelf]) (g2_ ?_)
   refine im_ Tryz.func120 [] (g2_ ?_);refine g2_ ?_;refine cw_ kk (g2_ ?_);refine cw_ k16 (g2_ ?_);refine cw_ k21b (g2_ ?_);refine .inl ⟨[oF 0,oF 1,oF 5,oF 2,oF 3,oF 4,oT 6,oF 7,oF 8,oF 9,oF 10],by kernel_rfl,gx_ ?_⟩
  ·refine⟨(),aa [(1,.to 3),(0,.to 0)] ?_⟩
   repeat first|simp-implicitDefEqProofs only[go_sem,ab,hS2m,hS2e,hM2t,pSelf,List.length_append,zMc,zPc,List.append_eq,List.cons_append,List.nil_append]|with_reducible refine gl_ ?_
   first|done|rfl|exact⟨rfl,rfl⟩
  ·refine⟨(),aa [(1,.to 2),(0,.to 0)] ?_⟩
   repeat first|simp-implicitDefEqProofs only[go_sem,ab,hS2m,hS2e,hM2t,hg,List.map_nil,List.length_nil,pSelf,List.length_append,zMc,zPc,List.append_eq,List.cons_append,List.nil_append]|with_reducible refine gl_ ?_
   first|done|rfl|exact⟨rfl,rfl⟩
 obtain⟨S3,hS3⟩: ∃S3,S3=S2++eh q2:=⟨_,rfl⟩;have hR:S3++B.map (gz q2)=R:=by rw[hS3];exact hR0
 have hS3l:S3.length<=12:=by
  rw[hS3,List.length_append];have:(eh q2).length<=1:=by unfold eh;split<;>simp
  omega
 refine Vc2.seqJ (γ:=Unit) (fun _=>⟨[(11,.d (.pt 0 0)),(6,.loc 6 0),(7,.d (.v (.slice none 0 0)))],[(6,⟨zPc,49⟩)],[(1,.arr 60 17 (S3.map encMg) false),(0,.var 170 (aC c++(ak q2++(zMc++[.fz 1 (dr.map aZ),.v (.bool false),.rf 1 0 S3.length]))))],2,0⟩) (fun _=>True) ?_ (fun _ _=>?_)
 ·repeat first|simp-implicitDefEqProofs only[go_sem,ab,zMc,zPc,List.append_eq,List.cons_append,List.nil_append]|with_reducible first|refine gl_ ?_|refine ga_ ?_|refine gn_ ?_
  cases hs2:q2.ring.hs with
  |false=>
   have e:S3=S2:=by rw[hS3,eh,if_neg (by rw[hs2];decide),List.append_nil]
   refine g2_ ?_;rw[e];refine⟨(),aa [(1,.to 1),(0,.to 0)] ?_⟩
   repeat first|simp-implicitDefEqProofs only[go_sem,ab,hs2,zMc,zPc,List.append_eq,List.cons_append,List.nil_append]|with_reducible refine gl_ ?_
   first|done|rfl|exact⟨rfl,rfl⟩
  |true=>
   have hS3m:S3.map encMg=S2.map encMg++[encMg { pMsg q2 6 q2.ring.succ.node with list:=[pSelf q2] }]:=by rw[hS3,eh,if_pos hs2,List.map_append];rfl
   have hS3e:S3.length=S2.length+1:=by rw[hS3,eh,if_pos hs2,List.length_append];rfl
   have hM3t:(pMsg q2 6 q2.ring.succ.node).table=[]:=rfl;generalize pMsg q2 6 q2.ring.succ.node=M3 at k18 hS3m hM3t;refine g2_ ?_;refine .inl ⟨[oF 0,oF 1,oF 8,oF 2,oF 9,oF 3,oF 10,oF 4,oF 11,oF 5,oF 6,oF 7,oT 12,oT 13,oF 14],by kernel_rfl,g2_ ?_⟩
   refine cx_ k13 (wf_ hs2) (g2_ ?_);refine im_ Tryz.func120 [] (g2_ ?_);refine g2_ ?_;refine cx_ k18 (by simp-implicitDefEqProofs only[go_sem,ab,hs2,pSelf]) (g2_ ?_)
   refine cx_ k17 (by simp-implicitDefEqProofs only[go_sem,ab,hs2,pSelf]) (g2_ ?_)
   refine cw_ k21b (g2_ ?_);refine .inl ⟨[oF 0,oF 1,oF 5,oF 2,oF 3,oF 4,oT 6,oF 7,oF 8,oF 9,oF 10],by kernel_rfl,gx_ ?_⟩
   refine⟨(),aa [(1,.to 4),(0,.to 0)] ?_⟩
   repeat first|simp-implicitDefEqProofs only[go_sem,ab,hS3m,hS3e,hM3t,hs2,pSelf,zMc,zPc,List.append_eq,List.cons_append,List.nil_append]|with_reducible refine gl_ ?_
   first|done|rfl|exact⟨rfl,rfl⟩
 clear hS3;obtain⟨SA,hSA⟩: ∃SA:Nat->List bo,SA=fun k=>S3++(B.take k).map (gz q2):=⟨_,rfl⟩
 have hS0:SA 0=S3:=by rw[hSA];simp
 have hSn: ∀k (hk:k<B.length),SA (k+1)=SA k++[gz q2 B[k]]:=fun k hk=>by
  rw[hSA];simp only;rw[List.take_add_one,List.getElem?_eq_getElem hk,List.map_append, <-List.append_assoc];rfl
 have hSl: ∀k,(SA k).length<=20:=fun k=>by
  rw[hSA];simp only[List.length_append,List.length_map,List.length_take];omega
 have hSe:SA B.length=R:=by
  rw[hSA, <-hR];show _++(B.take B.length).map _=_;rw[List.take_of_length_le (Nat.le_refl _)]
 refine Vc2.of ?_
 repeat first|simp-implicitDefEqProofs only[go_sem,ab,zMc,zPc,List.append_eq,List.cons_append,List.nil_append]|with_reducible first|refine gl_ ?_|refine ga_ ?_|refine gn_ ?_
 refine cw_ k19 (gx_ ?_);refine pY B.length ([(103,.d (.v (.int .i64 B.length))),(102,.d (.fz 4 (B.map af)))]++[(11,.d (.pt 0 0)),(6,.loc 6 0),(7,.d (.v (.slice none 0 0)))]) (fun k=>[]) (fun _=>[(6,⟨zPc,49⟩)]) (fun k=>[(1,.arr 60 17 ((SA k).map encMg) false),(0,.var 170 (aC c++(ak q2++(zMc++[.fz 1 (dr.map aZ),.v (.bool false),.rf 1 0 (SA k).length]))))]) 2 (fun _=>True) (aa [(1,.to 1),(0,.to 0)] ?_) trivial (fun g k=>by first|rfl|(repeat first|simp-implicitDefEqProofs only[go_sem,ab]|with_reducible refine gl_ ?_)) (by omega) (fun g=>ws_) (fun k hk _=>?_) (fun _=>?_)
 ·repeat first|simp-implicitDefEqProofs only[go_sem,ab,hS0,zMc,zPc,List.append_eq,List.cons_append,List.nil_append]|with_reducible refine gl_ ?_
  first|done|rfl|exact⟨rfl,rfl⟩
 ·have hAl:=hSl k;have kk:=k20 B[k];have hsl:(SA (k+1)).length=(SA k).length+1:=by rw[hSn k hk];simp
  have hsm:(SA (k+1)).map encMg=(SA k).map encMg++[encMg { pMsg q2 8 B[k].node with table:=q2.table }]:=by rw[hSn k hk,List.map_append,List.map_cons,List.map_nil];rfl
  repeat first|simp-implicitDefEqProofs only[go_sem,ab,aX hk,zMc,zPc,List.append_eq,List.cons_append,List.nil_append]|with_reducible first|refine gl_ ?_|refine ga_ ?_|refine gn_ ?_
  generalize B[k]=d at kk hsm;have hM4:(pMsg q2 8 d.node).list=[]:=rfl;generalize pMsg q2 8 d.node=M4 at kk hsm hM4;refine .inl ⟨[oF 0,oF 1,oF 3,oF 2,oF 4,oF 5,oF 6,oF 7,oF 8],by kernel_rfl,g2_ ?_⟩
  refine im_ Tryz.func120 [] (g2_ ?_);refine g2_ ?_;refine cw_ kk (g2_ ?_);refine cw_ k21 (g2_ ?_);refine cw_ k22 (g2_ ?_);refine .inl ⟨[oF 0,oF 1,oF 5,oF 2,oF 3,oF 4,oT 6,oF 7,oF 8,oF 9,oF 10],by kernel_rfl,gx_ ?_⟩
  refine⟨k+1,aa [(1,.to 3),(0,.to 0)] ?_,rfl⟩
  repeat first|simp-implicitDefEqProofs only[go_sem,ab,hsm,hsl,hM4,zMc,zPc,List.append_eq,List.cons_append,List.nil_append]|with_reducible refine gl_ ?_
  first|done|rfl|exact⟨rfl,rfl⟩
 ·rw[hSe]
  repeat first|simp-implicitDefEqProofs only[go_sem,ab,zPc,zMc,zPc,List.append_eq,List.cons_append,List.nil_append]|with_reducible first|refine gl_ ?_|refine ga_ ?_|refine gn_ ?_
  refine .inr (.inr (.inl ⟨[oF 0,oF 4,oF 1,oF 5,oF 2,oF 6,oF 3,oF 7,oT 8,oF 9],[6],by kernel_rfl,g2_ ?_⟩))
  refine⟨⟨_,_,_⟩,⟨1,_,rfl,rfl,?_,rfl,?_⟩,fT _⟩
  ·exact ws_
  ·intro h;cases h
theorem vv(c:ar)(p:ah)(dr:List UInt32)(L:List UInt8)(hc:c.schema.length<=4)(hcs: ∀s∈c.schema,okS s)(hp:okH p)(hu:p.up=true)(hsw:c.swap<=9223372036854775807)(hdr:dr.length<=4000000)(hws:ok8 p.wait.sent)
  (hL:Con2 Tryz.prog 21 [.agg (ak (dD c (aJ c (aY c p) []) dr).1)] (· =plR (.fz 1 (L.map aQ)))) (hLn:L.length<=4000000)
  (hsent:ok8 (dZ (aJ c (aY c p) []).view (pSelf (aJ c (aY c p) [])) c.swap dr).2.1) (v8:ok8 (aJ c (aY c p) []).view) (f8:p.filter.length<=8):
  Con2 Tryz.prog 45 [.agg (aC c),.agg (ak p),.fz 1 (dr.map aZ)] (· =plR (.tup [.agg (ak (dq c p dr L).1),.fz 17 ((dq c p dr L).2.map encMg)])):=
 Con2.emb (agG c p dr L hc hcs hp hu hsw hdr hws hL hLn hsent v8 f8) (wf_ @aF) rfl
def plainC(n:Int):ar:=⟨n,[⟨0,9⟩],3,2,2,2,3,8,4,3,3,4,60,200,100⟩
theorem ahe{c:ar}{p:ah}{l:List GDesc}(hp:okH p)(hl:aR l)(hl2: ∀d∈l,okF d):okH (aJ c p l):=
 ⟨iH hp.g hl hl2,hp.rs,⟨Nat.le_trans (List.length_filter_le _ _) hp.v8.1,fun d hd=>hp.v8.2 d (List.mem_filter.1 hd).1⟩,⟨fun d hd=>hp.vw.1 d (List.mem_filter.1 hd).1,hp.vw.2.filter _⟩⟩
theorem oa(c:ar)(node:UInt8):okH (bM c node):=by
 have h:=abg c node;refine⟨⟨h,fun s hs=>absurd (show s∈([]:List GSpan)from hs) List.not_mem_nil,fun d hd=>absurd (show d∈([]:List GDesc)from hd) List.not_mem_nil,fun d hd=>absurd (show d∈([]:List GDesc)from hd) List.not_mem_nil,rG,rG,?_⟩,?_,⟨Nat.zero_le _,fun d hd=>absurd (show d∈([]:List GDesc)from hd) List.not_mem_nil⟩,zK _⟩
 ·simp only[bM,List.length_replicate];omega
 ·refine⟨?_,fun r hr=>?_⟩
  ·simp only[bM,List.length_replicate];omega
  ·simp only[bM,List.mem_replicate]at hr;rw[hr.2,cT];omega
theorem abZ{p:ah}(h:okH p){i:UInt16}{b:Bool}{t:List an}(ht:t.length<=12):okH { p with inc:=i,up:=b,table:=t }:=
 ⟨⟨⟨h.g.ok.filter,h.g.ok.view,h.g.ok.near,h.g.ok.succ,h.g.ok.pred,h.g.ok.sent,by show t.length<=4000000;omega,h.g.ok.heard,h.g.ok.rows,h.g.ok.reports,h.g.ok.evs,h.g.ok.pulls⟩,h.g.filter,h.g.view,h.g.near,h.g.succ,h.g.pred,ht⟩,h.rs,h.v8,h.vw⟩
theorem sM(c:ar)(p:ah)(hp:okH p):okH (bU c p).1:=by grind [bU,abZ,oa,List.length_set,bM,List.length_replicate]
theorem acw(n:Int):Con2 Tryz.prog 42 [.v (.int .i64 n)] (· =plR (.agg (aC (plainC n)))):=by
 refine Con2.ofEmb ?_;refine en_ Tryz.func42 [.cell 2 26] (g2_ ?_);refine g2_ ?_;refine ae ?_ rfl;refine gf_ @plainC.eq_1 ?_;rfl
def awC:ar:=plainC 2
def awA:ah:=(bU awC (bM awC 0)).1
def awB:ah:=(bU awC (bM awC 1)).1
def awM:bo:={ pMsg awB 1 0 with list:=[pSelf awB] }
def awA1:ah:=(qw awC awA awM).1
def awW:bo:=⟨2,0,1,1,[⟨0,1,0,[]⟩],[⟨1,1,0⟩,⟨1,1,0⟩],zEvt,0,⟨0,0,0⟩,[],[]⟩
def awB1:ah:=(gu awC awB awW).1
def awQ:ah:=aJ awC (aY awC awB1) []
def awS:ah:=(dD awC awQ [1,2,3]).1
def awL:List UInt8:=bA awS
theorem aw1:bU awC (bM awC 0)=(awA,0):=by kernel_rfl
theorem aw2:bU awC (bM awC 1)=(awB,0):=by kernel_rfl
theorem aw3:awA.up=true:=by kernel_rfl
theorem aw4:awB.up=true:=by kernel_rfl
theorem aw5:dF awC awB 0=([awM],0):=by kernel_rfl
theorem aw6:(qw awC awA awM).2=[awW]:=by kernel_rfl
theorem aw7:awA1.view=[⟨1,1,0,[]⟩]:=by kernel_rfl
theorem aw8:(gu awC awB awW).2=[]:=by kernel_rfl
theorem anJ:awQ.view=[⟨0,1,1,[]⟩]:=by kernel_rfl
theorem anH:awL=[0]:=by kernel_rfl
theorem anz:(dq awC awB1 [1,2,3] awL).2.map (fun m=>(m.kind,m.to,m.frm,m.inc))=[(3,0,1,1),(5,0,1,1),(6,0,1,1),(8,0,1,1)]:=by kernel_rfl
theorem anL:dZ awQ.view (pSelf awQ) awC.swap [1,2,3]=(0,[⟨1,1,0,[]⟩],true):=by kernel_rfl
theorem adO(c:ar)(p:ah)(L:List UInt8)(hp:okP p)(hu:p.up=true)(hL:Con2 Tryz.prog 21 [.agg (ak p)] (· =plR (.fz 1 (L.map aQ))))(hLn:L.length<=4000000):
  Con2 Tryz.prog 56 [.agg (aC c),.agg (ak p)] (· =plR (.tup [.agg (ak (fQ c p)),.fz 17 ((L.map (pMsg p 9)).map encMg),.v (.int .i64 0)])):=by
 refine Con2.ofEmb ?_;have kd:=sX c p;have km:=fun to=>fe p 9 to
 obtain⟨f,hf⟩: ∃f:UInt8->bo,f=pMsg p 9:=⟨_,rfl⟩;rw[<-hf]at km ⊢;generalize fQ c p=D at kd ⊢;refine en_ Tryz.func56 [.cell 4 49,.tmp 5,.tmp 6] (g2_ ?_);refine g2_ ?_;rw[hu];refine g2_ ?_;refine cx_ hL (wf_ hu) (gx_ ?_);refine ay L.length (fun k=>[(7,.d (.rf 0 0 ((L.take k).map f).length))]) (fun _=>[]) (fun k=>[(0,.arr 60 17 (((L.take k).map f).map encMg) false)]) 1 (fun _=>True) (aa [(0,.nil 17)] ?_) trivial (fun g k=>ws_) (by omega) (fun g=>ws_) (fun k hk _=>?_) (fun _=>?_)
 ·refine x0_ ?_
  first|done|rfl|exact⟨rfl,rfl⟩
 ·have hg:(L.map aQ)[k]? =some [.v (.int .u8 L[k].toNat)]:=by rw[List.getElem?_map,List.getElem?_eq_getElem hk];rfl
  have hsn:(L.take (k+1)).map f=(L.take k).map f++[f L[k]]:=by rw[List.take_add_one,List.getElem?_eq_getElem hk,List.map_append];rfl
  have hsl:(L.take (k+1)).length=((L.take k).map f).length+1:=by have:=congrArg List.length hsn;rw[List.length_map,List.length_append]at this;exact this
  have hsl2:((L.take k).map f).length<=4000000:=by rw[List.length_map,List.length_take];omega
  have kk:=km L[k];generalize (L.take k).map f=A at hsn hsl hsl2;generalize f L[k]=x at hsn kk;refine gf_ hg ?_;refine cx_ kk (wf_ hu) (gx_ ?_);refine⟨k+1,aa [(0,.to 2)] ?_,rfl⟩;exact y1_ (c2_ hsn hsl)
 ·rw[List.take_of_length_le (Nat.le_refl L.length)];have hsl3:(L.map f).length<=4000000:=by rw[List.length_map];omega
  generalize L.map f=A at hsl3 ⊢;refine g2_ ?_;refine cx_ kd (wf_ hu) (g2_ ?_);refine ae ?_ rfl;exact ws_
def iG(dr:List UInt32)(c:ar)(p:ah)(m:bo):ah×List bo:=
 if p.up=false\/m.to≠p.node then (p,[])
 else if m.kind=1 then qw c p m
 else if m.kind=2 then gu c p m
 else if m.kind=3 then je dr c p m
 else if m.kind=4 then iF c p m
 else if m.kind=5\/m.kind=7 then my c p m
 else if m.kind=6 then p4 c p m
 else if m.kind=8 then xa c p m
 else if m.kind=9 then pM c p m
 else oW c p m
theorem v9: ∀n:Fin 256,(n.val=1\/n.val=2\/n.val=3\/n.val=4\/n.val=5\/n.val=6\/n.val=7\/n.val=8\/n.val=9)\/lkF fF (UInt8.ofNat n.val)=none:=of_decide_eq_true (by kernel_rfl)
theorem zV{k:UInt8}(h1:k≠1)(h2:k≠2)(h3:k≠3)(h4:k≠4)(h5:k≠5)(h6:k≠6)(h7:k≠7)(h8:k≠8)(h9:k≠9):lkF fF k=none:=by
 have e: ∀n:Nat,n<256->k.toNat=n->k=UInt8.ofNat n:=fun n hn h=>by rw[<-h];exact(UInt8.ofNat_toNat).symm
 have hk:=k.toNat_lt;rcases v9 ⟨k.toNat,hk⟩with h|h
 ·simp only at h;rcases h with h|h|h|h|h|h|h|h|h
  ·exact absurd (e 1 (by omega) h) h1
  ·exact absurd (e 2 (by omega) h) h2
  ·exact absurd (e 3 (by omega) h) h3
  ·exact absurd (e 4 (by omega) h) h4
  ·exact absurd (e 5 (by omega) h) h5
  ·exact absurd (e 6 (by omega) h) h6
  ·exact absurd (e 7 (by omega) h) h7
  ·exact absurd (e 8 (by omega) h) h8
  ·exact absurd (e 9 (by omega) h) h9
 ·have e2:UInt8.ofNat k.toNat=k:=UInt8.ofNat_toNat;simp only at h;rw[e2]at h;exact h
theorem aeZ(c:ar)(p:ah)(m:bo)(dr:List UInt32)(hc:c.schema.length<=4)(hcs: ∀s∈c.schema,okS s)(hp:okH p)(hm:okMg m)(hdr:dr.length<=4000000)(hws:ok8 p.wait.sent):
  Con2 Tryz.prog 44 [.agg (aC c),.agg (ak p),.agg (encMg m),.fz 1 (dr.map aZ)] (· =plR (.tup [.agg (ak (iG dr c p m).1),.fz 17 ((iG dr c p m).2.map encMg)])):=by
 unfold iG
 by_cases h0:p.up=false\/m.to≠p.node
 ·rw[if_pos h0];rcases h0 with h|h
  ·exact re c p m dr hp.ok h
  ·exact ai7 c p m dr hp.ok h
 rw[if_neg h0]
 have hu:p.up=true:=by
  cases h:p.up with
  |true=>rfl
  |false=>exact absurd (.inl h) h0
 have hto:m.to=p.node:=Classical.byContradiction fun h=>h0 (.inr h)
 by_cases k1:m.kind=1
 ·rw[if_pos k1];exact rZ c p m dr hc hcs hp hm hu hto k1
 rw[if_neg k1]
 by_cases k2:m.kind=2
 ·rw[if_pos k2];exact lW c p m dr hc hcs hp hm hu hto k2
 rw[if_neg k2]
 by_cases k3:m.kind=3
 ·rw[if_pos k3];exact ug c p m dr hc hcs hp hm hu hto k3 hdr
 rw[if_neg k3]
 by_cases k4:m.kind=4
 ·rw[if_pos k4];exact qR c p m dr hc hcs hp hm hu hto k4 hws
 rw[if_neg k4]
 by_cases k5:m.kind=5\/m.kind=7
 ·rw[if_pos k5];rcases k5 with k|k
  ·exact tl c p m dr hc hcs hp hm hu hto (.inl k)
  ·exact tl c p m dr hc hcs hp hm hu hto (.inr k)
 rw[if_neg k5]
 by_cases k6:m.kind=6
 ·rw[if_pos k6];exact zG c p m dr hc hcs hp hm hu hto k6
 rw[if_neg k6]
 by_cases k8:m.kind=8
 ·rw[if_pos k8];exact aer c p m dr hc hcs hp hm hu hto k8
 rw[if_neg k8]
 by_cases k9:m.kind=9
 ·rw[if_pos k9];exact yB c p m dr hc hcs hp hm hu hto k9
 rw[if_neg k9];exact aao c p m dr hc hcs hp hu hto (zV k1 k2 k3 k4 (fun h=>k5 (.inl h)) k6 (fun h=>k5 (.inr h)) k8 k9)
def dY(c:ar)(p:ah)(o:GOp):ah×List bo×Int:=
 if o.what=0 then ((bU c p).1,[],(bU c p).2)
 else if o.what=1 then (fQ c p,[],0)
 else if o.what=2 then (if p.up=false then p else if (aS c.schema o.filter).2=0 then aJ c { p with filter:=(aS c.schema o.filter).1 } []else p,[],if p.up=false then 53 else (aS c.schema o.filter).2)
 else if o.what=3 then (p,(dF c p o.node).1,(dF c p o.node).2)
 else if o.what=4 then (if p.up=false then p else fQ c p,if p.up=false then []else (bA p).map (pMsg p 9),if p.up=false then 53 else 0)
 else if o.what=5 then (if p.up=false then p else (dq c p o.draws (bA (dD c (aJ c (aY c p) []) o.draws).1)).1,if p.up=false then []else (dq c p o.draws (bA (dD c (aJ c (aY c p) []) o.draws).1)).2,0)
 else if o.what=6 then (aJ c (aI c p o.node o.inc).1 [],[],0)
 else if o.what=7 then (aJ c p o.m.list,[],0)
 else ((iG o.draws c p o.m).1,(iG o.draws c p o.m).2,0)
structure Win(c:ar)(p:ah):Prop where
 table:(p.table.length:Int)=c.nodes
 rows:(p.rows.length:Int)=c.nodes
 heard:(p.heard.length:Int)=c.nodes
 view:mJ p.view p.node c.view=true
 near:mJ p.near p.node c.near=true
 cur: ∀l∈[p.view,p.near,aw p.ring], ∀d∈l,ck p d=true
 ovl: ∀d∈p.near,0<dP p.filter d.filter
 ring:p.ring.hs=p.ring.hp\/0<p.view.length
theorem sL{p:ah}{d:GDesc}(h:ck p d=true):d.node≠p.node/\ ∃m,p.table[d.node.toNat]? =some m/\(m.inc<d.inc\/(d.inc=m.inc/\m.state=1)):=by grind [ck]
end Go.Proofs.YthoihfighiolmaaGreat.V
namespace Go.Eng
open Go.Sort
theorem swoU:SWO ltU where
 irrefl x:=by simp[ltU]
 trans x y z:=by simp only[ltU,decide_eq_true_eq];exact UInt8.lt_trans
 ntrans x y z:=by
  simp only[ltU,decide_eq_false_iff_not,UInt8.not_lt];intro h1 h2;exact UInt8.le_trans h2 h1
theorem anM(x y:UInt8)(h1:ltU x y=false)(h2:ltU y x=false):x=y:=by grind [ltU]
def bR(d:Array UInt8):List (List DV):=d.toList.map aQ
theorem afF(d:Array UInt8):(bR d).length=d.size:=by simp[bR]
theorem aT{d:Array UInt8}{i:Nat}(h:i<d.size):(bR d)[i]? =some [.v (.int .u8 d[i]!.toNat)]:=by
 rw[bR,List.getElem?_map,Array.getElem?_toList,Array.getElem?_eq_getElem h,getElem!_pos d i h];rfl
theorem eK{d:Array UInt8}{i:Nat}{x:UInt8}:(bR d).set i [.v (.int .u8 x.toNat)]=bR (d.setIfInBounds i x):=by
 rw[bR,bR,Array.toList_setIfInBounds,List.map_set];rfl
theorem dM{d:Array UInt8}{i j:Nat}{x:UInt8}(h:j<d.size):(bR (d.setIfInBounds i x))[j]? =some [.v (.int .u8 (d.setIfInBounds i x)[j]!.toNat)]:=aT (by simpa using h)
theorem amM(l:List UInt8):l.map aQ=bR l.toArray:=rfl
theorem dX{d:Array UInt8}{i j:Nat}:bR ((d.setIfInBounds i d[j]!).setIfInBounds j d[i]!)=bR (swp d i j):=rfl
section
variable {α:Type} {lt:α->α->Bool}
theorem oz{x:α}{P:List α}: ∀j,j<=P.length->cH lt x P j<=j/\(∀i y,cH lt x P j<=i->i<j->P[i]? =some y->lt x y=true)/\(cH lt x P j=0\/ ∃y,P[cH lt x P j-1]? =some y/\lt x y=false)
 |0,_=>⟨Nat.le_refl _,fun i y _ h=>absurd h (Nat.not_lt_zero _),.inl rfl⟩
 | j+1,h=>by
  have hj:j<P.length:=h;cases hc:lt x P[j]with
  |true=>
   rw[kY hj hc];obtain⟨h1,h2,h3⟩:=oz (x:=x) (P:=P) j (by omega)
   refine⟨by omega,fun i y hi hij hy=>?_,h3⟩
   by_cases e:i=j
   ·subst e;rw[List.getElem?_eq_getElem hj]at hy;cases hy;exact hc
   ·exact h2 i y hi (by omega) hy
  |false=>
   rw[ly hj hc];refine⟨Nat.le_refl _,fun i y hi hij=>by omega,.inr ⟨P[j],?_,hc⟩⟩
   rw[Nat.add_sub_cancel,List.getElem?_eq_getElem hj]
abbrev Asc(lt:α->α->Bool)(P:List α):Prop:=P.Pairwise fun a b=>lt b a=false
theorem ahT[Inhabited α](hS:SWO lt){P:List α}{x:α}(h:Asc lt P):Asc lt (f9 lt P x):=by
 obtain⟨h1,h2,h3⟩:=oz (lt:=lt) (x:=x) (P:=P) P.length (Nat.le_refl _);rw[f9,b_];generalize cH lt x P P.length=k at h1 h2 h3
 have hd: ∀y∈P.drop k,lt x y=true:=fun y hy=>by
  obtain⟨i,hi,rfl⟩:=List.mem_iff_getElem.1 hy;rw[List.length_drop]at hi;exact h2 (k+i) _ (by omega) (by omega) (by rw[List.getElem_drop];exact List.getElem?_eq_getElem (by omega))
 have ht: ∀y∈P.take k,lt x y=false:=fun y hy=>by
  obtain⟨i,hi,rfl⟩:=List.mem_iff_getElem.1 hy;rw[List.length_take]at hi;rcases h3 with h3|⟨z,hz,h4⟩
  ·omega
  ·obtain⟨hk,rfl⟩:=List.getElem?_eq_some_iff.1 hz;rw[List.getElem_take]
   by_cases e:i=k-1
   ·subst e;exact h4
   ·exact hS.ntrans _ _ _ h4 (List.pairwise_iff_getElem.1 h i (k-1) (by omega) hk (by omega))
 have hasym: ∀y,lt x y=true->lt y x=false:=fun y hy=>by
  cases hc:lt y x with
  |false=>rfl
  |true=>have:=hS.trans x y x hy hc;rw[hS.irrefl]at this;cases this
 refine List.pairwise_append.2 ⟨h.sublist (List.take_sublist _ _),List.pairwise_cons.2 ⟨fun y hy=>hasym y (hd y hy),h.sublist (List.drop_sublist _ _)⟩,fun a ha b hb=>?_⟩
 rcases List.mem_cons.1 hb with rfl|hb
 ·exact ht a ha
 ·have:=(List.take_append_drop k P).symm▸h;exact(List.pairwise_append.1 this).2.2 a ha b hb
theorem sg{P:List α}{x:α}:(f9 lt P x).Perm (x::P):=by grind [f9,b_,List.perm_middle,List.take_append_drop]
theorem js[Inhabited α](hS:SWO lt): ∀(l P:List α),Asc lt P->Asc lt (l.foldl (f9 lt) P)/\(l.foldl (f9 lt) P).Perm (l++P)
 |[],P,h=>⟨h,List.Perm.refl _⟩
 |x::r,P,h=>by
  obtain⟨h1,h2⟩:=js hS r (f9 lt P x) (ahT hS h);refine⟨h1,h2.trans ?_⟩;have e1:(r++f9 lt P x).Perm (r++(x::P)):=(List.Perm.refl r).append sg;exact e1.trans List.perm_middle
theorem qp[Inhabited α](hS:SWO lt)(l:List α):Asc lt (aG lt l):=(js hS l [] List.Pairwise.nil).1
theorem xH[Inhabited α](hS:SWO lt)(l:List α):(aG lt l).Perm l:=by
 have:=(js hS l [] List.Pairwise.nil).2
 rwa[List.append_nil]at this
end
def Todo(R:Array UInt8->Prop)(a b:Nat)(d:Array UInt8):Prop:= ∀d',PermIn a b d d'->SortedIn ltU a b d'->R d'
section
variable {R:Array UInt8->Prop} {a b mid:Nat} {d d1 d2:Array UInt8}
theorem Todo.perm(h:Todo R a b d)(hp:PermIn a b d d1):Todo R a b d1:=fun d' h1 h2=>h d' (permIn_trans _ _ _ _ _ hp h1) h2
theorem Todo.done(h:Todo R a b d)(hs:SortedIn ltU a b d):R d:=h d (permIn_refl _ _ _) hs
theorem zf(l:List UInt8):Todo (fun d=>d.toList=aG ltU l) 0 l.length l.toArray:=by
 have key: ∀d':Array UInt8,PermIn 0 l.length l.toArray d'->SortedIn ltU 0 l.length d'->d'.toList=l.mergeSort (fun x y=> !ltU y x):=fun d' h1 h2=>
  sorted_unique_holds swoU anM l.toArray d' (by simpa using h1) (by simpa using h2)
 intro d' h1 h2;show d'.toList=aG ltU l;rw[key d' h1 h2];refine(key (aG ltU l).toArray ⟨by simp[cm],fun i hi=>?_,?_⟩ fun i j _ hij hj=>?_).symm
 ·have hi:l.length<=i:=by omega
  rw[getElem!_neg _ _ (by simp[cm];omega),getElem!_neg _ _ (by simp;omega)]
 ·have e1:((aG ltU l).toArray.extract 0 l.length).toList=aG ltU l:=by
   simp;rw[List.take_of_length_le (by rw[cm];omega)]
  have e2:(l.toArray.extract 0 l.length).toList=l:=by simp
  rw[e1,e2];exact xH swoU l
 ·have hl:(aG ltU l).length=l.length:=cm;have:=List.pairwise_iff_getElem.1 (qp swoU l) i j (by omega) (by omega) hij
  rw[getElem!_pos _ j (by simp;omega),getElem!_pos _ i (by simp;omega)]
  simpa using this
theorem Todo.right(h:Todo R a b d)(hb:b<=d.size)(h1:a<=mid)(h2:mid<b)(hp:PermIn a b d d1)(hlo: ∀i,a<=i->i<mid->ltU d1[i]! d1[mid]! =true)(hhi: ∀i,mid<i->i<b->ltU d1[i]! d1[mid]! =false)
  (hp2:PermIn a mid d1 d2) (hs2:SortedIn ltU a mid d2):Todo R (mid+1) b d2/\Below ltU (mid+1) b d2:=by
 have z1:d1.size=d.size:=hp.1;have z2:d2.size=d1.size:=hp2.1;refine⟨fun d' g1 g2=>h d' ?_ ?_,.inr fun i hi hib=>?_⟩
 ·exact permIn_trans _ _ _ _ _ hp (permIn_trans _ _ _ _ _ (permIn_mono _ _ _ _ a b (Nat.le_refl _) (by omega) (by omega) hp2) (permIn_mono _ _ _ _ a b (by omega) (Nat.le_refl _) (by omega) g1))
 ·have em:d'[mid]! =d1[mid]!:=(g1.2.1 mid (.inl (by omega))).trans (hp2.2.1 mid (.inr (Nat.le_refl _)))
  refine sorted_glue swoU (mid:=mid) (hs2.congr fun i hi him=>g1.2.1 i (.inl (by omega))) g2 (fun i hi him=>?_) (fun i him hib=>?_)
  ·rw[em,g1.2.1 i (.inl (by omega))]
   exact permIn_all d1 d2 a mid (fun x=>ltU x d1[mid]! =true) (by omega) hp2 hlo i hi him
  ·rw[em];refine permIn_all d2 d' (mid+1) b (fun x=>ltU x d1[mid]! =false) (by omega) g1 (fun j hj hjb=>?_) i (by omega) hib
   rw[hp2.2.1 j (.inr (by omega))]
   exact hhi j (by omega) hjb
 ·rw[Nat.add_sub_cancel,hp2.2.1 i (.inr (by omega)),hp2.2.1 mid (.inr (Nat.le_refl _))]
  exact hhi i (by omega) hib
theorem Todo.left(h:Todo R a b d)(hb:b<=d.size)(h1:a<=mid)(h2:mid<b)(hp:PermIn a b d d1)(hlo: ∀i,a<=i->i<mid->ltU d1[i]! d1[mid]! =true)(hhi: ∀i,mid<i->i<b->ltU d1[i]! d1[mid]! =false)
  (hbl:Below ltU a b d) (hp2:PermIn (mid+1) b d1 d2) (hs2:SortedIn ltU (mid+1) b d2):Todo R a mid d2/\Below ltU a mid d2:=by
 have z1:d1.size=d.size:=hp.1;have z2:d2.size=d1.size:=hp2.1;have hpa:PermIn a b d d2:=permIn_trans _ _ _ _ _ hp (permIn_mono _ _ _ _ a b (by omega) (Nat.le_refl _) (by omega) hp2)
 refine⟨fun d' g1 g2=>h d' ?_ ?_,(hbl.perm hb hpa).mono (by omega)⟩
 ·exact permIn_trans _ _ _ _ _ hpa (permIn_mono _ _ _ _ a b (Nat.le_refl _) (by omega) (by omega) g1)
 ·have em:d'[mid]! =d1[mid]!:=(g1.2.1 mid (.inr (Nat.le_refl _))).trans (hp2.2.1 mid (.inl (by omega)))
  refine sorted_glue swoU (mid:=mid) g2 (hs2.congr fun i hi him=>g1.2.1 i (.inr (by omega))) (fun i hi him=>?_) (fun i him hib=>?_)
  ·rw[em];refine permIn_all d2 d' a mid (fun x=>ltU x d1[mid]! =true) (by omega) g1 (fun j hj hjm=>?_) i hi him
   rw[hp2.2.1 j (.inl (by omega))]
   exact hlo j hj hjm
  ·rw[em,g1.2.1 i (.inr (by omega))]
   exact permIn_all d1 d2 (mid+1) b (fun x=>ltU x d1[mid]! =false) (by omega) hp2 (fun j hj hjb=>hhi j (by omega) hjb) i (by omega) hib
theorem Todo.equal{p:UInt8}(h:Todo R a b d)(hb:b<=d.size)(h1:a<mid)(h2:mid<=b)(hp:PermIn a b d d1)(hlo: ∀i,a<=i->i<mid->ltU p d1[i]! =false)(hhi: ∀i,mid<=i->i<b->ltU p d1[i]! =true)
  (hge: ∀i,a<=i->i<b->ltU d[i]! p=false):Todo R mid b d1/\Below ltU mid b d1:=by
 have z1:d1.size=d.size:=hp.1;have hge1:=permIn_all d d1 a b (fun x=>ltU x p=false) hb hp hge
 refine⟨fun d' g1 g2=>h d' ?_ ?_,.inr fun i hi hib=>?_⟩
 ·exact permIn_trans _ _ _ _ _ hp (permIn_mono _ _ _ _ a b (by omega) (Nat.le_refl _) (by omega) g1)
 ·refine sorted_glue_eq swoU p g2 (fun i hi him=>?_) (fun i hi him=>?_) (fun i him hib=>?_)
  ·rw[g1.2.1 i (.inl (by omega))];exact hlo i hi him
  ·rw[g1.2.1 i (.inl (by omega))];exact hge1 i hi (by omega)
  ·exact permIn_all d1 d' mid b (fun x=>ltU p x=true) (by omega) g1 hhi i him hib
 ·have g1:=hlo (mid-1) (by omega) (by omega)
  have g2:=hhi i hi hib;cases hc:ltU d1[i]! d1[mid-1]! with
  |false=>rfl
  |true=>have:=swoU.trans _ _ _ g2 hc;rw[g1]at this;cases this
end
end Go.Eng
namespace Go.Proofs.YthoihfighiolmaaGreat.V
open Go.Eng
def Rt(self:UInt8)(room:Int)(l:List GDesc):Prop:=(l.length:Int)<=room/\Vw self l
section
variable {self:UInt8} {room:Int} {l:List GDesc}
theorem ml(h:Rt self room l)(d:GDesc):Rt self room (bH l d self room).1:=⟨oC d h.1,mG h.2 d room⟩
theorem abu: ∀(r l:List GDesc),Rt self room l->Rt self room (dy self room l r)
 |[],l,h=>h
 |d::r,l,h=>by rw[dy];exact abu r _ (ml h d)
theorem ahI(h:Rt self room l)(d:GDesc):Rt self room (dJ l d self room):=by
 unfold dJ;split
 ·exact ml h d
 ·split
  ·exact h
  ·split
   ·exact h
   ·split
    ·rename_i o _;have h1:=oC (self:=self) (l:=aD l o.node) d (room:=l.length) (by have:=fW l o.node;omega)
     exact⟨Int.le_trans h1 h.1,mG (og h.2 _) d _⟩
    ·exact h
theorem m8{l:List GDesc}{s:UInt8}(h:cd l s≠none):(aD l s).length<l.length:=by
 cases hi:cd l s with
 |none=>exact absurd hi h
 |some i=>
  obtain⟨o,ho,hn⟩:=dS hi;exact List.length_filter_lt_length_iff_exists.2 ⟨o,List.mem_of_getElem? ho,by simp[hn]⟩
theorem sh{L got:List GDesc}(hv:Vw self L): ∀S:List GDesc,Vw self (cw L got S).1/\((cw L got S).2.1=true->(cw L got S).1.length+1<=L.length)
 |[]=>⟨hv,fun h=>by cases h⟩
 |s::r=>by
  rw[cw];split
  ·rename_i h;exact⟨og hv _,fun _=>m8 h.1⟩
  ·exact sh hv r
theorem jd{got:List GDesc}: ∀(r L S:List GDesc),Rt self room L->Rt self room (cC got self room L S r)
 |[],L,S,h=>h
 | d ::r,L,S,h=>by
  rw[cC];split
  ·exact jd r _ _ (ml h d)
  ·split
   ·exact jd r _ _ h
   ·split
    ·rename_i hg;obtain⟨h1,h2⟩:=sh (got:=got) h.2 S;have h3:=h2 hg;have h4:=oC (self:=self) (l:=(cw L got S).1) d (room:=(cw L got S).1.length+1) (by omega)
     have h5:=h.1;exact jd r _ _ ⟨by omega,mG h1 d _⟩
    ·exact jd r _ _ h
theorem gg(h:Rt self room l)(f:GDesc->Bool):Rt self room (l.filter f):=⟨by have:=List.length_filter_le f l;have:=h.1;omega,fun d hd=>h.2.1 d (List.mem_filter.1 hd).1,h.2.2.filter _⟩
theorem agz(h:Rt self room l):Rt self room (bf l):=⟨by rw[bf,List.length_map];exact h.1,xy h.2⟩
theorem mf(h:Rt self room l)(h0:0<=room):mJ l self room=true:=by
 unfold mJ;exact decide_eq_true ⟨h0,h.1,h.2⟩
theorem lU(h:mJ l self room=true):Rt self room l:=by
 unfold mJ at h;exact(of_decide_eq_true h).2
end
theorem union_up{self:UInt8}{L:List (List GDesc)}:Up bS (aV self L):=by
 unfold aV;have key:=lE (self:=self) (P:=fun _=>True) agH (ds:=L.flatten) (fun _ _=>trivial)
 generalize eX self zL L.flatten=A at key;refine List.pairwise_filter.2 (List.pairwise_iff_getElem.2 fun i j hi hj hij h1 h2=>?_)
 have k1:=key i _ (List.getElem?_eq_getElem hi);have k2:=key j _ (List.getElem?_eq_getElem hj);have z: ∀{x:GDesc},decide ((0:Int)<(x.inc.toNat:Int))=true-> ¬x.inc=0:=fun h e=>by rw[e]at h;simp at h
 have e1:=(k1.resolve_left (z h1)).1;have e2:=(k2.resolve_left (z h2)).1;show bS A[i]<bS A[j];simp only[bS];omega
theorem adz{self:UInt8}{L:List (List GDesc)}{d:GDesc}(h:d∈aV self L):d.inc≠0:=fun e=>by
 have:=(List.mem_filter.1 h).2;rw[e]at this;simp at this
instance:Inhabited GDesc:=⟨zDesc⟩
instance:Inhabited jD:=⟨⟨zDesc,0⟩⟩
theorem af_{a b:Nat}:e_ a b<0↔a<b:=by grind [e_]
theorem jT(a b:GDesc):bG a b=decide (bS a<bS b):=by
 unfold bG
 congr 1
 exact propext af_
theorem aiO:Go.Sort.SWO bG where
 irrefl x:=by rw[jT];simp
 trans x y z:=by simp only[jT,decide_eq_true_eq];omega
 ntrans x y z:=by simp only[jT,decide_eq_false_iff_not];omega
theorem oO{α:Type}{lt:α->α->Bool}: ∀(l P:List α),(l.foldl (f9 lt) P).Perm (l++P)
 |[],P=>List.Perm.refl _
 |x::r,P=>by
  refine(oO r (f9 lt P x)).trans ?_;exact((List.Perm.refl r).append sg).trans List.perm_middle
theorem nD{α:Type}{lt:α->α->Bool}(l:List α):(aG lt l).Perm l:=by
 have:=oO (lt:=lt) l []
 rwa[List.append_nil]at this
theorem akm{own:List GSpan}{self:UInt8}{room:Int}{L:List (List GDesc)}(h0:0<=room)(hs: ∀l∈L, ∀d∈l,d.node≠self):Rt self room (cG own self room L):=by
 have hmem: ∀d∈cG own self room L,d.node≠self/\d.inc≠0:=fun d hd=>by
  have h1:=iJ hd;obtain⟨l,h2,h3⟩:=dN h1;exact⟨hs l h2 d h3,adz h1⟩
 refine⟨?_,hmem,?_⟩
 ·unfold cG;split
  ·simpa using h0
  ·rw[cm,List.length_map,List.length_take];omega
 ·unfold cG;split
  ·exact List.Pairwise.nil
  ·have hu:((aV self L).map bS).Nodup:=(List.pairwise_map.2 (union_up.imp fun h=>Nat.ne_of_lt h))
   have e1:((fScored own (aV self L)).map fun x=>bS x.d).Nodup:=by
    refine List.Nodup.sublist ?_ hu;unfold fScored;refine List.Sublist.trans (List.Sublist.map _ List.filter_sublist) ?_;rw[List.map_map];exact List.Sublist.refl _
   have e2:((aG aW (fScored own (aV self L))).map fun x=>bS x.d).Nodup:=((nD _).map _).nodup_iff.2 e1
   have e3:((((aG aW (fScored own (aV self L))).take room.toNat).map (·.d)).map bS).Nodup:=by
    rw[List.map_map];exact List.Nodup.sublist (List.Sublist.map _ (List.take_sublist _ _)) e2
   generalize ((aG aW (fScored own (aV self L))).take room.toNat).map (·.d)=X at e3
   have e4:((aG bG X).map bS).Nodup:=((nD _).map _).nodup_iff.2 e3;have e5:=qp aiO X;have e6:=List.pairwise_map.1 e4;refine List.Pairwise.imp₂ ?_ e5 e6;intro a b h1 h2;rw[jT]at h1;have:=of_decide_eq_false h1;show bS a<bS b;omega
theorem ahW{own:List GSpan}{self:UInt8}{room:Int}{L:List (List GDesc)}{d:GDesc}(h:d∈cG own self room L):0<dP own d.filter:=by
 unfold cG at h;split at h
 ·cases h
 ·rcases gK h with h|h
  ·obtain⟨x,hx,rfl⟩:=List.mem_map.1 h;rcases gK (List.mem_of_mem_take hx)with h|h
   ·obtain⟨h,h2⟩:=List.mem_filter.1 h;obtain⟨y,hy,rfl⟩:=List.mem_map.1 h;exact of_decide_eq_true h2
   ·cases h
  ·cases h
theorem afz{p q:ah}(h1:q.node=p.node)(h2:q.table=p.table)(d:GDesc):ck q d=ck p d:=by
 unfold ck;rw[h1,h2]
theorem ahK{p:ah}{d:GDesc}(h:ck p d=true):d.node≠p.node:=(sL h).1
theorem ae9{p:ah}{r:b9}{d:GDesc}(h:d∈aw (bJ p r)):ck p d=true:=by
 rcases dU h with ⟨h1,rfl⟩|⟨h1,rfl⟩
 ·have h2:r.hs=true/\ck p r.succ=true:=by simpa[bJ]using h1
  have e:(bJ p r).succ=r.succ:=by simp[bJ,h2.2]
  rw[e];exact h2.2
 ·have h2:r.hp=true/\ck p r.pred=true:=by simpa[bJ]using h1
  have e:(bJ p r).pred=r.pred:=by simp[bJ,h2.2]
  rw[e];exact h2.2
theorem jE{far:UInt16->UInt16->UInt16}{here:UInt16}{dom:List GSpan}{known:List GDesc}(h:known≠[]):dv far here dom known∈known:=by grind [iA,dv,List.getElem?_eq_getElem,List.getElem_mem]
theorem zC{dom:List GSpan}{s:GDesc}{L:List (List GDesc)}{d:GDesc}(h:d∈aw (bN dom s L)):d∈aV s.node L:=by grind [bN,aw,dU,jE]
theorem wJ{dom:List GSpan}{s:GDesc}{L:List (List GDesc)}:(bN dom s L).hs=(bN dom s L).hp:=by
 unfold bN;split<;>rfl
structure Pre(c:ar)(p:ah):Prop where
 table:(p.table.length:Int)=c.nodes
 rows:(p.rows.length:Int)=c.nodes
 heard:(p.heard.length:Int)=c.nodes
 view:Rt p.node c.view p.view
theorem ahj{c:ar}{p:ah}{l:List GDesc}:(∀k∈[pCur p p.view,pCur p p.near,aw (bJ p p.ring),pUse c p l], ∀d∈k,ck p d=true)/\
  ∀d∈cG p.filter p.node c.near [pCur p p.view,pCur p p.near,aw (bJ p p.ring),pUse c p l],ck p d=true:=by
 have h1: ∀k∈[pCur p p.view,pCur p p.near,aw (bJ p p.ring),pUse c p l], ∀d∈k,ck p d=true:=by
  intro k hk d hd;simp only[List.mem_cons,List.not_mem_nil,or_false]at hk;rcases hk with rfl|rfl|rfl|rfl
  ·exact(List.mem_filter.1 hd).2
  ·exact(List.mem_filter.1 hd).2
  ·exact ae9 hd
  ·exact(List.mem_filter.1 hd).2
 refine⟨h1,fun d hd=>?_⟩
 obtain⟨k,h2,h3⟩:=dN (iJ hd);exact h1 k h2 d h3
theorem pn{c:ar}{p:ah}{l:List GDesc}(hc:aB c=true)(h:Pre c p):Win c (aJ c p l):=by
 obtain⟨m1,m2⟩:=ahj (c:=c) (p:=p) (l:=l)
 have hv0:0<=c.view/\0<=c.near:=by
  unfold aB inR at hc;simp only[Bool.and_eq_true,decide_eq_true_eq]at hc;omega
 have hsame: ∀d,ck (aJ c p l) d=ck p d:=afz rfl rfl;refine⟨h.table,h.rows,h.heard,?_,?_,?_,?_,?_⟩
 ·exact mf (gg h.view _) hv0.1
 ·exact mf (akm hv0.2 (fun k hk d hd=>ahK (m1 k hk d hd))) hv0.2
 ·intro k hk d hd;rw[hsame];simp only[List.mem_cons,List.not_mem_nil,or_false]at hk;rcases hk with rfl|rfl|rfl
  ·exact(List.mem_filter.1 hd).2
  ·exact m2 d hd
  ·obtain⟨k2,h2,h3⟩:=dN (zC hd);simp only[List.mem_cons,List.not_mem_nil,or_false]at h2;rcases h2 with rfl|rfl|rfl|rfl
   ·exact m1 _ (by simp) d h3
   ·exact m2 d h3
   ·exact m1 _ (by simp) d h3
   ·exact m1 _ (by simp) d h3
 ·exact fun d hd=>ahW hd
 ·exact .inl wJ
