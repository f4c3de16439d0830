import Derived.Test.YtmhmahcdanclnaaGreatNo10
import Derived.Test.YtmhmahcdanclnaaGreatNo17
set_option linter.unusedSectionVars false
set_option linter.unusedSimpArgs false
set_option linter.unusedVariables false
set_option maxRecDepth 10000
namespace Go.Proofs.YtmhmahcdanclnaaGreat.V
open Go.Eng
attribute [local go_sem] GSpan.val GSpan.enc ak0
theorem SameB.one{k b T:Nat}{cs cs':List Value}{r:List (Nat×Eng.Loc)}:SameB ((k,⟨b,cs,T⟩)::r) ((k,⟨b,cs',T⟩)::r):=fun j=>by
 by_cases e:k=j
 ·subst e;rw[ax];exact⟨_,ax ..,rfl,rfl⟩
 ·rw[aj e,aj e];exact SameB.refl r j
theorem xv{P:Program}{f:FuncId}{args:List DV}{d:DV}{vs:List Value}{u:World}{v:Value}(h:Con2 P f args (· =plR d))(ha:HVs u args noB vs)(hv: ∀us β w,HV us d β w->w=v):Con P f vs u (fun r _=>r=v):=by
 obtain⟨h1,h2⟩:=h u vs ha;refine⟨h1,fun w hw=>(h2 w hw).mono ?_⟩
 rintro e w' ⟨r,u',rfl,h3,h4,x,rfl,β,us,s,hr,hs⟩
 refine⟨r,u',rfl,h3,h4,?_⟩;obtain⟨w,e,hw⟩:=hr.slot 0;rw[hs]at e;cases e;exact hv _ _ _ hw
theorem wC(p q:Option Addr)(n c m k:Nat)(u:World):Con Tryz.prog 233 [.slice p n c,.slice q m k] u (fun r u'=> ∃b1 b2,r= .func (.func 305) #[] #[.pointer (some ⟨b1,0,none⟩),.pointer (some ⟨b2,0,none⟩)]/\CellsAt u' ⟨b1,0,none⟩ [.slice p n c]/\CellsAt u' ⟨b2,0,none⟩ [.slice q m k]):=by
 refine fL Ty.mixed Tryz.func233 rfl (by kernel_rfl) (by kernel_rfl) rfl [.tmp 4] rfl ?_
 refine vs_ ?_;intro b b' u1 g1 g2 _ g3 _ u2 g4 _ _ g5 _
 have at1: ∀{u:World} {b T:Nat} {v:Value},u.heap[b]? =some (.cells #[v] T (0,0))->CellsAt u ⟨b,0,none⟩ [v]:=fun {u b T v} h j w hw=>by
  rw[Addr.add_lit];exact eH h (by simpa using hw)
 exact⟨g1.trans g4,b,b',rfl,at1 (g4 _ _ g3 ay),at1 g5⟩
theorem vN{s:S}:wu [] s=s:=rfl
theorem rr{t:Nat}{v:Value}{r:List (Nat×Value)}{s:S}:wu ((t,v)::r) s=wu r (s.put (some t) (.v v)):=rfl
theorem pY{P:Program}{u0:World}{bd:Code}{R:Exit->S->World->Prop}{s:S}{v:World}:asl P u0 bd R .normal s v=Vc P u0 bd R s v:=rfl
attribute [local go_sem] vN rr pY List.zip_cons_cons List.zip_nil_right List.zip_nil_left
theorem pq{σ:List (Nat×Eng.Loc)}{I:List (Nat×Eng.Loc)->World->Prop}{Ix:Exit->List (Nat×Eng.Loc)->World->Prop}{s:S}{v:World}:arV σ I Ix .normal s v= ∃σ',SameB σ σ'/\(⟨[],σ'⟩:S).le s/\I σ' v:=rfl
theorem z4{σ:List (Nat×Eng.Loc)}{I:List (Nat×Eng.Loc)->World->Prop}{Ix:Exit->List (Nat×Eng.Loc)->World->Prop}{s:S}{v:World}:arV σ I Ix .ret s v= ∃σ',SameB σ σ'/\(⟨[],σ'⟩:S).le s/\Ix .ret σ' v:=rfl
attribute [local go_sem] pq z4
def abQ(x:PPr):Bool:=decide (x.2.a<=x.2.b)&&aof x.1 x.2
def jC(dom f:List GSpan):Bool:=f.isEmpty||(decide (f.length=dom.length)&&(dom.zip f).all abQ)
theorem aeA(dom f:List GSpan)(p q:Option Addr)(c k:Nat)(u:World)(s1:Sl u 2 p dom.length c (dom.map GSpan.enc))(s2:Sl u 2 q f.length k (f.map GSpan.enc))(n1:dom.length<=1000000000)(n2:f.length<=1000000000):
  Con Tryz.prog 308 [.slice p dom.length c,.slice q f.length k] u (fun r _=>r= .bool (jC dom f)):=by
 refine fL Ty.mixed Tryz.func308 rfl (by kernel_rfl) (by kernel_rfl) rfl [.cell 4 4] rfl ?_
 refine vs_ ?_;intro b4;refine re (fun h=>?_) (fun h=>?_)
 ·refine vs_ ?_;refine⟨Sub.refl _,?_⟩;have:f=[]:=List.eq_nil_of_length_eq_zero (by omega)
  simp[jC,this]
 ·refine vs_ ?_;refine afo (fun h2=>?_) (fun h2=>?_)
  ·refine vs_ ?_;refine⟨Sub.refl _,?_⟩;have h3: ¬f.length=dom.length:=by omega
   have h4:f≠[]:=fun e=>h (by rw[e];rfl)
   simp[jC,h3,h4]
  ·refine vs_ ?_;refine AtCall.of_spec (wC p q dom.length c f.length k u) ?_
   rintro r ub hsb ⟨b1,b2,rfl,g1,g2⟩
   refine vs_ ?_;refine nF ?_
   refine jT (gf:=305) (lb:=[.pointer (some ⟨b1,0,none⟩),.pointer (some ⟨b2,0,none⟩)]) rfl (vY g1 g2 (s1.mono hsb) (s2.mono hsb) n1 n2) (fun _=>rfl)
    (fun pre σ v=>Sub ub v/\σ=[(4,⟨b4,[.bool false],4⟩)]/\pre.all abQ=true)
    (fun pre e σ v=>e= .ret/\Sub ub v/\σ=[(4,⟨b4,[.bool false],4⟩)]/\pre.all abQ=false) (fun _ _ _ h=>⟨h.1,trivial⟩) ⟨Sub.refl _,rfl,rfl⟩ ?_ ?_ ?_
   ·rintro pre ⟨x,y⟩ σ v hsame ⟨h3,rfl,h4⟩ hpre
    refine Vc.of ?_;refine vs_ ?_;intro b5 b6;refine Vc.of ?_;refine vs_ ?_;have hsc:=xv (u:=v) (vs:=[x.val,y.val]) (akz x y) ⟨_,_,rfl,⟨_,rfl,_,_,rfl,⟨rfl,rfl⟩,_,_,rfl,⟨rfl,rfl⟩,rfl⟩,_,_,rfl,⟨_,rfl,_,_,rfl,⟨rfl,rfl⟩,_,_,rfl,⟨rfl,rfl⟩,rfl⟩,rfl⟩ (fun _ _ _ h=>h.1)
    refine pJ (fun hg=>?_) (fun hg=>?_)
    ·have hxy:y.a<=y.b:=by simpa using hg
     refine vs_ ?_;refine ek hg ?_;refine vs_ ?_;refine ek hg ?_;refine vs_ ?_;refine AtCall.of_spec hsc ?_
     rintro _ v2 hv2 rfl
     refine vs_ ?_;refine ek hg ?_;refine vs_ ?_;rw[hg];cases hc:aof x y with
     |true=>
      refine vs_ ?_;refine⟨[(4,⟨b4,[.bool false],4⟩)],hsame,gW (by simp only[go_sem,bI,bc,bw,bm,Nat.reduceBEq,Nat.reduceAdd,Nat.reduceLeDiff,Nat.reduceEqDiff,Int.reduceAdd,Int.reduceBEq,Int.reduceBNe,reduceCtorEq,beq_self_eq_true,Bool.true_beq,Bool.false_beq]),h3.trans hv2,rfl,?_⟩
      rw[List.all_append,h4];simp[abQ,hxy,hc]
     |false=>
      refine vs_ ?_;refine⟨[(4,⟨b4,[.bool false],4⟩)],hsame,gW (by simp only[go_sem,bI,bc,bw,bm,Nat.reduceBEq,Nat.reduceAdd,Nat.reduceLeDiff,Nat.reduceEqDiff,Int.reduceAdd,Int.reduceBEq,Int.reduceBNe,reduceCtorEq,beq_self_eq_true,Bool.true_beq,Bool.false_beq]),h3.trans hv2,rfl,?_⟩
      rw[List.all_append,h4];simp[abQ,hc]
    ·have hxy:y.b<y.a:=by simpa using hg
     have hxy2: ¬y.a<=y.b:=by omega
     refine vs_ ?_;refine gr hg ?_;refine vs_ ?_;refine gr hg ?_;refine vs_ ?_;refine gr hg ?_;rw[hg];refine vs_ ?_;refine⟨[(4,⟨b4,[.bool false],4⟩)],hsame,gW (by simp only[go_sem,bI,bc,bw,bm,Nat.reduceBEq,Nat.reduceAdd,Nat.reduceLeDiff,Nat.reduceEqDiff,Int.reduceAdd,Int.reduceBEq,Int.reduceBNe,reduceCtorEq,beq_self_eq_true,Bool.true_beq,Bool.false_beq]),h3,rfl,?_⟩
     rw[List.all_append,h4];simp[abQ,hxy2]
   ·rintro xs σ v hsame rfl ⟨h3,rfl,h4⟩
    refine vs_ ?_;refine⟨hsb.trans h3,?_⟩;have e1:f.length=dom.length:=by omega
    have e2: ¬f=[]:=fun e=>h (by rw[e];rfl)
    simp[jC,h4,e1,e2]
   ·rintro pre e σ v hsame hpre ⟨rfl,h3,rfl,h4⟩
    refine vs_ ?_;refine⟨hsb.trans h3,?_⟩;have e2: ¬f=[]:=fun e=>h (by rw[e];rfl)
    have e3:(dom.zip f).all abQ=false:=by
     obtain⟨t,ht⟩:=hpre;rw[<-ht,List.all_append,h4];rfl
    rw[jC,e3];simp[e2]
def ng(x:PPr):GSpan:=fK x.1 x.2
def oA(x:PPr):Bool:=iF (ng x)
def ew(f g:List GSpan):List GSpan:=if f.length=g.length/\(f.zip g).any oA=false then (f.zip g).map ng else []
theorem aiF(f g:List GSpan)(p q:Option Addr)(c k:Nat)(u:World)(s1:Sl u 2 p f.length c (f.map GSpan.enc))(s2:Sl u 2 q g.length k (g.map GSpan.enc))(n1:f.length<=1000000000)(n2:g.length<=1000000000):
  Con Tryz.prog 146 [.slice p f.length c,.slice q g.length k] u (fun r u'=> ∃p' c',r= .slice p' (ew f g).length c'/\Sl u' 2 p' (ew f g).length c' ((ew f g).map GSpan.enc)):=by
 refine fL Ty.mixed Tryz.func146 rfl (by kernel_rfl) (by kernel_rfl) rfl [.cell 4 31] rfl ?_
 refine vs_ ?_;intro b4;refine afo (fun h=>?_) (fun h=>?_)
 ·refine vs_ ?_;have h3: ¬f.length=g.length:=by omega
  refine⟨Sub.refl _,none,0,?_⟩;simp only[ew,h3,false_and,if_false];exact⟨rfl,Sl.zero _ _ _⟩
 ·refine vs_ ?_;intro b5;refine AtCall.of_spec (wC p q f.length c g.length k u) ?_
  rintro r ub hsb ⟨b1,b2,rfl,g1,g2⟩
  refine vs_ ?_;refine nF ?_
  refine jT (gf:=305) (lb:=[.pointer (some ⟨b1,0,none⟩),.pointer (some ⟨b2,0,none⟩)]) rfl (vY g1 g2 (s1.mono hsb) (s2.mono hsb) n1 n2) (fun _=>rfl)
   (fun pre σ v=>Sub ub v/\pre.any oA=false/\ ∃p n c,σ=[(5,⟨b5,[.slice p n c],31⟩),(4,⟨b4,[.slice none 0 0],31⟩)]/\n=pre.length/\cW ub p/\Eng.Own u v 108 2 p n c ((pre.map ng).map GSpan.enc))
   (fun pre e σ v=>e= .ret/\Sub ub v/\pre.any oA=true/\ ∃p n c,σ=[(5,⟨b5,[.slice p n c],31⟩),(4,⟨b4,[.slice none 0 0],31⟩)]) (fun _ _ _ h=>⟨h.1,trivial⟩) ⟨Sub.refl _,rfl,none,0,0,rfl,rfl,by simp[cW],Eng.Own.nil_ _ _ _ _⟩ ?_ ?_ ?_
  ·rintro pre ⟨x,y⟩ σ v hsame ⟨h3,h4,p',n',c',rfl,hn',hfp,ho⟩ hpre
   have hlen:n'<f.length/\n'<g.length:=by
    have:=hpre.length_le;simp at this;omega
   refine Vc.of ?_;refine vs_ ?_;intro b6 b7;refine Vc.of ?_;refine vs_ ?_
   have hsm:=xv (u:=v) (vs:=[x.val,y.val]) (agq x y) ⟨_,_,rfl,⟨_,rfl,_,_,rfl,⟨rfl,rfl⟩,_,_,rfl,⟨rfl,rfl⟩,rfl⟩,_,_,rfl,⟨_,rfl,_,_,rfl,⟨rfl,rfl⟩,_,_,rfl,⟨rfl,rfl⟩,rfl⟩,rfl⟩
    (v:=.tuple #[(if iF (fK x y)=true then (⟨0,0⟩:GSpan)else fK x y).val,.bool (!iF (fK x y))]) (by
     rintro us β w ⟨V,rfl,_,_,rfl,⟨V2,rfl,_,_,rfl,⟨rfl,_⟩,_,_,rfl,⟨rfl,_⟩,rfl⟩,_,_,rfl,⟨rfl,_⟩,rfl⟩
     rfl)
   generalize hsn:iF (fK x y)=sn at hsm;generalize hz:(if sn=true then (⟨0,0⟩:GSpan)else fK x y)=z at hsm
   refine AtCall.of_spec hsm ?_
   rintro _ v2 hv2 rfl
   refine vs_ ?_;intro b8;cases sn with
   |true=>
    refine vs_ ?_;refine⟨[(5,⟨b5,[.slice p' n' c'],31⟩),(4,⟨b4,[.slice none 0 0],31⟩)],hsame,gW (by simp only[go_sem,bI,bc,bw,bm,Nat.reduceBEq,Nat.reduceAdd,Nat.reduceLeDiff,Nat.reduceEqDiff,Int.reduceAdd,Int.reduceBEq,Int.reduceBNe,reduceCtorEq,beq_self_eq_true,Bool.true_beq,Bool.false_beq]),h3.trans hv2,?_,_,_,_,rfl⟩
    rw[List.any_append,h4];simp[oA,ng,hsn]
   | false=>
    obtain rfl:fK x y=z:=hz;refine vs_ ?_;refine nu (n:=1) (vs:=[(fK x y).val]) Ty.el31 rfl rfl (by intro v hv;simp at hv;subst hv;rfl) (by omega) ?_
    intro pv v3 hov hsv hfv;refine vs_ ?_;refine gX Ty.el31 (ho.mono (hv2.trans hsv)) hov.sl (by intro y hy;simp at hy;subst hy;rfl) (by omega) (by omega) ?_
    intro q' d' w' ho' hsw hqw;refine vs_ ?_;refine⟨[(5,⟨b5,[.slice q' (n'+1) d'],31⟩),(4,⟨b4,[.slice none 0 0],31⟩)],?_,gW (by simp only[go_sem,bI,bc,bw,bm,Nat.reduceBEq,Nat.reduceAdd,Nat.reduceLeDiff,Nat.reduceEqDiff,Int.reduceAdd,Int.reduceBEq,Int.reduceBNe,reduceCtorEq,beq_self_eq_true,Bool.true_beq,Bool.false_beq]),hsw.sub ((h3.trans hv2).trans hsv) hfp,?_,_,_,_,rfl,?_,?_,?_⟩
    ·exact SameB.one
    ·rw[List.any_append,h4];simp[oA,ng,hsn]
    ·simp[hn']
    ·rcases hqw with rfl|h
     ·exact hfp
     ·exact fun a ha=>Fresh.anti ((h3.trans hv2).trans hsv) (h a ha)
    ·rw[List.map_append,List.map_append];exact ho'
  ·rintro xs σ v hsame rfl ⟨h3,h4,p',n',c',rfl,hn',hfp,ho⟩
   refine vs_ ?_;refine⟨hsb.trans h3,p',c',?_⟩;have e1:f.length=g.length:=by omega
   have e2:ew f g=(f.zip g).map ng:=by simp[ew,e1,h4]
   rw[e2];have e3:n'=((f.zip g).map ng).length:=by simpa using hn'
   subst e3;exact⟨rfl,ho.sl⟩
  ·rintro pre e σ v hsame hpre ⟨rfl,h3,h4,p',n',c',rfl⟩
   refine vs_ ?_
   have e2:ew f g=[]:=by
    have:(f.zip g).any oA=true:=by
     obtain⟨t,ht⟩:=hpre;rw[<-ht,List.any_append,h4];rfl
    simp[ew,this]
   rw[e2];exact⟨hsb.trans h3,none,0,rfl,Sl.zero _ _ _⟩
end Go.Proofs.YtmhmahcdanclnaaGreat.V
namespace Go.Eng
theorem x7{u us u':World}{d:DV}{v:Value}(h:HV us d noB v)(h1:Sub u us)(h2:Sub us u'):aoN u u' (plR d) v:=
 ⟨noB,us,⟨[(0,.v v)],[]⟩,⟨⟨h1,h1⟩,h2,fun t=>by
  show HS us noB ((lk [(0,.d d)] t).getD .unk) ((lk [(0,.v v)] t).getD .unk)
  by_cases e:0=t
  ·subst e;exact⟨v,rfl,h⟩
  ·rw[aj e];trivial,fun k=>rfl,(fun id r hr=>by cases hr),fun id _=>rfl,fun id hi=>absurd hi (Nat.not_lt_zero _),Nat.le_refl _,(fun i j ri rj b _ hi=>by cases hi)⟩,rfl⟩
theorem lE{us:World}: ∀(l:List GSpan) (V:List (List Value)),HVss us (l.map aS) V↔V=l.map GSpan.enc
 |[],V=>Iff.rfl
 | x::l,V=>by
  constructor
  ·rintro⟨v,V',rfl,⟨a,_,rfl,⟨rfl,_⟩,b,_,rfl,⟨rfl,_⟩,rfl⟩,h⟩
   rw[(lE l V').1 h];rfl
  ·rintro rfl
   exact⟨_,_,rfl,⟨_,_,rfl,⟨rfl,rfl⟩,_,_,rfl,⟨rfl,rfl⟩,rfl⟩,(lE l _).2 rfl⟩
theorem agM(l:List GSpan):bl (l.map GSpan.enc):=by intro y hy;obtain⟨x,_,rfl⟩:=List.mem_map.1 hy;rfl
theorem oc{us:World}{l:List GSpan}{β:Nat->PB}{w:Value}(h:HV us (.fz 2 (l.map aS)) β w): ∃p c,w= .slice p l.length c/\Sl us 2 p l.length c (l.map GSpan.enc):=by
 obtain⟨p,n,c,V,rfl,h1,_,h2⟩:=h;obtain rfl:=(lE l V).1 h2;obtain rfl:l.length=n:=by simpa using h1.len
 exact⟨p,c,rfl,h1⟩
theorem Con.to2{P:Program}{f:FuncId}{vs:List Value}{u:World}{d:DV}{Post:Value->World->Prop}(h:Con P f vs u Post)(hp: ∀r u',Post r u'->HV u' d noB r):Con P f vs u (fun v u'=> ∃r,r=plR d/\aoN u u' r v):=by
 refine⟨h.1,fun w hw=>(h.2 w hw).mono ?_⟩
 rintro e w' ⟨r,u',rfl,h3,h4,h5⟩
 exact⟨r,u',rfl,h3,h4,_,rfl,x7 (hp _ _ h5) h4 (Sub.refl _)⟩
end Go.Eng
namespace Go.Proofs.YtmhmahcdanclnaaGreat.V
open Go.Eng
attribute [local go_sem] aS plR
abbrev fzS(l:List GSpan):DV:=.fz 2 (l.map aS)
theorem aaY(dom f:List GSpan)(n1:dom.length<=1000000000)(n2:f.length<=1000000000):Con2 Tryz.prog 308 [fzS dom,fzS f] (· =plR (.v (.bool (jC dom f)))):=by
 rintro u vs ⟨v1,_,rfl,h1,v2,_,rfl,h2,rfl⟩
 obtain⟨p,c,rfl,s1⟩:=oc h1;obtain⟨q,k,rfl,s2⟩:=oc h2;exact(aeA dom f p q c k u s1 s2 n1 n2).to2 fun r u' h=>⟨h,rfl⟩
theorem tu(f g:List GSpan)(n1:f.length<=1000000000)(n2:g.length<=1000000000):Con2 Tryz.prog 146 [fzS f,fzS g] (· =plR (fzS (ew f g))):=by
 rintro u vs ⟨v1,_,rfl,h1,v2,_,rfl,h2,rfl⟩
 obtain⟨p,c,rfl,s1⟩:=oc h1;obtain⟨q,k,rfl,s2⟩:=oc h2;refine(aiF f g p q c k u s1 s2 n1 n2).to2 ?_
 rintro r u' ⟨p',c',rfl,h⟩
 exact⟨_,_,_,_,rfl,h,agM _,(lE _ _).2 rfl⟩
theorem wy(f g:List GSpan):(ew f g).length<=f.length:=by
 unfold ew;split
 ·simp;omega
 ·simp
def bA(dom f:List GSpan):List GSpan×Int:=if f.length=0 then ([],0)else if f.length=dom.length then (ew dom f,0)else ([],50)
theorem zH(dom f:List GSpan)(n1:dom.length<=1000000000)(n2:f.length<=1000000000):Con2 Tryz.prog 78 [fzS dom,fzS f] (· =plR (.tup [fzS (bA dom f).1,.v (.int .i64 (bA dom f).2)])):=by
 refine en_ Tryz.func78 [.tmp 4,.tmp 5] (g2_ ?_);refine g2_ ?_;refine aZ (fun h=>?_) (fun h=>?_)
 ·have e:bA dom f=([],0):=by unfold bA;rw[if_pos (by omega)]
  rw[e];refine g2_ ?_;exact⟨_,rfl,aa [] ws_⟩
 ·refine g2_ ?_;refine cU (fun h2=>?_) (fun h2=>?_)
  ·have e:bA dom f=([],50):=by unfold bA;rw[if_neg (by omega),if_neg (by omega)]
   rw[e];refine g2_ ?_;exact⟨_,rfl,aa [] ws_⟩
  ·have e:bA dom f=(ew dom f,0):=by unfold bA;rw[if_neg (by omega),if_pos (by omega)]
   rw[e];refine g2_ ?_;refine ce_ (tu dom f n1 n2) (g2_ ?_);exact⟨_,rfl,aa [] ws_⟩
theorem jg(f:List GSpan)(n1:f.length<=5000000):Con2 Tryz.prog 141 [fzS f] (· =plR (fzS f)):=by
 have h:Con2 Tryz.prog 141 [fzS f] (· =⟨.rf 0 0 f.length,[(0,.arr 108 2 (f.map aS) false)],1⟩):=by
  refine en_ Tryz.func141 [.tmp 2] (g2_ ?_);refine g2_ ?_;exact⟨_,rfl,aa [(0,.to 0)] ws_⟩
 refine h.emb ?_ rfl;exact ws_
end Go.Proofs.YtmhmahcdanclnaaGreat.V
namespace Go.Eng
end Go.Eng
namespace Go.Proofs.YtmhmahcdanclnaaGreat.V
open Go.Eng
attribute [local go_sem] plR ba
def ase(T:Nat):Op->Op
 | .binOp b _ x y _=>.binOp b T x y T
 | .buildSlice _ n p=>.buildSlice T n p
 | .call ⟨c,a,_⟩=>.call ⟨c,a,#[T,T]⟩
 |o=>o
def clo(T:Nat):Code->Code
 | .region i ops d=>.region i (ops.map fun o=>{ o with op:=ase T o.op,type:=bif o.type==40 then T else o.type }) d
 | .seq a b=>.seq (clo T a) (clo T b)
 | .cond c a b=>.cond c (clo T a) (clo T b)
 |c=>c
theorem fj{f e sz bytes T:Nat}{fn:Func}(hf:Tryz.prog.funcs[f]? =some fn)(hB:fn.body=Tryz.f143.body.map (clo T))(hh:c8 Tryz.prog f=true)(hn:fn.ntmps=8)(hr:fn.results.toList=[.tmp 2])(hT:db Tryz.prog T=some (e,sz,bytes))(hb:bytes<=99)(l:List (List DV))(hl:l.length<=5000000):Con2 Tryz.prog f [.fz sz l] (· =ba e sz l):=by
 replace hB:fn.body=some (clo T _):=hB;simp only[clo,ase,List.map_toArray,List.map_cons,List.map_nil,Nat.reduceBEq,cond_true,cond_false]at hB;have hS:ey Tryz.prog T=true:=by grind [ey,db]
 refine aeO Ty.mixed hf hB hh (by rw[hn];rfl) (by rw[hn];rfl) _ hr ?_
 clear hB
 by_cases h0:l=[]
 ·subst h0;refine gf_ (c2_ hT hS) ?_;refine⟨fun h=>h.elim,fun t=>?_⟩
  cases t with
  |true=>
   refine g2_ ?_;exact⟨_,rfl,aa [(0,.nil sz)] ws_⟩
  |false=>
   refine gf_ (c2_ hT hS) ?_;exact⟨_,rfl,aa [(0,.to 0)] ws_⟩
 ·have h1:0<l.length:=List.length_pos_iff.2 h0;have h2:l.length*bytes<=5000000*99:=Nat.mul_le_mul hl hb;refine gf_ (c2_ hT hS) ?_;refine⟨fun _=>⟨by omega,by omega,_,rfl,aa [(0,.to 0)] ws_⟩,fun h=>by omega⟩
theorem jn{f e sz:Nat}{l:List (List DV)}(h:Con2 Tryz.prog f [.fz sz l] (· =ba e sz l)):Con2 Tryz.prog f [.fz sz l] (· =plR (.fz sz l)):=h.emb ws_ rfl
theorem gx(l:List (List DV))(hl:l.length<=5000000):Con2 Tryz.prog 98 [.fz 3 l] (· =ba 127 3 l):=fj (T:=39) Tryz.func98 (by kernel_rfl) (by kernel_rfl) rfl rfl Ty.elOf39 (by decide) l hl
theorem ec(l:List (List DV))(hl:l.length<=5000000):Con2 Tryz.prog 98 [.fz 3 l] (· =plR (.fz 3 l)):=jn (gx l hl)
theorem kF(l:List (List DV))(hl:l.length<=5000000):Con2 Tryz.prog 143 [.fz 3 l] (· =ba 57 3 l):=fj (T:=40) Tryz.func143 (by kernel_rfl) (by kernel_rfl) rfl rfl Ty.elOf40 (by decide) l hl
theorem ic(l:List (List DV))(hl:l.length<=5000000):Con2 Tryz.prog 143 [.fz 3 l] (· =plR (.fz 3 l)):=jn (kF l hl)
theorem xF(l:List (List DV))(hl:l.length<=5000000):Con2 Tryz.prog 144 [.fz 3 l] (· =ba 84 3 l):=fj (T:=41) Tryz.func144 (by kernel_rfl) (by kernel_rfl) rfl rfl Ty.elOf41 (by decide) l hl
theorem qj(l:List (List DV))(hl:l.length<=5000000):Con2 Tryz.prog 145 [.fz 5 l] (· =ba 178 5 l):=fj (T:=47) Tryz.func145 (by kernel_rfl) (by kernel_rfl) rfl rfl Ty.elOf47 (by decide) l hl
theorem adu(l:List (List DV))(hl:l.length<=5000000):Con2 Tryz.prog 145 [.fz 5 l] (· =plR (.fz 5 l)):=jn (qj l hl)
end Go.Proofs.YtmhmahcdanclnaaGreat.V
namespace Go.Eng
structure PD where
 d:GDesc
 p:Option Addr
 n:Nat
 c:Nat
def PD.enc(x:PD):List Value:=[.int .u8 x.d.node.toNat,.int .u16 x.d.inc.toNat,.int .u8 x.d.age.toNat,.slice x.p x.n x.c]
def PD.val(x:PD):Value:=.agg #[.int .u8 x.d.node.toNat,.int .u16 x.d.inc.toNat,.int .u8 x.d.age.toNat,.slice x.p x.n x.c]
theorem PD.cells(x:PD):x.val.cells.toList=x.enc:=rfl
def Fl(u:World)(x:PD):Prop:=Sl u 2 x.p x.n x.c (x.d.filter.map GSpan.enc)
def Fo(u0 u:World)(TS:TypeId)(x:PD):Prop:=Own u0 u TS 2 x.p x.n x.c (x.d.filter.map GSpan.enc)
theorem Fo.fl{u0 u:World}{TS:TypeId}{x:PD}(h:Fo u0 u TS x):Fl u x:=Own.sl h
theorem Fl.len{u:World}{x:PD}(h:Fl u x):x.d.filter.length=x.n:=by simpa using Sl.len h
structure DL(u:World)(p:Option Addr)(n c:Nat)(l:List PD):Prop where
 sl:Sl u 4 p n c (l.map PD.enc)
 fl: ∀x∈l,Fl u x
structure DSo(u0 u:World)(TD:TypeId)(p:Option Addr)(n c:Nat)(l:List PD):Prop where
 own:Own u0 u TD 4 p n c (l.map PD.enc)
 fl: ∀x∈l,Fl u x
structure DO(u0 u:World)(TD TS:TypeId)(p:Option Addr)(n c:Nat)(l:List PD):Prop where
 own:Own u0 u TD 4 p n c (l.map PD.enc)
 fl: ∀x∈l,Fo u0 u TS x
 ne: ∀x∈l, ∀a b,x.p=some a->p=some b->a.block≠b.block
section
variable {u0 u u':World} {TD TS:TypeId} {p:Option Addr} {n c:Nat} {l:List PD}
theorem DO.ds(h:DO u0 u TD TS p n c l):DSo u0 u TD p n c l:=⟨h.own,fun x hx=>(h.fl x hx).fl⟩
theorem DSo.dl(h:DSo u0 u TD p n c l):DL u p n c l:=⟨h.own.sl,h.fl⟩
theorem DO.dl(h:DO u0 u TD TS p n c l):DL u p n c l:=h.ds.dl
theorem DL.len(h:DL u p n c l):l.length=n:=by simpa using h.sl.len
theorem DSo.len(h:DSo u0 u TD p n c l):l.length=n:=by simpa using h.own.len
theorem DO.len(h:DO u0 u TD TS p n c l):l.length=n:=by simpa using h.own.len
theorem DL.at_{k:Nat}{x:PD}(h:DL u p n c l)(hx:l[k]? =some x):Fl u x:=h.fl x (List.mem_of_getElem? hx)
end
abbrev ds(l:List PD):List GDesc:=l.map PD.d
