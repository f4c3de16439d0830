import Derived.Test.YthoihfighiolmaaGreatPt19
import Derived.Test.YthoihfighiolmaaGreatPt20
import Derived.Test.YthoihfighiolmaaGreatPt21
set_option linter.unusedSectionVars false
set_option linter.unusedSimpArgs false
set_option linter.unusedVariables false
set_option maxRecDepth 10000
namespace Go.Proofs.YthoihfighiolmaaGreat.V
open Go.Eng
attribute [local go_sem] GSpan.val GSpan.enc
abbrev PPr:Type:=GSpan×GSpan
def agB(x:PPr):List Value:=[x.1.val,x.2.val]
attribute [local go_sem] agB
section
variable {P:Program} {x:Bool} {u0:World} {args:List Operand} {d:Option Tmp} {K:S->World->Prop} {s:S} {u:World} {l:Nat} {vs:List Value}
theorem yo:ah5 P x u0 args d K s u (.v (.func (.yield l) #[] #[]))=f_ u0 args s u (pd x P u0 (.func (.yield l) #[] #[]) K d):=rfl
theorem tI:pd x P u0 (.func (.yield l) #[] #[]) K d vs s u=AtYield x P l vs u0 u (ey s d K):=by
 refine propext ⟨fun ⟨l',e,h⟩=>?_,fun h=>⟨l,rfl,h⟩⟩
 cases e;exact h
end
attribute [local go_sem] yo tI
theorem sY{ub:World}{b1 b2 c1 c2:Nat}{p1 p2:Option Addr}{l1 l2:List GSpan}(h1:CellsAt ub ⟨b1,0,none⟩ [.slice p1 l1.length c1])(h2:CellsAt ub ⟨b2,0,none⟩ [.slice p2 l2.length c2])
  (s1:Sl ub 2 p1 l1.length c1 (l1.map GSpan.enc)) (s2:Sl ub 2 p2 l2.length c2 (l2.map GSpan.enc)) (hn1:l1.length<=1000000000) (hn2:l2.length<=1000000000):
  aky Tryz.prog 246 [.pointer (some ⟨b1,0,none⟩),.pointer (some ⟨b2,0,none⟩)] agB (· =l1.zip l2) (· <+: l1.zip l2) (fun _=>True) ub:=by
 refine⟨by kernel_rfl,fun l I Ix u0 u hub hy h0=>?_⟩
 refine gM Ty.mixed Tryz.func246 rfl (by kernel_rfl) (by kernel_rfl) rfl [] rfl ?_
 have hS:=(hub _ _ h0).1;refine vs_ ?_;refine⟨_,h1.mono hS,rfl,.inl rfl,?_⟩;refine vs_ ?_;refine⟨_,h2.mono hS,rfl,.inl rfl,?_⟩;refine vs_ ?_;obtain⟨m,hm⟩: ∃m,m=(l1.zip l2).length:=⟨_,rfl⟩;have hmm:m=min l1.length l2.length:=by rw[hm,List.length_zip]
 rw[show(if (l2.length:Int)<(l1.length:Int)then (l2.length:Int)else (l1.length:Int))=(m:Int)by split<;>omega]
 refine afj (γ:=Unit) m (fun _=>[]) (fun _=>[]) (fun k _ u'=>I ((l1.zip l2).take k) u') () (lz (by simp only[go_sem,cJ,bO,cq,bX,Nat.reduceBEq,Nat.reduceAdd,Nat.reduceLeDiff,Nat.reduceEqDiff,Int.reduceAdd,Int.reduceBEq,Int.reduceBNe,reduceCtorEq,beq_self_eq_true,Bool.true_beq,Bool.false_beq])) h0 (fun _ _=>rfl) (by omega) (fun _=>rfl) ?_ ?_
 ·intro k _ u' hk hI;have hS2:=(hub _ _ hI).1;have hk1:k<l1.length:=by omega
  have hk2:k<l2.length:=by omega
  have e1:l1[k]? =some l1[k]:=List.getElem?_eq_getElem hk1;have e2:l2[k]? =some l2[k]:=List.getElem?_eq_getElem hk2
  have e3:(l1.zip l2).take (k+1)=(l1.zip l2).take k++[(l1[k],l2[k])]:=by
   rw[List.take_add_one,List.getElem?_eq_getElem (by omega),List.getElem_zip];rfl
  generalize l1[k]=x1 at e1 e3;generalize l2[k]=x2 at e2 e3;refine vs_ ?_;refine .inl ⟨[oF 0,oF 1,oF 2,oF 5,oF 6,oF 3,oF 7,oF 4,oF 8,oF 9,oF 10],by kernel_rfl,?_⟩
  refine vs_ ?_;refine⟨_,h1.mono hS2,rfl,.inl rfl,?_⟩;refine vs_ ?_;refine⟨_,h2.mono hS2,rfl,.inl rfl,?_⟩;refine vs_ ?_;refine⟨⟨s1.some_ hk1,by omega,by omega⟩,?_⟩
  refine⟨⟨s2.some_ hk2,by omega,by omega⟩,?_⟩
  refine(s1.mono hS2).load (ahm e1) (.inr rfl) (Nat.le_of_ble_eq_true rfl) ?_;refine vs_ ?_;refine(s2.mono hS2).load (ahm e2) (.inr rfl) (Nat.le_of_ble_eq_true rfl) ?_;refine vs_ ?_;have hsp:(l1.zip l2).take k++[(x1,x2)] <+: l1.zip l2:=by rw[<-e3];exact List.take_prefix _ _
  have hyk:=hy _ _ _ hI hsp;refine AtYield.mono ?_ hyk
  rintro r v' (⟨rfl,hI'⟩|⟨rfl,hI'⟩)
  ·refine vs_ ?_;refine⟨(),lz (by simp only[go_sem,cJ,bO,cq,bX,Nat.reduceBEq,Nat.reduceAdd,Nat.reduceLeDiff,Nat.reduceEqDiff,Int.reduceAdd,Int.reduceBEq,Int.reduceBNe,reduceCtorEq,beq_self_eq_true,Bool.true_beq,Bool.false_beq]),?_⟩
   rw[e3];exact hI'
  ·refine vs_ ?_;exact .inr ⟨_,hsp,hI'⟩
 ·intro _ u' hI;refine vs_ ?_;refine .inl ⟨_,rfl,?_⟩;rw[<-List.take_of_length_le (l:=l1.zip l2) (i:=m) (by omega)]
  exact hI
end Go.Proofs.YthoihfighiolmaaGreat.V
namespace Go.Proofs.YthoihfighiolmaaGreat.V
open Go.Eng
attribute [local go_sem] aP plR
theorem gX:Con2 Tryz.prog 248 [] (· =plR (.agg (aP ⟨1,0⟩))):=by
 refine en_ Tryz.func248 [.cell 0 138] (g2_ ?_);refine g2_ ?_;exact⟨_,rfl,aa [] ws_⟩
theorem lx(s:GSpan):Con2 Tryz.prog 247 [.agg (aP s)] (· =plR (.agg (aP (kM s)))):=by
 refine en_ Tryz.func247 [.cell 2 138] (g2_ ?_);refine g2_ ?_;unfold kM;refine aq (fun h=>?_) (fun h=>?_)
 ·rw[if_pos h];refine g2_ ?_;refine ce_ gX (g2_ ?_);exact⟨_,rfl,aa [] ws_⟩
 ·rw[if_neg h];refine g2_ ?_;exact⟨_,rfl,aa [] ws_⟩
theorem adL(x y:GSpan):Con2 Tryz.prog 272 [.agg (aP x),.agg (aP y)] (· =plR (.tup [.agg (aP (if cY (cf x y)=true then ⟨0,0⟩else cf x y)),.v (.bool (!cY (cf x y)))])):=by
 refine en_ Tryz.func272 [.cell 4 138,.tmp 5] (g2_ ?_);refine g2_ ?_;refine CallS.eq (lx (cf x y)) (by simp-implicitDefEqProofs only[go_sem,ab,cf]) (.inl ws_) ?_
 refine g2_ ?_;refine .inl ⟨[oF 0,oT 1,oF 2],by kernel_rfl,g2_ ?_⟩
 refine ce_ gX (gf_ @mT ?_);cases h:cY (cf x y)with
 |true=>
  refine g2_ ?_;exact⟨_,rfl,aa [] ws_⟩
 |false=>
  have h2:kM (cf x y)=cf x y:=by unfold kM;rw[if_neg (by simpa[cY]using h)]
  refine gf_ h2 ?_;exact⟨_,rfl,aa [] wx_⟩
theorem aeU(x y:GSpan):Con2 Tryz.prog 159 [.agg (aP x),.agg (aP y)] (· =plR (.v (.bool (tG x y)))):=by
 refine en_ Tryz.func159 [.tmp 4] (g2_ ?_);refine g2_ ?_;refine ce_ (lx y) (g2_ ?_);refine ce_ gX (gf_ @mT ?_);unfold tG;cases h:cY y with
 |true=>
  refine g2_ ?_;exact⟨_,rfl,aa [] ws_⟩
 | false=>
  refine g2_ ?_;refine ic (fun h1=>?_) (fun h1=>?_)
  all_goals
   refine gf_ h1 ?_;exact⟨_,rfl,aa [] (wf_ h1)⟩
end Go.Proofs.YthoihfighiolmaaGreat.V
namespace Go.Proofs.YthoihfighiolmaaGreat.V
open Go.Eng
attribute [local go_sem] GSpan.val GSpan.enc agB
theorem SameB.one{k b T:Nat}{cs cs':List Value}{r:List (Nat×Eng.Loc)}:SameB ((k,⟨b,cs,T⟩)::r) ((k,⟨b,cs',T⟩)::r):=fun j=>by
 by_cases e:k=j
 ·subst e;rw[au];exact⟨_,au ..,rfl,rfl⟩
 ·rw[aj e,aj e];exact SameB.refl r j
theorem abY{P:Program}{f:FuncId}{args:List DV}{d:DV}{vs:List Value}{u:World}{v:Value}(h:Con2 P f args (· =plR d))(ha:HVs u args noB vs)(hv: ∀us β w,HV us d β w->w=v):Con P f vs u (fun r _=>r=v):=by
 obtain⟨h1,h2⟩:=h u vs ha;refine⟨h1,fun w hw=>(h2 w hw).mono ?_⟩
 rintro e w' ⟨r,u',rfl,h3,h4,x,rfl,β,us,s,hr,hs⟩
 refine⟨r,u',rfl,h3,h4,?_⟩;obtain⟨w,e,hw⟩:=hr.slot 0;rw[hs]at e;cases e;exact hv _ _ _ hw
theorem sG(p q:Option Addr)(n c m k:Nat)(u:World):Con Tryz.prog 158 [.slice p n c,.slice q m k] u (fun r u'=> ∃b1 b2,r= .func (.func 246) #[] #[.pointer (some ⟨b1,0,none⟩),.pointer (some ⟨b2,0,none⟩)]/\CellsAt u' ⟨b1,0,none⟩ [.slice p n c]/\CellsAt u' ⟨b2,0,none⟩ [.slice q m k]):=by
 refine iM Ty.mixed Tryz.func158 rfl (by kernel_rfl) (by kernel_rfl) rfl [.tmp 4] rfl ?_
 refine vs_ ?_;intro b b' u1 g1 g2 _ g3 _ u2 g4 _ _ g5 _
 have at1: ∀{u:World} {b T:Nat} {v:Value},u.heap[b]? =some (.cells #[v] T (0,0))->CellsAt u ⟨b,0,none⟩ [v]:=fun {u b T v} h j w hw=>by
  rw[Addr.add_lit];exact fm h (by simpa using hw)
 exact⟨g1.trans g4,b,b',rfl,at1 (g4 _ _ g3 ax),at1 g5⟩
theorem acd{s:S}:se [] s=s:=rfl
theorem yE{t:Nat}{v:Value}{r:List (Nat×Value)}{s:S}:se ((t,v)::r) s=se r (s.put (some t) (.v v)):=rfl
theorem xY{P:Program}{u0:World}{bd:Code}{R:Exit->S->World->Prop}{s:S}{v:World}:amT P u0 bd R .normal s v=Vc P u0 bd R s v:=rfl
attribute [local go_sem] acd yE xY List.zip_cons_cons List.zip_nil_right List.zip_nil_left
theorem xd{σ:List (Nat×Eng.Loc)}{I:List (Nat×Eng.Loc)->World->Prop}{Ix:Exit->List (Nat×Eng.Loc)->World->Prop}{s:S}{v:World}:amc σ I Ix .normal s v= ∃σ',SameB σ σ'/\(⟨[],σ'⟩:S).le s/\I σ' v:=rfl
theorem afl{σ:List (Nat×Eng.Loc)}{I:List (Nat×Eng.Loc)->World->Prop}{Ix:Exit->List (Nat×Eng.Loc)->World->Prop}{s:S}{v:World}:amc σ I Ix .ret s v= ∃σ',SameB σ σ'/\(⟨[],σ'⟩:S).le s/\Ix .ret σ' v:=rfl
attribute [local go_sem] xd afl
def kT(x:PPr):Bool:=decide (x.2.a<=x.2.b)&&tG x.1 x.2
def bB(dom f:List GSpan):Bool:=f.isEmpty||(decide (f.length=dom.length)&&(dom.zip f).all kT)
theorem yz(dom f:List GSpan)(p q:Option Addr)(c k:Nat)(u:World)(s1:Sl u 2 p dom.length c (dom.map GSpan.enc))(s2:Sl u 2 q f.length k (f.map GSpan.enc))(n1:dom.length<=1000000000)(n2:f.length<=1000000000):
  Con Tryz.prog 83 [.slice p dom.length c,.slice q f.length k] u (fun r _=>r= .bool (bB dom f)):=by
 refine iM Ty.mixed Tryz.func83 rfl (by kernel_rfl) (by kernel_rfl) rfl [.cell 4 4] rfl ?_
 refine vs_ ?_;intro b4;refine xR (fun h=>?_) (fun h=>?_)
 ·refine vs_ ?_;refine⟨Sub.refl _,?_⟩;have:f=[]:=List.eq_nil_of_length_eq_zero (by omega)
  simp[bB,this]
 ·refine vs_ ?_;refine abm (fun h2=>?_) (fun h2=>?_)
  ·refine vs_ ?_;refine⟨Sub.refl _,?_⟩;have h3: ¬f.length=dom.length:=by omega
   have h4:f≠[]:=fun e=>h (by rw[e];rfl)
   simp[bB,h3,h4]
  ·refine vs_ ?_;refine AtCall.of_spec (sG p q dom.length c f.length k u) ?_
   rintro r ub hsb ⟨b1,b2,rfl,g1,g2⟩
   refine vs_ ?_;refine p7 ?_
   refine mg (gf:=246) (lb:=[.pointer (some ⟨b1,0,none⟩),.pointer (some ⟨b2,0,none⟩)]) rfl (sY g1 g2 (s1.mono hsb) (s2.mono hsb) n1 n2) (fun _=>rfl)
    (fun pre σ v=>Sub ub v/\σ=[(4,⟨b4,[.bool false],4⟩)]/\pre.all kT=true)
    (fun pre e σ v=>e= .ret/\Sub ub v/\σ=[(4,⟨b4,[.bool false],4⟩)]/\pre.all kT=false) (fun _ _ _ h=>⟨h.1,trivial⟩) ⟨Sub.refl _,rfl,rfl⟩ ?_ ?_ ?_
   ·rintro pre ⟨x,y⟩ σ v hsame ⟨h3,rfl,h4⟩ hpre
    refine Vc.of ?_;refine vs_ ?_;intro b5 b6;refine Vc.of ?_;refine vs_ ?_;have hsc:=abY (u:=v) (vs:=[x.val,y.val]) (aeU x y) ⟨_,_,rfl,⟨_,rfl,_,_,rfl,⟨rfl,rfl⟩,_,_,rfl,⟨rfl,rfl⟩,rfl⟩,_,_,rfl,⟨_,rfl,_,_,rfl,⟨rfl,rfl⟩,_,_,rfl,⟨rfl,rfl⟩,rfl⟩,rfl⟩ (fun _ _ _ h=>h.1)
    refine xu (fun hg=>?_) (fun hg=>?_)
    ·have hxy:y.a<=y.b:=by simpa using hg
     refine vs_ ?_;refine mS hg ?_;refine vs_ ?_;refine mS hg ?_;refine vs_ ?_;refine AtCall.of_spec hsc ?_
     rintro _ v2 hv2 rfl
     refine vs_ ?_;refine mS hg ?_;refine vs_ ?_;rw[hg];cases hc:tG x y with
     |true=>
      refine vs_ ?_;refine⟨[(4,⟨b4,[.bool false],4⟩)],hsame,lz (by simp only[go_sem,cJ,bO,cq,bX,Nat.reduceBEq,Nat.reduceAdd,Nat.reduceLeDiff,Nat.reduceEqDiff,Int.reduceAdd,Int.reduceBEq,Int.reduceBNe,reduceCtorEq,beq_self_eq_true,Bool.true_beq,Bool.false_beq]),h3.trans hv2,rfl,?_⟩
      rw[List.all_append,h4];simp[kT,hxy,hc]
     |false=>
      refine vs_ ?_;refine⟨[(4,⟨b4,[.bool false],4⟩)],hsame,lz (by simp only[go_sem,cJ,bO,cq,bX,Nat.reduceBEq,Nat.reduceAdd,Nat.reduceLeDiff,Nat.reduceEqDiff,Int.reduceAdd,Int.reduceBEq,Int.reduceBNe,reduceCtorEq,beq_self_eq_true,Bool.true_beq,Bool.false_beq]),h3.trans hv2,rfl,?_⟩
      rw[List.all_append,h4];simp[kT,hc]
    ·have hxy:y.b<y.a:=by simpa using hg
     have hxy2: ¬y.a<=y.b:=by omega
     refine vs_ ?_;refine oL hg ?_;refine vs_ ?_;refine oL hg ?_;refine vs_ ?_;refine oL hg ?_;rw[hg];refine vs_ ?_;refine⟨[(4,⟨b4,[.bool false],4⟩)],hsame,lz (by simp only[go_sem,cJ,bO,cq,bX,Nat.reduceBEq,Nat.reduceAdd,Nat.reduceLeDiff,Nat.reduceEqDiff,Int.reduceAdd,Int.reduceBEq,Int.reduceBNe,reduceCtorEq,beq_self_eq_true,Bool.true_beq,Bool.false_beq]),h3,rfl,?_⟩
     rw[List.all_append,h4];simp[kT,hxy2]
   ·rintro xs σ v hsame rfl ⟨h3,rfl,h4⟩
    refine vs_ ?_;refine⟨hsb.trans h3,?_⟩;have e1:f.length=dom.length:=by omega
    have e2: ¬f=[]:=fun e=>h (by rw[e];rfl)
    simp[bB,h4,e1,e2]
   ·rintro pre e σ v hsame hpre ⟨rfl,h3,rfl,h4⟩
    refine vs_ ?_;refine⟨hsb.trans h3,?_⟩;have e2: ¬f=[]:=fun e=>h (by rw[e];rfl)
    have e3:(dom.zip f).all kT=false:=by
     obtain⟨t,ht⟩:=hpre;rw[<-ht,List.all_append,h4];rfl
    rw[bB,e3];simp[e2]
def dV(x:PPr):GSpan:=cf x.1 x.2
def eM(x:PPr):Bool:=cY (dV x)
def bV(f g:List GSpan):List GSpan:=if f.length=g.length/\(f.zip g).any eM=false then (f.zip g).map dV else []
theorem adW(f g:List GSpan)(p q:Option Addr)(c k:Nat)(u:World)(s1:Sl u 2 p f.length c (f.map GSpan.enc))(s2:Sl u 2 q g.length k (g.map GSpan.enc))(n1:f.length<=1000000000)(n2:g.length<=1000000000):
  Con Tryz.prog 178 [.slice p f.length c,.slice q g.length k] u (fun r u'=> ∃p' c',r= .slice p' (bV f g).length c'/\Sl u' 2 p' (bV f g).length c' ((bV f g).map GSpan.enc)):=by
 refine iM Ty.mixed Tryz.func178 rfl (by kernel_rfl) (by kernel_rfl) rfl [.cell 4 31] rfl ?_
 refine vs_ ?_;intro b4;refine abm (fun h=>?_) (fun h=>?_)
 ·refine vs_ ?_;have h3: ¬f.length=g.length:=by omega
  refine⟨Sub.refl _,none,0,?_⟩;simp only[bV,h3,false_and,if_false];exact⟨rfl,Sl.zero _ _ _⟩
 ·refine vs_ ?_;intro b5;refine AtCall.of_spec (sG p q f.length c g.length k u) ?_
  rintro r ub hsb ⟨b1,b2,rfl,g1,g2⟩
  refine vs_ ?_;refine p7 ?_
  refine mg (gf:=246) (lb:=[.pointer (some ⟨b1,0,none⟩),.pointer (some ⟨b2,0,none⟩)]) rfl (sY g1 g2 (s1.mono hsb) (s2.mono hsb) n1 n2) (fun _=>rfl)
   (fun pre σ v=>Sub ub v/\pre.any eM=false/\ ∃p n c,σ=[(5,⟨b5,[.slice p n c],31⟩),(4,⟨b4,[.slice none 0 0],31⟩)]/\n=pre.length/\dk ub p/\Eng.Own u v 138 2 p n c ((pre.map dV).map GSpan.enc))
   (fun pre e σ v=>e= .ret/\Sub ub v/\pre.any eM=true/\ ∃p n c,σ=[(5,⟨b5,[.slice p n c],31⟩),(4,⟨b4,[.slice none 0 0],31⟩)]) (fun _ _ _ h=>⟨h.1,trivial⟩) ⟨Sub.refl _,rfl,none,0,0,rfl,rfl,by simp[dk],Eng.Own.nil_ _ _ _ _⟩ ?_ ?_ ?_
  ·rintro pre ⟨x,y⟩ σ v hsame ⟨h3,h4,p',n',c',rfl,hn',hfp,ho⟩ hpre
   have hlen:n'<f.length/\n'<g.length:=by
    have:=hpre.length_le;simp at this;omega
   refine Vc.of ?_;refine vs_ ?_;intro b6 b7;refine Vc.of ?_;refine vs_ ?_
   have hsm:=abY (u:=v) (vs:=[x.val,y.val]) (adL x y) ⟨_,_,rfl,⟨_,rfl,_,_,rfl,⟨rfl,rfl⟩,_,_,rfl,⟨rfl,rfl⟩,rfl⟩,_,_,rfl,⟨_,rfl,_,_,rfl,⟨rfl,rfl⟩,_,_,rfl,⟨rfl,rfl⟩,rfl⟩,rfl⟩
    (v:=.tuple #[(if cY (cf x y)=true then (⟨0,0⟩:GSpan)else cf x y).val,.bool (!cY (cf x y))]) (by
     rintro us β w ⟨V,rfl,_,_,rfl,⟨V2,rfl,_,_,rfl,⟨rfl,_⟩,_,_,rfl,⟨rfl,_⟩,rfl⟩,_,_,rfl,⟨rfl,_⟩,rfl⟩
     rfl)
   generalize hsn:cY (cf x y)=sn at hsm;generalize hz:(if sn=true then (⟨0,0⟩:GSpan)else cf x y)=z at hsm
   refine AtCall.of_spec hsm ?_
   rintro _ v2 hv2 rfl
   refine vs_ ?_;intro b8;cases sn with
   |true=>
    refine vs_ ?_;refine⟨[(5,⟨b5,[.slice p' n' c'],31⟩),(4,⟨b4,[.slice none 0 0],31⟩)],hsame,lz (by simp only[go_sem,cJ,bO,cq,bX,Nat.reduceBEq,Nat.reduceAdd,Nat.reduceLeDiff,Nat.reduceEqDiff,Int.reduceAdd,Int.reduceBEq,Int.reduceBNe,reduceCtorEq,beq_self_eq_true,Bool.true_beq,Bool.false_beq]),h3.trans hv2,?_,_,_,_,rfl⟩
    rw[List.any_append,h4];simp[eM,dV,hsn]
   | false=>
    obtain rfl:cf x y=z:=hz;refine vs_ ?_;refine oe (n:=1) (vs:=[(cf x y).val]) Ty.el31 rfl rfl (by intro v hv;simp at hv;subst hv;rfl) (by omega) ?_
    intro pv v3 hov hsv hfv;refine vs_ ?_;refine iV Ty.el31 (ho.mono (hv2.trans hsv)) hov.sl (by intro y hy;simp at hy;subst hy;rfl) (by omega) (by omega) ?_
    intro q' d' w' ho' hsw hqw;refine vs_ ?_;refine⟨[(5,⟨b5,[.slice q' (n'+1) d'],31⟩),(4,⟨b4,[.slice none 0 0],31⟩)],?_,lz (by simp only[go_sem,cJ,bO,cq,bX,Nat.reduceBEq,Nat.reduceAdd,Nat.reduceLeDiff,Nat.reduceEqDiff,Int.reduceAdd,Int.reduceBEq,Int.reduceBNe,reduceCtorEq,beq_self_eq_true,Bool.true_beq,Bool.false_beq]),hsw.sub ((h3.trans hv2).trans hsv) hfp,?_,_,_,_,rfl,?_,?_,?_⟩
    ·exact SameB.one
    ·rw[List.any_append,h4];simp[eM,dV,hsn]
    ·simp[hn']
    ·rcases hqw with rfl|h
     ·exact hfp
     ·exact fun a ha=>Fresh.anti ((h3.trans hv2).trans hsv) (h a ha)
    ·rw[List.map_append,List.map_append];exact ho'
  ·rintro xs σ v hsame rfl ⟨h3,h4,p',n',c',rfl,hn',hfp,ho⟩
   refine vs_ ?_;refine⟨hsb.trans h3,p',c',?_⟩;have e1:f.length=g.length:=by omega
   have e2:bV f g=(f.zip g).map dV:=by simp[bV,e1,h4]
   rw[e2];have e3:n'=((f.zip g).map dV).length:=by simpa using hn'
   subst e3;exact⟨rfl,ho.sl⟩
  ·rintro pre e σ v hsame hpre ⟨rfl,h3,h4,p',n',c',rfl⟩
   refine vs_ ?_
   have e2:bV f g=[]:=by
    have:(f.zip g).any eM=true:=by
     obtain⟨t,ht⟩:=hpre;rw[<-ht,List.any_append,h4];rfl
    simp[bV,this]
   rw[e2];exact⟨hsb.trans h3,none,0,rfl,Sl.zero _ _ _⟩
