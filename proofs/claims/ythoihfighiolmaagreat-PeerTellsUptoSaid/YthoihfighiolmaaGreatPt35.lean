import Derived.Test.YthoihfighiolmaaGreatPt34
set_option linter.unusedSectionVars false
set_option linter.unusedSimpArgs false
set_option linter.unusedVariables false
set_option maxRecDepth 10000
namespace Go.Eng
theorem vo{α:Type}{f:α->Bool}{l:List α}{k:Nat}(h:k<l.length):(l.take (k+1)).any f=((l.take k).any f||f l[k]):=by
 rw[List.take_add_one,List.getElem?_eq_getElem h,List.any_append];simp
end Go.Eng
namespace Go.Proofs.YthoihfighiolmaaGreat.V
open Go.Eng
attribute [local go_sem] aP af fzD plR bb a_ aE bj aC ak bk cR z8 z16 z32 z64 encMg aH List.set_cons_succ List.set_cons_zero
def iB(l:List GDesc)(n:Nat):Bool:=l.any fun d=>decide (d.node.toNat=n)
theorem lI(l:List GDesc)(n:Nat)(hn:l.length<=4000000):Con2 Tryz.prog 81 [fzD l,.v (.int .i64 (n:Nat))] (· =plR (.v (.bool (iB l n)))):=by
 refine en_ Tryz.func81 [.tmp 4] (g2_ ?_);refine g2_ ?_;refine av (γ:=Nat) (fun i=>[(5,.d (.v (.int .i64 (i:Nat))))]) (fun _=>[]) (fun _=>[]) 0 (fun i=>i<=l.length/\iB (l.take i) n=false) (fun i=>l.length-i) 0 (aa [] ?_) ⟨by omega,rfl⟩ (fun i hi=>?_)
 ·refine g2_ ?_
  repeat' (first|rfl|refine And.intro ?_ ?_)
 ·obtain⟨hi,hF⟩:=hi;refine g2_ ?_;refine aq (fun h=>?_) (fun h=>?_)
  ·have hk:i<l.length:=by omega
   have hnd:=l[i].node.toNat_lt;refine gf_ (mE_ hk) ?_;refine fO (fun h1=>?_) (fun h1=>?_)
   ·have e:iB l n=true:=List.any_eq_true.2 ⟨_,List.getElem_mem hk,by simp;omega⟩
    refine g2_ ?_;exact⟨_,rfl,aa [] (wf_ e)⟩
   ·refine g2_ ?_;refine⟨i+1,aa [] (by simp-implicitDefEqProofs only[go_sem,ab];rfl),⟨by omega,?_⟩,by omega⟩
    rw[iB,vo hk,show(l.take i).any _=false from hF]
    simp;omega
  ·have e:iB l n=false:=by rw[List.take_of_length_le (by omega)]at hF;exact hF
   refine g2_ ?_;exact⟨_,rfl,aa [] (wf_ e)⟩
theorem gd(p:ah)(hp:okP p):Con2 Tryz.prog 23 [.agg (ak p)] (· =plR (.agg (af (pSelf p)))):=by
 refine en_ Tryz.func23 [.cell 2 34] (g2_ ?_);refine g2_ ?_;exact⟨_,rfl,aa [] (by simp-implicitDefEqProofs only[go_sem,ab,pSelf])⟩
theorem ad8(p:ah)(l:List GDesc)(hp:okP p)(hl:aR l)(ht: ∀d∈l,d.node≠p.node->d.node.toNat<p.table.length):Con2 Tryz.prog 132 [.agg (ak p),fzD l] (· =bb 34 4 ((pCur p l).map af)):=by
 have hb:=hl.1;have htb:=hp.table;refine en_ Tryz.func132 [.tmp 4] (g2_ ?_);refine g2_ ?_;refine av (γ:=Nat) (fun i=>[(6,.d (.v (.int .i64 (i:Nat)))),(5,.d (.rf 0 0 (pCur p (l.take i)).length))]) (fun _=>[]) (fun i=>[(0,.arr 34 4 ((pCur p (l.take i)).map af) false)]) 1 (fun i=>i<=l.length) (fun i=>l.length-i) 0 (aa [(0,.nil 4)] ?_) (by omega) (fun i hi=>?_)
 ·repeat first|simp-implicitDefEqProofs only[go_sem,ab,List.take_zero,pCur,List.filter_nil]|with_reducible refine gl_ ?_
  repeat' (first|rfl|refine And.intro ?_ ?_)
 ·have hdl:=gh (f:=ck p) l i;have hdl2:(pCur p (l.take i)).length<=l.length:=hdl;refine g2_ ?_;refine aq (fun h=>?_) (fun h=>?_)
  ·have hk:i<l.length:=by omega
   have hsn:pCur p (l.take (i+1))=pCur p (l.take i)++(if ck p l[i]=true then [l[i]]else []):=eY hk
   have htk:=ht _ (List.getElem_mem hk);have hnd:=l[i].node.toNat_lt
   repeat first|simp-implicitDefEqProofs only[go_sem,ab,aX hk]|with_reducible first|refine gl_ ?_|refine ga_ ?_|refine gn_ ?_
   generalize l[i]=d at hsn htk hnd;rw[bt]
   by_cases h1:d.node=p.node
   ·have e:ck p d=false:=if_pos h1;rw[decide_eq_true h1];refine g2_ ?_;refine⟨i+1,aa [(0,.to 0)] ?_,by omega,by omega⟩
    repeat first|simp-implicitDefEqProofs only[go_sem,ab,hsn,e,Bool.false_eq_true,if_false,List.append_nil]|with_reducible refine gl_ ?_
    try rfl
   have hk2:=htk h1;rw[decide_eq_false h1];refine gf_ (mE_ hk2) ?_;have e:ck p d=(decide (p.table[d.node.toNat].inc<d.inc)||(decide (d.inc=p.table[d.node.toNat].inc)&&decide (p.table[d.node.toNat].state=1))):=by rw[ck,if_neg h1,List.getElem?_eq_getElem hk2]
   generalize p.table[d.node.toNat]=m at e;have put:ck p d=true->pCur p (l.take (i+1))=pCur p (l.take i)++[d]:=fun e=>by rw[hsn,if_pos e]
   have no:ck p d=false->pCur p (l.take (i+1))=pCur p (l.take i):=fun e=>by rw[hsn,e];simp
   by_cases h3:(m.inc.toNat:Int)<(d.inc.toNat:Int)
   ·have h4:m.inc<d.inc:=by rw[UInt16.lt_iff_toNat_lt];omega
    have hp1:=put (by rw[e,decide_eq_true h4];rfl)
    rw[decide_eq_true h3];refine g2_ ?_;refine⟨i+1,aa [(0,.to 2)] ?_,by omega,by omega⟩
    repeat first|simp-implicitDefEqProofs only[go_sem,ab,hp1,List.length_append]|with_reducible refine gl_ ?_
    first|rfl|exact⟨rfl,by simp[af]⟩|simp[af]
   have h4: ¬m.inc<d.inc:=by rw[UInt16.lt_iff_toNat_lt];omega
   rw[decide_eq_false h3];refine g2_ ?_;rw[d4]
   by_cases h5:d.inc=m.inc
   ·rw[decide_eq_true h5];refine g2_ ?_;rw[akS]
    by_cases h6:m.state=1
    ·have hp1:=put (by rw[e,decide_eq_true h5,decide_eq_true h6];simp)
     rw[decide_eq_true h6];refine g2_ ?_;refine⟨i+1,aa [(0,.to 2)] ?_,by omega,by omega⟩
     repeat first|simp-implicitDefEqProofs only[go_sem,ab,hp1,List.length_append]|with_reducible refine gl_ ?_
     first|rfl|exact⟨rfl,by simp[af]⟩|simp[af]
    ·have hn1:=no (by rw[e,decide_eq_false h4,decide_eq_false h6];simp)
     rw[decide_eq_false h6];refine g2_ ?_;refine⟨i+1,aa [(0,.to 0)] ?_,by omega,by omega⟩
     refine gf_ hn1 ?_
     try rfl
   ·have hn1:=no (by rw[e,decide_eq_false h4,decide_eq_false h5];simp)
    rw[decide_eq_false h5];refine g2_ ?_;refine⟨i+1,aa [(0,.to 0)] ?_,by omega,by omega⟩
    refine gf_ hn1 ?_
    try rfl
  ·have he:l.take i=l:=List.take_of_length_le (by omega)
   refine g2_ ?_;exact⟨_,rfl,aa [] (wf_ he)⟩
end Go.Proofs.YthoihfighiolmaaGreat.V
namespace Go.Eng
theorem rP{α:Type}{f:α->Bool}{l:List α}{k:Nat}(h:k<l.length):(l.take (k+1)).all f=((l.take k).all f&&f l[k]):=by
 rw[List.take_add_one,List.getElem?_eq_getElem h,List.all_append];simp
theorem ak9{x y:GSpan}(h:x.b<x.a):cY (cf x y)=true:=by unfold cY cf;simp only[decide_eq_true_eq];split<;>split<;>omega
theorem alk{x y:GSpan}(h:y.b<y.a):cY (cf x y)=true:=by unfold cY cf;simp only[decide_eq_true_eq];split<;>split<;>omega
theorem zM(x y:GSpan):cf x y=cf y x:=by unfold cf;congr 1<;>split<;>split<;>omega
end Go.Eng
namespace Go.Proofs.YthoihfighiolmaaGreat.V
open Go.Eng
attribute [local go_sem] aP fzD fzS plR bb
theorem xE(l:List GSpan)(hl:l.length<=1000000000):Con2 Tryz.prog 49 [.fz 2 (l.map aP)] (· =plR (.v (.bool (ch l)))):=by
 refine en_ Tryz.func49 [.tmp 2] (g2_ ?_);refine g2_ ?_;refine av (γ:=Nat) (fun i=>[(3,.d (.v (.int .i64 (i:Nat))))]) (fun _=>[]) (fun _=>[]) 0 (fun i=>i<=l.length/\(l.take i).all (fun x=>decide (x.a<=x.b))=true) (fun i=>l.length-i) 0 (aa [] ?_) ⟨by omega,rfl⟩ (fun i hi=>?_)
 ·refine g2_ ?_
  repeat' (first|rfl|refine And.intro ?_ ?_)
 ·obtain⟨hi,hF⟩:=hi;refine g2_ ?_;refine aq (fun h=>?_) (fun h=>?_)
  ·have hk:i<l.length:=by omega
   refine g2_ ?_;refine .inl ⟨[oF 0,oF 1,oF 5,oF 6,oF 2,oF 7,oF 3,oF 8,oF 4,oF 9,oF 10],by kernel_rfl,gf_ (mE_ hk) ?_⟩
   refine aq (fun h3=>?_) (fun h3=>?_)
   ·have h2:ch l=false:=by
     simp only[ch,Bool.and_eq_false_iff];refine .inr (List.all_eq_false.2 ⟨l[i],List.getElem_mem hk,?_⟩);simp;omega
    refine g2_ ?_;exact⟨_,rfl,aa [] (wf_ h2)⟩
   ·refine g2_ ?_;refine⟨i+1,aa [] (by simp-implicitDefEqProofs only[go_sem,ab];rfl),⟨by omega,?_⟩,by omega⟩
    rw[rP hk,hF];simp;omega
  ·rw[List.take_of_length_le (by omega)]at hF
   refine g2_ ?_
   have h2:ch l=(decide ((0:Int)<(l.length:Int))&&decide ((l.length:Int)<5)):=by
    rw[ch,hF,Bool.and_true,Bool.eq_iff_iff];simp;omega
   refine ic (fun h3=>?_) (fun h3=>?_)
   all_goals
    rw[h3]at h2;refine gf_ h3 ?_;exact⟨_,rfl,aa [] (wh_ h2 h3 @Bool.false_and)⟩
theorem aaJ(x y:GSpan):Con2 Tryz.prog 316 [.agg (aP x),.agg (aP y)] (· =plR (.tup [.agg (aP (if cY (cf x y)=true then ⟨0,0⟩else cf x y)),.v (.bool (!cY (cf x y)))])):=by
 refine en_ Tryz.func316 [.cell 4 138,.tmp 5] (g2_ ?_);refine g2_ ?_
 by_cases h1:x.b<x.a
 ·rw[decide_eq_true h1];refine g2_ ?_;exact⟨_,rfl,aa [] (wg_ (ak9 (y:=y) h1) @Bool.not_true)⟩
 rw[decide_eq_false h1];refine g2_ ?_
 by_cases h2:y.b<y.a
 ·rw[decide_eq_true h2];refine g2_ ?_;exact⟨_,rfl,aa [] (wg_ (alk (x:=x) h2) @Bool.not_true)⟩
 rw[decide_eq_false h2];refine g2_ ?_;refine .inl ⟨[oF 0,oF 2,oF 1,oF 3,oF 4,oF 5],by kernel_rfl,g2_ ?_⟩
 refine aq (fun h3=>?_) (fun h3=>?_)
 all_goals
  refine g2_ ?_;refine aq (fun h4=>?_) (fun h4=>?_)
 all_goals
  refine g2_ ?_;refine aq (fun h5=>?_) (fun h5=>?_)
 all_goals
  have hm:cf x y=⟨if x.a<y.a then y.a else x.a,if y.b<x.b then y.b else x.b⟩:=rfl
  first|rw[if_pos h3]at hm|rw[if_neg h3]at hm
  first|rw[if_pos h4]at hm|rw[if_neg h4]at hm
  have hn:cY (cf x y)=decide ((cf x y).b<(cf x y).a):=rfl;rw[hm]at hn
  first|rw[decide_eq_true h5]at hn|rw[decide_eq_false h5]at hn
  refine g2_ ?_;exact⟨_,rfl,aa [] (wi_ hm hn @Bool.not_true @Bool.not_false)⟩
theorem xG(dom f:List GSpan)(n1:dom.length<=1000000000)(n2:f.length<=1000000000):Con2 Tryz.prog 84 [fzS dom,fzS f] (· =plR (.v (.bool (bB dom f)))):=by
 refine en_ Tryz.func84 [.tmp 4] (g2_ ?_);refine g2_ ?_;refine fO (fun h=>?_) (fun h=>?_)
 ·have e:bB dom f=true:=by
   have:f=[]:=List.eq_nil_of_length_eq_zero (by omega)
   simp[bB,this]
  refine g2_ ?_;exact⟨_,rfl,aa [] (wf_ e)⟩
 have hne:f≠[]:=fun e=>h (by rw[e];rfl)
 refine g2_ ?_;refine cu (fun h1=>?_) (fun h1=>?_)
 ·have e:bB dom f=false:=by
   have: ¬f.length=dom.length:=by omega
   simp[bB,hne,this]
  refine g2_ ?_;exact⟨_,rfl,aa [] (wf_ e)⟩
 have hl:f.length=dom.length:=by omega
 have hz:(dom.zip f).length=f.length:=by rw[List.length_zip];omega
 refine g2_ ?_;refine av (γ:=Nat) (fun i=>[(5,.d (.v (.int .i64 (i:Nat))))]) (fun _=>[]) (fun _=>[]) 0 (fun i=>i<=f.length/\((dom.zip f).take i).all kT=true) (fun i=>f.length-i) 0 (aa [] ?_) ⟨by omega,rfl⟩ (fun i hi=>?_)
 ·refine g2_ ?_
  repeat' (first|rfl|refine And.intro ?_ ?_)
 ·obtain⟨hi,hF⟩:=hi;refine g2_ ?_;refine aq (fun h2=>?_) (fun h2=>?_)
  ·have hk:i<f.length:=by omega
   have hk2:i<dom.length:=by omega
   have hk3:i<(dom.zip f).length:=by omega
   have hp:kT (dom.zip f)[i]=(decide (f[i].a<=f[i].b)&&tG dom[i] f[i]):=by rw[List.getElem_zip];rfl
   have bad:kT (dom.zip f)[i]=false->bB dom f=false:=fun e=>by
    have:(dom.zip f).all kT=false:=List.all_eq_false.2 ⟨_,List.getElem_mem hk3,by rw[e];simp⟩
    simp[bB,hne,this]
   have good:kT (dom.zip f)[i]=true->((dom.zip f).take (i+1)).all kT=true:=fun e=>by rw[rP hk3,hF,e];rfl
   refine g2_ ?_;refine .inl ⟨[oF 0,oF 1,oF 5,oF 6,oF 2,oF 7,oF 3,oF 8,oF 4,oF 9,oF 10,oF 11,oF 12,oF 13,oF 17,oF 18,oF 14,oF 19,oF 15,oF 20,oF 16,oF 21,oF 22,oF 23,oF 24,oF 25,oF 26,oF 30,oF 31,oF 27,oF 32,oF 28,oF 33,oF 29,oF 34,oF 35,oF 36],by kernel_rfl,?_⟩
   have hgf:=aX (f:=aP) hk;have hgd:=aX (f:=aP) hk2;refine gg_ hgf hgd ?_;rw[hp]at bad good;generalize f[i]=y at bad good hgf;generalize dom[i]=x at bad good hgd
   by_cases h3:y.b<y.a
   ·have e:=bad (by rw[decide_eq_false (show ¬y.a<=y.b by omega)];rfl)
    rw[decide_eq_true h3];refine gg_ hgf hgd ?_;exact⟨_,rfl,aa [] (wf_ e)⟩
   rw[decide_eq_true (show y.a<=y.b by omega),Bool.true_and]at bad good
   have hs:tG x y=(decide (x.a<=y.a)&&decide (y.b<=x.b)):=by unfold tG cY;rw[decide_eq_false h3];rfl
   rw[hs]at bad good;rw[decide_eq_false h3];refine gg_ hgf hgd ?_
   by_cases h4:y.a<x.a
   ·have e:=bad (by rw[decide_eq_false (show ¬x.a<=y.a by omega)];rfl)
    rw[decide_eq_true h4];refine gg_ hgf hgd ?_;exact⟨_,rfl,aa [] (wf_ e)⟩
   rw[decide_eq_false h4];refine gg_ hgf hgd ?_
   by_cases h5:x.b<y.b
   ·have e:=bad (by rw[decide_eq_false (show ¬y.b<=x.b by omega),Bool.and_false])
    rw[decide_eq_true h5];refine gg_ hgf hgd ?_;exact⟨_,rfl,aa [] (wf_ e)⟩
   rw[decide_eq_false h5];refine gg_ hgf hgd ?_;exact⟨i+1,aa [] (by simp-implicitDefEqProofs only[go_sem,ab];rfl),⟨by omega,good (by rw[decide_eq_true (show x.a<=y.a by omega),decide_eq_true (show y.b<=x.b by omega)];rfl)⟩,by omega⟩
  ·have e:bB dom f=true:=by
    rw[List.take_of_length_le (by omega)]at hF
    simp[bB,hl,hF]
   refine g2_ ?_;exact⟨_,rfl,aa [] (wf_ e)⟩
theorem oS(f g:List GSpan)(n1:f.length<=1000000000)(n2:g.length<=1000000000):Con2 Tryz.prog 221 [fzS f,fzS g] (· =plR (fzS (bV f g))):=by
 refine Con2.ofEmb ?_;refine en_ Tryz.func221 [.tmp 4] (g2_ ?_);refine g2_ ?_;refine cu (fun h=>?_) (fun h=>?_)
 ·have e:bV f g=[]:=by
   have: ¬f.length=g.length:=by omega
   simp[bV,this]
  refine g2_ ?_;refine ae ?_ rfl;exact wf_ e
 have hl:f.length=g.length:=by omega
 have hz:(f.zip g).length=f.length:=by rw[List.length_zip];omega
 refine g2_ ?_;refine av (γ:=Nat) (fun i=>[(6,.d (.v (.int .i64 (i:Nat)))),(5,.d (.rf 0 0 i)),(8,.unk),(21,.unk)]) (fun _=>[]) (fun i=>[(0,.arr 138 2 ((((f.zip g).take i).map dV).map aP) false)]) 1 (fun i=>i<=f.length/\((f.zip g).take i).any eM=false) (fun i=>f.length-i) 0 (aa [(0,.nil 2)] ?_) ⟨by omega,rfl⟩ (fun i hi=>?_)
 ·refine x0_ ?_
  repeat' (first|rfl|refine And.intro ?_ ?_)
 ·obtain⟨hi,hF⟩:=hi;have hlen:(((f.zip g).take i).map dV).length=i:=by rw[List.length_map,List.length_take];omega
  refine g2_ ?_;refine aq (fun h2=>?_) (fun h2=>?_)
  ·have hk:i<f.length:=by omega
   have hk2:i<g.length:=by omega
   have hk3:i<(f.zip g).length:=by omega
   have hm:=aaJ f[i] g[i];have hp:dV (f.zip g)[i]=cf f[i] g[i]:=by rw[List.getElem_zip];rfl
   have hn:((f.zip g).take (i+1)).any eM=cY (cf f[i] g[i]):=by rw[vo hk3,hF,Bool.false_or,eM,hp]
   have hs:((f.zip g).take (i+1)).map dV=((f.zip g).take i).map dV++[cf f[i] g[i]]:=by rw[List.take_add_one,List.getElem?_eq_getElem hk3,List.map_append,Option.toList_some,List.map_cons,List.map_nil,hp]
   generalize cf f[i] g[i]=m at hm hn hs;obtain⟨z,hz2⟩: ∃z:GSpan,z=if cY m=true then ⟨0,0⟩else m:=⟨_,rfl⟩
   rw[<-hz2]at hm;refine g2_ ?_;refine zj (.fl 0 (.fl 1 (.fl 4 (.fl 5 (.fl 2 (.fl 6 (.fl 3 (.fl 7 (.eff 8 false (.fl 9 (.fl 10 (.fl 11 (.eff 12 true (.eff 13 false (.fl 14 .done) .no) .no)))) (.eff 12 true (.eff 8 false (.fl 9 (.fl 10 (.fl 11 (.eff 13 false (.fl 14 .done) .no)))) .no) .no)))))))))) [(8,.d (.v (.bool (!cY m)))),(7,.loc 7 0)] [(7,⟨aP z,138⟩)] ?_ ?_
   ·refine gf_ (c2_ (mE_ hk) (mE_ hk2)) ?_
    repeat' (first
     |(with_reducible refine And.intro ?_ ?_)
     |(refine cw_ hm (g2_ ?_))
     |(refine aa [] ?_;(focus (simp-implicitDefEqProofs only[go_sem,ab];done))))
   refine g2_ ?_;cases hb:cY m with
   | true=>
    have e:bV f g=[]:=by
     have:(f.zip g).any eM=true:=by
      obtain⟨y,hy,hy2⟩:=List.any_eq_true.1 (hn.trans hb);exact List.any_eq_true.2 ⟨y,List.mem_of_mem_take hy,hy2⟩
     simp[bV,this]
    refine g2_ ?_;refine ae ?_ rfl;exact wf_ e
   |false=>
    rw[hb,if_neg (by decide)]at hz2
    subst hz2;refine gf_ hlen ?_;refine⟨i+1,aa [(0,.to 2)] ?_,⟨by omega,hn.trans hb⟩,by omega⟩
    refine u1_ (c2_ hs @List.length_append.{0}) ?_
    first|rfl|exact⟨rfl,by simp[aP]⟩|simp[aP]
  ·have he:(f.zip g).take i=f.zip g:=List.take_of_length_le (by omega)
   rw[he]at hF hlen;have e:bV f g=(f.zip g).map dV:=by simp[bV,hl,hF]
   refine g2_ ?_;refine ae ?_ rfl;refine gf_ (c3_ e he hlen) ?_;rw[List.take_of_length_le (by rw[List.length_map,hlen];exact Nat.le_refl _)]
theorem aaS(f g:List GSpan):bV f g=bV g f:=by
 have hz: ∀(f g:List GSpan),(f.zip g).map dV=(g.zip f).map dV:=by
  intro f
  induction f with
  |nil=>intro g;cases g<;>rfl
  |cons x r ih=>
   intro g;cases g with
   |nil=>rfl
   |cons y q=>rw[List.zip_cons_cons,List.zip_cons_cons,List.map_cons,List.map_cons,ih q];exact congrArg (· ::_) (zM x y)
 have hn:(f.zip g).any eM=(g.zip f).any eM:=by
  have h1: ∀l:List PPr,l.any eM=(l.map dV).any cY:=fun l=>by rw[List.any_map];rfl
  rw[h1,h1,hz f g]
 unfold bV;rw[hn,hz f g]
 by_cases h:f.length=g.length/\(g.zip f).any eM=false
 ·rw[if_pos h,if_pos ⟨h.1.symm,h.2⟩]
 ·rw[if_neg h,if_neg (fun e=>h ⟨e.1.symm,e.2⟩)]
theorem uu(dom f:List GSpan)(n1:dom.length<=1000000000)(n2:f.length<=1000000000):Con2 Tryz.prog 122 [fzS dom,fzS f] (· =plR (.tup [fzS (aS dom f).1,.v (.int .i64 (aS dom f).2)])):=by
 have hc:bV f dom=bV dom f:=aaS f dom;refine en_ Tryz.func122 [.tmp 4,.tmp 5] (g2_ ?_);refine g2_ ?_;refine fO (fun h=>?_) (fun h=>?_)
 ·have e:aS dom f=([],0):=by unfold aS;rw[if_pos (by omega)]
  refine g2_ ?_;exact⟨_,rfl,aa [] (wf_ e)⟩
 refine g2_ ?_;refine cu (fun h1=>?_) (fun h1=>?_)
 ·have e:aS dom f=([],50):=by unfold aS;rw[if_neg (by omega),if_neg (by omega)]
  refine g2_ ?_;exact⟨_,rfl,aa [] (wf_ e)⟩
 have e:aS dom f=(bV dom f,0):=by unfold aS;rw[if_neg (by omega),if_pos (by omega)]
 refine g2_ ?_;refine av (γ:=Nat) (fun i=>[(7,.d (.v (.int .i64 (i:Nat)))),(6,.d (.rf 0 0 i))]) (fun _=>[]) (fun i=>[(0,.arr 138 2 ((dom.take i).map aP) false)]) 1 (fun i=>i<=dom.length) (fun i=>dom.length-i) 0 (aa [(0,.nil 2)] ?_) (by omega) (fun i hi=>?_)
 ·refine x0_ ?_
  repeat' (first|rfl|refine And.intro ?_ ?_)
 ·have hlen:(dom.take i).length=i:=by rw[List.length_take];omega
  refine g2_ ?_;refine aq (fun h2=>?_) (fun h2=>?_)
  ·have hk:i<dom.length:=by omega
   have hs:dom.take (i+1)=dom.take i++[dom[i]]:=by rw[List.take_add_one,List.getElem?_eq_getElem hk];rfl
   refine gf_ (c2_ (mE_ hk) hlen) ?_;refine⟨i+1,aa [(0,.to 2)] ?_,by omega,by omega⟩
   refine gf_ hs ?_
   first|rfl|exact⟨rfl,by rw[List.map_append];rfl⟩|(rw[List.map_append];rfl)
  ·have he:dom.take i=dom:=List.take_of_length_le (by omega)
   have hi2:i=dom.length:=by omega
   subst hi2;refine g2_ ?_;refine CallS.eq (oS f dom n2 n1) (wf_ he) (.inl ws_) ?_;refine g2_ ?_;exact⟨_,rfl,aa [] (wg_ e hc)⟩
theorem acR(s:GSpan)(hs:okS s):Con2 Tryz.prog 317 [.agg (aP s)] (· =plR (.v (.int .u32 (sLen s)))):=by
 obtain⟨h1,h2,h3,h4⟩:=hs;refine en_ Tryz.func317 [.tmp 2] (g2_ ?_);refine g2_ ?_;refine aq (fun h=>?_) (fun h=>?_)
 ·have e:sLen s=0:=if_pos (by omega)
  rw[e];refine g2_ ?_;exact⟨_,rfl,aa [] (by simp-implicitDefEqProofs only[go_sem,ab];rfl)⟩
 ·have e:(sLen s:Int)=min (s.b-s.a+1) 4294967295:=by rw[sLen,if_neg (by omega)];omega
  refine g2_ ?_;refine aq (fun h5=>?_) (fun h5=>?_)
  ·have e2:(sLen s:Int)=4294967295:=by omega
   refine g2_ ?_;refine kU (by omega) ?_
   refine g2_ ?_;exact⟨_,rfl,aa [] (wf_ e2)⟩
  ·have e2:(sLen s:Int)=s.b-s.a+1:=by omega
   refine g2_ ?_;refine kU (by omega) ?_
   refine g2_ ?_;exact⟨_,rfl,aa [] (wf_ e2)⟩
theorem nc(f g:List GSpan)(n1:f.length<=1000000000)(n2:g.length<=1000000000)(hf: ∀s∈f,okS s)(hg: ∀s∈g,okS s):Con2 Tryz.prog 225 [fzS f,fzS g] (· =plR (.v (.int .u32 (dP f g)))):=by
 have hm:=oS f g n1 n2;have hl:=m_ f g
 have hok: ∀s∈bV f g,okS s:=by
  intro s hs;unfold bV at hs;split at hs
  ·obtain⟨x,hx,rfl⟩:=List.mem_map.1 hs;exact qn (hf _ (List.of_mem_zip hx).1) (hg _ (List.of_mem_zip hx).2)
  ·cases hs
 unfold dP;generalize bV f g=m at hm hl hok;refine en_ Tryz.func225 [.tmp 4] (g2_ ?_);refine g2_ ?_;refine ce_ hm (g2_ ?_);refine fO (fun h=>?_) (fun h=>?_)
 ·have e:m=[]:=List.eq_nil_of_length_eq_zero (by omega)
  rw[if_pos e];refine g2_ ?_;exact⟨_,rfl,aa [] (by simp-implicitDefEqProofs only[go_sem,ab];rfl)⟩
 ·have e: ¬m=[]:=fun e=>h (by rw[e];rfl)
  rw[if_neg e];refine g2_ ?_;refine av (γ:=Nat) (fun i=>[(7,.d (.v (.int .i64 (i:Nat)))),(6,.d (.v (.int .u64 (ovK m i))))]) (fun _=>[]) (fun _=>[]) 0 (fun i=>i<=m.length) (fun i=>m.length-i) 0 (aa [] ?_) (by omega) (fun i hi=>?_)
  ·repeat first|simp-implicitDefEqProofs only[go_sem,ab,ovK,List.take_zero,List.foldl_nil]|with_reducible refine gl_ ?_
   repeat' (first|rfl|refine And.intro ?_ ?_)
  ·refine g2_ ?_;refine aq (fun h2=>?_) (fun h2=>?_)
   ·have hk:i<m.length:=by omega
    have hs:=acR m[i] (hok _ (List.getElem_mem hk));have hsu:=vS hk;have b1:=uT (l:=m) (k:=i);have b2:=abv m[i];have hb:ovK m i*sLen m[i]<=4294967295*4294967295:=Nat.mul_le_mul b1 b2;refine gf_ (mE_ hk) ?_;refine ce_ hs (g2_ ?_);refine fX (by omega) ?_
    refine g2_ ?_;refine fX (by rw[show(ovK m i:Int)*(sLen m[i]:Int)=((ovK m i*sLen m[i]:Nat):Int)by simp];omega) ?_
    refine g2_ ?_;rw[show(ovK m i:Int)*(sLen m[i]:Int)=((ovK m i*sLen m[i]:Nat):Int)by simp]
    generalize ovK m i*sLen m[i]=q at hsu hb;refine aq (fun h3=>?_) (fun h3=>?_)
    ·have e3:ovK m (i+1)=4294967295:=by rw[hsu];omega
     refine g2_ ?_;refine⟨i+1,aa [] ?_,by omega,by omega⟩
     refine gf_ e3 ?_
     try (repeat' (first|rfl|refine And.intro ?_ ?_))
    ·have e3:ovK m (i+1)=q:=by rw[hsu];omega
     refine g2_ ?_;refine⟨i+1,aa [] ?_,by omega,by omega⟩
     refine gf_ e3 ?_
     try (repeat' (first|rfl|refine And.intro ?_ ?_))
   ·have b1:=uT (l:=m) (k:=m.length);have he:i=m.length:=by omega
    subst he;refine g2_ ?_;refine kU (by omega) ?_
    refine g2_ ?_;exact⟨_,rfl,aa [] ws_⟩
