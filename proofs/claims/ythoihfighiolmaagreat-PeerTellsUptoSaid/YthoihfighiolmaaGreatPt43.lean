import Derived.Test.YthoihfighiolmaaGreatPt42
set_option linter.unusedSectionVars false
set_option linter.unusedSimpArgs false
set_option linter.unusedVariables false
set_option maxRecDepth 10000
set_option maxHeartbeats 4000000
namespace Go.Eng
theorem sU{l:List GDesc}{d:GDesc}{self:UInt8}{r1 r2:Int}(h1:(l.length:Int)<r1)(h2:(l.length:Int)<r2):bH l d self r1=bH l d self r2:=by
 unfold bH;split
 ·rfl
 ·split
  ·rfl
  ·rw[if_neg (by omega),if_neg (by omega)]
theorem agq{l:List GDesc}{k:Nat}(hu:Up bS l)(h:k<l.length):aD l l[k].node=l.take k++l.drop (k+1):=by
 have hp:=List.pairwise_iff_getElem.1 hu;obtain⟨n,hn⟩: ∃n,n=l[k].node:=⟨_,rfl⟩;have e:l=l.take k++l[k]::l.drop (k+1):=by rw[<-List.drop_eq_getElem_cons h,List.take_append_drop]
 rw[<-hn];have e2:aD l n=aD (l.take k++l[k]::l.drop (k+1)) n:=congrArg (fun x=>aD x n) e
 rw[e2,aD,List.filter_append,List.filter_cons_of_neg (by simp[hn])]
 congr 1
 ·rw[List.filter_eq_self];intro a ha;obtain⟨i,hi,rfl⟩:=List.getElem_of_mem ha;have hi2:i<k:=by simp at hi;omega
  have:=hp i k (by omega) h hi2
  simp only[bS]at this;rw[List.getElem_take];simp only[Bool.not_eq_true',decide_eq_false_iff_not];intro g;rw[g,hn]at this;omega
 ·rw[List.filter_eq_self];intro a ha;obtain⟨i,hi,rfl⟩:=List.getElem_of_mem ha;have hi2:k+1+i<l.length:=by simp at hi;omega
  have:=hp k (k+1+i) h hi2 (by omega)
  simp only[bS]at this;rw[List.getElem_drop];simp only[Bool.not_eq_true',decide_eq_false_iff_not];intro g;rw[g,hn]at this;omega
end Go.Eng
namespace Go.Proofs.YthoihfighiolmaaGreat.V
open Go.Eng
attribute [local go_sem] zDesc aP af fzD plR bb a_ aE bj aC ak bk cR z8 z16 z32 z64 encMg aH dE eI List.map_cons List.map_nil List.set_cons_succ List.set_cons_zero
theorem m5{l:List GDesc}{d:GDesc}{self:UInt8}{room:Int}{n:Nat}(h: ∀x∈l,x.filter.length<=n)(hd:d.filter.length<=n): ∀x∈(bH l d self room).1,x.filter.length<=n:=fun x hx=>(put_mem x hx).elim (h x) (fun e=>e▸hd)
theorem ni(l:List GDesc)(many:Int)(not:UInt8)(dr:List UInt32)(hu:Up bS l)(hl:aR l)(hd:dr.length<=4000000):Con2 Tryz.prog 139 [fzD l,.v (.int .i64 many),.v (.int .u8 not.toNat),.fz 1 (dr.map aZ)] (· =plR (fzD (bP many (aD l not) [] dr))):=by
 refine Con2.ofEmb ?_;have hl1:=hl.1;have k1:=lJ l not hl;have hA:aR (aD l not):=bu hl;have hA1:=hA.1;have hAu:Up bS (aD l not):=hu.filter _;generalize aD l not=A0 at k1 hA hA1 hAu;obtain⟨R,hR⟩: ∃R,bP many A0 [] dr=R:=⟨_,rfl⟩;rw[hR];refine en_ Tryz.func139 [.tmp 8] (g2_ ?_);refine g2_ ?_;refine ce_ k1 (g2_ ?_);refine av (γ:=Nat×List GDesc×List GDesc) (fun g=>[(11,.d (.v (.int .i64 (g.1:Nat)))),(9,.d (fzD g.2.1)),(10,.d (.rf 0 0 g.2.2.length))]) (fun _=>[]) (fun g=>[(0,.arr 34 4 (g.2.2.map af) false)]) 1 (fun g=>g.1<=dr.length/\bP many g.2.1 g.2.2 (dr.drop g.1)=R/\aR g.2.1/\Up bS g.2.1/\g.2.2.length<=g.1) (fun g=>dr.length-g.1) (0,A0,[]) (aa [(0,.nil 4)] ?_) ⟨Nat.zero_le _,hR,hA,hAu,Nat.le_refl _⟩ (fun g hg=>?_)
 ·refine g2_ ?_
  first|done|rfl|exact⟨rfl,rfl⟩
 ·obtain⟨i,A,B⟩:=g;obtain⟨hi,hc,hAo,hAu2,hb⟩:=hg;simp only at hi hc hAo hAu2 hb ⊢;have hA2:=hAo.1;refine gx_ ?_
  by_cases hk:i<dr.length
  ·rw[show decide ((i:Int)<(dr.length:Int))=true from decide_eq_true (by omega)]
   have hdg:(dr.map aZ)[i]? =some [.v (.int .u32 dr[i].toNat)]:=by rw[List.getElem?_map,List.getElem?_eq_getElem hk];rfl
   rw[xF (List.getElem?_eq_getElem hk)]at hc;generalize dr[i]=x at hdg hc;have hx:=x.toNat_lt;refine g2_ ?_
   by_cases h1:many<=(B.length:Int)
   ·rw[sa h1]at hc;subst hc;rw[decide_eq_false (show ¬(B.length:Int)<many by omega)]
    refine g2_ ?_;refine ae ?_ rfl
    repeat first|simp-implicitDefEqProofs only[go_sem,ab,List.length_map,aF]|with_reducible refine gl_ ?_
   rw[decide_eq_true (show(B.length:Int)<many by omega)]
   refine gx_ ?_
   by_cases hA3:A=[]
   ·rw[hA3,x_]at hc;subst hc;rw[show decide ((0:Int)<(A.length:Int))=false by rw[hA3];rfl]
    refine g2_ ?_;refine ae ?_ rfl
    repeat first|simp-implicitDefEqProofs only[go_sem,ab,List.length_map,aF]|with_reducible refine gl_ ?_
   have hp:=List.length_pos_iff.2 hA3;rw[show decide ((0:Int)<(A.length:Int))=true from decide_eq_true (by omega)]
   have hm:x.toNat % A.length<A.length:=Nat.mod_lt _ hp
   have hn:bP many (A.take (x.toNat % A.length)++A.drop (x.toNat % A.length+1)) (B++[A[x.toNat % A.length]]) (dr.drop (i+1))=R:=by
    rw[<-hc,bP,if_neg h1,List.getElem?_eq_getElem hm]
   rw[<-agq hAu2 hm]at hn;refine gf_ hdg ?_;refine kU (by omega) ?_
   refine g2_ ?_;rw[jt (a:=x.toNat) (b:=A.length) rfl rfl hp];generalize x.toNat % A.length=j at hm hn;have hgm:=aX (f:=af) hm;generalize A[j]=o at hn hgm;have kd:=lJ A o.node hAo;simp only[af]at hgm;refine gf_ hgm ?_
   try refine f6 (by omega) ?_
   refine gf_ hgm ?_;refine ce_ kd (gx_ ?_);refine⟨(i+1,aD A o.node,B++[o]),aa [(0,.to 2)] ?_,⟨by simp only[];omega,hn,bu hAo,hAu2.filter _,by simp;omega⟩,by simp only[];omega⟩
   repeat first|simp-implicitDefEqProofs only[go_sem,ab,List.length_append,List.map_append]|with_reducible refine gl_ ?_
   try first|rfl|exact⟨rfl,by simp[af]⟩
  ·rw[show decide ((i:Int)<(dr.length:Int))=false from decide_eq_false (by omega)]
   rw[List.drop_eq_nil_of_le (by omega)]at hc
   have hc:B=R:=hc;subst hc;refine g2_ ?_;refine ae ?_ rfl
   repeat first|simp-implicitDefEqProofs only[go_sem,ab,List.length_map,aF]|with_reducible refine gl_ ?_
theorem zX(l:List GDesc)(self:GDesc)(many:Int)(dr:List UInt32)(hu:Up bS l)(hl:aR l)(hs:self.filter.length<=4000000)(hd:dr.length<=4000000)(hm:many<=4000000):Con2 Tryz.prog 129 [fzD l,.agg (af self),.v (.int .i64 many),.fz 1 (dr.map aZ)] (· =plR (.tup [.v (.int .u8 (dZ l self many dr).1.toNat),fzD (dZ l self many dr).2.1,.v (.bool (dZ l self many dr).2.2)])):=by
 refine Con2.ofEmb ?_;have hl1:=hl.1;have ko:=v_ l (by omega)
 refine en_ Tryz.func129 [.tmp 8,.tmp 9,.tmp 10] (g2_ ?_);refine g2_ ?_;cases hi:m3 l with
 | none=>
  have e0:l=[]:=by
   cases l with
   |nil=>rfl
   |cons x r=>obtain⟨i,h⟩:=vg (l:=x::r) (by simp);rw[hi]at h;cases h
  have e:dZ l self many dr=(0,[],false):=by rw[dZ,hi]
  rw[e];rw[show((l.length:Int)==0)=true by rw[e0];rfl]
  refine g2_ ?_;refine ae ?_ rfl;exact wx_
 | some i=>
  obtain⟨o,ho,_⟩:=vZ hi;have hil:i<l.length:=(List.getElem?_eq_some_iff.1 ho).1;have e:dZ l self many dr=if 1<=many then (o.node,aco l self many dr o.node,true)else (0,[],false):=by rw[dZ,hi];simp only[ho]
  have hof:eb l=(i:Int):=by unfold eb;rw[hi]
  rw[e];rw[show((l.length:Int)==0)=false from beq_eq_false_iff_ne.2 (by omega)]
  refine g2_ ?_
  by_cases h1:many<1
  ·rw[if_neg (by omega),decide_eq_true h1]
   refine g2_ ?_;refine ae ?_ rfl;exact ws_
  ·rw[if_pos (by omega),decide_eq_false h1]
   have hgo:(l.map af)[i]? =some (af o):=by rw[List.getElem?_map,ho];rfl
   have kp:=ni l (many-1) o.node dr hu hl hd;have hcl:(bP (many-1) (aD l o.node) [] dr).length<=4000000:=by have:=wA (many-1) dr (aD l o.node) [];simp at this;omega
   rw[aco];generalize bP (many-1) (aD l o.node) [] dr=C at kp hcl;simp only[af]at hgo;refine g2_ ?_;refine ce_ ko ?_;rw[hof];refine gf_ hgo ?_;refine ce_ kp (gx_ ?_);refine ae ?_ rfl;refine x0_ ?_;rw[show decide (1+C.length<=C.length+1)=true from decide_eq_true (by omega),List.take_of_length_le (by simp;omega)]
   try (repeat' (first|rfl|refine And.intro ?_ ?_))
theorem l9(l got sent:List GDesc)(self:UInt8)(room:Int)(hl:aR l)(hg:aR got)(hs:aR sent)(hv:Rt self room l)(hr:room<=4000000):Con2 Tryz.prog 140 [fzD l,fzD got,fzD sent,.v (.int .u8 self.toNat),.v (.int .i64 room)] (· =plR (fzD (cC got self room l sent got))):=by
 refine Con2.ofEmb ?_;have hg1:=hg.1;have hs1:=hs.1;obtain⟨R,hR⟩: ∃R,cC got self room l sent got=R:=⟨_,rfl⟩;rw[hR];have kg:=fun nd=>uf got nd (by omega)
 refine en_ Tryz.func140 [.tmp 10] (g2_ ?_);refine g2_ ?_;refine av (γ:=Nat×List GDesc×Nat) (fun g=>[(12,.d (.v (.int .i64 (g.1:Nat)))),(0,.d (fzD g.2.1)),(11,.d (.v (.int .i64 (g.2.2:Nat))))]) (fun _=>[]) (fun _=>[]) 0 (fun g=>g.1<=got.length/\cC got self room g.2.1 (sent.drop g.2.2) (got.drop g.1)=R/\Rt self room g.2.1/\(∀x∈g.2.1,x.filter.length<=4000000)/\g.2.2<=sent.length) (fun g=>got.length-g.1) (0,l,0) (aa [] ?_) ⟨Nat.zero_le _,hR,hv,hl.2,Nat.zero_le _⟩ (fun g hG=>?_)
 ·refine g2_ ?_
  first|done|rfl|exact⟨rfl,rfl⟩
 ·obtain⟨i,L,a⟩:=g;obtain⟨hi,hc,h1,h2,h3⟩:=hG;simp only at hi hc h1 h2 h3 ⊢;have hLl:L.length<=4000000:=by have:=h1.1;omega
  have hLo:aR L:=⟨hLl,h2⟩;refine gx_ ?_;refine aq (fun h=>?_) (fun h=>?_)
  ·have hk:i<got.length:=by omega
   have hgk:=aX (f:=af) hk;have hd8:=hg.2 _ (List.getElem_mem hk);rw[List.drop_eq_getElem_cons hk]at hc;generalize got[i]=d at hd8 hgk hc;have kp:=oE L h1.2.2 d self room hLo hd8;have kf:=fun nd=>uf L nd (by omega)
   refine gf_ hgk ?_;refine ce_ kp ?_;rw[cC]at hc;cases hP:(bH L d self room).2 with
   |true=>
    rw[if_pos hP]at hc;refine g2_ ?_;refine⟨(i+1,(bH L d self room).1,a),aa [] ?_,⟨by simp only[];omega,hc,ml h1 d,m5 h2 hd8,h3⟩,by simp only[];omega⟩
    refine g2_ ?_
    try (repeat' (first|rfl|refine And.intro ?_ ?_))
   |false=>
   rw[if_neg (by rw[hP];decide)]at hc
   refine g2_ ?_;rw[bt]
   by_cases c1:d.node=self
   ·rw[if_pos (.inl c1)]at hc;rw[decide_eq_true c1];refine g2_ ?_;refine⟨(i+1,L,a),aa [] ?_,⟨by simp only[];omega,hc,h1,h2,h3⟩,by simp only[];omega⟩
    refine g2_ ?_
    try (repeat' (first|rfl|refine And.intro ?_ ?_))
   rw[decide_eq_false c1];refine g2_ ?_;rw[ga]
   by_cases c2:d.inc=0
   ·rw[if_pos (.inr (.inl c2))]at hc;rw[decide_eq_true c2];refine g2_ ?_;refine⟨(i+1,L,a),aa [] ?_,⟨by simp only[];omega,hc,h1,h2,h3⟩,by simp only[];omega⟩
    refine g2_ ?_
    try (repeat' (first|rfl|refine And.intro ?_ ?_))
   rw[decide_eq_false c2];refine g2_ ?_;refine ce_ (kf d.node) (g2_ ?_);rw[jJ]
   by_cases c3:cd L d.node≠none
   ·rw[if_pos (.inr (.inr c3))]at hc;rw[decide_eq_true c3];refine g2_ ?_;refine⟨(i+1,L,a),aa [] ?_,⟨by simp only[];omega,hc,h1,h2,h3⟩,by simp only[];omega⟩
    refine g2_ ?_
    try (repeat' (first|rfl|refine And.intro ?_ ?_))
   rw[decide_eq_false c3];rw[if_neg (fun h=>h.elim c1 fun h=>h.elim c2 c3)]at hc
   refine g2_ ?_;refine av (γ:=Nat) (fun b=>[(11,.d (.v (.int .i64 (b:Nat))))]) (fun _=>[]) (fun _=>[]) 0 (fun b=>cw L got (sent.drop b)=cw L got (sent.drop a)/\b<=sent.length) (fun b=>sent.length-b) a (aa [] ?_) ⟨rfl,h3⟩ (fun b hb=>?_)
   ·repeat first|simp-implicitDefEqProofs only[go_sem,ab]|with_reducible refine gl_ ?_
    first|done|rfl|exact⟨rfl,rfl⟩
   ·obtain⟨hb1,hb2⟩:=hb;refine gx_ ?_;refine aq (fun h4=>?_) (fun h4=>?_)
    ·have hbl:b<sent.length:=by omega
     have hsb:=aX (f:=af) hbl;rw[List.drop_eq_getElem_cons hbl,cw]at hb1;generalize sent[b]=o at hsb hb1;simp only[af]at hsb;refine gf_ hsb ?_;refine ce_ (kf o.node) (g2_ ?_);rw[jJ]
     by_cases q1:cd L o.node≠none
     ·rw[decide_eq_true q1];refine g2_ ?_;refine ce_ (kg o.node) (g2_ ?_);rw[show decide (fb got o.node<0)=decide (cd got o.node=none)by rw[decide_eq_decide];exact find_neg]
      by_cases q2:cd got o.node=none
      ·rw[if_pos ⟨q1,q2⟩]at hb1;rw[decide_eq_true q2];rw[<-hb1]at hc;simp only[if_true]at hc;have hlt:=m8 q1;have hD:aR (aD L o.node):=bu hLo;have hDu:Up bS (aD L o.node):=h1.2.2.filter _;have hRt:Rt self room (aD L o.node):=gg h1 _;have kd:=lJ L o.node hLo;have hrl:=h1.1;have hpr:=sU (l:=aD L o.node) (d:=d) (self:=self) (r1:=((aD L o.node).length:Int)+1) (r2:=room) (by omega) (by omega)
       rw[hpr]at hc;generalize aD L o.node=D at hc hD hDu hRt kd hlt;have kq:=oE D hDu d self room hD hd8;refine g2_ ?_;refine .inl ⟨[oF 0,oF 1,oF 3,oF 4,oF 5,oT 2,oF 6,oF 7,oF 8,oF 9,oF 10],by kernel_rfl,g2_ ?_⟩
       refine ce_ kd (g2_ ?_);refine ce_ kq (g2_ ?_);refine⟨(i+1,(bH D d self room).1,b+1),aa [] ?_,⟨by simp only[];omega,hc,ml hRt d,m5 hD.2 hd8,hbl⟩,by simp only[];omega⟩
       refine g2_ ?_
       try (repeat' (first|rfl|refine And.intro ?_ ?_))
      ·rw[if_neg (fun h=>q2 h.2)]at hb1
       rw[decide_eq_false q2];refine g2_ ?_;refine⟨b+1,aa [] ?_,⟨hb1,by omega⟩,by omega⟩
       refine g2_ ?_
       try (repeat' (first|rfl|refine And.intro ?_ ?_))
     ·rw[if_neg (fun h=>q1 h.1)]at hb1
      rw[decide_eq_false q1];refine g2_ ?_;refine⟨b+1,aa [] ?_,⟨hb1,by omega⟩,by omega⟩
      refine g2_ ?_
      try (repeat' (first|rfl|refine And.intro ?_ ?_))
    ·rw[List.drop_eq_nil_of_le (by omega),cw]at hb1
     rw[<-hb1]at hc;simp only[Bool.false_eq_true,if_false]at hc;have hbe:sent.drop b=[]:=List.drop_eq_nil_of_le (by omega)
     refine g2_ ?_;refine⟨(i+1,L,b),aa [] ?_,⟨by simp only[];omega,by simp only[hbe];exact hc,h1,h2,hb2⟩,by simp only[];omega⟩
     refine g2_ ?_
     try (repeat' (first|rfl|refine And.intro ?_ ?_))
  ·rw[show got.drop i=[]from List.drop_eq_nil_of_le (by omega)]at hc
   have hc:L=R:=by simpa[cC]using hc
   subst hc;refine g2_ ?_;refine ae ?_ rfl;exact ws_
theorem ui(node left:UInt8)(l:List GDesc):Con2 Tryz.prog 130 [.v (.int .u8 node.toNat),.v (.int .u8 left.toNat),fzD l] (· =plR (.agg (eI (wStart node left l)))):=by
 refine en_ Tryz.func130 [.cell 6 38] (g2_ ?_);refine g2_ ?_;rw[show((left.toNat:Int)==0)=decide (left=0)from bt left 0]
 by_cases h:left=0
 ·have e:u1 left=1:=if_pos h;rw[decide_eq_true h];refine g2_ ?_;exact⟨_,rfl,aa [] (by simp-implicitDefEqProofs only[go_sem,ab,wStart,e];try (repeat' (first|rfl|refine And.intro ?_ ?_)))⟩
 ·have e:u1 left=left:=if_neg h;rw[decide_eq_false h];refine g2_ ?_;exact⟨_,rfl,aa [] (by simp-implicitDefEqProofs only[go_sem,ab,wStart,e])⟩
theorem vy(w:GW)(hw:w.some=true->1<=w.left.toNat):Con2 Tryz.prog 127 [.agg (eI w)] (· =plR (.tup [.agg (eI (cI w).1),.v (.int .u8 (cI w).2.1.toNat),.v (.bool (cI w).2.2)])):=by
 refine Con2.ofEmb ?_;have hwl:=w.left.toNat_lt;refine en_ Tryz.func127 [.cell 2 38,.tmp 3,.tmp 4] (g2_ ?_);refine g2_ ?_;cases hs:w.some with
 |false=>
  have e:cI w=(wZero,0,false):=by rw[cI,if_neg (by simp[hs])]
  rw[e];refine g2_ ?_;refine ae ?_ rfl
  repeat first|simp-implicitDefEqProofs only[go_sem,ab,wZero]|with_reducible refine gl_ ?_
 | true=>
  have h1:=hw hs;refine g2_ ?_;rw[show((w.left.toNat:Int)==1)=decide (w.left=1)from bt w.left 1]
  by_cases h:w.left=1
  ·have e:cI w=(wZero,w.node,true):=by rw[cI,if_pos hs,if_pos (by rw[h];exact UInt8.le_refl _)]
   rw[e,decide_eq_true h];refine g2_ ?_;refine .inr (.inr (.inl ⟨[oF 0,oF 1,oF 2,oT 3,oF 4,oF 5],[2],by kernel_rfl,g2_ ?_⟩))
   refine ae ?_ rfl
   repeat first|simp-implicitDefEqProofs only[go_sem,ab,wZero]|with_reducible refine gl_ ?_
  ·have hn1:w.left.toNat≠1:=fun g=>h (UInt8.toNat_inj.1 (by simpa using g))
   have e:cI w=(⟨true,w.node,w.left-1,w.sent⟩,0,false):=by
    rw[cI,if_pos hs,if_neg (by rw[UInt8.le_iff_toNat_le];have:(1:UInt8).toNat=1:=rfl;omega)]
   have e2:((w.left-1:UInt8).toNat:Int)=(w.left.toNat:Int)-1:=by
    rw[UInt8.toNat_sub];have:(1:UInt8).toNat=1:=rfl;omega
   rw[e,decide_eq_false h];refine g2_ ?_;refine dx (by omega) ?_
   refine g2_ ?_;refine ae ?_ rfl;exact wg_ e2 hs
theorem qC(w:GW)(frm:UInt8):Con2 Tryz.prog 141 [.agg (eI w),.v (.int .u8 frm.toNat)] (· =plR (.tup [.agg (eI (du w frm).1),fzD (du w frm).2.1,.v (.bool (du w frm).2.2)])):=by
 refine Con2.ofEmb ?_;refine en_ Tryz.func141 [.cell 4 38,.tmp 5,.tmp 6] (g2_ ?_);refine g2_ ?_;cases hs:w.some with
 |false=>
  have e:du w frm=(w,[],false):=by rw[du,if_neg (by simp[hs])]
  rw[e];refine g2_ ?_;refine ae ?_ rfl;exact wf_ hs
 | true=>
  refine g2_ ?_;rw[bt]
  by_cases h:w.node=frm
  ·have e:du w frm=(wZero,w.sent,true):=by rw[du,if_pos ⟨hs,h⟩]
   rw[e,decide_eq_true h];refine g2_ ?_;refine .inr (.inr (.inl ⟨[oF 0,oF 1,oF 2,oT 3,oF 4,oF 5],[4],by kernel_rfl,g2_ ?_⟩))
   refine ae ?_ rfl
   repeat first|simp-implicitDefEqProofs only[go_sem,ab,wZero]|with_reducible refine gl_ ?_
  ·have e:du w frm=(w,[],false):=by rw[du,if_neg (fun g=>h g.2)]
   rw[e,decide_eq_false h];refine g2_ ?_;refine ae ?_ rfl;exact wf_ hs
theorem xb(l got:List GDesc)(self:UInt8)(room:Int)(hl:aR l)(hg:aR got)(hv:Rt self room l)(hr:room<=4000000):Con2 Tryz.prog 138 [fzD l,fzD got,.v (.int .u8 self.toNat),.v (.int .i64 room)] (· =plR (fzD (dy self room l got))):=by
 refine Con2.ofEmb ?_;have hg1:=hg.1;obtain⟨R,hR⟩: ∃R,dy self room l got=R:=⟨_,rfl⟩;rw[hR];refine en_ Tryz.func138 [.tmp 8] (g2_ ?_);refine g2_ ?_;refine av (γ:=Nat×List GDesc) (fun g=>[(9,.d (.v (.int .i64 (g.1:Nat)))),(0,.d (fzD g.2))]) (fun _=>[]) (fun _=>[]) 0 (fun g=>g.1<=got.length/\dy self room g.2 (got.drop g.1)=R/\Rt self room g.2/\(∀x∈g.2,x.filter.length<=4000000)) (fun g=>got.length-g.1) (0,l) (aa [] ?_) ⟨Nat.zero_le _,hR,hv,hl.2⟩ (fun g hG=>?_)
 ·refine g2_ ?_
  first|done|rfl|exact⟨rfl,rfl⟩
 ·obtain⟨i,L⟩:=g;obtain⟨hi,hc,h1,h2⟩:=hG;simp only at hi hc h1 h2 ⊢;have hLo:aR L:=⟨by have:=h1.1;omega,h2⟩
  refine gx_ ?_;refine aq (fun h=>?_) (fun h=>?_)
  ·have hk:i<got.length:=by omega
   have hgk:=aX (f:=af) hk;have hd8:=hg.2 _ (List.getElem_mem hk);rw[List.drop_eq_getElem_cons hk,dy]at hc;generalize got[i]=d at hd8 hgk hc;have kp:=oE L h1.2.2 d self room hLo hd8;refine gf_ hgk ?_;refine ce_ kp (g2_ ?_);refine⟨(i+1,(bH L d self room).1),aa [] ?_,⟨by simp only[];omega,hc,ml h1 d,m5 h2 hd8⟩,by simp only[];omega⟩
   refine g2_ ?_
   try (repeat' (first|rfl|refine And.intro ?_ ?_))
  ·rw[List.drop_eq_nil_of_le (by omega),dy]at hc
   subst hc;refine g2_ ?_;refine ae ?_ rfl;exact ws_
theorem uq(l:List GDesc)(d:GDesc)(self:UInt8)(room:Int)(hl:aR l)(hd:d.filter.length<=4000000)(hv:Rt self room l):Con2 Tryz.prog 136 [fzD l,.agg (af d),.v (.int .u8 self.toNat),.v (.int .i64 room)] (· =plR (fzD (dJ l d self room))):=by
 refine Con2.ofEmb ?_;have hl1:=hl.1;have kp:=oE l hv.2.2 d self room hl hd;have kf:=uf l d.node (by omega)
 have ko:=v_ l (by omega)
 obtain⟨R,hR⟩: ∃R,dJ l d self room=R:=⟨_,rfl⟩;rw[hR];rw[dJ]at hR;refine en_ Tryz.func136 [.tmp 8] (g2_ ?_);refine g2_ ?_;refine ce_ kp ?_;cases hP:(bH l d self room).2 with
 |true=>
  rw[if_pos hP]at hR;rw[hR];refine g2_ ?_;refine ae ?_ rfl;exact ws_
 |false=>
 rw[if_neg (by rw[hP];decide)]at hR
 refine g2_ ?_;rw[bt]
 by_cases c1:d.node=self
 ·rw[if_pos (.inl c1)]at hR;rw[decide_eq_true c1, <-hR];refine g2_ ?_;refine ae ?_ rfl;exact ws_
 rw[decide_eq_false c1];refine g2_ ?_;rw[ga]
 by_cases c2:d.inc=0
 ·rw[if_pos (.inr (.inl c2))]at hR;rw[decide_eq_true c2, <-hR];refine g2_ ?_;refine ae ?_ rfl;exact ws_
 rw[decide_eq_false c2];refine g2_ ?_;refine ce_ kf (g2_ ?_);rw[jJ]
 by_cases c3:cd l d.node≠none
 ·rw[if_pos (.inr (.inr c3))]at hR;rw[decide_eq_true c3, <-hR];refine g2_ ?_;refine ae ?_ rfl;exact ws_
 rw[decide_eq_false c3];rw[if_neg (fun h=>h.elim c1 fun h=>h.elim c2 c3)]at hR
 refine g2_ ?_;cases hi:m3 l with
 | none=>
  have e0:l=[]:=by
   cases l with
   |nil=>rfl
   |cons x r=>obtain⟨i,h⟩:=vg (l:=x::r) (by simp);rw[hi]at h;cases h
  rw[hi]at hR;simp only at hR;rw[<-hR];rw[show((l.length:Int)==0)=true by rw[e0];rfl]
  refine g2_ ?_;refine ae ?_ rfl;exact ws_
 |some i=>
  obtain⟨o,ho,_⟩:=vZ hi;have hil:i<l.length:=(List.getElem?_eq_some_iff.1 ho).1;have hof:eb l=(i:Int):=by unfold eb;rw[hi]
  rw[hi]at hR;simp only[ho]at hR;have hq:cd l o.node≠none:=fun g=>gn g o (List.mem_of_getElem? ho) rfl
  have hlt:=m8 hq;have hrl:=hv.1;have hpr:=sU (l:=aD l o.node) (d:=d) (self:=self) (r1:=(l.length:Int)) (r2:=room) (by omega) (by omega)
  rw[hpr]at hR;have hD:aR (aD l o.node):=bu hl;have hDu:Up bS (aD l o.node):=hv.2.2.filter _;have kd:=lJ l o.node hl;have kq:=oE (aD l o.node) hDu d self room hD hd;have hgo:(l.map af)[i]? =some (af o):=by rw[List.getElem?_map,ho];rfl
  simp only[af]at hgo;generalize aD l o.node=D at kd kq hR;rw[show((l.length:Int)==0)=false from beq_eq_false_iff_ne.2 (by omega)]
  refine g2_ ?_;refine ce_ ko ?_;rw[hof];refine gf_ hgo ?_;refine .inl ⟨[oF 0,oF 1,oF 3,oF 4,oF 5,oT 2,oF 6,oF 7,oF 8,oF 9,oF 10],by kernel_rfl,g2_ ?_⟩
  refine ce_ kd (g2_ ?_);refine ce_ kq (g2_ ?_);rw[hR];refine ae ?_ rfl;exact ws_
