import Derived.Test.YtmhmahcdanclnaaGreatNr41
import Derived.Test.YtmhmahcdanclnaaGreatNr44
set_option linter.unusedSectionVars false
set_option linter.unusedSimpArgs false
set_option linter.unusedVariables false
set_option maxRecDepth 10000
namespace Go.Eng
def rwK(t:Nat):GRow:=if t=0 then ⟨0,0,0⟩else ⟨1,UInt32.ofNat t,0⟩
theorem ajc{t i:Nat}:gl (rwK t) (idK i)=⟨1,UInt32.ofNat t,0⟩:=by
 unfold rwK gl
 by_cases h:t=0
 ·subst h;rw[if_pos rfl];show(if (0:UInt16).toNat<(1:UInt16).toNat then (⟨1,0,0⟩:GRow)else ⟨0,0,0⟩)=_
  rw[if_pos (by decide)]
  rfl
 ·rw[if_neg h];show(if (1:UInt16).toNat<(1:UInt16).toNat then (⟨1,0,0⟩:GRow)else ⟨1,UInt32.ofNat t,0⟩)=_
  rw[if_neg (by decide)]
theorem amq{t i:Nat}(ht:t<100)(hi:i<100):dt ⟨1,UInt32.ofNat t,0⟩ (idK i).seq=decide (i<t):=by
 rw[Bool.eq_iff_iff,fc,decide_eq_true_eq];show(UInt32.ofNat (i+1)).toNat≠0/\((UInt32.ofNat (i+1)).toNat<=(UInt32.ofNat t).toNat\/(_/\Nat.testBit 0 _=true))↔_;rw[u32_of (by omega),u32_of (by omega),Nat.zero_testBit]
 constructor
 ·rintro⟨_,h|⟨_,h⟩⟩
  ·omega
  ·cases h
 ·intro h;exact⟨by omega,.inl (by omega)⟩
theorem yp{t i:Nat}{w:Int}(ht:t<40)(hi:i<40)(hw:w=64):gH (rwK t) (idK i) w=decide (t<=i):=by
 rw[Bool.eq_iff_iff,oB,ajc,amq (by omega) (by omega),decide_eq_true_eq]
 have h2:(rwK t).inc.toNat<=(idK i).inc.toNat:=by
  unfold rwK;split
  ·exact(show(0:UInt16).toNat<=(1:UInt16).toNat by decide)
  ·exact(show(1:UInt16).toNat<=(1:UInt16).toNat by decide)
 have hs:(idK i).seq≠0:=fun e=>by
  have h3:(UInt32.ofNat (i+1)).toNat=0:=by rw[show UInt32.ofNat (i+1)=0 from e];rfl
  rw[u32_of (by omega)]at h3
  omega
 constructor
 ·rintro⟨_,_,_,_,h,_⟩
  have:=of_decide_eq_false h;omega
 ·intro h;refine⟨by omega,(show(1:UInt16)≠0 by decide),hs,h2,decide_eq_false (by omega),?_⟩
  show((UInt32.ofNat (i+1)).toNat:Int)<=((UInt32.ofNat t).toNat:Int)+w;rw[u32_of (by omega),u32_of (by omega)]
  omega
theorem alA{t:Nat}{w:Int}(ht:t<40)(hw:w=64):(cS (rwK t) (idK t) w).1=rwK (t+1):=by
 unfold cS;rw[if_pos (by rw[yp ht ht hw];exact decide_eq_true (Nat.le_refl _)),ajc]
 have hbit:rwBit ⟨1,UInt32.ofNat t,0⟩ (idK t).seq=0:=by
  show(UInt32.ofNat (t+1)).toNat-(UInt32.ofNat t).toNat-1=0;rw[u32_of (by omega),u32_of (by omega)]
  omega
 have hput:ko ⟨1,UInt32.ofNat t,0⟩ (idK t).seq=⟨1,UInt32.ofNat t,1⟩:=by
  unfold ko;rw[hbit];show(⟨1,UInt32.ofNat t,(0:UInt64) ||| UInt64.ofNat (2^0)⟩:GRow)=_;rw[show(0:UInt64) ||| UInt64.ofNat (2^0)=1 by decide]
 have hs:UInt32.ofNat t+1=UInt32.ofNat (t+1):=by
  apply UInt32.toNat_inj.1;rw[UInt32.toNat_add,u32_of (by omega),u32_of (by omega)]
  show(t+1) % 4294967296=t+1;omega
 rw[hput]
 have h1: ∀n,dG (n+1) ⟨1,UInt32.ofNat t,1⟩=dG n ⟨1,UInt32.ofNat (t+1),0⟩:=fun n=>by
  rw[dG,if_pos (show(1:UInt64).toNat % 2=1 by decide),hs]
  show dG n ⟨1,UInt32.ofNat (t+1),UInt64.ofNat ((1:UInt64).toNat / 2)⟩=_;rw[show UInt64.ofNat ((1:UInt64).toNat / 2)=0 by decide]
 have h2:dG 63 ⟨1,UInt32.ofNat (t+1),0⟩=⟨1,UInt32.ofNat (t+1),0⟩:=by
  rw[dG,if_neg (show ¬(0:UInt64).toNat % 2=1 by decide)]
 rw[h1,h2];unfold rwK;rw[if_neg (by omega)]
theorem afD{t:Nat}{rows:List GRow}{w:Int}(hr:rows[0]? =some (rwK t))(ht:t<40)(hw:w=64): ∀n:Nat,n<40->dE ((List.range n).map idK) rows w=(List.range' t (n-t)).map idK
 |0,_=>by simp[dE]
 | n+1,hn=>by
  have ih:=afD hr ht hw n (by omega)
  unfold dE at ih ⊢;rw[List.range_succ,List.map_append,List.foldl_append,ih];show je rows w _ (idK n)=_;unfold je;have h0:rows[(idK n).node.toNat]? =some (rwK t):=hr;simp only[h0];rw[yp ht (by omega) hw]
  by_cases h:t<=n
  ·have hnot:idK n∉(List.range' t (n-t)).map idK:=fun hm=>by
    obtain⟨i,h1,h2⟩:=List.mem_map.1 hm;have h3:=List.mem_range'_1.1 h1;have:=nY (by omega) (by omega) h2
    omega
   rw[if_pos ⟨decide_eq_true h,hnot⟩,show n+1-t=(n-t)+1 by omega,List.range'_concat,List.map_append]
   simp only[List.map_cons,List.map_nil];rw[show t+1*(n-t)=n by omega]
  ·rw[if_neg (by rintro⟨h1,_⟩;exact h (of_decide_eq_true h1)),show n+1-t=0 by omega,show n-t=0 by omega]
end Go.Eng
namespace Go.Proofs.YtmhmahcdanclnaaGreat.V
open Go.Eng
section
variable {c:an} {p q:af} {d:GDesc} {k:UInt8} {m:aF} {dr:List UInt32} {V:List Int} {n t cnt:Nat} {F:List GSpan}
def aqh(c:an):UInt8:=UInt8.ofNat (c.patience % 256).toNat
def mi(c:an)(i:Nat):GAsk:=⟨idK i,0,aqh c⟩
theorem ajq(hc:az c=true):aqh c≠0:=fun e=>by
 have h:=sZ hc;have h2:=congrArg UInt8.toNat e;unfold aqh at h2;rw[UInt8.toNat_ofNat_of_lt' (by show _<256;omega)]at h2
 have h3:(c.patience % 256).toNat=0:=h2;omega
theorem aj6(hc:az c=true)(hl:13<=c.last.toNat\/t+n<=c.last.toNat)(ht:t+n<40)(hnl: ∀i,i<n->t+i+1<=c.last.toNat): ∀j:Nat,j<=n->
  ((List.range' t j).map idK).foldl (mn c 0) ([],[])=((List.range' t (min j c.pulls.toNat)).map (mi c),(List.range' t (min j c.pulls.toNat)).map idK)
 |0,_=>by simp
 | j +1,hj=>by
  have hr:=bJ hc;have ih:=aj6 hc hl ht hnl j (by omega)
  rw[List.range'_concat,List.map_append,List.foldl_append,ih];show mn c 0 _ (idK (t+1*j))=_;rw[show t+1*j=t+j by omega]
  have hright:j4 (idK (t+j)) c.nodes c.last=true:=by
   unfold j4;simp only[Bool.and_eq_true,decide_eq_true_eq];refine⟨by show((0:Nat):Int)<_;omega,(show 1<=(1:UInt16).toNat by decide),?_,?_⟩
   ·show 1<=(UInt32.ofNat (t+j+1)).toNat;rw[u32_of (by omega)];omega
   ·show(UInt32.ofNat (t+j+1)).toNat<=_;rw[u32_of (by omega)]
    exact hnl j (by omega)
  have hhas:Eng.pHas ((List.range' t (min j c.pulls.toNat)).map (mi c)) (idK (t+j))=false:=by
   unfold Eng.pHas;rw[List.any_eq_false];intro a ha hb;obtain⟨i,h1,rfl⟩:=List.mem_map.1 ha;have h3:=List.mem_range'_1.1 h1;have:=nY (i:=i) (j:=t+j) (by omega) (by omega) (of_decide_eq_true hb)
   omega
  have hpr:=(eB hc);unfold mn;rw[if_neg (by rw[hright];decide)]
  simp only
  by_cases hfull:c.pulls<=((min j c.pulls.toNat:Nat):Int)
  ·have he:Eng.pErr ((List.range' t (min j c.pulls.toNat)).map (mi c)) ⟨idK (t+j),0,UInt8.ofNat (c.patience % 256).toNat⟩ c.pulls=52:=by
    unfold Eng.pErr;rw[if_neg (show ¬UInt8.ofNat (c.patience % 256).toNat=0 from ajq hc),if_neg (by rw[hhas];decide),if_pos (by rw[List.length_map,List.length_range'];exact hfull)]
   rw[he,if_neg (by decide),show min (j+1) c.pulls.toNat=min j c.pulls.toNat by omega]
  ·have he:Eng.pErr ((List.range' t (min j c.pulls.toNat)).map (mi c)) ⟨idK (t+j),0,UInt8.ofNat (c.patience % 256).toNat⟩ c.pulls=0:=by
    unfold Eng.pErr;rw[if_neg (show ¬UInt8.ofNat (c.patience % 256).toNat=0 from ajq hc),if_neg (by rw[hhas];decide),if_neg (by rw[List.length_map,List.length_range'];exact hfull)]
   rw[he,if_pos rfl];unfold Eng.pAdd;rw[he,if_pos rfl,show min (j+1) c.pulls.toNat=min j c.pulls.toNat+1 by omega,show min j c.pulls.toNat=j by omega,List.range'_concat,List.map_append,List.map_append,show t+1*j=t+j by omega]
   rw[show Eng.pIns ((List.range' t j).map (mi c)) ⟨idK (t+j),0,UInt8.ofNat (c.patience % 256).toNat⟩=(List.range' t j).map (mi c)++[mi c (t+j)]from by
    rw[ajf,afA]
    ·rfl
    ·intro a ha;obtain⟨i,h1,rfl⟩:=List.mem_map.1 ha;have h3:=List.mem_range'_1.1 h1;show(idK i).key<(idK (t+j)).key;rw[nS (by omega),nS (by omega)]
     omega]
   rfl
structure Lq(F:List GSpan)(t cnt:Nat)(q:af):Prop where
 node:q.node=1
 up:q.up=true
 inc:q.inc=1
 filter:q.filter=F
 view:q.view=[]
 near:q.near=[]
 ring:q.ring=zR
 tab: ∃m:aq,q.table[0]? =some m/\(m=⟨0,0,0⟩\/(m.inc=1/\m.state=1))
 row:q.rows[0]? =some (rwK t)
 heard: ∃h:GMark,q.heard[0]? =some h/\(h.inc=0\/(h.inc=1/\h.seq.toNat<=cnt))
theorem oz(hv:p.view=[])(hn:p.near=[])(hr:p.ring=zR):ay c p []=p:=by
 have e1:pCur p p.view=[]:=by rw[hv];rfl
 have e2:pCur p p.near=[]:=by rw[hn];rfl
 have e3:aR (bH p p.ring)=[]:=by rw[hr];rfl
 have e4:pUse c p []=[]:=rfl
 have hu: ∀self:UInt8,bl self [[],[],[],[]]=[]:=fun self=>by
  show(d5 self zL []).filter _=[];exact ga (fun x hx=>by rw[(List.mem_replicate.1 (show x∈List.replicate 256 zDesc from hx)).2];rfl)
 have e5:ct p.filter p.node c.near [[],[],[],[]]=[]:=pw (by rw[hu];rfl)
 have e6:cj c.schema (pSelf p) [[],[],[],[]]=zR:=aal (hu _);unfold ay;simp only[e1,e2,e3,e4,e5,e6]
 have key: ∀q:af,q.view=[]->q.near=[]->q.ring=zR->({ q with view:=[],near:=[],ring:=zR }:af)=q:=fun q h1 h2 h3=>by
  cases q;simp only at h1 h2 h3;subst h1 h2 h3;rfl
 exact key p hv hn hr
theorem Lq.meet(h:Lq F t cnt q):ay c q []=q:=oz h.view h.near h.ring
theorem Lq.links(h:Lq F t cnt q):aH q=[]:=vg ⟨h.view,h.near,by rw[h.ring];rfl,by rw[h.ring];rfl⟩
theorem Lq.hear(hl:(q.table.length:Int)=c.nodes)(h2:2<=c.nodes)(h:Lq F t cnt q):(au c q 0 1).2=true/\Lq F t cnt (au c q 0 1).1/\(au c q 0 1).1.table[0]? =some ⟨1,1,0⟩/\(au c q 0 1).1.table.length=q.table.length:=by
 obtain⟨m,h1,hm⟩:=h.tab
 have hlt: ¬(1:UInt16)<m.inc/\ ¬((1:UInt16)=m.inc/\m.state=3):=by
  rcases hm with rfl|⟨e1,e2⟩
  ·decide
  ·rw[e1,e2];decide
 have hmh:gE 1 m=⟨1,1,0⟩:=by
  rcases hm with rfl|⟨e1,e2⟩
  ·decide
  ·unfold gE;rw[if_pos (.inr ⟨e1.symm,by decide,by rw[e2];decide⟩)]
 have hh:=rU (c:=c) (p:=q) (node:=0) (inc:=1) (m:=m) (by show(0:Int)<_;omega) hl (by rw[h.node];decide) (by decide) h1 hlt.1 hlt.2
 have ht:(de q.table 0 1)[0]? =some ⟨1,1,0⟩:=by
  rw[jj,h1,if_pos (by decide),Option.map_some,hmh]
 rw[hh];exact⟨rfl,⟨h.node,h.up,h.inc,h.filter,h.view,h.near,h.ring,⟨_,ht,.inr ⟨rfl,rfl⟩⟩,h.row,h.heard⟩,ht,by show(de q.table 0 1).length=_;rw[rR]⟩
theorem agn(hc:az c=true)(hw:c.window=64)(hB:Bd c 1 q)(h:Lq F t cnt q)(hq:q.pulls=[])(hp:Kp c V n k p)(hcn:p.count.toNat=cnt+1)(htn:t<=n)(hn:n<=12)(hnl:n<=c.last.toNat):
  ∃r,bA c q (dg p 1) dr=(r,if n-t=0 then []else [⟨12,1,1,0,[],[],zEvt,0,⟨0,0,0⟩,[],(List.range' t (min (n-t) c.pulls.toNat)).map idK⟩],[])/\Lq F t (cnt+1) r/\r.pulls=(List.range' t (min (n-t) c.pulls.toNat)).map (mi c)/\r.buf=q.buf:=by
 have hr:=bJ hc
 have hpl:1<=c.pulls:=by
  unfold az inR at hc;simp only[Bool.and_eq_true,decide_eq_true_eq]at hc;omega
 obtain⟨g1,g2,g3,g4⟩:=h.hear (c:=c) hB.win.table hr.1;have hv:=eh (c:=c) (p:=q) 0 1;obtain⟨q1,hq1⟩: ∃q1,q1=(au c q 0 1).1:=⟨_,rfl⟩;rw[<-hq1]at g2 g3 g4 hv;obtain⟨f1,f2,f3,f4⟩:=g2.hear (c:=c) (by rw[g4];exact hB.win.table) hr.1
 have hv2:=eh (c:=c) (p:=q1) 0 1;obtain⟨q2,hq2⟩: ∃q2,q2=(au c q1 0 1).1:=⟨_,rfl⟩;rw[<-hq2]at f2 f3 f4 hv2;have hD1:(dg p 1).frm=0:=hp.kn.node;have hD2:(dg p 1).inc=1:=hp.kn.inc;have hD3:(dg p 1).origin=⟨0,1,p.count⟩:=by show(⟨p.node,p.inc,p.count⟩:GMark)=_;rw[hp.kn.node,hp.kn.inc]
 have hD4:(dg p 1).ids=(List.range n).map idK:=by show eIds p.buf.evs=_;rw[hp.evs,nB]
 have hD5:(dg p 1).table[0]? =some ⟨1,1,0⟩:=hp.kn.own;obtain⟨D,hD⟩: ∃D,D=dg p 1:=⟨_,rfl⟩;have hDk:D.kind=11:=by rw[hD];rfl
 have hDt:D.to=1:=by rw[hD];rfl
 have hDh:D.hops≠0:=by rw[hD];show(12:UInt8)≠0;decide
 rw[<-hD]at hD1 hD2 hD3 hD4 hD5⊢
 -- ahead of the asks
 obtain⟨q4,hq4⟩: ∃q4:af,q4={ bu { q2 with heard:=q2.heard.set D.origin.node.toNat D.origin } D.table with reports:=bZ (bu { q2 with heard:=q2.heard.set D.origin.node.toNat D.origin } D.table).reports D.origin.node D.marks }:=⟨_,rfl⟩;obtain⟨hh,hh1,hh2⟩:=g2.heard;obtain⟨hk,hk1,hk2⟩:=f2.heard;have hlen:=(List.getElem?_eq_some_iff.1 hk1).1
 have t4:q4.table[0]? =some ⟨1,1,0⟩:=by
  rw[hq4];show(dJ q2.table D.table q2.node)[0]? =_;rw[aif,f3,Option.map_some];unfold mMg;rw[hD5];simp only;rw[if_neg (by rintro⟨_,e⟩;exact absurd e (by decide))]
 have l4:Lq F t (cnt+1) q4:=by
  rw[hq4];refine⟨f2.node,f2.up,f2.inc,f2.filter,f2.view,f2.near,f2.ring,⟨_,by rw[hq4]at t4;exact t4,.inr ⟨rfl,rfl⟩⟩,f2.row,⟨⟨0,1,p.count⟩,?_,.inr ⟨rfl,by show p.count.toNat<=_;omega⟩⟩⟩
  show(q2.heard.set D.origin.node.toNat D.origin)[0]? =_;rw[hD3];exact List.getElem?_set_self hlen
 have p4:q4.pulls=[]:=by
  rw[hq4];show q2.pulls=[];rw[hv2.pulls,hv.pulls];exact hq
 have b4:q4.buf=q.buf:=by
  rw[hq4];show q2.buf=_;rw[hv2.buf,hv.buf]
 have hL:dE D.ids q4.rows c.window=(List.range' t (n-t)).map idK:=by rw[hD4];exact afD l4.row (by omega) hw n (by omega)
 have hA:=aj6 (c:=c) (t:=t) (n:=n-t) hc (.inr (by omega)) (by omega) (fun i hi=>by omega) (n-t) (Nat.le_refl _)
 have hask:iM c q4 D=({ q4 with pulls:=(List.range' t (min (n-t) c.pulls.toNat)).map (mi c) },if n-t=0 then []else [⟨12,1,1,0,[],[],zEvt,0,⟨0,0,0⟩,[],(List.range' t (min (n-t) c.pulls.toNat)).map idK⟩]):=by
  unfold iM;rw[hL,p4,hD3];simp only;rw[hA];simp only
  congr 1
  by_cases h0:n-t=0
  ·rw[h0,if_pos (by simp),if_pos rfl]
  ·rw[if_neg h0,if_neg (by
    intro e;have:=congrArg List.length e;simp only[List.length_map,List.length_range',List.length_nil]at this
    omega)]
   unfold pMsg;rw[l4.node,l4.inc]
 have hheard:bS c q1 D=((iM c q4 D).1,(iM c q4 D).2++[]):=by
  unfold bS;rw[if_neg (by rw[hD3,g2.node];rintro(e|e);exact absurd e (by show ¬c.nodes<=((0:Nat):Int);omega);exact absurd e (show ¬(0:UInt8)=1 by decide))]
  have hx:q1.heard[D.origin.node.toNat]? =some hh:=by rw[hD3];exact hh1
  simp only[hx]
  have hnew:jV D.origin { hh with node:=D.origin.node }=true:=by
   unfold jV;rw[if_neg (by simp),hD3]
   simp only;rcases hh2 with e|⟨e1,e2⟩
   ·rw[e,if_pos (show(1:UInt16)≠0 by decide)];exact decide_eq_true (show(0:UInt16).toNat<(1:UInt16).toNat by decide)
   ·rw[e1,if_neg (by simp)]
    exact decide_eq_true (by omega)
  rw[if_neg (by rw[hnew];decide)]
  have hp1:au c q1 D.origin.node D.origin.inc=au c q1 0 1:=by rw[hD3]
  rw[hp1,if_neg (by rw[f1];decide), <-hq2, <-hq4]
  rw[if_neg hDh]
  have:lh (iM c q4 D).1 D=[]:=by
   unfold lh
   have hln:aH (iM c q4 D).1=[]:=by
    rw[hask];exact vg ⟨l4.view,l4.near,by show q4.ring.hs=false;rw[l4.ring];rfl,by show q4.ring.hp=false;rw[l4.ring];rfl⟩
   rw[hln];rfl
  rw[this]
 have e:bA c q D dr=(ay c (iM c q4 D).1 [],(iM c q4 D).2++[],[]):=by
  unfold bA;rw[if_neg (by rw[hDk];decide),if_neg (by rw[h.up,hDt,h.node];decide),hD1,hD2,if_neg (by rw[g1];decide), <-hq1,g2.meet]
  simp only;rw[if_neg (by rw[hDk];decide),if_neg (by rw[hDk];decide),hheard]
 have hl5:Lq F t (cnt+1) ({ q4 with pulls:=(List.range' t (min (n-t) c.pulls.toNat)).map (mi c) }:af):=⟨l4.node,l4.up,l4.inc,l4.filter,l4.view,l4.near,l4.ring,l4.tab,l4.row,l4.heard⟩;rw[e,hask,List.append_nil];refine⟨_,rfl,?_,?_,?_⟩
 ·rw[hl5.meet];exact hl5
 ·rw[hl5.meet]
 ·rw[hl5.meet];exact b4
theorem anT{w:Nat}(hc:az c=true)(hw:c.window=64)(hB:Bd c 1 q)(h:Lq F t cnt q)(hq:q.pulls=(List.range' t (w+1)).map (mi c))(hv:fK c.schema V=true)(ht:t<12)(htl:t+1<=c.last.toNat)(hwt:t+w<20):
  ∃r,bA c q (jP V t) dr=(r,[],if dH F V=true then [evK V t]else [])/\Lq F (t+1) cnt r/\r.pulls=(List.range' (t+1) w).map (mi c):=by
 have hr:=bJ hc;obtain⟨g1,g2,g3,g4⟩:=h.hear (c:=c) hB.win.table hr.1;have hev:=eh (c:=c) (p:=q) 0 1;obtain⟨q1,hq1⟩: ∃q1,q1=(au c q 0 1).1:=⟨_,rfl⟩;rw[<-hq1]at g2 g3 g4 hev
 have hmay:jN c q1 (evK V t)=true:=by
  unfold jN;rw[if_neg,if_neg]
  ·have hx:q1.rows[(evK V t).id.node.toNat]? =some (rwK t):=g2.row;simp only[hx];show gH (rwK t) (idK t) c.window=true;rw[yp (by omega) (by omega) hw]
   exact decide_eq_true (Nat.le_refl _)
  ·rw[g2.node]
   rintro⟨e,_⟩
   exact absurd e (by show ¬(0:UInt8)=1;decide)
  ·rw[alR hv ht]
   rintro(e|e|e)
   ·cases e
   ·have e:c.nodes<=((0:Nat):Int):=e;omega
   ·have e:c.last.toNat<(UInt32.ofNat (t+1)).toNat:=e;rw[u32_of (by omega)]at e
    omega
 have hacc:=sj (c:=c) (p:=q1) (e:=evK V t) g2.up hmay;obtain⟨q2,hq2⟩: ∃q2,q2=(aV c q1 (evK V t)).1:=⟨_,rfl⟩
 have l2:Lq F (t+1) cnt q2:=by
  rw[hq2,hacc];refine⟨g2.node,g2.up,g2.inc,g2.filter,g2.view,g2.near,g2.ring,g2.tab,?_,g2.heard⟩;show(q1.rows.modify 0 fun r=>(cS r (idK t) c.window).1)[0]? =_
  rw[List.getElem?_modify,g2.row];simp only[if_true,Option.map_eq_map,Option.map_some];rw[alA (by omega) hw]
 have hpl:q2.pulls=(List.range' (t+1) w).map (mi c):=by
  rw[hq2,hacc];show(Eng.pDrop q1.pulls (idK t)).filter (fun a=> !fG (idK t) a)=_
  rw[hev.pulls,hq,List.range'_succ,List.map_cons];unfold Eng.pDrop;rw[List.filter_cons,if_neg (by show ¬(!decide (idK t=idK t))=true;simp)]
  rw[List.filter_eq_self.2,List.filter_eq_self.2]
  ·intro a ha;obtain⟨i,h1,rfl⟩:=List.mem_map.1 ha;have h3:=List.mem_range'_1.1 h1
   have: ¬(mi c i).id=idK t:=fun e=>by
    have:=nY (i:=i) (j:=t) (by omega) (by omega) e
    omega
   rw[decide_eq_false this];rfl
  ·intro a ha;obtain⟨h1,_⟩:=List.mem_filter.1 ha;obtain⟨i,h1,rfl⟩:=List.mem_map.1 h1;rfl
 obtain⟨A,hA⟩: ∃A,A=jP V t:=⟨_,rfl⟩;have A1:A.kind=10:=by rw[hA];rfl
 have A2:A.to=1:=by rw[hA];rfl
 have A3:A.frm=0:=by rw[hA];rfl
 have A4:A.inc=1:=by rw[hA];rfl
 have A5:A.hops=0:=by rw[hA];rfl
 have A6:A.ev=evK V t:=by rw[hA];rfl
 rw[<-hA]
 have hn:js c q1 A dr=(q2,[],if dH F V=true then [evK V t]else []):=by
  unfold js;rw[A6];simp only;rw[if_neg (by rw[hacc];simp), <-hq2,if_pos A5]
  rw[hacc, <-g2.filter];rfl
 have e:bA c q A dr=(ay c q2 [],[],if dH F V=true then [evK V t]else []):=by
  unfold bA;rw[if_neg (by rw[A1];decide),if_neg (by rw[h.up,A2,h.node];decide),A3,A4,if_neg (by rw[g1];decide), <-hq1,g2.meet]
  simp only;rw[if_pos A1,hn]
 rw[e,l2.meet];exact⟨_,rfl,l2,hpl⟩
