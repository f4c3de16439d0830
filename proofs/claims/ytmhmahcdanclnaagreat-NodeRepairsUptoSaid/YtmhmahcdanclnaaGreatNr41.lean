import Derived.Test.YtmhmahcdanclnaaGreatNr40
set_option linter.unusedSectionVars false
set_option linter.unusedSimpArgs false
set_option linter.unusedVariables false
set_option maxRecDepth 10000
namespace Go.Eng
theorem u32_of{n:Nat}(h:n<4294967296):(UInt32.ofNat n).toNat=n:=UInt32.toNat_ofNat_of_lt' h
theorem afA{α:Type}{key:α->Nat}{l:List α}{x:α}(h: ∀a∈l,key a<key x):kG key l x=l++[x]:=by
 have e:kAt key l x=l.length:=by
  unfold kAt;rw[List.findIdx?_eq_none_iff.2 (fun a ha=>by have:=h a ha;exact decide_eq_false (by omega))]
  rfl
 unfold kG;rw[e,List.take_length,List.drop_length,List.append_nil]
theorem ai6{α β:Type}{f:α->Option β}{g:α->β}: ∀{l:List α},(∀x∈l,f x=some (g x))->l.filterMap f=l.map g
 |[],_=>rfl
 |x::l,h=>by
  rw[List.filterMap_cons,h x List.mem_cons_self,List.map_cons];simp only;rw[ai6 fun y hy=>h y (List.mem_cons_of_mem _ hy)]
def idK(k:Nat):GID:=⟨0,1,UInt32.ofNat (k+1)⟩
theorem nS{k:Nat}(h:k<100):(idK k).key=4294967296+(k+1):=by
 unfold idK GID.key;simp only;rw[u32_of (by omega)]
 show 0*_+1*_+_=_;omega
theorem nY{i j:Nat}(hi:i<100)(hj:j<100)(h:idK i=idK j):i=j:=by grind [nS]
def evK(V:List Int)(k:Nat):GEvt:=⟨idK k,V,[]⟩
def jL(V:List Int)(n:Nat):List GEvt:=(List.range n).map (evK V)
theorem aht(V:List Int)(n:Nat):jL V (n+1)=jL V n++[evK V n]:=by
 unfold jL;rw[List.range_succ,List.map_append];rfl
theorem zr{V:List Int}{n:Nat}{e:GEvt}(h:e∈jL V n): ∃i,i<n/\e=evK V i:=by
 obtain⟨i,h1,rfl⟩:=List.mem_map.1 h;exact⟨i,List.mem_range.1 h1,rfl⟩
theorem nB(V:List Int)(n:Nat):eIds (jL V n)=(List.range n).map idK:=by
 unfold eIds jL;rw[List.map_map];rfl
theorem aid{V:List Int}{n i:Nat}(hn:n<100)(hi:i<n):(jL V n).find? (fun e=>decide (e.id=idK i))=some (evK V i):=by
 rw[List.find?_eq_some_iff_getElem];refine⟨decide_eq_true rfl,i,by unfold jL;simpa using hi,by unfold jL;simp,fun j hj=>?_⟩
 have e:(jL V n)[j]'(by unfold jL;simp;omega)=evK V j:=by unfold jL;simp
 rw[e];have: ¬idK j=idK i:=fun h=>by have:=nY (by omega) (by omega) h;omega
 show(!decide (idK j=idK i))=true;rw[decide_eq_false this];rfl
end Go.Eng
namespace Go.Proofs.YtmhmahcdanclnaaGreat.V
open Go.Eng
section
variable {c:an} {p q:af} {d:GDesc} {k:UInt8} {m:aF} {dr:List UInt32} {V:List Int} {n:Nat}
theorem alR(hv:fK c.schema V=true)(hn:n<12):cO c.schema (evK V n)=true:=by
 refine sF.2 ⟨hv,Nat.zero_le _,(show(0:UInt8).toNat<12 by decide),(show 1<=(1:UInt16).toNat by decide),?_⟩
 show 1<=(UInt32.ofNat (n+1)).toNat;rw[u32_of (by omega)]
 omega
structure Kp(c:an)(V:List Int)(n:Nat)(k:UInt8)(p:af):Prop where
 kn:Kn k p
 near:p.near=[]
 evs:p.buf.evs=jL V n
 room:p.buf.room=c.buffer
 seq:p.seq=UInt32.ofNat n
 pulls:p.pulls=[]
theorem ap5(h:Kp c V n k p)(hn:(n:Int)<c.buffer)(hl:n<c.last.toNat)(h12:n<12)(hv:fK c.schema V=true):
  (aT c p V [] dr).2.2.2.2=0/\Kp c V (n+1) k (aT c p V [] dr).1/\(aT c p V [] dr).1.count=p.count:=by
 have hs:p.seq+1=UInt32.ofNat (n+1):=by
  rw[h.seq];apply UInt32.toNat_inj.1;rw[UInt32.toNat_add,u32_of (by omega),u32_of (by omega)]
  show(n+1) % 4294967296=n+1;omega
 have hev:(⟨⟨p.node,p.inc,p.seq+1⟩,V,[]⟩:GEvt)=evK V n:=by unfold evK idK;rw[h.kn.node,h.kn.inc,hs]
 have hsq:p.seq.toNat=n:=by rw[h.seq,u32_of (by omega)]
 have hlen:(jL V n).length=n:=by unfold jL;simp
 have hput:dX p.buf (evK V n)=(⟨p.buf.room,jL V (n+1)⟩,0):=by
  rcases fQ p.buf (evK V n)with ⟨_,e2⟩|⟨_,_,e3⟩|⟨e1,_,_⟩
  ·exfalso;obtain⟨e,he,hi⟩:=aaW.1 e2;rw[h.evs]at he;obtain⟨i,hi2,rfl⟩:=zr he;have:=nY (by omega) (by omega) hi
   omega
  ·exfalso;rw[h.evs,hlen,h.room]at e3;omega
  ·rw[e1,h.evs,aht,afA];intro a ha;obtain⟨i,hi2,rfl⟩:=zr ha;show(idK i).key<(idK n).key;rw[nS (by omega),nS (by omega)]
   omega
 have hfull:decide (p.buf.room<=(p.buf.evs.length:Int))=false:=by rw[h.evs,hlen,h.room];exact decide_eq_false (by omega)
 unfold aT;simp only[hev,hfull];rw[if_neg (by rw[h.kn.up];decide),if_neg (by rw[alR hv h12];decide),if_neg (by omega),if_neg (by simp)]
 simp only[Bool.false_eq_true,if_false,hput];rw[if_neg (by simp)]
 refine⟨rfl,⟨⟨h.kn.node,h.kn.up,h.kn.inc,h.kn.filter,h.kn.view,h.kn.ring,h.kn.own,h.kn.tab,h.kn.rep⟩,h.near,rfl,h.room,hs,h.pulls⟩,rfl⟩
theorem an0(h:Kn k p){x:GID}(hx:x.inc=1)(hn:x.node=0):cG p.reports p.table p.node p.rows x=false:=by
 unfold cG;split
 ·rfl
 ·have hl:j_ p.reports p.node p.rows x 1 ⟨1,1,k⟩=true:=by
   unfold j_;rw[if_neg (show ¬((1:UInt16)=0\/(1:UInt8)=3)by decide),if_neg (by rw[h.node];decide),if_pos (by decide)]
   have hr:=h.rep;show(!np (xF p.reports 1 x.node) x)=true;rw[hn];unfold np;rw[hr,hx];rfl
  have:(p.table.mapIdx fun k m=>j_ p.reports p.node p.rows x k m).any id=true:=List.any_eq_true.2 ⟨true,List.mem_of_getElem? (i:=1) (by rw[List.getElem?_mapIdx,h.tab,Option.map_some,hl]),rfl⟩
  rw[this];rfl
theorem aaO: ∀(l:List GID) (p:af),(∀x∈l,cG p.reports p.table p.node p.rows x=false)->l.foldl cq p=p
 |[],p,_=>rfl
 |x::l,p,h=>by
  have e:cq p x=p:=by unfold cq;rw[if_pos (h x List.mem_cons_self)]
  rw[List.foldl_cons,e];exact aaO l p fun y hy=>h y (List.mem_cons_of_mem _ hy)
theorem anY(hc:az c=true)(hB:Bd c 0 p)(h:Kp c V n 0 p)(hs:2<=c.suspect)(hn:n<=12)(hcn:p.count.toNat<=1000):
  ∃A q,gI c p dr=(q,A++[dg q 1])/\(∀m∈A,m.kind≠11)/\A.length<=5/\Kp c V n 1 q/\q.count.toNat=p.count.toNat+1:=by
 have e0:({ p with pulls:=Eng.pTick p.pulls }:af)=p:=by
  have:Eng.pTick p.pulls=p.pulls:=by rw[h.pulls];rfl
  rw[this]
 have hpre:oU p=p:=by
  unfold oU lB;rw[e0];refine aaO _ p fun x hx=>?_
  rw[h.evs,nB]at hx;obtain⟨i,_,rfl⟩:=List.mem_map.1 hx;exact an0 h.kn rfl rfl
 obtain⟨a1,a2⟩:=(h.kn.aged (c:=c) hs).meet (c:=c);obtain⟨b1,b2⟩:=Kn.ask (c:=c) (dr:=dr) a1 a2;have hst:=(oE (dr:=dr) hc hB h.kn.up).ms;have hm1:(gK c p dr).1=(dy c (ay c (bQ c p) []) dr).1:=by unfold gK;rw[hpre];rfl
 have hm2:(gK c p dr).2=(Go.Proofs.YtmhmahcdanclnaaGreat.V.pTick c p dr (aH (dy c (ay c (bQ c p) []) dr).1)).2:=by unfold gK;rw[hpre]
 have hk: ∀m∈(gK c p dr).2,m.kind≠11:=fun m hm e=>by
  rw[hm2]at hm;have:=(hst m hm).k9;rw[e]at this;exact absurd this (by decide)
 have h5:(gK c p dr).2.length<=5:=abe;have hev:=afl (c:=c) (p:=p) (dr:=dr) (aH (dy c (ay c (bQ c p) []) dr).1)
 have hcnt:(dy c (ay c (bQ c p) []) dr).1.count=p.count:=by
  unfold dy;simp only;split<;>rfl
 have hev:Ev1 p (dy c (ay c (bQ c p) []) dr).1:=hev;rw[aaU c p dr h.kn.up,hm1];generalize (gK c p dr).2=A at hk h5;generalize (dy c (ay c (bQ c p) []) dr).1=r at b1 b2 hcnt hev;have hq:Kn 1 (mK r):=⟨b1.node,b1.up,b1.inc,b1.filter,b1.view,b1.ring,b1.own,b1.tab,b1.rep⟩;rw[hq.links b2];refine⟨A,mK r,rfl,hk,h5,⟨hq,b2,?_,?_,?_,?_⟩,?_⟩
 ·show r.buf.evs=_;rw[hev.buf];exact h.evs
 ·show r.buf.room=_;rw[hev.buf];exact h.room
 ·show r.seq=_;rw[hev.seq];exact h.seq
 ·show r.pulls=_;rw[hev.pulls];exact h.pulls
 ·unfold mK;rw[hcnt];simp only;rw[if_pos (by omega),UInt32.toNat_add]
  show(p.count.toNat+1) % 4294967296=_;omega
def jP(V:List Int)(i:Nat):aF:=⟨10,0,1,1,[],[],evK V i,0,⟨0,0,0⟩,[],[]⟩
theorem anH{t w:Nat}(hB:Bd c 0 p)(h2:2<=c.nodes)(h:Kp c V n k p)(hn:n<=12)(hw:t+w<=n)(m1:m.kind=12)(m2:m.frm=1)(m3:m.inc=1)(m4:m.to=0)(m5:m.ids=(List.range' t w).map idK):
  ∃q,bA c p m dr=(q,(List.range' t w).map (jP V),[])/\Kp c V n 0 q/\q.count=p.count:=by
 obtain⟨g1,g2⟩:=h.kn.hear (c:=c) hB.win.table h2;have hv:=eh (c:=c) (p:=p) 1 1
 have hcn:(au c p 1 1).1.count=p.count:=by
  unfold au;split
  ·rfl
  ·split
   ·rfl
   ·split<;>rfl
 obtain⟨q,hq⟩: ∃q,q=(au c p 1 1).1:=⟨_,rfl⟩;rw[<-hq]at g2 hv hcn;obtain⟨k1,k2⟩:=g2.meet (c:=c);obtain⟨k3,k4⟩:=k1.meet (c:=c)
 have e:bA c p m dr=(ay c (ay c q []) [],ku (ay c q []) m,[]):=by
  unfold bA;rw[if_neg (by rw[m1];decide),if_neg (by rw[h.kn.up,m4,h.kn.node];decide),m2,m3,if_neg (by rw[g1];decide), <-hq]
  simp only;rw[if_neg (by rw[m1];decide),if_pos m1]
 have hpull:ku (ay c q []) m=(List.range' t w).map (jP V):=by
  have hb:(ay c q []).buf.evs=jL V n:=by
   show q.buf.evs=_;rw[hv.buf];exact h.evs
  unfold ku;rw[hb,m5,m2,List.filterMap_map]
  have: ∀i∈List.range' t w,((fun x=>Option.map (fun e=>({ pMsg (ay c q []) 10 1 with ev:=e }:aF)) ((jL V n).find? fun e=>decide (e.id=x))) ∘ idK) i=some (jP V i):=fun i hi=>by
   have hi2:=List.mem_range'_1.1 hi;show Option.map _ ((jL V n).find? fun e=>decide (e.id=idK i))=_
   rw[aid (by omega) (by omega),Option.map_some]
   unfold jP pMsg;rw[k1.node,k1.inc]
  exact ai6 this
 rw[e,hpull];refine⟨_,rfl,⟨k3,k4,?_,?_,?_,?_⟩,hcn⟩
 ·show q.buf.evs=_;rw[hv.buf];exact h.evs
 ·show q.buf.room=_;rw[hv.buf];exact h.room
 ·show q.seq=_;rw[hv.seq];exact h.seq
 ·show q.pulls=_;rw[hv.pulls];exact h.pulls
