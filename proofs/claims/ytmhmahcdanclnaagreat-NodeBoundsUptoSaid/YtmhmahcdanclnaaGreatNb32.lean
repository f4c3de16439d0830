import Derived.Test.YtmhmahcdanclnaaGreatNb30
import Derived.Test.YtmhmahcdanclnaaGreatNb31
set_option linter.unusedSectionVars false
set_option linter.unusedSimpArgs false
set_option linter.unusedVariables false
set_option maxRecDepth 10000
set_option maxHeartbeats 4000000
namespace Go.Proofs.YtmhmahcdanclnaaGreat.V
open Go.Eng
theorem aeh(l m:List ar)(self:UInt8):(eo l m self).length=l.length:=by simp[eo]
theorem uY{p:af}(h:okH p)(t:List ar):okH (bz p t):=xS h (by rw[aeh];exact h.g.table) (jc h.rs _)
def kW(c:ao)(p:af)(m:aJ):af:={ bz p m.table with view:=ew (bz p m.table).node c.view (bz p m.table).view (pUse c (bz p m.table) m.list) }
def lf(c:ao)(p:af)(m:aJ):af×List aJ:=
 let q:=ax c p m.frm m.inc
 if q.2=true then (aD c (kW c q.1 m) [],[])else (q.1,[])
def rA(c:ao)(p:af)(m:aJ):af×List aJ:=
 let q:=ax c p m.frm m.inc
 if q.2=true then (aD c { q.1 with table:=i_ q.1.table m.frm m.inc } [],[])else (q.1,[])
theorem amk{c:ao}{p:af}{l:List GDesc}(h1:l.length<=1048576)(h2:c.schema.length<=4):ok8 (pUse c p l):=by
 have h3:=List.length_filter_le (ft c) l;have h4:=List.length_filter_le (cq p) (l.filter (ft c));exact⟨by show(List.filter (cq p) (l.filter (ft c))).length<=1100000;omega,fun d hd=>aax h2 (List.mem_filter.1 (List.mem_filter.1 hd).1).2⟩
theorem z6{c:ao}{p:af}{l:List GDesc}{d:GDesc}(h:d∈pUse c p l):ft c d=true:=(List.mem_filter.1 (List.mem_filter.1 h).1).2
theorem qk{c:ao}{p:af}{l:List GDesc}{d:GDesc}(h:d∈pUse c p l):d∈l:=(List.mem_filter.1 (List.mem_filter.1 h).1).1
theorem uO{self:UInt8}{room:Int}: ∀(r l:List GDesc),(ew self room l r).length<=l.length+r.length
 |[],l=>Nat.le_refl _
 |d::r,l=>by
  rw[ew];have h1:=uO (self:=self) (room:=room) r (dF l d self room).1;have h2:=iN (self:=self) (l:=l) d room;rw[List.length_cons];omega
attribute [local go_sem] zDesc aS ah fzD plR a_ aO aQ aA aC ak aB aT z8 z16 z32 z64 encMg ba bP List.map_cons List.map_nil
theorem wN(c:ao)(p:af)(m:aJ)(dr:List UInt32)(hc:c.schema.length<=4)(hcs: ∀s∈c.schema,okS s)(hp:okH p)(hm:okMg m)(hu:p.up=true)(hto:m.to=p.node)(hk:m.kind=2):
  Con2 Tryz.prog 83 [.agg (aC c),.agg (ak p),.agg (encMg m),.fz 1 (dr.map aF)] (· =plR (.tup [.agg (ak (lf c p m).1),.fz 17 ((lf c p m).2.map encMg)])):=by
 refine Con2.ofEmb ?_;have hf:=bo p hp.ok;have hh:=dJ c p m.frm m.inc hp.ok hp.rs;have hq:=dk (c:=c) hp m.frm m.inc;unfold lf;generalize ax c p m.frm m.inc=Q at hh hq;obtain⟨q,hd⟩:=Q;simp only at hq hh ⊢;refine en_ Tryz.func83 [.cell 8 49,.tmp 9] (g2_ ?_);refine g2_ ?_;refine cw_ hf (g2_ ?_);rw[hu,hto];refine gx_ ?_;refine cx_ hh (wg_ hu hto) (g2_ ?_);cases hd with
 |false=>
  refine g2_ ?_;refine ae ?_ rfl;exact wx_
 | true=>
  refine g2_ ?_;refine q0_ ?_;rw[show lkF fS m.kind=some 261 by rw[hk];rfl]
  refine g2_ ?_;have hl:=uY hq m.table;have k1:=sN q m.table hq.g.ok (by have:=hq.g.table;omega) (by have:=hm.table;omega) hq.rs
  have k2:=ob c (bz q m.table) m.list (by omega) hl.g.ok hm.ds
  have k3:=aqf (bz q m.table).view (pUse c (bz q m.table) m.list) (bz q m.table).node c.view hl.v8 (amk hm.list hc) hl.vw
  have kq:=ct c (kW c q m) [] hc hcs (nh hl.g (by
    refine Nat.le_trans (uO _ _) ?_;have h1:=(amk (c:=c) (p:=bz q m.table) hm.list hc).1;have h2:=hl.v8.1;omega) (fun x hx=>by
   rcases rC _ _ x hx with h|h
   ·exact hq.g.view x h
   ·exact hm.fs2 x (qk h))) ⟨by simp,by simp⟩ (by simp)
  unfold kW at kq ⊢;generalize bz q m.table=p1 at k1 k2 k3 kq ⊢;generalize ew p1.node c.view p1.view (pUse c p1 m.list)=V at k3 kq ⊢;generalize pUse c p1 m.list=U at k2 k3;refine im_ Tryz.func261 [] (g2_ ?_);refine g2_ ?_;refine .inl ⟨[oF 0,oF 1,oF 5,oF 2,oF 6,oF 3,oF 7,oF 4,oF 8,oF 9,oF 10,oF 11,oF 12,oF 13],by kernel_rfl,g2_ ?_⟩
  refine cw_ k1 (g2_ ?_);refine .inl ⟨[oF 0,oF 1,oF 6,oF 10,oF 14,oF 20,oF 25,oF 2,oF 7,oF 11,oF 15,oF 21,oF 26,oF 3,oF 8,oF 12,oF 16,oF 22,oF 27,oF 4,oF 9,oF 13,oF 17,oF 23,oF 28,oF 5,oF 18,oF 24,oF 29,oT 19,oF 30,oF 31,oF 32,oF 33,oF 34],by kernel_rfl,g2_ ?_⟩
  refine cw_ k2 (g2_ ?_);refine cw_ k3 (g2_ ?_);exact q1_ kq
theorem acj(c:ao)(p:af)(m:aJ)(dr:List UInt32)(hc:c.schema.length<=4)(hcs: ∀s∈c.schema,okS s)(hp:okH p)(hm:okMg m)(hu:p.up=true)(hto:m.to=p.node)(hk:m.kind=9):
  Con2 Tryz.prog 83 [.agg (aC c),.agg (ak p),.agg (encMg m),.fz 1 (dr.map aF)] (· =plR (.tup [.agg (ak (rA c p m).1),.fz 17 ((rA c p m).2.map encMg)])):=by
 refine Con2.ofEmb ?_;have hf:=bo p hp.ok;have hh:=dJ c p m.frm m.inc hp.ok hp.rs;have hq:=dk (c:=c) hp m.frm m.inc;unfold rA;generalize ax c p m.frm m.inc=Q at hh hq;obtain⟨q,hd⟩:=Q;simp only at hq hh ⊢;refine en_ Tryz.func83 [.cell 8 49,.tmp 9] (g2_ ?_);refine g2_ ?_;refine cw_ hf (g2_ ?_);rw[hu,hto];refine gx_ ?_;refine cx_ hh (wg_ hu hto) (g2_ ?_);cases hd with
 |false=>
  refine g2_ ?_;refine ae ?_ rfl;exact wx_
 |true=>
  refine g2_ ?_;refine q0_ ?_;rw[show lkF fS m.kind=some 267 by rw[hk];rfl]
  refine g2_ ?_;have ht:(i_ q.table m.frm m.inc).length=q.table.length:=by simp[i_]
  have hg:=hq.g.table;have k1:=ahQ q.table m.frm m.inc (by omega)
  have kq:=ct c { q with table:=i_ q.table m.frm m.inc } [] hc hcs (ael hq.g (by rw[ht];exact hg) hq.rs) ⟨by simp,by simp⟩ (by simp)
  generalize i_ q.table m.frm m.inc=T at k1 kq ⊢;refine im_ Tryz.func267 [] (g2_ ?_);refine g2_ ?_;refine .inl ⟨[oF 0,oF 1,oF 6,oF 11,oF 2,oF 7,oF 12,oF 3,oF 8,oF 13,oF 4,oF 9,oF 14,oF 5,oF 10,oF 15,oF 16,oF 17,oF 18,oF 19,oF 20],by kernel_rfl,g2_ ?_⟩
  refine cw_ k1 (g2_ ?_);exact q1_ kq
def afx(c:ao)(p:af)(m:aJ):af×List aJ:=
 let q:=ax c p m.frm m.inc
 if q.2=true then (aD c (bz q.1 m.table) [],[])else (q.1,[])
def xA(c:ao)(p:af)(m:aJ):af×List aJ:=
 let q:=ax c p m.frm m.inc
 if q.2=true then (aD c q.1 m.list,[])else (q.1,[])
def xc(c:ao)(p:af)(m:aJ):af×List aJ:=
 let q:=ax c p m.frm m.inc
 if q.2=true then (aD c q.1 m.list,[{ pMsg (aD c q.1 m.list) 7 m.frm with list:=dP (aX (aD c q.1 m.list).ring) (pSelf (aD c q.1 m.list)) }])else (q.1,[])
theorem jt{c:ao}{p:af}{l:List GDesc}(hp:okG p)(hl:cf l)(hl2: ∀d∈l,okF d):okG (aD c p l):=by
 obtain⟨m1,m2⟩:=qq (c:=c) hp hl hl2;have m2:=m2 c.near;have u2:=(m2.u p.node).1;have hv:=m2.ds (pCur p p.view) (by simp)
 have hv2:=m2.f (pCur p p.view) (by simp)
 have hn:=m2.ds (cU p.filter p.node c.near [pCur p p.view,pCur p p.near,aX (bC p p.ring),pUse c p l]) (by simp)
 have hn2:=m2.f (cU p.filter p.node c.near [pCur p p.view,pCur p p.near,aX (bC p p.ring),pUse c p l]) (by simp)
 have near: ∀far here known,known≠[]->dm far here c.schema known∈known:=fun far here known h=>by
  have hb:=jr (far:=far) (here:=here) (dom:=c.schema) h known.length;rw[dm,List.getD_eq_getElem?_getD,List.getElem?_eq_getElem hb];exact List.getElem_mem hb
 have hr:okF (aD c p l).ring.succ/\okF (aD c p l).ring.pred:=by
  show okF (dD _ _ _).succ/\okF (dD _ _ _).pred;unfold dD;split
  ·exact⟨uX,uX⟩
  ·rename_i h;exact⟨u2 _ (near _ _ _ h),u2 _ (near _ _ _ h)⟩
 exact⟨⟨hp.ok.filter,hv,hn,hr.1.1,hr.2.1,hp.ok.sent,hp.ok.table,hp.ok.heard,hp.ok.rows,hp.ok.reports,hp.ok.evs,hp.ok.pulls⟩,hp.filter,hv2,hn2,hr.1,hr.2,hp.table⟩
theorem ahj(c:ao)(p:af)(m:aJ)(dr:List UInt32)(hc:c.schema.length<=4)(hcs: ∀s∈c.schema,okS s)(hp:okH p)(hm:okMg m)(hu:p.up=true)(hto:m.to=p.node)(hk:m.kind=8):
  Con2 Tryz.prog 83 [.agg (aC c),.agg (ak p),.agg (encMg m),.fz 1 (dr.map aF)] (· =plR (.tup [.agg (ak (afx c p m).1),.fz 17 ((afx c p m).2.map encMg)])):=by
 refine Con2.ofEmb ?_;have hf:=bo p hp.ok;have hh:=dJ c p m.frm m.inc hp.ok hp.rs;have hq:=dk (c:=c) hp m.frm m.inc;unfold afx;generalize ax c p m.frm m.inc=Q at hh hq;obtain⟨q,hd⟩:=Q;simp only at hq hh ⊢;refine en_ Tryz.func83 [.cell 8 49,.tmp 9] (g2_ ?_);refine g2_ ?_;refine cw_ hf (g2_ ?_);rw[hu,hto];refine gx_ ?_;refine cx_ hh (wg_ hu hto) (g2_ ?_);cases hd with
 |false=>
  refine g2_ ?_;refine ae ?_ rfl;exact wx_
 |true=>
  refine g2_ ?_;refine q0_ ?_;rw[show lkF fS m.kind=some 266 by rw[hk];rfl]
  refine g2_ ?_;have hl:=uY hq m.table;have k1:=sN q m.table hq.g.ok (by have:=hq.g.table;omega) (by have:=hm.table;omega) hq.rs
  have kq:=ct c (bz q m.table) [] hc hcs hl.g ⟨by simp,by simp⟩ (by simp)
  generalize bz q m.table=p1 at k1 kq ⊢;refine im_ Tryz.func266 [] (g2_ ?_);refine g2_ ?_;refine .inl ⟨[oF 0,oF 1,oF 5,oF 2,oF 6,oF 3,oF 7,oF 4,oF 8,oF 9,oF 10,oF 11,oF 12,oF 13],by kernel_rfl,g2_ ?_⟩
  refine cw_ k1 (g2_ ?_);exact q1_ kq
theorem wi(c:ao)(p:af)(m:aJ)(dr:List UInt32)(hc:c.schema.length<=4)(hcs: ∀s∈c.schema,okS s)(hp:okH p)(hm:okMg m)(hu:p.up=true)(hto:m.to=p.node)(hk:m.kind=5\/m.kind=7):
  Con2 Tryz.prog 83 [.agg (aC c),.agg (ak p),.agg (encMg m),.fz 1 (dr.map aF)] (· =plR (.tup [.agg (ak (xA c p m).1),.fz 17 ((xA c p m).2.map encMg)])):=by
 rcases hk with hk|hk
 all_goals
  refine Con2.ofEmb ?_;have hf:=bo p hp.ok;have hh:=dJ c p m.frm m.inc hp.ok hp.rs;have hq:=dk (c:=c) hp m.frm m.inc;unfold xA;generalize ax c p m.frm m.inc=Q at hh hq;obtain⟨q,hd⟩:=Q;simp only at hq hh ⊢;refine en_ Tryz.func83 [.cell 8 49,.tmp 9] (g2_ ?_);refine g2_ ?_;refine cw_ hf (g2_ ?_);rw[hu,hto];refine gx_ ?_;refine cx_ hh (wg_ hu hto) (g2_ ?_);cases hd with
  |false=>
   refine g2_ ?_;refine ae ?_ rfl;exact wx_
  |true=>
   refine g2_ ?_;refine q0_ ?_;rw[show lkF fS m.kind=some 264 by rw[hk];rfl]
   refine g2_ ?_;have kq:=ct c q m.list hc hcs hq.g hm.ds hm.fs2;generalize aD c q m.list=p1 at kq ⊢;refine im_ Tryz.func264 [] (g2_ ?_);refine g2_ ?_;refine .inl ⟨[oF 0,oF 1,oF 5,oF 9,oF 2,oF 6,oF 10,oF 3,oF 7,oF 11,oF 4,oF 8,oF 12,oF 13,oF 14,oF 15,oF 16,oF 17],by kernel_rfl,g2_ ?_⟩
   refine cw_ kq (g2_ ?_);refine g2_ ?_;refine .inr (.inr (.inl ⟨[oF 0,oF 4,oF 1,oF 5,oF 2,oF 6,oF 3,oF 7,oT 8,oF 9],[8],by kernel_rfl,g2_ ?_⟩))
   refine ae ?_ rfl;exact wx_
def iV(c:ao)(p:af)(m:aJ)(sent:List GDesc):af:={ p with view:=dM (pUse c p m.list) p.node c.view p.view sent (pUse c p m.list) }
def nE(dr:List UInt32)(c:ao)(p:af)(m:aJ):af×List aJ:=
 let q:=ax c p m.frm m.inc
 if q.2=true then (aD c (iV c q.1 m (dt c.swap (bB q.1.view m.frm) [] dr)) [],[{ pMsg q.1 4 m.frm with list:=dt c.swap (bB q.1.view m.frm) [] dr }])else (q.1,[])
def ly(c:ao)(p:af)(m:aJ):af:=
 let w:=ir p.wait m.frm
 if w.2.2=true then iV c { p with wait:=w.1 } m w.2.1 else p
def lR(c:ao)(p:af)(m:aJ):af×List aJ:=
 let q:=ax c p m.frm m.inc
 if q.2=true then (aD c (ly c q.1 m) [],[])else (q.1,[])
def wH(c:ao)(p:af)(m:aJ):af×List aJ:=
 let q:=ax c p m.frm m.inc
 if q.2=true then (aD c q.1 [],[])else (q.1,[])
theorem aiA{r:eE}(h1:r.succ.filter.length<=4000000)(h2:r.pred.filter.length<=4000000):cf (aX r):=⟨by have:=fk r;omega,fun d hd=>by
 rcases lO hd with ⟨_,rfl⟩|⟨_,rfl⟩
 ·exact h1
 ·exact h2⟩
theorem ac0{l:List GDesc}{d:GDesc}(hl:cf l)(hd:d.filter.length<=4000000)(hl9:l.length<=3900000):cf (dP l d):=by
 refine⟨?_,fun x hx=>?_⟩
 ·simp only[dP,List.length_append,List.length_cons,List.length_take,List.length_drop];omega
 ·simp only[dP,List.mem_append,List.mem_cons]at hx;rcases hx with h|h|h
  ·exact hl.2 x (List.mem_of_mem_take h)
  ·rw[h];exact hd
  ·exact hl.2 x (List.mem_of_mem_drop h)
theorem eU{got:List GDesc}{self:UInt8}{room:Int}: ∀(r L S:List GDesc) (x:GDesc),x∈dM got self room L S r->x∈L\/x∈r
 |[],L,S,x,h=>.inl h
 | d ::r,L,S,x,h=>by
  rw[dM]at h;split at h
  ·rcases eU r _ _ x h with h|h
   ·rcases put_mem x h with h|h
    ·exact .inl h
    ·exact .inr (by rw[h];exact List.mem_cons_self)
   ·exact .inr (List.mem_cons_of_mem _ h)
  ·split at h
   ·rcases eU r _ _ x h with h|h
    ·exact .inl h
    ·exact .inr (List.mem_cons_of_mem _ h)
   ·split at h
    ·rcases eU r _ _ x h with h|h
     ·rcases put_mem x h with h|h
      ·exact .inl (give_mem2 S x h)
      ·exact .inr (by rw[h];exact List.mem_cons_self)
     ·exact .inr (List.mem_cons_of_mem _ h)
    ·rcases eU r _ _ x h with h|h
     ·exact .inl h
     ·exact .inr (List.mem_cons_of_mem _ h)
where
 give_mem2 {L got:List GDesc}: ∀(S:List GDesc) (x:GDesc),x∈(cV L got S).1->x∈L
  |[],x,h=>h
  |s::r,x,h=>by
   rw[cV]at h;split at h
   ·exact(List.mem_filter.1 h).1
   ·exact give_mem2 r x h
theorem uT{L got:List GDesc}: ∀(S:List GDesc),(cV L got S).1.length<=L.length
 |[]=>Nat.le_refl _
 |s::r=>by
  rw[cV];split
  ·exact List.length_filter_le _ _
  ·exact uT r
theorem ig{got:List GDesc}{self:UInt8}{room:Int}: ∀(r L S:List GDesc),(dM got self room L S r).length<=L.length+r.length
 |[],L,S=>Nat.le_refl _
 | d::r,L,S=>by
  have h1:=iN (self:=self) (l:=L) d room;rw[dM];split
  ·have:=ig (got:=got) (self:=self) (room:=room) r (dF L d self room).1 S;simp only[List.length_cons];omega
  ·split
   ·have:=ig (got:=got) (self:=self) (room:=room) r L S;simp only[List.length_cons];omega
   ·split
    ·have h2:=uT (L:=L) (got:=got) S;have h3:=iN (self:=self) (l:=(cV L got S).1) d ((cV L got S).1.length+1);have:=ig (got:=got) (self:=self) (room:=room) r (dF (cV L got S).1 d self ((cV L got S).1.length+1)).1 (cV L got S).2.2;simp only[List.length_cons];omega
    ·have:=ig (got:=got) (self:=self) (room:=room) r L (cV L got S).2.2;simp only[List.length_cons];omega
theorem qF{many:Int}: ∀(r:List UInt32) (left out:List GDesc),(dt many left out r).length<=out.length+left.length
 |[],left,out=>by simp[dt]
 | d::r,left,out=>by
  rw[dt];split
  ·omega
  ·split
   ·rename_i x hx;have hk:=(List.getElem?_eq_some_iff.1 hx).1;have:=qF (many:=many) r (left.take (d.toNat % left.length)++left.drop (d.toNat % left.length+1)) (out++[x]);simp only[List.length_append,List.length_take,List.length_drop,List.length_cons,List.length_nil]at this;omega
   ·omega
theorem apc{many:Int}{l:List GDesc}{nd:UInt8}{dr:List UInt32}(h:ok8 l):ok8 (dt many (bB l nd) [] dr):=by
 have h1:=qF (many:=many) dr (bB l nd) [];have h2:(bB l nd).length<=l.length:=List.length_filter_le _ _;have h3:=h.1;refine⟨by simp only[List.length_nil]at h1;omega,fun d hd=>?_⟩
 rcases pick_mem many dr _ _ d hd with h|h'
 ·exact(show ok8 l from ‹ok8 l›).2 d (List.mem_filter.1 h).1
 ·cases h'
theorem vO{c:ao}{p:af}{m:aJ}{sent:List GDesc}(hc:c.schema.length<=4)(h:okH p)(hm:okMg m):okG (iV c p m sent):=by
 refine nh h.g ?_ ?_
 ·refine Nat.le_trans (ig _ _ _) ?_;have h1:=(amk (c:=c) (p:=p) hm.list hc).1;have h2:=h.v8.1;omega
 ·intro x hx;rcases eU _ _ _ x hx with h1|h1
  ·exact h.g.view x h1
  ·exact hm.fs2 x (qk h1)
attribute[local go_sem] hX
theorem aeg(c:ao)(p:af)(m:aJ)(dr:List UInt32)(hc:c.schema.length<=4)(hcs: ∀s∈c.schema,okS s)(hp:okH p)(hm:okMg m)(hu:p.up=true)(hto:m.to=p.node)(hk:m.kind=6):
  Con2 Tryz.prog 83 [.agg (aC c),.agg (ak p),.agg (encMg m),.fz 1 (dr.map aF)] (· =plR (.tup [.agg (ak (xc c p m).1),.fz 17 ((xc c p m).2.map encMg)])):=by
 refine Con2.ofEmb ?_;have hf:=bo p hp.ok;have hh:=dJ c p m.frm m.inc hp.ok hp.rs;have hq:=dk (c:=c) hp m.frm m.inc;unfold xc;generalize ax c p m.frm m.inc=Q at hh hq;obtain⟨q,hd⟩:=Q;simp only at hq hh ⊢;refine en_ Tryz.func83 [.cell 8 49,.tmp 9] (g2_ ?_);refine g2_ ?_;refine cw_ hf (g2_ ?_);rw[hu,hto];refine gx_ ?_;refine cx_ hh (wg_ hu hto) (g2_ ?_);cases hd with
 |false=>
  refine g2_ ?_;refine ae ?_ rfl;exact wx_
 |true=>
  refine g2_ ?_;refine q0_ ?_;rw[show lkF fS m.kind=some 265 by rw[hk];rfl]
  refine g2_ ?_;have kq:=ct c q m.list hc hcs hq.g hm.ds hm.fs2;have hg:=jt (c:=c) hq.g hm.ds hm.fs2;generalize aD c q m.list=p1 at kq hg ⊢;have k1:=gO p1.ring hg.ok.succ hg.ok.pred;have k2:=i7 p1 hg.ok;have hrl:=aiA hg.ok.succ hg.ok.pred;have hr2:=fk p1.ring;have k3:=oD (aX p1.ring) (pSelf p1) hrl hg.ok.filter;have k4:=gh p1 7 m.frm;have k5:=bg (dP (aX p1.ring) (pSelf p1)) (ac0 hrl hg.ok.filter (by omega))
  have k6:=dY [] (by simp)
  obtain⟨M1,hM1⟩: ∃M,M=pMsg p1 7 m.frm:=⟨_,rfl⟩;have hMt:M1.table=[]:=by rw[hM1];rfl
  rw[<-hM1]at k4 ⊢;generalize dP (aX p1.ring) (pSelf p1)=Wl at k3 k5 ⊢;generalize aX p1.ring=B at k1 k3;generalize pSelf p1=S at k2 k3;refine im_ Tryz.func265 [] (g2_ ?_);refine g2_ ?_;refine im_ Tryz.func264 [] (g2_ ?_);refine g2_ ?_;refine .inl ⟨[oF 0,oF 1,oF 5,oF 9,oF 2,oF 6,oF 10,oF 3,oF 7,oF 11,oF 4,oF 8,oF 12,oF 13,oF 14,oF 15,oF 16,oF 17],by kernel_rfl,g2_ ?_⟩
  refine cw_ kq (g2_ ?_);refine .inl ⟨[oF 0,oF 1,oF 6,oF 12,oF 2,oF 7,oF 13,oF 3,oF 8,oF 14,oF 4,oF 9,oF 15,oF 5,oF 10,oT 11,oT 16,oT 17,oF 18],by kernel_rfl,g2_ ?_⟩
  refine cw_ k1 (g2_ ?_);refine cw_ k2 (g2_ ?_);refine cw_ k3 (g2_ ?_);refine im_ Tryz.func177 [] (g2_ ?_);refine g2_ ?_;refine cw_ k4 (g2_ ?_);refine cw_ k5 (g2_ ?_);refine cw_ k6 (g2_ ?_);refine .inl ⟨[oF 0,oF 1,oF 5,oF 2,oF 3,oF 4,oT 6,oF 7,oF 8,oF 9,oF 10],by kernel_rfl,g2_ ?_⟩
  refine .inr (.inr (.inl ⟨[oF 0,oF 4,oF 1,oF 5,oF 2,oF 6,oF 3,oF 7,oT 8,oF 9],[8],by kernel_rfl,g2_ ?_⟩))
  refine ae ?_ rfl;exact wf_ hMt
theorem xr(c:ao)(p:af)(m:aJ)(dr:List UInt32)(hc:c.schema.length<=4)(hcs: ∀s∈c.schema,okS s)(hp:okH p)(hm:okMg m)(hu:p.up=true)(hto:m.to=p.node)(hk:m.kind=3)(hdr:dr.length<=4000000):
  Con2 Tryz.prog 83 [.agg (aC c),.agg (ak p),.agg (encMg m),.fz 1 (dr.map aF)] (· =plR (.tup [.agg (ak (nE dr c p m).1),.fz 17 ((nE dr c p m).2.map encMg)])):=by
 refine Con2.ofEmb ?_;have hf:=bo p hp.ok;have hh:=dJ c p m.frm m.inc hp.ok hp.rs;have hq:=dk (c:=c) hp m.frm m.inc;unfold nE;generalize ax c p m.frm m.inc=Q at hh hq;obtain⟨q,hd⟩:=Q;simp only at hq hh ⊢;refine en_ Tryz.func83 [.cell 8 49,.tmp 9] (g2_ ?_);refine g2_ ?_;refine cw_ hf (g2_ ?_);rw[hu,hto];refine gx_ ?_;refine cx_ hh (wg_ hu hto) (g2_ ?_);cases hd with
 |false=>
  refine g2_ ?_;refine ae ?_ rfl;exact wx_
 |true=>
  refine g2_ ?_;refine q0_ ?_;rw[show lkF fS m.kind=some 262 by rw[hk];rfl]
  refine g2_ ?_;have hs8:ok8 (dt c.swap (bB q.view m.frm) [] dr):=apc hq.v8;have k1:=al_ q.view c.swap m.frm dr hq.v8 hdr;have k2:=gh q 4 m.frm;have k3:=bg _ hs8.toDs;have k4:=dY [] (by simp)
  have k5:=ob c q m.list (by omega) hq.g.ok hm.ds
  have k6:=aeL q.view (pUse c q m.list) _ q.node c.view hq.v8 (amk hm.list hc) hs8 hq.vw;have kq:=ct c (iV c q m (dt c.swap (bB q.view m.frm) [] dr)) [] hc hcs (vO hc hq hm) ⟨by simp,by simp⟩ (by simp)
  unfold iV at kq ⊢;obtain⟨M1,hM1⟩: ∃M,M=pMsg q 4 m.frm:=⟨_,rfl⟩;have hMt:M1.table=[]:=by rw[hM1];rfl
  rw[<-hM1]at k2 ⊢;generalize dt c.swap (bB q.view m.frm) [] dr=sent at k1 k3 k6 kq ⊢;generalize dM (pUse c q m.list) q.node c.view q.view sent (pUse c q m.list)=V at k6 kq ⊢;generalize pUse c q m.list=U at k5 k6;refine im_ Tryz.func262 [] (g2_ ?_);refine g2_ ?_;refine .inl ⟨[oF 0,oF 5,oF 10,oF 15,oF 1,oF 6,oF 11,oF 16,oF 2,oF 7,oF 12,oF 17,oF 3,oF 8,oF 13,oF 18,oF 4,oF 9,oF 14,oF 19,oF 20],by kernel_rfl,g2_ ?_⟩
  refine cw_ k1 (g2_ ?_);refine im_ Tryz.func177 [] (g2_ ?_);refine g2_ ?_;refine cw_ k2 (g2_ ?_);refine cw_ k3 (g2_ ?_);refine cw_ k4 (g2_ ?_);refine .inl ⟨[oF 0,oF 1,oF 5,oF 2,oF 3,oF 4,oT 6,oF 7,oF 8,oF 9,oF 10],by kernel_rfl,g2_ ?_⟩
  refine im_ Tryz.func330 [] (g2_ ?_);refine g2_ ?_;refine .inl ⟨[oF 0,oF 4,oF 8,oF 1,oF 5,oF 9,oF 2,oF 6,oF 10,oF 3,oF 7,oF 11,oF 12,oF 13,oF 14],by kernel_rfl,g2_ ?_⟩
  refine cw_ k5 (g2_ ?_);refine .inl ⟨[oF 0,oF 1,oF 6,oF 7,oF 8,oF 13,oF 2,oF 9,oF 14,oF 3,oF 10,oF 15,oF 4,oF 11,oF 16,oF 5,oF 12,oF 17,oF 18,oF 19,oF 20,oF 21,oF 22],by kernel_rfl,g2_ ?_⟩
  refine cw_ k6 (g2_ ?_);refine .inl ⟨[oF 0,oF 1,oF 2,oF 3,oF 4,oF 5,oF 6,oF 7,oF 8,oF 9],by kernel_rfl,g2_ ?_⟩
  refine cw_ kq (g2_ ?_);refine .inr (.inr (.inl ⟨[oF 0,oF 4,oF 1,oF 5,oF 2,oF 6,oF 3,oF 7,oT 8,oF 9],[8],by kernel_rfl,g2_ ?_⟩))
  refine ae ?_ rfl;exact wf_ hMt
theorem aan(c:ao)(p:af)(f:List GSpan)(hc:c.schema.length<=4)(hcs: ∀s∈c.schema,okS s)(hp:okG p)(hf:f.length<=4000000)(hn:okG { p with filter:=(bA c.schema f).1 })(hu:p.up=true):
  Con2 Tryz.prog 29 [.agg (aC c),.agg (ak p),fzS f] (· =plR (.tup [.agg (ak (if (bA c.schema f).2=0 then aD c { p with filter:=(bA c.schema f).1 } []else p)),.v (.int .i64 (bA c.schema f).2)])):=by
 refine Con2.ofEmb ?_;have k1:=bo p hp.ok;have k2:=aar c.schema f (by omega) (by omega)
 have k3:=ct c { p with filter:=(bA c.schema f).1 } [] hc hcs hn ⟨by simp,by simp⟩ (by simp)
 generalize bA c.schema f=n at k2 k3 ⊢;obtain⟨g,e⟩:=n;simp only at k2 k3 ⊢;refine en_ Tryz.func29 [.cell 6 49,.tmp 7] (g2_ ?_);refine g2_ ?_;refine cw_ k1 (g2_ ?_);rw[hu];refine g2_ ?_;refine cx_ k2 (wf_ hu) (g2_ ?_);refine eu (fun h=>?_) (fun h=>?_)
 ·rw[if_neg h];refine g2_ ?_;refine ae ?_ rfl;exact wf_ hu
 ·rw[if_pos h];refine g2_ ?_;refine cx_ k3 (wf_ hu) (g2_ ?_);refine ae ?_ rfl;exact wg_ hu h
theorem qT(c:ao)(p:af)(node:UInt8)(inc:UInt16)(hp:okP p)(hr:fU p.reports):
  Con2 Tryz.prog 84 [.agg (aC c),.agg (ak p),.v (.int .u8 node.toNat),.v (.int .u16 inc.toNat)] (· =plR (.tup [.agg (ak (ax c p node inc).1),.v (.bool (ax c p node inc).2)])):=by
 refine Con2.ofEmb ?_;have k1:=bo p hp;have k2:=dJ c p node inc hp hr;generalize ax c p node inc=Q at k2 ⊢;obtain⟨q,b⟩:=Q;refine en_ Tryz.func84 [.cell 8 49,.tmp 9] (g2_ ?_);refine g2_ ?_;refine .inr (.inr (.inl ⟨[oF 0,oF 1,oF 3,oF 4,oT 2,oF 5,oF 6,oF 7,oF 8,oF 9],[],by kernel_rfl,g2_ ?_⟩))
 refine cw_ k1 (g2_ ?_);refine cw_ k2 (g2_ ?_);refine ae ?_ rfl;exact ws_
theorem iG(c:ao)(p:af)(l:List GDesc)(hc:c.schema.length<=4)(hcs: ∀s∈c.schema,okS s)(hp:okG p)(hl:cf l)(hl2: ∀d∈l,okF d):
  Con2 Tryz.prog 85 [.agg (aC c),.agg (ak p),fzD l] (· =plR (.agg (ak (aD c p l)))):=by
 refine Con2.ofEmb ?_;have k1:=bo p hp.ok;have k2:=ct c p l hc hcs hp hl hl2;generalize aD c p l=q at k2 ⊢;refine en_ Tryz.func85 [.cell 6 49] (g2_ ?_);refine g2_ ?_;refine .inr (.inr (.inl ⟨[oF 0,oF 1,oF 3,oT 2,oF 4,oF 5],[],by kernel_rfl,g2_ ?_⟩))
 refine cw_ k1 (g2_ ?_);refine cw_ k2 (g2_ ?_);refine ae ?_ rfl;exact ws_
theorem adj{c:ao}{p:af}{node:UInt8}{inc:UInt16}:(ax c p node inc).1.wait=p.wait:=by grind [ax]
theorem sV{p:af}(h:okH p){w:GW}(hw:cf w.sent):okH { p with wait:=w }:=
 ⟨⟨⟨h.g.ok.filter,h.g.ok.view,h.g.ok.near,h.g.ok.succ,h.g.ok.pred,hw,h.g.ok.table,h.g.ok.heard,h.g.ok.rows,h.g.ok.reports,h.g.ok.evs,h.g.ok.pulls⟩,h.g.filter,h.g.view,h.g.near,h.g.succ,h.g.pred,h.g.table⟩,h.rs,h.v8,h.vw⟩
theorem aep{w:GW}{frm:UInt8}(h:ok8 w.sent):ok8 (ir w frm).1.sent/\ok8 (ir w frm).2.1:=by
 unfold ir;split
 ·exact⟨⟨Nat.zero_le _,fun d hd=>absurd (show d∈([]:List GDesc)from hd) List.not_mem_nil⟩,h⟩
 ·exact⟨h,⟨Nat.zero_le _,fun d hd=>absurd hd List.not_mem_nil⟩⟩
theorem tR(c:ao)(p:af)(m:aJ)(dr:List UInt32)(hc:c.schema.length<=4)(hcs: ∀s∈c.schema,okS s)(hp:okH p)(hm:okMg m)(hu:p.up=true)(hto:m.to=p.node)(hk:m.kind=4)(hws:ok8 p.wait.sent):
  Con2 Tryz.prog 83 [.agg (aC c),.agg (ak p),.agg (encMg m),.fz 1 (dr.map aF)] (· =plR (.tup [.agg (ak (lR c p m).1),.fz 17 ((lR c p m).2.map encMg)])):=by
 refine Con2.ofEmb ?_;have hf:=bo p hp.ok;have hh:=dJ c p m.frm m.inc hp.ok hp.rs;have hq:=dk (c:=c) hp m.frm m.inc;have hqw:=adj (c:=c) (p:=p) (node:=m.frm) (inc:=m.inc);unfold lR;generalize ax c p m.frm m.inc=Q at hh hq hqw;obtain⟨q,hd⟩:=Q;simp only at hq hh hqw ⊢;refine en_ Tryz.func83 [.cell 8 49,.tmp 9] (g2_ ?_);refine g2_ ?_;refine cw_ hf (g2_ ?_);rw[hu,hto];refine gx_ ?_;refine cx_ hh (wg_ hu hto) (g2_ ?_);cases hd with
 |false=>
  refine g2_ ?_;refine ae ?_ rfl;exact wx_
 | true=>
  refine g2_ ?_;refine q0_ ?_;rw[show lkF fS m.kind=some 263 by rw[hk];rfl]
  refine g2_ ?_;have hqs:ok8 q.wait.sent:=by rw[hqw];exact hws
  obtain⟨hw1,hw2⟩:=aep (frm:=m.frm) hqs;have k1:=alM q.wait m.frm hqs;have hq3:=sV hq (w:=(ir q.wait m.frm).1) hw1.toDs;have k5:Con2 Tryz.prog 150 [.agg (aC c),.agg (ak { q with wait:=(ir q.wait m.frm).1 }),fzD m.list] (· =plR (fzD (pUse c q m.list))):=ob c { q with wait:=(ir q.wait m.frm).1 } m.list (by omega) hq3.g.ok hm.ds
  have k6:=aeL q.view (pUse c q m.list) (ir q.wait m.frm).2.1 q.node c.view hq.v8 (amk hm.list hc) hw2 hq.vw;have kq1:=ct c q [] hc hcs hq.g ⟨by simp,by simp⟩ (by simp)
  have kq2:=ct c (iV c { q with wait:=(ir q.wait m.frm).1 } m (ir q.wait m.frm).2.1) [] hc hcs (vO hc hq3 hm) ⟨by simp,by simp⟩ (by simp)
  have hans:ly c q m=if (ir q.wait m.frm).2.2=true then iV c { q with wait:=(ir q.wait m.frm).1 } m (ir q.wait m.frm).2.1 else q:=rfl
  have hmg:iV c { q with wait:=(ir q.wait m.frm).1 } m (ir q.wait m.frm).2.1={ q with wait:=(ir q.wait m.frm).1,view:=dM (pUse c q m.list) q.node c.view q.view (ir q.wait m.frm).2.1 (pUse c q m.list) }:=rfl;rw[hans];rw[hmg]at kq2 ⊢;generalize ir q.wait m.frm=a at k1 k5 k6 kq2 ⊢;obtain⟨w,sent,ok⟩:=a;simp only at k1 k5 k6 kq2 ⊢;generalize dM (pUse c q m.list) q.node c.view q.view sent (pUse c q m.list)=V at k6 kq2 ⊢;generalize pUse c q m.list=U at k5 k6;refine im_ Tryz.func263 [] (g2_ ?_);refine g2_ ?_;refine .inr (.inl ⟨(.fl 0 (.fl 5 (.fl 1 (.fl 6 (.fl 2 (.fl 7 (.fl 3 (.fl 8 (.fl 4 (.fl 9 (.eff 10 false (.fl 11 (.fl 12 (.fl 13 (.fl 14 (.eff 15 true (.eff 16 false (.fl 17 (.fl 18 .done)) .no) .no))))) (.eff 15 true (.eff 10 false (.fl 11 (.fl 12 (.fl 13 (.fl 14 (.eff 16 false (.fl 17 (.fl 18 .done)) .no))))) .no) .no)))))))))))),by kernel_rfl,g2_ ?_⟩)
  repeat' (first
   |(with_reducible refine And.intro ?_ ?_)
   |(refine CallS.eqW k1 ?_ (.inl ?_) ?_;(focus (simp-implicitDefEqProofs only[go_sem,ab];done));(focus (simp-implicitDefEqProofs only[go_sem,ab];done));refine g2_ ?_)
   |(with_reducible refine av ?_;refine g2_ ?_))
  all_goals
   cases ok with
   |false=>
    have kq:=kq1;rw[if_neg (by decide)]
    refine g2_ ?_;exact q1_ kq
   |true=>
    have kq:=kq2;rw[if_pos rfl];refine g2_ ?_;refine im_ Tryz.func330 [] (g2_ ?_);refine g2_ ?_;refine .inl ⟨[oF 0,oF 4,oF 8,oF 1,oF 5,oF 9,oF 2,oF 6,oF 10,oF 3,oF 7,oF 11,oF 12,oF 13,oF 14],by kernel_rfl,g2_ ?_⟩
    refine cw_ k5 (g2_ ?_);refine .inl ⟨[oF 0,oF 1,oF 6,oF 7,oF 8,oF 13,oF 2,oF 9,oF 14,oF 3,oF 10,oF 15,oF 4,oF 11,oF 16,oF 5,oF 12,oF 17,oF 18,oF 19,oF 20,oF 21,oF 22],by kernel_rfl,g2_ ?_⟩
    refine cw_ k6 (g2_ ?_);exact q1_ kq
theorem abQ(c:ao)(p:af)(m:aJ)(dr:List UInt32)(hc:c.schema.length<=4)(hcs: ∀s∈c.schema,okS s)(hp:okH p)(hu:p.up=true)(hto:m.to=p.node)(hk:lkF fS m.kind=none):
  Con2 Tryz.prog 83 [.agg (aC c),.agg (ak p),.agg (encMg m),.fz 1 (dr.map aF)] (· =plR (.tup [.agg (ak (wH c p m).1),.fz 17 ((wH c p m).2.map encMg)])):=by
 refine Con2.ofEmb ?_;have hf:=bo p hp.ok;have hh:=dJ c p m.frm m.inc hp.ok hp.rs;have hq:=dk (c:=c) hp m.frm m.inc;unfold wH;generalize ax c p m.frm m.inc=Q at hh hq;obtain⟨q,hd⟩:=Q;simp only at hq hh ⊢;have kq:=ct c q [] hc hcs hq.g ⟨by simp,by simp⟩ (by simp)
 generalize aD c q []=q' at kq ⊢;refine en_ Tryz.func83 [.cell 8 49,.tmp 9] (g2_ ?_);refine g2_ ?_;refine cw_ hf (g2_ ?_);rw[hu,hto];refine gx_ ?_;refine cx_ hh (wg_ hu hto) (g2_ ?_);cases hd with
 |false=>
  refine g2_ ?_;refine ae ?_ rfl;exact wx_
 |true=>
  refine g2_ ?_;refine q0_ ?_;rw[hk];refine gf_ @Option.isSome_none.{0} ?_;exact q1_ kq
theorem aoy(c:ao)(p:af)(m:aJ)(dr:List UInt32)(hp:okP p)(hto:m.to≠p.node):
  Con2 Tryz.prog 83 [.agg (aC c),.agg (ak p),.agg (encMg m),.fz 1 (dr.map aF)] (· =plR (.tup [.agg (ak p),.fz 17 []])):=by
 cases hu:p.up with
 |false=>exact vD c p m dr hp hu
 |true=>
 refine Con2.ofEmb ?_;have hf:=bo p hp;refine en_ Tryz.func83 [.cell 8 49,.tmp 9] (g2_ ?_);refine g2_ ?_;refine cw_ hf (g2_ ?_);rw[hu];refine g2_ ?_;rw[show((m.to.toNat:Int) !=(p.node.toNat:Int))=true from bne_iff_ne.2 (fun h=>hto ((apr _ _).1 h))]
 refine g2_ ?_;refine ae ?_ rfl;exact wf_ hu
