import Derived.Test.YtmhmahcdanclnaaGreatNo30
import Derived.Test.YtmhmahcdanclnaaGreatNo31
set_option linter.unusedSectionVars false
set_option linter.unusedSimpArgs false
set_option linter.unusedVariables false
set_option maxRecDepth 10000
set_option maxHeartbeats 4000000
namespace Go.Proofs.YtmhmahcdanclnaaGreat.V
open Go.Eng
theorem abL(l m:List au)(self:UInt8):(eA l m self).length=l.length:=by simp[eA]
theorem vt{p:af}(h:okH p)(t:List au):okH (bx p t):=xM h (by rw[abL];exact h.g.table) (i_ h.rs _)
def kM(c:ar)(p:af)(m:aK):af:={ bx p m.table with view:=eE (bx p m.table).node c.view (bx p m.table).view (pUse c (bx p m.table) m.list) }
def lv(c:ar)(p:af)(m:aK):af×List aK:=
 let q:=aw c p m.frm m.inc
 if q.2=true then (aB c (kM c q.1 m) [],[])else (q.1,[])
def se(c:ar)(p:af)(m:aK):af×List aK:=
 let q:=aw c p m.frm m.inc
 if q.2=true then (aB c { q.1 with table:=jc q.1.table m.frm m.inc } [],[])else (q.1,[])
theorem al2{c:ar}{p:af}{l:List GDesc}(h1:l.length<=1048576)(h2:c.schema.length<=4):ok8 (pUse c p l):=by
 have h3:=List.length_filter_le (fG c) l;have h4:=List.length_filter_le (cC p) (l.filter (fG c));exact⟨by show(List.filter (cC p) (l.filter (fG c))).length<=1100000;omega,fun d hd=>aaz h2 (List.mem_filter.1 (List.mem_filter.1 hd).1).2⟩
theorem zu{c:ar}{p:af}{l:List GDesc}{d:GDesc}(h:d∈pUse c p l):fG c d=true:=(List.mem_filter.1 (List.mem_filter.1 h).1).2
theorem qA{c:ar}{p:af}{l:List GDesc}{d:GDesc}(h:d∈pUse c p l):d∈l:=(List.mem_filter.1 (List.mem_filter.1 h).1).1
theorem vS{self:UInt8}{room:Int}: ∀(r l:List GDesc),(eE self room l r).length<=l.length+r.length
 |[],l=>Nat.le_refl _
 |d::r,l=>by
  rw[eE];have h1:=vS (self:=self) (room:=room) r (dO l d self room).1;have h2:=iP (self:=self) (l:=l) d room;rw[List.length_cons];omega
attribute [local go_sem] zDesc aS ah fzD plR ba aL aR aC aE ak az aU z8 z16 z32 z64 encMg a_ b_ List.map_cons List.map_nil
theorem yl(c:ar)(p:af)(m:aK)(dr:List UInt32)(hc:c.schema.length<=4)(hcs: ∀s∈c.schema,okS s)(hp:okH p)(hm:okMg m)(hu:p.up=true)(hto:m.to=p.node)(hk:m.kind=2):
  Con2 Tryz.prog 83 [.agg (aE c),.agg (ak p),.agg (encMg m),.fz 1 (dr.map aH)] (· =plR (.tup [.agg (ak (lv c p m).1),.fz 17 ((lv c p m).2.map encMg)])):=by
 refine Con2.ofEmb ?_;have hf:=bp p hp.ok;have hh:=dP c p m.frm m.inc hp.ok hp.rs;have hq:=dA (c:=c) hp m.frm m.inc;unfold lv;generalize aw c p m.frm m.inc=Q at hh hq;obtain⟨q,hd⟩:=Q;simp only at hq hh ⊢;refine en_ Tryz.func83 [.cell 8 49,.tmp 9] (g2_ ?_);refine g2_ ?_;refine cw_ hf (g2_ ?_);rw[hu,hto];refine gx_ ?_;refine cx_ hh (wg_ hu hto) (g2_ ?_);cases hd with
 |false=>
  refine g2_ ?_;refine ae ?_ rfl;exact wx_
 | true=>
  refine g2_ ?_;refine q0_ ?_;rw[show lkF fW m.kind=some 261 by rw[hk];rfl]
  refine g2_ ?_;have hl:=vt hq m.table;have k1:=s8 q m.table hq.g.ok (by have:=hq.g.table;omega) (by have:=hm.table;omega) hq.rs
  have k2:=oq c (bx q m.table) m.list (by omega) hl.g.ok hm.ds
  have k3:=arq (bx q m.table).view (pUse c (bx q m.table) m.list) (bx q m.table).node c.view hl.v8 (al2 hm.list hc) hl.vw
  have kq:=cD c (kM c q m) [] hc hcs (nU hl.g (by
    refine Nat.le_trans (vS _ _) ?_;have h1:=(al2 (c:=c) (p:=bx q m.table) hm.list hc).1;have h2:=hl.v8.1;omega) (fun x hx=>by
   rcases rA _ _ x hx with h|h
   ·exact hq.g.view x h
   ·exact hm.fs2 x (qA h))) ⟨by simp,by simp⟩ (by simp)
  unfold kM at kq ⊢;generalize bx q m.table=p1 at k1 k2 k3 kq ⊢;generalize eE p1.node c.view p1.view (pUse c p1 m.list)=V at k3 kq ⊢;generalize pUse c p1 m.list=U at k2 k3;refine im_ Tryz.func261 [] (g2_ ?_);refine g2_ ?_;refine .inl ⟨[oF 0,oF 1,oF 5,oF 2,oF 6,oF 3,oF 7,oF 4,oF 8,oF 9,oF 10,oF 11,oF 12,oF 13],by kernel_rfl,g2_ ?_⟩
  refine cw_ k1 (g2_ ?_);refine .inl ⟨[oF 0,oF 1,oF 6,oF 10,oF 14,oF 20,oF 25,oF 2,oF 7,oF 11,oF 15,oF 21,oF 26,oF 3,oF 8,oF 12,oF 16,oF 22,oF 27,oF 4,oF 9,oF 13,oF 17,oF 23,oF 28,oF 5,oF 18,oF 24,oF 29,oT 19,oF 30,oF 31,oF 32,oF 33,oF 34],by kernel_rfl,g2_ ?_⟩
  refine cw_ k2 (g2_ ?_);refine cw_ k3 (g2_ ?_);exact q1_ kq
theorem ab2(c:ar)(p:af)(m:aK)(dr:List UInt32)(hc:c.schema.length<=4)(hcs: ∀s∈c.schema,okS s)(hp:okH p)(hm:okMg m)(hu:p.up=true)(hto:m.to=p.node)(hk:m.kind=9):
  Con2 Tryz.prog 83 [.agg (aE c),.agg (ak p),.agg (encMg m),.fz 1 (dr.map aH)] (· =plR (.tup [.agg (ak (se c p m).1),.fz 17 ((se c p m).2.map encMg)])):=by
 refine Con2.ofEmb ?_;have hf:=bp p hp.ok;have hh:=dP c p m.frm m.inc hp.ok hp.rs;have hq:=dA (c:=c) hp m.frm m.inc;unfold se;generalize aw c p m.frm m.inc=Q at hh hq;obtain⟨q,hd⟩:=Q;simp only at hq hh ⊢;refine en_ Tryz.func83 [.cell 8 49,.tmp 9] (g2_ ?_);refine g2_ ?_;refine cw_ hf (g2_ ?_);rw[hu,hto];refine gx_ ?_;refine cx_ hh (wg_ hu hto) (g2_ ?_);cases hd with
 |false=>
  refine g2_ ?_;refine ae ?_ rfl;exact wx_
 |true=>
  refine g2_ ?_;refine q0_ ?_;rw[show lkF fW m.kind=some 267 by rw[hk];rfl]
  refine g2_ ?_;have ht:(jc q.table m.frm m.inc).length=q.table.length:=by simp[jc]
  have hg:=hq.g.table;have k1:=ahv q.table m.frm m.inc (by omega)
  have kq:=cD c { q with table:=jc q.table m.frm m.inc } [] hc hcs (afK hq.g (by rw[ht];exact hg) hq.rs) ⟨by simp,by simp⟩ (by simp)
  generalize jc q.table m.frm m.inc=T at k1 kq ⊢;refine im_ Tryz.func267 [] (g2_ ?_);refine g2_ ?_;refine .inl ⟨[oF 0,oF 1,oF 6,oF 11,oF 2,oF 7,oF 12,oF 3,oF 8,oF 13,oF 4,oF 9,oF 14,oF 5,oF 10,oF 15,oF 16,oF 17,oF 18,oF 19,oF 20],by kernel_rfl,g2_ ?_⟩
  refine cw_ k1 (g2_ ?_);exact q1_ kq
def ae8(c:ar)(p:af)(m:aK):af×List aK:=
 let q:=aw c p m.frm m.inc
 if q.2=true then (aB c (bx q.1 m.table) [],[])else (q.1,[])
def xG(c:ar)(p:af)(m:aK):af×List aK:=
 let q:=aw c p m.frm m.inc
 if q.2=true then (aB c q.1 m.list,[])else (q.1,[])
def xn(c:ar)(p:af)(m:aK):af×List aK:=
 let q:=aw c p m.frm m.inc
 if q.2=true then (aB c q.1 m.list,[{ pMsg (aB c q.1 m.list) 7 m.frm with list:=dY (aY (aB c q.1 m.list).ring) (pSelf (aB c q.1 m.list)) }])else (q.1,[])
theorem je{c:ar}{p:af}{l:List GDesc}(hp:okG p)(hl:cg l)(hl2: ∀d∈l,okF d):okG (aB c p l):=by
 obtain⟨m1,m2⟩:=qM (c:=c) hp hl hl2;have m2:=m2 c.near;have u2:=(m2.u p.node).1;have hv:=m2.ds (pCur p p.view) (by simp)
 have hv2:=m2.f (pCur p p.view) (by simp)
 have hn:=m2.ds (c_ p.filter p.node c.near [pCur p p.view,pCur p p.near,aY (bH p p.ring),pUse c p l]) (by simp)
 have hn2:=m2.f (c_ p.filter p.node c.near [pCur p p.view,pCur p p.near,aY (bH p p.ring),pUse c p l]) (by simp)
 have near: ∀far here known,known≠[]->dx far here c.schema known∈known:=fun far here known h=>by
  have hb:=jm (far:=far) (here:=here) (dom:=c.schema) h known.length;rw[dx,List.getD_eq_getElem?_getD,List.getElem?_eq_getElem hb];exact List.getElem_mem hb
 have hr:okF (aB c p l).ring.succ/\okF (aB c p l).ring.pred:=by
  show okF (dK _ _ _).succ/\okF (dK _ _ _).pred;unfold dK;split
  ·exact⟨uP,uP⟩
  ·rename_i h;exact⟨u2 _ (near _ _ _ h),u2 _ (near _ _ _ h)⟩
 exact⟨⟨hp.ok.filter,hv,hn,hr.1.1,hr.2.1,hp.ok.sent,hp.ok.table,hp.ok.heard,hp.ok.rows,hp.ok.reports,hp.ok.evs,hp.ok.pulls⟩,hp.filter,hv2,hn2,hr.1,hr.2,hp.table⟩
theorem ah7(c:ar)(p:af)(m:aK)(dr:List UInt32)(hc:c.schema.length<=4)(hcs: ∀s∈c.schema,okS s)(hp:okH p)(hm:okMg m)(hu:p.up=true)(hto:m.to=p.node)(hk:m.kind=8):
  Con2 Tryz.prog 83 [.agg (aE c),.agg (ak p),.agg (encMg m),.fz 1 (dr.map aH)] (· =plR (.tup [.agg (ak (ae8 c p m).1),.fz 17 ((ae8 c p m).2.map encMg)])):=by
 refine Con2.ofEmb ?_;have hf:=bp p hp.ok;have hh:=dP c p m.frm m.inc hp.ok hp.rs;have hq:=dA (c:=c) hp m.frm m.inc;unfold ae8;generalize aw c p m.frm m.inc=Q at hh hq;obtain⟨q,hd⟩:=Q;simp only at hq hh ⊢;refine en_ Tryz.func83 [.cell 8 49,.tmp 9] (g2_ ?_);refine g2_ ?_;refine cw_ hf (g2_ ?_);rw[hu,hto];refine gx_ ?_;refine cx_ hh (wg_ hu hto) (g2_ ?_);cases hd with
 |false=>
  refine g2_ ?_;refine ae ?_ rfl;exact wx_
 |true=>
  refine g2_ ?_;refine q0_ ?_;rw[show lkF fW m.kind=some 266 by rw[hk];rfl]
  refine g2_ ?_;have hl:=vt hq m.table;have k1:=s8 q m.table hq.g.ok (by have:=hq.g.table;omega) (by have:=hm.table;omega) hq.rs
  have kq:=cD c (bx q m.table) [] hc hcs hl.g ⟨by simp,by simp⟩ (by simp)
  generalize bx q m.table=p1 at k1 kq ⊢;refine im_ Tryz.func266 [] (g2_ ?_);refine g2_ ?_;refine .inl ⟨[oF 0,oF 1,oF 5,oF 2,oF 6,oF 3,oF 7,oF 4,oF 8,oF 9,oF 10,oF 11,oF 12,oF 13],by kernel_rfl,g2_ ?_⟩
  refine cw_ k1 (g2_ ?_);exact q1_ kq
theorem wt(c:ar)(p:af)(m:aK)(dr:List UInt32)(hc:c.schema.length<=4)(hcs: ∀s∈c.schema,okS s)(hp:okH p)(hm:okMg m)(hu:p.up=true)(hto:m.to=p.node)(hk:m.kind=5\/m.kind=7):
  Con2 Tryz.prog 83 [.agg (aE c),.agg (ak p),.agg (encMg m),.fz 1 (dr.map aH)] (· =plR (.tup [.agg (ak (xG c p m).1),.fz 17 ((xG c p m).2.map encMg)])):=by
 rcases hk with hk|hk
 all_goals
  refine Con2.ofEmb ?_;have hf:=bp p hp.ok;have hh:=dP c p m.frm m.inc hp.ok hp.rs;have hq:=dA (c:=c) hp m.frm m.inc;unfold xG;generalize aw c p m.frm m.inc=Q at hh hq;obtain⟨q,hd⟩:=Q;simp only at hq hh ⊢;refine en_ Tryz.func83 [.cell 8 49,.tmp 9] (g2_ ?_);refine g2_ ?_;refine cw_ hf (g2_ ?_);rw[hu,hto];refine gx_ ?_;refine cx_ hh (wg_ hu hto) (g2_ ?_);cases hd with
  |false=>
   refine g2_ ?_;refine ae ?_ rfl;exact wx_
  |true=>
   refine g2_ ?_;refine q0_ ?_;rw[show lkF fW m.kind=some 264 by rw[hk];rfl]
   refine g2_ ?_;have kq:=cD c q m.list hc hcs hq.g hm.ds hm.fs2;generalize aB c q m.list=p1 at kq ⊢;refine im_ Tryz.func264 [] (g2_ ?_);refine g2_ ?_;refine .inl ⟨[oF 0,oF 1,oF 5,oF 9,oF 2,oF 6,oF 10,oF 3,oF 7,oF 11,oF 4,oF 8,oF 12,oF 13,oF 14,oF 15,oF 16,oF 17],by kernel_rfl,g2_ ?_⟩
   refine cw_ kq (g2_ ?_);refine g2_ ?_;refine .inr (.inr (.inl ⟨[oF 0,oF 4,oF 1,oF 5,oF 2,oF 6,oF 3,oF 7,oT 8,oF 9],[8],by kernel_rfl,g2_ ?_⟩))
   refine ae ?_ rfl;exact wx_
def i5(c:ar)(p:af)(m:aK)(sent:List GDesc):af:={ p with view:=dU (pUse c p m.list) p.node c.view p.view sent (pUse c p m.list) }
def nL(dr:List UInt32)(c:ar)(p:af)(m:aK):af×List aK:=
 let q:=aw c p m.frm m.inc
 if q.2=true then (aB c (i5 c q.1 m (dy c.swap (bG q.1.view m.frm) [] dr)) [],[{ pMsg q.1 4 m.frm with list:=dy c.swap (bG q.1.view m.frm) [] dr }])else (q.1,[])
def lD(c:ar)(p:af)(m:aK):af:=
 let w:=gV p.wait m.frm
 if w.2.2=true then i5 c { p with wait:=w.1 } m w.2.1 else p
def lI(c:ar)(p:af)(m:aK):af×List aK:=
 let q:=aw c p m.frm m.inc
 if q.2=true then (aB c (lD c q.1 m) [],[])else (q.1,[])
def xV(c:ar)(p:af)(m:aK):af×List aK:=
 let q:=aw c p m.frm m.inc
 if q.2=true then (aB c q.1 [],[])else (q.1,[])
theorem ai8{r:ep}(h1:r.succ.filter.length<=4000000)(h2:r.pred.filter.length<=4000000):cg (aY r):=⟨by have:=f5 r;omega,fun d hd=>by
 rcases l8 hd with ⟨_,rfl⟩|⟨_,rfl⟩
 ·exact h1
 ·exact h2⟩
theorem acU{l:List GDesc}{d:GDesc}(hl:cg l)(hd:d.filter.length<=4000000)(hl9:l.length<=3900000):cg (dY l d):=by
 refine⟨?_,fun x hx=>?_⟩
 ·simp only[dY,List.length_append,List.length_cons,List.length_take,List.length_drop];omega
 ·simp only[dY,List.mem_append,List.mem_cons]at hx;rcases hx with h|h|h
  ·exact hl.2 x (List.mem_of_mem_take h)
  ·rw[h];exact hd
  ·exact hl.2 x (List.mem_of_mem_drop h)
theorem e_{got:List GDesc}{self:UInt8}{room:Int}: ∀(r L S:List GDesc) (x:GDesc),x∈dU got self room L S r->x∈L\/x∈r
 |[],L,S,x,h=>.inl h
 | d ::r,L,S,x,h=>by
  rw[dU]at h;split at h
  ·rcases e_ r _ _ x h with h|h
   ·rcases put_mem x h with h|h
    ·exact .inl h
    ·exact .inr (by rw[h];exact List.mem_cons_self)
   ·exact .inr (List.mem_cons_of_mem _ h)
  ·split at h
   ·rcases e_ r _ _ x h with h|h
    ·exact .inl h
    ·exact .inr (List.mem_cons_of_mem _ h)
   ·split at h
    ·rcases e_ r _ _ x h with h|h
     ·rcases put_mem x h with h|h
      ·exact .inl (give_mem2 S x h)
      ·exact .inr (by rw[h];exact List.mem_cons_self)
     ·exact .inr (List.mem_cons_of_mem _ h)
    ·rcases e_ r _ _ x h with h|h
     ·exact .inl h
     ·exact .inr (List.mem_cons_of_mem _ h)
where
 give_mem2 {L got:List GDesc}: ∀(S:List GDesc) (x:GDesc),x∈(c9 L got S).1->x∈L
  |[],x,h=>h
  |s::r,x,h=>by
   rw[c9]at h;split at h
   ·exact(List.mem_filter.1 h).1
   ·exact give_mem2 r x h
theorem vi{L got:List GDesc}: ∀(S:List GDesc),(c9 L got S).1.length<=L.length
 |[]=>Nat.le_refl _
 |s::r=>by
  rw[c9];split
  ·exact List.length_filter_le _ _
  ·exact vi r
theorem im{got:List GDesc}{self:UInt8}{room:Int}: ∀(r L S:List GDesc),(dU got self room L S r).length<=L.length+r.length
 |[],L,S=>Nat.le_refl _
 | d::r,L,S=>by
  have h1:=iP (self:=self) (l:=L) d room;rw[dU];split
  ·have:=im (got:=got) (self:=self) (room:=room) r (dO L d self room).1 S;simp only[List.length_cons];omega
  ·split
   ·have:=im (got:=got) (self:=self) (room:=room) r L S;simp only[List.length_cons];omega
   ·split
    ·have h2:=vi (L:=L) (got:=got) S;have h3:=iP (self:=self) (l:=(c9 L got S).1) d ((c9 L got S).1.length+1);have:=im (got:=got) (self:=self) (room:=room) r (dO (c9 L got S).1 d self ((c9 L got S).1.length+1)).1 (c9 L got S).2.2;simp only[List.length_cons];omega
    ·have:=im (got:=got) (self:=self) (room:=room) r L (c9 L got S).2.2;simp only[List.length_cons];omega
theorem tm{many:Int}: ∀(r:List UInt32) (left out:List GDesc),(dy many left out r).length<=out.length+left.length
 |[],left,out=>by simp[dy]
 | d::r,left,out=>by
  rw[dy];split
  ·omega
  ·split
   ·rename_i x hx;have hk:=(List.getElem?_eq_some_iff.1 hx).1;have:=tm (many:=many) r (left.take (d.toNat % left.length)++left.drop (d.toNat % left.length+1)) (out++[x]);simp only[List.length_append,List.length_take,List.length_drop,List.length_cons,List.length_nil]at this;omega
   ·omega
theorem ap0{many:Int}{l:List GDesc}{nd:UInt8}{dr:List UInt32}(h:ok8 l):ok8 (dy many (bG l nd) [] dr):=by
 have h1:=tm (many:=many) dr (bG l nd) [];have h2:(bG l nd).length<=l.length:=List.length_filter_le _ _;have h3:=h.1;refine⟨by simp only[List.length_nil]at h1;omega,fun d hd=>?_⟩
 rcases pick_mem many dr _ _ d hd with h|h'
 ·exact(show ok8 l from ‹ok8 l›).2 d (List.mem_filter.1 h).1
 ·cases h'
theorem vU{c:ar}{p:af}{m:aK}{sent:List GDesc}(hc:c.schema.length<=4)(h:okH p)(hm:okMg m):okG (i5 c p m sent):=by
 refine nU h.g ?_ ?_
 ·refine Nat.le_trans (im _ _ _) ?_;have h1:=(al2 (c:=c) (p:=p) hm.list hc).1;have h2:=h.v8.1;omega
 ·intro x hx;rcases e_ _ _ _ x hx with h1|h1
  ·exact h.g.view x h1
  ·exact hm.fs2 x (qA h1)
attribute[local go_sem] gj
theorem abG(c:ar)(p:af)(m:aK)(dr:List UInt32)(hc:c.schema.length<=4)(hcs: ∀s∈c.schema,okS s)(hp:okH p)(hm:okMg m)(hu:p.up=true)(hto:m.to=p.node)(hk:m.kind=6):
  Con2 Tryz.prog 83 [.agg (aE c),.agg (ak p),.agg (encMg m),.fz 1 (dr.map aH)] (· =plR (.tup [.agg (ak (xn c p m).1),.fz 17 ((xn c p m).2.map encMg)])):=by
 refine Con2.ofEmb ?_;have hf:=bp p hp.ok;have hh:=dP c p m.frm m.inc hp.ok hp.rs;have hq:=dA (c:=c) hp m.frm m.inc;unfold xn;generalize aw c p m.frm m.inc=Q at hh hq;obtain⟨q,hd⟩:=Q;simp only at hq hh ⊢;refine en_ Tryz.func83 [.cell 8 49,.tmp 9] (g2_ ?_);refine g2_ ?_;refine cw_ hf (g2_ ?_);rw[hu,hto];refine gx_ ?_;refine cx_ hh (wg_ hu hto) (g2_ ?_);cases hd with
 |false=>
  refine g2_ ?_;refine ae ?_ rfl;exact wx_
 |true=>
  refine g2_ ?_;refine q0_ ?_;rw[show lkF fW m.kind=some 265 by rw[hk];rfl]
  refine g2_ ?_;have kq:=cD c q m.list hc hcs hq.g hm.ds hm.fs2;have hg:=je (c:=c) hq.g hm.ds hm.fs2;generalize aB c q m.list=p1 at kq hg ⊢;have k1:=i7 p1.ring hg.ok.succ hg.ok.pred;have k2:=ji p1 hg.ok;have hrl:=ai8 hg.ok.succ hg.ok.pred;have hr2:=f5 p1.ring;have k3:=oY (aY p1.ring) (pSelf p1) hrl hg.ok.filter;have k4:=gp p1 7 m.frm;have k5:=bh (dY (aY p1.ring) (pSelf p1)) (acU hrl hg.ok.filter (by omega))
  have k6:=ec [] (by simp)
  obtain⟨M1,hM1⟩: ∃M,M=pMsg p1 7 m.frm:=⟨_,rfl⟩;have hMt:M1.table=[]:=by rw[hM1];rfl
  rw[<-hM1]at k4 ⊢;generalize dY (aY p1.ring) (pSelf p1)=Wl at k3 k5 ⊢;generalize aY p1.ring=B at k1 k3;generalize pSelf p1=S at k2 k3;refine im_ Tryz.func265 [] (g2_ ?_);refine g2_ ?_;refine im_ Tryz.func264 [] (g2_ ?_);refine g2_ ?_;refine .inl ⟨[oF 0,oF 1,oF 5,oF 9,oF 2,oF 6,oF 10,oF 3,oF 7,oF 11,oF 4,oF 8,oF 12,oF 13,oF 14,oF 15,oF 16,oF 17],by kernel_rfl,g2_ ?_⟩
  refine cw_ kq (g2_ ?_);refine .inl ⟨[oF 0,oF 1,oF 6,oF 12,oF 2,oF 7,oF 13,oF 3,oF 8,oF 14,oF 4,oF 9,oF 15,oF 5,oF 10,oT 11,oT 16,oT 17,oF 18],by kernel_rfl,g2_ ?_⟩
  refine cw_ k1 (g2_ ?_);refine cw_ k2 (g2_ ?_);refine cw_ k3 (g2_ ?_);refine im_ Tryz.func177 [] (g2_ ?_);refine g2_ ?_;refine cw_ k4 (g2_ ?_);refine cw_ k5 (g2_ ?_);refine cw_ k6 (g2_ ?_);refine .inl ⟨[oF 0,oF 1,oF 5,oF 2,oF 3,oF 4,oT 6,oF 7,oF 8,oF 9,oF 10],by kernel_rfl,g2_ ?_⟩
  refine .inr (.inr (.inl ⟨[oF 0,oF 4,oF 1,oF 5,oF 2,oF 6,oF 3,oF 7,oT 8,oF 9],[8],by kernel_rfl,g2_ ?_⟩))
  refine ae ?_ rfl;exact wf_ hMt
theorem wL(c:ar)(p:af)(m:aK)(dr:List UInt32)(hc:c.schema.length<=4)(hcs: ∀s∈c.schema,okS s)(hp:okH p)(hm:okMg m)(hu:p.up=true)(hto:m.to=p.node)(hk:m.kind=3)(hdr:dr.length<=4000000):
  Con2 Tryz.prog 83 [.agg (aE c),.agg (ak p),.agg (encMg m),.fz 1 (dr.map aH)] (· =plR (.tup [.agg (ak (nL dr c p m).1),.fz 17 ((nL dr c p m).2.map encMg)])):=by
 refine Con2.ofEmb ?_;have hf:=bp p hp.ok;have hh:=dP c p m.frm m.inc hp.ok hp.rs;have hq:=dA (c:=c) hp m.frm m.inc;unfold nL;generalize aw c p m.frm m.inc=Q at hh hq;obtain⟨q,hd⟩:=Q;simp only at hq hh ⊢;refine en_ Tryz.func83 [.cell 8 49,.tmp 9] (g2_ ?_);refine g2_ ?_;refine cw_ hf (g2_ ?_);rw[hu,hto];refine gx_ ?_;refine cx_ hh (wg_ hu hto) (g2_ ?_);cases hd with
 |false=>
  refine g2_ ?_;refine ae ?_ rfl;exact wx_
 |true=>
  refine g2_ ?_;refine q0_ ?_;rw[show lkF fW m.kind=some 262 by rw[hk];rfl]
  refine g2_ ?_;have hs8:ok8 (dy c.swap (bG q.view m.frm) [] dr):=ap0 hq.v8;have k1:=aje q.view c.swap m.frm dr hq.v8 hdr;have k2:=gp q 4 m.frm;have k3:=bh _ hs8.toDs;have k4:=ec [] (by simp)
  have k5:=oq c q m.list (by omega) hq.g.ok hm.ds
  have k6:=aeT q.view (pUse c q m.list) _ q.node c.view hq.v8 (al2 hm.list hc) hs8 hq.vw;have kq:=cD c (i5 c q m (dy c.swap (bG q.view m.frm) [] dr)) [] hc hcs (vU hc hq hm) ⟨by simp,by simp⟩ (by simp)
  unfold i5 at kq ⊢;obtain⟨M1,hM1⟩: ∃M,M=pMsg q 4 m.frm:=⟨_,rfl⟩;have hMt:M1.table=[]:=by rw[hM1];rfl
  rw[<-hM1]at k2 ⊢;generalize dy c.swap (bG q.view m.frm) [] dr=sent at k1 k3 k6 kq ⊢;generalize dU (pUse c q m.list) q.node c.view q.view sent (pUse c q m.list)=V at k6 kq ⊢;generalize pUse c q m.list=U at k5 k6;refine im_ Tryz.func262 [] (g2_ ?_);refine g2_ ?_;refine .inl ⟨[oF 0,oF 5,oF 10,oF 15,oF 1,oF 6,oF 11,oF 16,oF 2,oF 7,oF 12,oF 17,oF 3,oF 8,oF 13,oF 18,oF 4,oF 9,oF 14,oF 19,oF 20],by kernel_rfl,g2_ ?_⟩
  refine cw_ k1 (g2_ ?_);refine im_ Tryz.func177 [] (g2_ ?_);refine g2_ ?_;refine cw_ k2 (g2_ ?_);refine cw_ k3 (g2_ ?_);refine cw_ k4 (g2_ ?_);refine .inl ⟨[oF 0,oF 1,oF 5,oF 2,oF 3,oF 4,oT 6,oF 7,oF 8,oF 9,oF 10],by kernel_rfl,g2_ ?_⟩
  refine im_ Tryz.func330 [] (g2_ ?_);refine g2_ ?_;refine .inl ⟨[oF 0,oF 4,oF 8,oF 1,oF 5,oF 9,oF 2,oF 6,oF 10,oF 3,oF 7,oF 11,oF 12,oF 13,oF 14],by kernel_rfl,g2_ ?_⟩
  refine cw_ k5 (g2_ ?_);refine .inl ⟨[oF 0,oF 1,oF 6,oF 7,oF 8,oF 13,oF 2,oF 9,oF 14,oF 3,oF 10,oF 15,oF 4,oF 11,oF 16,oF 5,oF 12,oF 17,oF 18,oF 19,oF 20,oF 21,oF 22],by kernel_rfl,g2_ ?_⟩
  refine cw_ k6 (g2_ ?_);refine .inl ⟨[oF 0,oF 1,oF 2,oF 3,oF 4,oF 5,oF 6,oF 7,oF 8,oF 9],by kernel_rfl,g2_ ?_⟩
  refine cw_ kq (g2_ ?_);refine .inr (.inr (.inl ⟨[oF 0,oF 4,oF 1,oF 5,oF 2,oF 6,oF 3,oF 7,oT 8,oF 9],[8],by kernel_rfl,g2_ ?_⟩))
  refine ae ?_ rfl;exact wf_ hMt
theorem aaL(c:ar)(p:af)(f:List GSpan)(hc:c.schema.length<=4)(hcs: ∀s∈c.schema,okS s)(hp:okG p)(hf:f.length<=4000000)(hn:okG { p with filter:=(bA c.schema f).1 })(hu:p.up=true):
  Con2 Tryz.prog 29 [.agg (aE c),.agg (ak p),fzS f] (· =plR (.tup [.agg (ak (if (bA c.schema f).2=0 then aB c { p with filter:=(bA c.schema f).1 } []else p)),.v (.int .i64 (bA c.schema f).2)])):=by
 refine Con2.ofEmb ?_;have k1:=bp p hp.ok;have k2:=zH c.schema f (by omega) (by omega)
 have k3:=cD c { p with filter:=(bA c.schema f).1 } [] hc hcs hn ⟨by simp,by simp⟩ (by simp)
 generalize bA c.schema f=n at k2 k3 ⊢;obtain⟨g,e⟩:=n;simp only at k2 k3 ⊢;refine en_ Tryz.func29 [.cell 6 49,.tmp 7] (g2_ ?_);refine g2_ ?_;refine cw_ k1 (g2_ ?_);rw[hu];refine g2_ ?_;refine cx_ k2 (wf_ hu) (g2_ ?_);refine cU (fun h=>?_) (fun h=>?_)
 ·rw[if_neg h];refine g2_ ?_;refine ae ?_ rfl;exact wf_ hu
 ·rw[if_pos h];refine g2_ ?_;refine cx_ k3 (wf_ hu) (g2_ ?_);refine ae ?_ rfl;exact wg_ hu h
theorem tv(c:ar)(p:af)(node:UInt8)(inc:UInt16)(hp:okP p)(hr:fQ p.reports):
  Con2 Tryz.prog 84 [.agg (aE c),.agg (ak p),.v (.int .u8 node.toNat),.v (.int .u16 inc.toNat)] (· =plR (.tup [.agg (ak (aw c p node inc).1),.v (.bool (aw c p node inc).2)])):=by
 refine Con2.ofEmb ?_;have k1:=bp p hp;have k2:=dP c p node inc hp hr;generalize aw c p node inc=Q at k2 ⊢;obtain⟨q,b⟩:=Q;refine en_ Tryz.func84 [.cell 8 49,.tmp 9] (g2_ ?_);refine g2_ ?_;refine .inr (.inr (.inl ⟨[oF 0,oF 1,oF 3,oF 4,oT 2,oF 5,oF 6,oF 7,oF 8,oF 9],[],by kernel_rfl,g2_ ?_⟩))
 refine cw_ k1 (g2_ ?_);refine cw_ k2 (g2_ ?_);refine ae ?_ rfl;exact ws_
theorem iv(c:ar)(p:af)(l:List GDesc)(hc:c.schema.length<=4)(hcs: ∀s∈c.schema,okS s)(hp:okG p)(hl:cg l)(hl2: ∀d∈l,okF d):
  Con2 Tryz.prog 85 [.agg (aE c),.agg (ak p),fzD l] (· =plR (.agg (ak (aB c p l)))):=by
 refine Con2.ofEmb ?_;have k1:=bp p hp.ok;have k2:=cD c p l hc hcs hp hl hl2;generalize aB c p l=q at k2 ⊢;refine en_ Tryz.func85 [.cell 6 49] (g2_ ?_);refine g2_ ?_;refine .inr (.inr (.inl ⟨[oF 0,oF 1,oF 3,oT 2,oF 4,oF 5],[],by kernel_rfl,g2_ ?_⟩))
 refine cw_ k1 (g2_ ?_);refine cw_ k2 (g2_ ?_);refine ae ?_ rfl;exact ws_
theorem ack{c:ar}{p:af}{node:UInt8}{inc:UInt16}:(aw c p node inc).1.wait=p.wait:=by grind [aw]
theorem rC{p:af}(h:okH p){w:GW}(hw:cg w.sent):okH { p with wait:=w }:=
 ⟨⟨⟨h.g.ok.filter,h.g.ok.view,h.g.ok.near,h.g.ok.succ,h.g.ok.pred,hw,h.g.ok.table,h.g.ok.heard,h.g.ok.rows,h.g.ok.reports,h.g.ok.evs,h.g.ok.pulls⟩,h.g.filter,h.g.view,h.g.near,h.g.succ,h.g.pred,h.g.table⟩,h.rs,h.v8,h.vw⟩
theorem afS{w:GW}{frm:UInt8}(h:ok8 w.sent):ok8 (gV w frm).1.sent/\ok8 (gV w frm).2.1:=by
 unfold gV;split
 ·exact⟨⟨Nat.zero_le _,fun d hd=>absurd (show d∈([]:List GDesc)from hd) List.not_mem_nil⟩,h⟩
 ·exact⟨h,⟨Nat.zero_le _,fun d hd=>absurd hd List.not_mem_nil⟩⟩
theorem uw(c:ar)(p:af)(m:aK)(dr:List UInt32)(hc:c.schema.length<=4)(hcs: ∀s∈c.schema,okS s)(hp:okH p)(hm:okMg m)(hu:p.up=true)(hto:m.to=p.node)(hk:m.kind=4)(hws:ok8 p.wait.sent):
  Con2 Tryz.prog 83 [.agg (aE c),.agg (ak p),.agg (encMg m),.fz 1 (dr.map aH)] (· =plR (.tup [.agg (ak (lI c p m).1),.fz 17 ((lI c p m).2.map encMg)])):=by
 refine Con2.ofEmb ?_;have hf:=bp p hp.ok;have hh:=dP c p m.frm m.inc hp.ok hp.rs;have hq:=dA (c:=c) hp m.frm m.inc;have hqw:=ack (c:=c) (p:=p) (node:=m.frm) (inc:=m.inc);unfold lI;generalize aw c p m.frm m.inc=Q at hh hq hqw;obtain⟨q,hd⟩:=Q;simp only at hq hh hqw ⊢;refine en_ Tryz.func83 [.cell 8 49,.tmp 9] (g2_ ?_);refine g2_ ?_;refine cw_ hf (g2_ ?_);rw[hu,hto];refine gx_ ?_;refine cx_ hh (wg_ hu hto) (g2_ ?_);cases hd with
 |false=>
  refine g2_ ?_;refine ae ?_ rfl;exact wx_
 | true=>
  refine g2_ ?_;refine q0_ ?_;rw[show lkF fW m.kind=some 263 by rw[hk];rfl]
  refine g2_ ?_;have hqs:ok8 q.wait.sent:=by rw[hqw];exact hws
  obtain⟨hw1,hw2⟩:=afS (frm:=m.frm) hqs;have k1:=alX q.wait m.frm hqs;have hq3:=rC hq (w:=(gV q.wait m.frm).1) hw1.toDs;have k5:Con2 Tryz.prog 150 [.agg (aE c),.agg (ak { q with wait:=(gV q.wait m.frm).1 }),fzD m.list] (· =plR (fzD (pUse c q m.list))):=oq c { q with wait:=(gV q.wait m.frm).1 } m.list (by omega) hq3.g.ok hm.ds
  have k6:=aeT q.view (pUse c q m.list) (gV q.wait m.frm).2.1 q.node c.view hq.v8 (al2 hm.list hc) hw2 hq.vw;have kq1:=cD c q [] hc hcs hq.g ⟨by simp,by simp⟩ (by simp)
  have kq2:=cD c (i5 c { q with wait:=(gV q.wait m.frm).1 } m (gV q.wait m.frm).2.1) [] hc hcs (vU hc hq3 hm) ⟨by simp,by simp⟩ (by simp)
  have hans:lD c q m=if (gV q.wait m.frm).2.2=true then i5 c { q with wait:=(gV q.wait m.frm).1 } m (gV q.wait m.frm).2.1 else q:=rfl
  have hmg:i5 c { q with wait:=(gV q.wait m.frm).1 } m (gV q.wait m.frm).2.1={ q with wait:=(gV q.wait m.frm).1,view:=dU (pUse c q m.list) q.node c.view q.view (gV q.wait m.frm).2.1 (pUse c q m.list) }:=rfl;rw[hans];rw[hmg]at kq2 ⊢;generalize gV q.wait m.frm=a at k1 k5 k6 kq2 ⊢;obtain⟨w,sent,ok⟩:=a;simp only at k1 k5 k6 kq2 ⊢;generalize dU (pUse c q m.list) q.node c.view q.view sent (pUse c q m.list)=V at k6 kq2 ⊢;generalize pUse c q m.list=U at k5 k6;refine im_ Tryz.func263 [] (g2_ ?_);refine g2_ ?_;refine .inr (.inl ⟨(.fl 0 (.fl 5 (.fl 1 (.fl 6 (.fl 2 (.fl 7 (.fl 3 (.fl 8 (.fl 4 (.fl 9 (.eff 10 false (.fl 11 (.fl 12 (.fl 13 (.fl 14 (.eff 15 true (.eff 16 false (.fl 17 (.fl 18 .done)) .no) .no))))) (.eff 15 true (.eff 10 false (.fl 11 (.fl 12 (.fl 13 (.fl 14 (.eff 16 false (.fl 17 (.fl 18 .done)) .no))))) .no) .no)))))))))))),by kernel_rfl,g2_ ?_⟩)
  repeat' (first
   |(with_reducible refine And.intro ?_ ?_)
   |(refine CallS.eqW k1 ?_ (.inl ?_) ?_;(focus (simp-implicitDefEqProofs only[go_sem,ab];done));(focus (simp-implicitDefEqProofs only[go_sem,ab];done));refine g2_ ?_)
   |(with_reducible refine av ?_;refine g2_ ?_))
  all_goals
   cases ok with
   |false=>
    have kq:=kq1;rw[if_neg (by decide)]
    refine g2_ ?_;exact q1_ kq
   |true=>
    have kq:=kq2;rw[if_pos rfl];refine g2_ ?_;refine im_ Tryz.func330 [] (g2_ ?_);refine g2_ ?_;refine .inl ⟨[oF 0,oF 4,oF 8,oF 1,oF 5,oF 9,oF 2,oF 6,oF 10,oF 3,oF 7,oF 11,oF 12,oF 13,oF 14],by kernel_rfl,g2_ ?_⟩
    refine cw_ k5 (g2_ ?_);refine .inl ⟨[oF 0,oF 1,oF 6,oF 7,oF 8,oF 13,oF 2,oF 9,oF 14,oF 3,oF 10,oF 15,oF 4,oF 11,oF 16,oF 5,oF 12,oF 17,oF 18,oF 19,oF 20,oF 21,oF 22],by kernel_rfl,g2_ ?_⟩
    refine cw_ k6 (g2_ ?_);exact q1_ kq
theorem acO(c:ar)(p:af)(m:aK)(dr:List UInt32)(hc:c.schema.length<=4)(hcs: ∀s∈c.schema,okS s)(hp:okH p)(hu:p.up=true)(hto:m.to=p.node)(hk:lkF fW m.kind=none):
  Con2 Tryz.prog 83 [.agg (aE c),.agg (ak p),.agg (encMg m),.fz 1 (dr.map aH)] (· =plR (.tup [.agg (ak (xV c p m).1),.fz 17 ((xV c p m).2.map encMg)])):=by
 refine Con2.ofEmb ?_;have hf:=bp p hp.ok;have hh:=dP c p m.frm m.inc hp.ok hp.rs;have hq:=dA (c:=c) hp m.frm m.inc;unfold xV;generalize aw c p m.frm m.inc=Q at hh hq;obtain⟨q,hd⟩:=Q;simp only at hq hh ⊢;have kq:=cD c q [] hc hcs hq.g ⟨by simp,by simp⟩ (by simp)
 generalize aB c q []=q' at kq ⊢;refine en_ Tryz.func83 [.cell 8 49,.tmp 9] (g2_ ?_);refine g2_ ?_;refine cw_ hf (g2_ ?_);rw[hu,hto];refine gx_ ?_;refine cx_ hh (wg_ hu hto) (g2_ ?_);cases hd with
 |false=>
  refine g2_ ?_;refine ae ?_ rfl;exact wx_
 |true=>
  refine g2_ ?_;refine q0_ ?_;rw[hk];refine gf_ @Option.isSome_none.{0} ?_;exact q1_ kq
theorem aoo(c:ar)(p:af)(m:aK)(dr:List UInt32)(hp:okP p)(hto:m.to≠p.node):
  Con2 Tryz.prog 83 [.agg (aE c),.agg (ak p),.agg (encMg m),.fz 1 (dr.map aH)] (· =plR (.tup [.agg (ak p),.fz 17 []])):=by
 cases hu:p.up with
 |false=>exact vM c p m dr hp hu
 |true=>
 refine Con2.ofEmb ?_;have hf:=bp p hp;refine en_ Tryz.func83 [.cell 8 49,.tmp 9] (g2_ ?_);refine g2_ ?_;refine cw_ hf (g2_ ?_);rw[hu];refine g2_ ?_;rw[show((m.to.toNat:Int) !=(p.node.toNat:Int))=true from bne_iff_ne.2 (fun h=>hto ((ap9 _ _).1 h))]
 refine g2_ ?_;refine ae ?_ rfl;exact wf_ hu
