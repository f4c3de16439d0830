import Derived.Test.YthoihfighiolmaaGreatPt38
import Derived.Test.YthoihfighiolmaaGreatPt40
set_option linter.unusedSectionVars false
set_option linter.unusedSimpArgs false
set_option linter.unusedVariables false
set_option maxRecDepth 10000
set_option maxHeartbeats 4000000
namespace Go.Proofs.YthoihfighiolmaaGreat.V
open Go.Eng
theorem zt(l m:List an)(self:UInt8):(ct l m self).length=l.length:=by simp[ct]
theorem mV{p:ah}(h:okH p)(t:List an):okH (bD p t):=oc h (by rw[zt];exact h.g.table) (gw h.rs _)
def d_(c:ar)(p:ah)(m:bo):ah:={ bD p m.table with view:=dy (bD p m.table).node c.view (bD p m.table).view (pUse c (bD p m.table) m.list) }
def gu(c:ar)(p:ah)(m:bo):ah×List bo:=
 let q:=aI c p m.frm m.inc
 if q.2=true then (aJ c (d_ c q.1 m) [],[])else (q.1,[])
def pM(c:ar)(p:ah)(m:bo):ah×List bo:=
 let q:=aI c p m.frm m.inc
 if q.2=true then (aJ c { q.1 with table:=eA q.1.table m.frm m.inc } [],[])else (q.1,[])
theorem aex{c:ar}{p:ah}{l:List GDesc}(h1:l.length<=1048576)(h2:c.schema.length<=4):ok8 (pUse c p l):=by
 have h3:=List.length_filter_le (bp c) l;have h4:=List.length_filter_le (ck p) (l.filter (bp c));exact⟨by show(List.filter (ck p) (l.filter (bp c))).length<=1100000;omega,fun d hd=>aeH h2 (List.mem_filter.1 (List.mem_filter.1 hd).1).2⟩
theorem qh{c:ar}{p:ah}{l:List GDesc}{d:GDesc}(h:d∈pUse c p l):bp c d=true:=(List.mem_filter.1 (List.mem_filter.1 h).1).2
theorem n7{c:ar}{p:ah}{l:List GDesc}{d:GDesc}(h:d∈pUse c p l):d∈l:=(List.mem_filter.1 (List.mem_filter.1 h).1).1
theorem rp{self:UInt8}{room:Int}: ∀(r l:List GDesc),(dy self room l r).length<=l.length+r.length
 |[],l=>Nat.le_refl _
 |d::r,l=>by
  rw[dy];have h1:=rp (self:=self) (room:=room) r (bH l d self room).1;have h2:=hX (self:=self) (l:=l) d room;rw[List.length_cons];omega
attribute [local go_sem] zDesc aP af fzD plR bb a_ aE bj aC ak bk cR z8 z16 z32 z64 encMg aH dE List.map_cons List.map_nil
theorem lW(c:ar)(p:ah)(m:bo)(dr:List UInt32)(hc:c.schema.length<=4)(hcs: ∀s∈c.schema,okS s)(hp:okH p)(hm:okMg m)(hu:p.up=true)(hto:m.to=p.node)(hk:m.kind=2):
  Con2 Tryz.prog 44 [.agg (aC c),.agg (ak p),.agg (encMg m),.fz 1 (dr.map aZ)] (· =plR (.tup [.agg (ak (gu c p m).1),.fz 17 ((gu c p m).2.map encMg)])):=by
 refine Con2.ofEmb ?_;have hf:=bn p hp.ok;have hh:=dT c p m.frm m.inc hp.ok hp.rs;have hq:=ea (c:=c) hp m.frm m.inc;unfold gu;generalize aI c p m.frm m.inc=Q at hh hq;obtain⟨q,hd⟩:=Q;simp only at hq hh ⊢;refine en_ Tryz.func44 [.cell 8 49,.tmp 9] (g2_ ?_);refine g2_ ?_;refine cw_ hf (g2_ ?_);rw[hu,hto];refine gx_ ?_;refine cx_ hh (wg_ hu hto) (g2_ ?_);cases hd with
 |false=>
  refine g2_ ?_;refine ae ?_ rfl;exact wx_
 | true=>
  refine g2_ ?_;refine q0_ ?_;rw[show lkF fF m.kind=some 207 by rw[hk];rfl]
  refine g2_ ?_;have hl:=mV hq m.table;have k1:=qu q m.table hq.g.ok (by have:=hq.g.table;omega) (by have:=hm.table;omega) hq.rs
  have k2:=l8 c (bD q m.table) m.list (by omega) hl.g.ok hm.ds
  have k3:=al2 (bD q m.table).view (pUse c (bD q m.table) m.list) (bD q m.table).node c.view hl.v8 (aex hm.list hc) hl.vw
  have kq:=cx c (d_ c q m) [] hc hcs (ix hl.g (by
    refine Nat.le_trans (rp _ _) ?_;have h1:=(aex (c:=c) (p:=bD q m.table) hm.list hc).1;have h2:=hl.v8.1;omega) (fun x hx=>by
   rcases pc _ _ x hx with h|h
   ·exact hq.g.view x h
   ·exact hm.fs2 x (n7 h))) ⟨by simp,by simp⟩ (by simp)
  unfold d_ at kq ⊢;generalize bD q m.table=p1 at k1 k2 k3 kq ⊢;generalize dy p1.node c.view p1.view (pUse c p1 m.list)=V at k3 kq ⊢;generalize pUse c p1 m.list=U at k2 k3;refine im_ Tryz.func207 [] (g2_ ?_);refine g2_ ?_;refine .inl ⟨[oF 0,oF 1,oF 5,oF 2,oF 6,oF 3,oF 7,oF 4,oF 8,oF 9,oF 10,oF 11,oF 12,oF 13],by kernel_rfl,g2_ ?_⟩
  refine cw_ k1 (g2_ ?_);refine .inl ⟨[oF 0,oF 1,oF 6,oF 10,oF 14,oF 20,oF 25,oF 2,oF 7,oF 11,oF 15,oF 21,oF 26,oF 3,oF 8,oF 12,oF 16,oF 22,oF 27,oF 4,oF 9,oF 13,oF 17,oF 23,oF 28,oF 5,oF 18,oF 24,oF 29,oT 19,oF 30,oF 31,oF 32,oF 33,oF 34],by kernel_rfl,g2_ ?_⟩
  refine cw_ k2 (g2_ ?_);refine cw_ k3 (g2_ ?_);exact q1_ kq
theorem yB(c:ar)(p:ah)(m:bo)(dr:List UInt32)(hc:c.schema.length<=4)(hcs: ∀s∈c.schema,okS s)(hp:okH p)(hm:okMg m)(hu:p.up=true)(hto:m.to=p.node)(hk:m.kind=9):
  Con2 Tryz.prog 44 [.agg (aC c),.agg (ak p),.agg (encMg m),.fz 1 (dr.map aZ)] (· =plR (.tup [.agg (ak (pM c p m).1),.fz 17 ((pM c p m).2.map encMg)])):=by
 refine Con2.ofEmb ?_;have hf:=bn p hp.ok;have hh:=dT c p m.frm m.inc hp.ok hp.rs;have hq:=ea (c:=c) hp m.frm m.inc;unfold pM;generalize aI c p m.frm m.inc=Q at hh hq;obtain⟨q,hd⟩:=Q;simp only at hq hh ⊢;refine en_ Tryz.func44 [.cell 8 49,.tmp 9] (g2_ ?_);refine g2_ ?_;refine cw_ hf (g2_ ?_);rw[hu,hto];refine gx_ ?_;refine cx_ hh (wg_ hu hto) (g2_ ?_);cases hd with
 |false=>
  refine g2_ ?_;refine ae ?_ rfl;exact wx_
 |true=>
  refine g2_ ?_;refine q0_ ?_;rw[show lkF fF m.kind=some 213 by rw[hk];rfl]
  refine g2_ ?_;have ht:(eA q.table m.frm m.inc).length=q.table.length:=by simp[eA]
  have hg:=hq.g.table;have k1:=acU q.table m.frm m.inc (by omega)
  have kq:=cx c { q with table:=eA q.table m.frm m.inc } [] hc hcs (abJ hq.g (by rw[ht];exact hg) hq.rs) ⟨by simp,by simp⟩ (by simp)
  generalize eA q.table m.frm m.inc=T at k1 kq ⊢;refine im_ Tryz.func213 [] (g2_ ?_);refine g2_ ?_;refine .inl ⟨[oF 0,oF 1,oF 6,oF 11,oF 2,oF 7,oF 12,oF 3,oF 8,oF 13,oF 4,oF 9,oF 14,oF 5,oF 10,oF 15,oF 16,oF 17,oF 18,oF 19,oF 20],by kernel_rfl,g2_ ?_⟩
  refine cw_ k1 (g2_ ?_);exact q1_ kq
def xa(c:ar)(p:ah)(m:bo):ah×List bo:=
 let q:=aI c p m.frm m.inc
 if q.2=true then (aJ c (bD q.1 m.table) [],[])else (q.1,[])
def my(c:ar)(p:ah)(m:bo):ah×List bo:=
 let q:=aI c p m.frm m.inc
 if q.2=true then (aJ c q.1 m.list,[])else (q.1,[])
def p4(c:ar)(p:ah)(m:bo):ah×List bo:=
 let q:=aI c p m.frm m.inc
 if q.2=true then (aJ c q.1 m.list,[{ pMsg (aJ c q.1 m.list) 7 m.frm with list:=bE (aw (aJ c q.1 m.list).ring) (pSelf (aJ c q.1 m.list)) }])else (q.1,[])
theorem iH{c:ar}{p:ah}{l:List GDesc}(hp:okG p)(hl:aR l)(hl2: ∀d∈l,okF d):okG (aJ c p l):=by
 obtain⟨m1,m2⟩:=lT (c:=c) hp hl hl2;have m2:=m2 c.near;have u2:=(m2.u p.node).1;have hv:=m2.ds (pCur p p.view) (by simp)
 have hv2:=m2.f (pCur p p.view) (by simp)
 have hn:=m2.ds (cG p.filter p.node c.near [pCur p p.view,pCur p p.near,aw (bJ p p.ring),pUse c p l]) (by simp)
 have hn2:=m2.f (cG p.filter p.node c.near [pCur p p.view,pCur p p.near,aw (bJ p p.ring),pUse c p l]) (by simp)
 have near: ∀far here known,known≠[]->dv far here c.schema known∈known:=fun far here known h=>by
  have hb:=iA (far:=far) (here:=here) (dom:=c.schema) h known.length;rw[dv,List.getD_eq_getElem?_getD,List.getElem?_eq_getElem hb];exact List.getElem_mem hb
 have hr:okF (aJ c p l).ring.succ/\okF (aJ c p l).ring.pred:=by
  show okF (bN _ _ _).succ/\okF (bN _ _ _).pred;unfold bN;split
  ·exact⟨rG,rG⟩
  ·rename_i h;exact⟨u2 _ (near _ _ _ h),u2 _ (near _ _ _ h)⟩
 exact⟨⟨hp.ok.filter,hv,hn,hr.1.1,hr.2.1,hp.ok.sent,hp.ok.table,hp.ok.heard,hp.ok.rows,hp.ok.reports,hp.ok.evs,hp.ok.pulls⟩,hp.filter,hv2,hn2,hr.1,hr.2,hp.table⟩
theorem aer(c:ar)(p:ah)(m:bo)(dr:List UInt32)(hc:c.schema.length<=4)(hcs: ∀s∈c.schema,okS s)(hp:okH p)(hm:okMg m)(hu:p.up=true)(hto:m.to=p.node)(hk:m.kind=8):
  Con2 Tryz.prog 44 [.agg (aC c),.agg (ak p),.agg (encMg m),.fz 1 (dr.map aZ)] (· =plR (.tup [.agg (ak (xa c p m).1),.fz 17 ((xa c p m).2.map encMg)])):=by
 refine Con2.ofEmb ?_;have hf:=bn p hp.ok;have hh:=dT c p m.frm m.inc hp.ok hp.rs;have hq:=ea (c:=c) hp m.frm m.inc;unfold xa;generalize aI c p m.frm m.inc=Q at hh hq;obtain⟨q,hd⟩:=Q;simp only at hq hh ⊢;refine en_ Tryz.func44 [.cell 8 49,.tmp 9] (g2_ ?_);refine g2_ ?_;refine cw_ hf (g2_ ?_);rw[hu,hto];refine gx_ ?_;refine cx_ hh (wg_ hu hto) (g2_ ?_);cases hd with
 |false=>
  refine g2_ ?_;refine ae ?_ rfl;exact wx_
 |true=>
  refine g2_ ?_;refine q0_ ?_;rw[show lkF fF m.kind=some 212 by rw[hk];rfl]
  refine g2_ ?_;have hl:=mV hq m.table;have k1:=qu q m.table hq.g.ok (by have:=hq.g.table;omega) (by have:=hm.table;omega) hq.rs
  have kq:=cx c (bD q m.table) [] hc hcs hl.g ⟨by simp,by simp⟩ (by simp)
  generalize bD q m.table=p1 at k1 kq ⊢;refine im_ Tryz.func212 [] (g2_ ?_);refine g2_ ?_;refine .inl ⟨[oF 0,oF 1,oF 5,oF 2,oF 6,oF 3,oF 7,oF 4,oF 8,oF 9,oF 10,oF 11,oF 12,oF 13],by kernel_rfl,g2_ ?_⟩
  refine cw_ k1 (g2_ ?_);exact q1_ kq
theorem tl(c:ar)(p:ah)(m:bo)(dr:List UInt32)(hc:c.schema.length<=4)(hcs: ∀s∈c.schema,okS s)(hp:okH p)(hm:okMg m)(hu:p.up=true)(hto:m.to=p.node)(hk:m.kind=5\/m.kind=7):
  Con2 Tryz.prog 44 [.agg (aC c),.agg (ak p),.agg (encMg m),.fz 1 (dr.map aZ)] (· =plR (.tup [.agg (ak (my c p m).1),.fz 17 ((my c p m).2.map encMg)])):=by
 rcases hk with hk|hk
 all_goals
  refine Con2.ofEmb ?_;have hf:=bn p hp.ok;have hh:=dT c p m.frm m.inc hp.ok hp.rs;have hq:=ea (c:=c) hp m.frm m.inc;unfold my;generalize aI c p m.frm m.inc=Q at hh hq;obtain⟨q,hd⟩:=Q;simp only at hq hh ⊢;refine en_ Tryz.func44 [.cell 8 49,.tmp 9] (g2_ ?_);refine g2_ ?_;refine cw_ hf (g2_ ?_);rw[hu,hto];refine gx_ ?_;refine cx_ hh (wg_ hu hto) (g2_ ?_);cases hd with
  |false=>
   refine g2_ ?_;refine ae ?_ rfl;exact wx_
  |true=>
   refine g2_ ?_;refine q0_ ?_;rw[show lkF fF m.kind=some 210 by rw[hk];rfl]
   refine g2_ ?_;have kq:=cx c q m.list hc hcs hq.g hm.ds hm.fs2;generalize aJ c q m.list=p1 at kq ⊢;refine im_ Tryz.func210 [] (g2_ ?_);refine g2_ ?_;refine .inl ⟨[oF 0,oF 1,oF 5,oF 9,oF 2,oF 6,oF 10,oF 3,oF 7,oF 11,oF 4,oF 8,oF 12,oF 13,oF 14,oF 15,oF 16,oF 17],by kernel_rfl,g2_ ?_⟩
   refine cw_ kq (g2_ ?_);refine g2_ ?_;refine .inr (.inr (.inl ⟨[oF 0,oF 4,oF 1,oF 5,oF 2,oF 6,oF 3,oF 7,oT 8,oF 9],[8],by kernel_rfl,g2_ ?_⟩))
   refine ae ?_ rfl;exact wx_
def gr(c:ar)(p:ah)(m:bo)(sent:List GDesc):ah:={ p with view:=cC (pUse c p m.list) p.node c.view p.view sent (pUse c p m.list) }
def je(dr:List UInt32)(c:ar)(p:ah)(m:bo):ah×List bo:=
 let q:=aI c p m.frm m.inc
 if q.2=true then (aJ c (gr c q.1 m (bP c.swap (aD q.1.view m.frm) [] dr)) [],[{ pMsg q.1 4 m.frm with list:=bP c.swap (aD q.1.view m.frm) [] dr }])else (q.1,[])
def j4(c:ar)(p:ah)(m:bo):ah:=
 let w:=du p.wait m.frm
 if w.2.2=true then gr c { p with wait:=w.1 } m w.2.1 else p
def iF(c:ar)(p:ah)(m:bo):ah×List bo:=
 let q:=aI c p m.frm m.inc
 if q.2=true then (aJ c (j4 c q.1 m) [],[])else (q.1,[])
def oW(c:ar)(p:ah)(m:bo):ah×List bo:=
 let q:=aI c p m.frm m.inc
 if q.2=true then (aJ c q.1 [],[])else (q.1,[])
theorem ahP{r:b9}(h1:r.succ.filter.length<=4000000)(h2:r.pred.filter.length<=4000000):aR (aw r):=⟨by have:=cQ r;omega,fun d hd=>by
 rcases dU hd with ⟨_,rfl⟩|⟨_,rfl⟩
 ·exact h1
 ·exact h2⟩
theorem zW{l:List GDesc}{d:GDesc}(hl:aR l)(hd:d.filter.length<=4000000)(hl9:l.length<=3900000):aR (bE l d):=by
 refine⟨?_,fun x hx=>?_⟩
 ·simp only[bE,List.length_append,List.length_cons,List.length_take,List.length_drop];omega
 ·simp only[bE,List.mem_append,List.mem_cons]at hx;rcases hx with h|h|h
  ·exact hl.2 x (List.mem_of_mem_take h)
  ·rw[h];exact hd
  ·exact hl.2 x (List.mem_of_mem_drop h)
theorem eJ{got:List GDesc}{self:UInt8}{room:Int}: ∀(r L S:List GDesc) (x:GDesc),x∈cC got self room L S r->x∈L\/x∈r
 |[],L,S,x,h=>.inl h
 | d ::r,L,S,x,h=>by
  rw[cC]at h;split at h
  ·rcases eJ r _ _ x h with h|h
   ·rcases put_mem x h with h|h
    ·exact .inl h
    ·exact .inr (by rw[h];exact List.mem_cons_self)
   ·exact .inr (List.mem_cons_of_mem _ h)
  ·split at h
   ·rcases eJ r _ _ x h with h|h
    ·exact .inl h
    ·exact .inr (List.mem_cons_of_mem _ h)
   ·split at h
    ·rcases eJ r _ _ x h with h|h
     ·rcases put_mem x h with h|h
      ·exact .inl (give_mem2 S x h)
      ·exact .inr (by rw[h];exact List.mem_cons_self)
     ·exact .inr (List.mem_cons_of_mem _ h)
    ·rcases eJ r _ _ x h with h|h
     ·exact .inl h
     ·exact .inr (List.mem_cons_of_mem _ h)
where
 give_mem2 {L got:List GDesc}: ∀(S:List GDesc) (x:GDesc),x∈(cw L got S).1->x∈L
  |[],x,h=>h
  |s::r,x,h=>by
   rw[cw]at h;split at h
   ·exact(List.mem_filter.1 h).1
   ·exact give_mem2 r x h
theorem sT{L got:List GDesc}: ∀(S:List GDesc),(cw L got S).1.length<=L.length
 |[]=>Nat.le_refl _
 |s::r=>by
  rw[cw];split
  ·exact List.length_filter_le _ _
  ·exact sT r
theorem gD{got:List GDesc}{self:UInt8}{room:Int}: ∀(r L S:List GDesc),(cC got self room L S r).length<=L.length+r.length
 |[],L,S=>Nat.le_refl _
 | d::r,L,S=>by
  have h1:=hX (self:=self) (l:=L) d room;rw[cC];split
  ·have:=gD (got:=got) (self:=self) (room:=room) r (bH L d self room).1 S;simp only[List.length_cons];omega
  ·split
   ·have:=gD (got:=got) (self:=self) (room:=room) r L S;simp only[List.length_cons];omega
   ·split
    ·have h2:=sT (L:=L) (got:=got) S;have h3:=hX (self:=self) (l:=(cw L got S).1) d ((cw L got S).1.length+1);have:=gD (got:=got) (self:=self) (room:=room) r (bH (cw L got S).1 d self ((cw L got S).1.length+1)).1 (cw L got S).2.2;simp only[List.length_cons];omega
    ·have:=gD (got:=got) (self:=self) (room:=room) r L (cw L got S).2.2;simp only[List.length_cons];omega
theorem mc{many:Int}: ∀(r:List UInt32) (left out:List GDesc),(bP many left out r).length<=out.length+left.length
 |[],left,out=>by simp[bP]
 | d::r,left,out=>by
  rw[bP];split
  ·omega
  ·split
   ·rename_i x hx;have hk:=(List.getElem?_eq_some_iff.1 hx).1;have:=mc (many:=many) r (left.take (d.toNat % left.length)++left.drop (d.toNat % left.length+1)) (out++[x]);simp only[List.length_append,List.length_take,List.length_drop,List.length_cons,List.length_nil]at this;omega
   ·omega
theorem akK{many:Int}{l:List GDesc}{nd:UInt8}{dr:List UInt32}(h:ok8 l):ok8 (bP many (aD l nd) [] dr):=by
 have h1:=mc (many:=many) dr (aD l nd) [];have h2:(aD l nd).length<=l.length:=List.length_filter_le _ _;have h3:=h.1;refine⟨by simp only[List.length_nil]at h1;omega,fun d hd=>?_⟩
 rcases qa many dr _ _ d hd with h|h'
 ·exact(show ok8 l from ‹ok8 l›).2 d (List.mem_filter.1 h).1
 ·cases h'
theorem rO{c:ar}{p:ah}{m:bo}{sent:List GDesc}(hc:c.schema.length<=4)(h:okH p)(hm:okMg m):okG (gr c p m sent):=by
 refine ix h.g ?_ ?_
 ·refine Nat.le_trans (gD _ _ _) ?_;have h1:=(aex (c:=c) (p:=p) hm.list hc).1;have h2:=h.v8.1;omega
 ·intro x hx;rcases eJ _ _ _ x hx with h1|h1
  ·exact h.g.view x h1
  ·exact hm.fs2 x (n7 h1)
attribute[local go_sem] eI
theorem zG(c:ar)(p:ah)(m:bo)(dr:List UInt32)(hc:c.schema.length<=4)(hcs: ∀s∈c.schema,okS s)(hp:okH p)(hm:okMg m)(hu:p.up=true)(hto:m.to=p.node)(hk:m.kind=6):
  Con2 Tryz.prog 44 [.agg (aC c),.agg (ak p),.agg (encMg m),.fz 1 (dr.map aZ)] (· =plR (.tup [.agg (ak (p4 c p m).1),.fz 17 ((p4 c p m).2.map encMg)])):=by
 refine Con2.ofEmb ?_;have hf:=bn p hp.ok;have hh:=dT c p m.frm m.inc hp.ok hp.rs;have hq:=ea (c:=c) hp m.frm m.inc;unfold p4;generalize aI c p m.frm m.inc=Q at hh hq;obtain⟨q,hd⟩:=Q;simp only at hq hh ⊢;refine en_ Tryz.func44 [.cell 8 49,.tmp 9] (g2_ ?_);refine g2_ ?_;refine cw_ hf (g2_ ?_);rw[hu,hto];refine gx_ ?_;refine cx_ hh (wg_ hu hto) (g2_ ?_);cases hd with
 |false=>
  refine g2_ ?_;refine ae ?_ rfl;exact wx_
 |true=>
  refine g2_ ?_;refine q0_ ?_;rw[show lkF fF m.kind=some 211 by rw[hk];rfl]
  refine g2_ ?_;have kq:=cx c q m.list hc hcs hq.g hm.ds hm.fs2;have hg:=iH (c:=c) hq.g hm.ds hm.fs2;generalize aJ c q m.list=p1 at kq hg ⊢;have k1:=j7 p1.ring hg.ok.succ hg.ok.pred;have k2:=fD p1 hg.ok;have hrl:=ahP hg.ok.succ hg.ok.pred;have hr2:=cQ p1.ring;have k3:=mm (aw p1.ring) (pSelf p1) hrl hg.ok.filter;have k4:=fe p1 7 m.frm;have k5:=bh (bE (aw p1.ring) (pSelf p1)) (zW hrl hg.ok.filter (by omega))
  have k6:=fw [] (by simp)
  obtain⟨M1,hM1⟩: ∃M,M=pMsg p1 7 m.frm:=⟨_,rfl⟩;have hMt:M1.table=[]:=by rw[hM1];rfl
  rw[<-hM1]at k4 ⊢;generalize bE (aw p1.ring) (pSelf p1)=Wl at k3 k5 ⊢;generalize aw p1.ring=B at k1 k3;generalize pSelf p1=S at k2 k3;refine im_ Tryz.func211 [] (g2_ ?_);refine g2_ ?_;refine im_ Tryz.func210 [] (g2_ ?_);refine g2_ ?_;refine .inl ⟨[oF 0,oF 1,oF 5,oF 9,oF 2,oF 6,oF 10,oF 3,oF 7,oF 11,oF 4,oF 8,oF 12,oF 13,oF 14,oF 15,oF 16,oF 17],by kernel_rfl,g2_ ?_⟩
  refine cw_ kq (g2_ ?_);refine .inl ⟨[oF 0,oF 1,oF 6,oF 12,oF 2,oF 7,oF 13,oF 3,oF 8,oF 14,oF 4,oF 9,oF 15,oF 5,oF 10,oT 11,oT 16,oT 17,oF 18],by kernel_rfl,g2_ ?_⟩
  refine cw_ k1 (g2_ ?_);refine cw_ k2 (g2_ ?_);refine cw_ k3 (g2_ ?_);refine im_ Tryz.func120 [] (g2_ ?_);refine g2_ ?_;refine cw_ k4 (g2_ ?_);refine cw_ k5 (g2_ ?_);refine cw_ k6 (g2_ ?_);refine .inl ⟨[oF 0,oF 1,oF 5,oF 2,oF 3,oF 4,oT 6,oF 7,oF 8,oF 9,oF 10],by kernel_rfl,g2_ ?_⟩
  refine .inr (.inr (.inl ⟨[oF 0,oF 4,oF 1,oF 5,oF 2,oF 6,oF 3,oF 7,oT 8,oF 9],[8],by kernel_rfl,g2_ ?_⟩))
  refine ae ?_ rfl;exact wf_ hMt
theorem ug(c:ar)(p:ah)(m:bo)(dr:List UInt32)(hc:c.schema.length<=4)(hcs: ∀s∈c.schema,okS s)(hp:okH p)(hm:okMg m)(hu:p.up=true)(hto:m.to=p.node)(hk:m.kind=3)(hdr:dr.length<=4000000):
  Con2 Tryz.prog 44 [.agg (aC c),.agg (ak p),.agg (encMg m),.fz 1 (dr.map aZ)] (· =plR (.tup [.agg (ak (je dr c p m).1),.fz 17 ((je dr c p m).2.map encMg)])):=by
 refine Con2.ofEmb ?_;have hf:=bn p hp.ok;have hh:=dT c p m.frm m.inc hp.ok hp.rs;have hq:=ea (c:=c) hp m.frm m.inc;unfold je;generalize aI c p m.frm m.inc=Q at hh hq;obtain⟨q,hd⟩:=Q;simp only at hq hh ⊢;refine en_ Tryz.func44 [.cell 8 49,.tmp 9] (g2_ ?_);refine g2_ ?_;refine cw_ hf (g2_ ?_);rw[hu,hto];refine gx_ ?_;refine cx_ hh (wg_ hu hto) (g2_ ?_);cases hd with
 |false=>
  refine g2_ ?_;refine ae ?_ rfl;exact wx_
 |true=>
  refine g2_ ?_;refine q0_ ?_;rw[show lkF fF m.kind=some 208 by rw[hk];rfl]
  refine g2_ ?_;have hs8:ok8 (bP c.swap (aD q.view m.frm) [] dr):=akK hq.v8;have k1:=ahf q.view c.swap m.frm dr hq.v8 hdr;have k2:=fe q 4 m.frm;have k3:=bh _ hs8.toDs;have k4:=fw [] (by simp)
  have k5:=l8 c q m.list (by omega) hq.g.ok hm.ds
  have k6:=abo q.view (pUse c q m.list) _ q.node c.view hq.v8 (aex hm.list hc) hs8 hq.vw;have kq:=cx c (gr c q m (bP c.swap (aD q.view m.frm) [] dr)) [] hc hcs (rO hc hq hm) ⟨by simp,by simp⟩ (by simp)
  unfold gr at kq ⊢;obtain⟨M1,hM1⟩: ∃M,M=pMsg q 4 m.frm:=⟨_,rfl⟩;have hMt:M1.table=[]:=by rw[hM1];rfl
  rw[<-hM1]at k2 ⊢;generalize bP c.swap (aD q.view m.frm) [] dr=sent at k1 k3 k6 kq ⊢;generalize cC (pUse c q m.list) q.node c.view q.view sent (pUse c q m.list)=V at k6 kq ⊢;generalize pUse c q m.list=U at k5 k6;refine im_ Tryz.func208 [] (g2_ ?_);refine g2_ ?_;refine .inl ⟨[oF 0,oF 5,oF 10,oF 15,oF 1,oF 6,oF 11,oF 16,oF 2,oF 7,oF 12,oF 17,oF 3,oF 8,oF 13,oF 18,oF 4,oF 9,oF 14,oF 19,oF 20],by kernel_rfl,g2_ ?_⟩
  refine cw_ k1 (g2_ ?_);refine im_ Tryz.func120 [] (g2_ ?_);refine g2_ ?_;refine cw_ k2 (g2_ ?_);refine cw_ k3 (g2_ ?_);refine cw_ k4 (g2_ ?_);refine .inl ⟨[oF 0,oF 1,oF 5,oF 2,oF 3,oF 4,oT 6,oF 7,oF 8,oF 9,oF 10],by kernel_rfl,g2_ ?_⟩
  refine im_ Tryz.func309 [] (g2_ ?_);refine g2_ ?_;refine .inl ⟨[oF 0,oF 4,oF 8,oF 1,oF 5,oF 9,oF 2,oF 6,oF 10,oF 3,oF 7,oF 11,oF 12,oF 13,oF 14],by kernel_rfl,g2_ ?_⟩
  refine cw_ k5 (g2_ ?_);refine .inl ⟨[oF 0,oF 1,oF 6,oF 7,oF 8,oF 13,oF 2,oF 9,oF 14,oF 3,oF 10,oF 15,oF 4,oF 11,oF 16,oF 5,oF 12,oF 17,oF 18,oF 19,oF 20,oF 21,oF 22],by kernel_rfl,g2_ ?_⟩
  refine cw_ k6 (g2_ ?_);refine .inl ⟨[oF 0,oF 1,oF 2,oF 3,oF 4,oF 5,oF 6,oF 7,oF 8,oF 9],by kernel_rfl,g2_ ?_⟩
  refine cw_ kq (g2_ ?_);refine .inr (.inr (.inl ⟨[oF 0,oF 4,oF 1,oF 5,oF 2,oF 6,oF 3,oF 7,oT 8,oF 9],[8],by kernel_rfl,g2_ ?_⟩))
  refine ae ?_ rfl;exact wf_ hMt
theorem ahr(c:ar)(p:ah)(f:List GSpan)(hc:c.schema.length<=4)(hcs: ∀s∈c.schema,okS s)(hp:okG p)(hf:f.length<=4000000)(hn:okG { p with filter:=(aS c.schema f).1 })(hu:p.up=true):
  Con2 Tryz.prog 34 [.agg (aC c),.agg (ak p),fzS f] (· =plR (.tup [.agg (ak (if (aS c.schema f).2=0 then aJ c { p with filter:=(aS c.schema f).1 } []else p)),.v (.int .i64 (aS c.schema f).2)])):=by
 refine Con2.ofEmb ?_;have k1:=bn p hp.ok;have k2:=vR c.schema f (by omega) (by omega)
 have k3:=cx c { p with filter:=(aS c.schema f).1 } [] hc hcs hn ⟨by simp,by simp⟩ (by simp)
 generalize aS c.schema f=n at k2 k3 ⊢;obtain⟨g,e⟩:=n;simp only at k2 k3 ⊢;refine en_ Tryz.func34 [.cell 6 49,.tmp 7] (g2_ ?_);refine g2_ ?_;refine cw_ k1 (g2_ ?_);rw[hu];refine g2_ ?_;refine cx_ k2 (wf_ hu) (g2_ ?_);refine cu (fun h=>?_) (fun h=>?_)
 ·rw[if_neg h];refine g2_ ?_;refine ae ?_ rfl;exact wf_ hu
 ·rw[if_pos h];refine g2_ ?_;refine cx_ k3 (wf_ hu) (g2_ ?_);refine ae ?_ rfl;exact wg_ hu h
theorem xh(c:ar)(p:ah)(node:UInt8)(inc:UInt16)(hp:okP p)(hr:jc p.reports):
  Con2 Tryz.prog 18 [.agg (aC c),.agg (ak p),.v (.int .u8 node.toNat),.v (.int .u16 inc.toNat)] (· =plR (.tup [.agg (ak (aI c p node inc).1),.v (.bool (aI c p node inc).2)])):=by
 refine Con2.ofEmb ?_;have k1:=bn p hp;have k2:=dT c p node inc hp hr;generalize aI c p node inc=Q at k2 ⊢;obtain⟨q,b⟩:=Q;refine en_ Tryz.func18 [.cell 8 49,.tmp 9] (g2_ ?_);refine g2_ ?_;refine .inr (.inr (.inl ⟨[oF 0,oF 1,oF 3,oF 4,oT 2,oF 5,oF 6,oF 7,oF 8,oF 9],[],by kernel_rfl,g2_ ?_⟩))
 refine cw_ k1 (g2_ ?_);refine cw_ k2 (g2_ ?_);refine ae ?_ rfl;exact ws_
theorem vH(c:ar)(p:ah)(l:List GDesc)(hc:c.schema.length<=4)(hcs: ∀s∈c.schema,okS s)(hp:okG p)(hl:aR l)(hl2: ∀d∈l,okF d):
  Con2 Tryz.prog 57 [.agg (aC c),.agg (ak p),fzD l] (· =plR (.agg (ak (aJ c p l)))):=by
 refine Con2.ofEmb ?_;have k1:=bn p hp.ok;have k2:=cx c p l hc hcs hp hl hl2;generalize aJ c p l=q at k2 ⊢;refine en_ Tryz.func57 [.cell 6 49] (g2_ ?_);refine g2_ ?_;refine .inr (.inr (.inl ⟨[oF 0,oF 1,oF 3,oT 2,oF 4,oF 5],[],by kernel_rfl,g2_ ?_⟩))
 refine cw_ k1 (g2_ ?_);refine cw_ k2 (g2_ ?_);refine ae ?_ rfl;exact ws_
theorem aa8{c:ar}{p:ah}{node:UInt8}{inc:UInt16}:(aI c p node inc).1.wait=p.wait:=by grind [aI]
theorem pG{p:ah}(h:okH p){w:GW}(hw:aR w.sent):okH { p with wait:=w }:=
 ⟨⟨⟨h.g.ok.filter,h.g.ok.view,h.g.ok.near,h.g.ok.succ,h.g.ok.pred,hw,h.g.ok.table,h.g.ok.heard,h.g.ok.rows,h.g.ok.reports,h.g.ok.evs,h.g.ok.pulls⟩,h.g.filter,h.g.view,h.g.near,h.g.succ,h.g.pred,h.g.table⟩,h.rs,h.v8,h.vw⟩
theorem abS{w:GW}{frm:UInt8}(h:ok8 w.sent):ok8 (du w frm).1.sent/\ok8 (du w frm).2.1:=by
 unfold du;split
 ·exact⟨⟨Nat.zero_le _,fun d hd=>absurd (show d∈([]:List GDesc)from hd) List.not_mem_nil⟩,h⟩
 ·exact⟨h,⟨Nat.zero_le _,fun d hd=>absurd hd List.not_mem_nil⟩⟩
theorem qR(c:ar)(p:ah)(m:bo)(dr:List UInt32)(hc:c.schema.length<=4)(hcs: ∀s∈c.schema,okS s)(hp:okH p)(hm:okMg m)(hu:p.up=true)(hto:m.to=p.node)(hk:m.kind=4)(hws:ok8 p.wait.sent):
  Con2 Tryz.prog 44 [.agg (aC c),.agg (ak p),.agg (encMg m),.fz 1 (dr.map aZ)] (· =plR (.tup [.agg (ak (iF c p m).1),.fz 17 ((iF c p m).2.map encMg)])):=by
 refine Con2.ofEmb ?_;have hf:=bn p hp.ok;have hh:=dT c p m.frm m.inc hp.ok hp.rs;have hq:=ea (c:=c) hp m.frm m.inc;have hqw:=aa8 (c:=c) (p:=p) (node:=m.frm) (inc:=m.inc);unfold iF;generalize aI c p m.frm m.inc=Q at hh hq hqw;obtain⟨q,hd⟩:=Q;simp only at hq hh hqw ⊢;refine en_ Tryz.func44 [.cell 8 49,.tmp 9] (g2_ ?_);refine g2_ ?_;refine cw_ hf (g2_ ?_);rw[hu,hto];refine gx_ ?_;refine cx_ hh (wg_ hu hto) (g2_ ?_);cases hd with
 |false=>
  refine g2_ ?_;refine ae ?_ rfl;exact wx_
 | true=>
  refine g2_ ?_;refine q0_ ?_;rw[show lkF fF m.kind=some 209 by rw[hk];rfl]
  refine g2_ ?_;have hqs:ok8 q.wait.sent:=by rw[hqw];exact hws
  obtain⟨hw1,hw2⟩:=abS (frm:=m.frm) hqs;have k1:=agh q.wait m.frm hqs;have hq3:=pG hq (w:=(du q.wait m.frm).1) hw1.toDs;have k5:Con2 Tryz.prog 181 [.agg (aC c),.agg (ak { q with wait:=(du q.wait m.frm).1 }),fzD m.list] (· =plR (fzD (pUse c q m.list))):=l8 c { q with wait:=(du q.wait m.frm).1 } m.list (by omega) hq3.g.ok hm.ds
  have k6:=abo q.view (pUse c q m.list) (du q.wait m.frm).2.1 q.node c.view hq.v8 (aex hm.list hc) hw2 hq.vw;have kq1:=cx c q [] hc hcs hq.g ⟨by simp,by simp⟩ (by simp)
  have kq2:=cx c (gr c { q with wait:=(du q.wait m.frm).1 } m (du q.wait m.frm).2.1) [] hc hcs (rO hc hq3 hm) ⟨by simp,by simp⟩ (by simp)
  have hans:j4 c q m=if (du q.wait m.frm).2.2=true then gr c { q with wait:=(du q.wait m.frm).1 } m (du q.wait m.frm).2.1 else q:=rfl
  have hmg:gr c { q with wait:=(du q.wait m.frm).1 } m (du q.wait m.frm).2.1={ q with wait:=(du q.wait m.frm).1,view:=cC (pUse c q m.list) q.node c.view q.view (du q.wait m.frm).2.1 (pUse c q m.list) }:=rfl;rw[hans];rw[hmg]at kq2 ⊢;generalize du q.wait m.frm=a at k1 k5 k6 kq2 ⊢;obtain⟨w,sent,ok⟩:=a;simp only at k1 k5 k6 kq2 ⊢;generalize cC (pUse c q m.list) q.node c.view q.view sent (pUse c q m.list)=V at k6 kq2 ⊢;generalize pUse c q m.list=U at k5 k6;refine im_ Tryz.func209 [] (g2_ ?_);refine g2_ ?_;refine .inr (.inl ⟨(.fl 0 (.fl 5 (.fl 1 (.fl 6 (.fl 2 (.fl 7 (.fl 3 (.fl 8 (.fl 4 (.fl 9 (.eff 10 false (.fl 11 (.fl 12 (.fl 13 (.fl 14 (.eff 15 true (.eff 16 false (.fl 17 (.fl 18 .done)) .no) .no))))) (.eff 15 true (.eff 10 false (.fl 11 (.fl 12 (.fl 13 (.fl 14 (.eff 16 false (.fl 17 (.fl 18 .done)) .no))))) .no) .no)))))))))))),by kernel_rfl,g2_ ?_⟩)
  repeat' (first
   |(with_reducible refine And.intro ?_ ?_)
   |(refine CallS.eqW k1 ?_ (.inl ?_) ?_;(focus (simp-implicitDefEqProofs only[go_sem,ab];done));(focus (simp-implicitDefEqProofs only[go_sem,ab];done));refine g2_ ?_)
   |(with_reducible refine aK ?_;refine g2_ ?_))
  all_goals
   cases ok with
   |false=>
    have kq:=kq1;rw[if_neg (by decide)]
    refine g2_ ?_;exact q1_ kq
   |true=>
    have kq:=kq2;rw[if_pos rfl];refine g2_ ?_;refine im_ Tryz.func309 [] (g2_ ?_);refine g2_ ?_;refine .inl ⟨[oF 0,oF 4,oF 8,oF 1,oF 5,oF 9,oF 2,oF 6,oF 10,oF 3,oF 7,oF 11,oF 12,oF 13,oF 14],by kernel_rfl,g2_ ?_⟩
    refine cw_ k5 (g2_ ?_);refine .inl ⟨[oF 0,oF 1,oF 6,oF 7,oF 8,oF 13,oF 2,oF 9,oF 14,oF 3,oF 10,oF 15,oF 4,oF 11,oF 16,oF 5,oF 12,oF 17,oF 18,oF 19,oF 20,oF 21,oF 22],by kernel_rfl,g2_ ?_⟩
    refine cw_ k6 (g2_ ?_);exact q1_ kq
theorem aao(c:ar)(p:ah)(m:bo)(dr:List UInt32)(hc:c.schema.length<=4)(hcs: ∀s∈c.schema,okS s)(hp:okH p)(hu:p.up=true)(hto:m.to=p.node)(hk:lkF fF m.kind=none):
  Con2 Tryz.prog 44 [.agg (aC c),.agg (ak p),.agg (encMg m),.fz 1 (dr.map aZ)] (· =plR (.tup [.agg (ak (oW c p m).1),.fz 17 ((oW c p m).2.map encMg)])):=by
 refine Con2.ofEmb ?_;have hf:=bn p hp.ok;have hh:=dT c p m.frm m.inc hp.ok hp.rs;have hq:=ea (c:=c) hp m.frm m.inc;unfold oW;generalize aI c p m.frm m.inc=Q at hh hq;obtain⟨q,hd⟩:=Q;simp only at hq hh ⊢;have kq:=cx c q [] hc hcs hq.g ⟨by simp,by simp⟩ (by simp)
 generalize aJ c q []=q' at kq ⊢;refine en_ Tryz.func44 [.cell 8 49,.tmp 9] (g2_ ?_);refine g2_ ?_;refine cw_ hf (g2_ ?_);rw[hu,hto];refine gx_ ?_;refine cx_ hh (wg_ hu hto) (g2_ ?_);cases hd with
 |false=>
  refine g2_ ?_;refine ae ?_ rfl;exact wx_
 |true=>
  refine g2_ ?_;refine q0_ ?_;rw[hk];refine gf_ @Option.isSome_none.{0} ?_;exact q1_ kq
theorem ai7(c:ar)(p:ah)(m:bo)(dr:List UInt32)(hp:okP p)(hto:m.to≠p.node):
  Con2 Tryz.prog 44 [.agg (aC c),.agg (ak p),.agg (encMg m),.fz 1 (dr.map aZ)] (· =plR (.tup [.agg (ak p),.fz 17 []])):=by
 cases hu:p.up with
 |false=>exact re c p m dr hp hu
 |true=>
 refine Con2.ofEmb ?_;have hf:=bn p hp;refine en_ Tryz.func44 [.cell 8 49,.tmp 9] (g2_ ?_);refine g2_ ?_;refine cw_ hf (g2_ ?_);rw[hu];refine g2_ ?_;rw[show((m.to.toNat:Int) !=(p.node.toNat:Int))=true from bne_iff_ne.2 (fun h=>hto ((afs _ _).1 h))]
 refine g2_ ?_;refine ae ?_ rfl;exact wf_ hu
