import Derived.Test.YtmhmahcdanclnaaGreatNr29
import Derived.Test.YtmhmahcdanclnaaGreatNr30
set_option linter.unusedSectionVars false
set_option linter.unusedSimpArgs false
set_option linter.unusedVariables false
set_option maxRecDepth 10000
set_option maxHeartbeats 4000000
namespace Go.Proofs.YtmhmahcdanclnaaGreat.V
open Go.Eng
theorem adv(l m:List aq)(self:UInt8):(dJ l m self).length=l.length:=by simp[dJ]
theorem vK{p:af}(h:okH p)(t:List aq):okH (bu p t):=xp h (by rw[adv];exact h.g.table) (jm h.rs _)
def k_(c:an)(p:af)(m:aF):af:={ bu p m.table with view:=eI (bu p m.table).node c.view (bu p m.table).view (pUse c (bu p m.table) m.list) }
def lp(c:an)(p:af)(m:aF):af×List aF:=
 let q:=au c p m.frm m.inc
 if q.2=true then (ay c (k_ c q.1 m) [],[])else (q.1,[])
def sL(c:an)(p:af)(m:aF):af×List aF:=
 let q:=au c p m.frm m.inc
 if q.2=true then (ay c { q.1 with table:=jr q.1.table m.frm m.inc } [],[])else (q.1,[])
theorem als{c:an}{p:af}{l:List GDesc}(h1:l.length<=1048576)(h2:c.schema.length<=4):ok8 (pUse c p l):=by
 have h3:=List.length_filter_le (eM c) l;have h4:=List.length_filter_le (ch p) (l.filter (eM c));exact⟨by show(List.filter (ch p) (l.filter (eM c))).length<=1100000;omega,fun d hd=>zZ h2 (List.mem_filter.1 (List.mem_filter.1 hd).1).2⟩
theorem zl{c:an}{p:af}{l:List GDesc}{d:GDesc}(h:d∈pUse c p l):eM c d=true:=(List.mem_filter.1 (List.mem_filter.1 h).1).2
theorem qM{c:an}{p:af}{l:List GDesc}{d:GDesc}(h:d∈pUse c p l):d∈l:=(List.mem_filter.1 (List.mem_filter.1 h).1).1
theorem wG{self:UInt8}{room:Int}: ∀(r l:List GDesc),(eI self room l r).length<=l.length+r.length
 |[],l=>Nat.le_refl _
 |d::r,l=>by
  rw[eI];have h1:=wG (self:=self) (room:=room) r (dz l d self room).1;have h2:=iS (self:=self) (l:=l) d room;rw[List.length_cons];omega
attribute [local go_sem] zDesc aQ ah fzD plR a_ aN aP aD aB ak aE aU z8 z16 z32 z64 encMg ba bP List.map_cons List.map_nil
theorem yz(c:an)(p:af)(m:aF)(dr:List UInt32)(hc:c.schema.length<=4)(hcs: ∀s∈c.schema,okS s)(hp:okH p)(hm:okMg m)(hu:p.up=true)(hto:m.to=p.node)(hk:m.kind=2):
  Con2 Tryz.prog 83 [.agg (aB c),.agg (ak p),.agg (encMg m),.fz 1 (dr.map aI)] (· =plR (.tup [.agg (ak (lp c p m).1),.fz 17 ((lp c p m).2.map encMg)])):=by
 refine Con2.ofEmb ?_;have hf:=bE p hp.ok;have hh:=dN c p m.frm m.inc hp.ok hp.rs;have hq:=du (c:=c) hp m.frm m.inc;unfold lp;generalize au c p m.frm m.inc=Q at hh hq;obtain⟨q,hd⟩:=Q;simp only at hq hh ⊢;refine en_ Tryz.func83 [.cell 8 49,.tmp 9] (g2_ ?_);refine g2_ ?_;refine cw_ hf (g2_ ?_);rw[hu,hto];refine gx_ ?_;refine cx_ hh (wg_ hu hto) (g2_ ?_);cases hd with
 |false=>
  refine g2_ ?_;refine ae ?_ rfl;exact wx_
 | true=>
  refine g2_ ?_;refine q0_ ?_;rw[show lkF fY m.kind=some 261 by rw[hk];rfl]
  refine g2_ ?_;have hl:=vK hq m.table;have k1:=s9 q m.table hq.g.ok (by have:=hq.g.table;omega) (by have:=hm.table;omega) hq.rs
  have k2:=og c (bu q m.table) m.list (by omega) hl.g.ok hm.ds
  have k3:=aqV (bu q m.table).view (pUse c (bu q m.table) m.list) (bu q m.table).node c.view hl.v8 (als hm.list hc) hl.vw
  have kq:=cx c (k_ c q m) [] hc hcs (nK hl.g (by
    refine Nat.le_trans (wG _ _) ?_;have h1:=(als (c:=c) (p:=bu q m.table) hm.list hc).1;have h2:=hl.v8.1;omega) (fun x hx=>by
   rcases sD _ _ x hx with h|h
   ·exact hq.g.view x h
   ·exact hm.fs2 x (qM h))) ⟨by simp,by simp⟩ (by simp)
  unfold k_ at kq ⊢;generalize bu q m.table=p1 at k1 k2 k3 kq ⊢;generalize eI p1.node c.view p1.view (pUse c p1 m.list)=V at k3 kq ⊢;generalize pUse c p1 m.list=U at k2 k3;refine im_ Tryz.func261 [] (g2_ ?_);refine g2_ ?_;refine .inl ⟨[oF 0,oF 1,oF 5,oF 2,oF 6,oF 3,oF 7,oF 4,oF 8,oF 9,oF 10,oF 11,oF 12,oF 13],by kernel_rfl,g2_ ?_⟩
  refine cw_ k1 (g2_ ?_);refine .inl ⟨[oF 0,oF 1,oF 6,oF 10,oF 14,oF 20,oF 25,oF 2,oF 7,oF 11,oF 15,oF 21,oF 26,oF 3,oF 8,oF 12,oF 16,oF 22,oF 27,oF 4,oF 9,oF 13,oF 17,oF 23,oF 28,oF 5,oF 18,oF 24,oF 29,oT 19,oF 30,oF 31,oF 32,oF 33,oF 34],by kernel_rfl,g2_ ?_⟩
  refine cw_ k2 (g2_ ?_);refine cw_ k3 (g2_ ?_);exact q1_ kq
theorem acY(c:an)(p:af)(m:aF)(dr:List UInt32)(hc:c.schema.length<=4)(hcs: ∀s∈c.schema,okS s)(hp:okH p)(hm:okMg m)(hu:p.up=true)(hto:m.to=p.node)(hk:m.kind=9):
  Con2 Tryz.prog 83 [.agg (aB c),.agg (ak p),.agg (encMg m),.fz 1 (dr.map aI)] (· =plR (.tup [.agg (ak (sL c p m).1),.fz 17 ((sL c p m).2.map encMg)])):=by
 refine Con2.ofEmb ?_;have hf:=bE p hp.ok;have hh:=dN c p m.frm m.inc hp.ok hp.rs;have hq:=du (c:=c) hp m.frm m.inc;unfold sL;generalize au c p m.frm m.inc=Q at hh hq;obtain⟨q,hd⟩:=Q;simp only at hq hh ⊢;refine en_ Tryz.func83 [.cell 8 49,.tmp 9] (g2_ ?_);refine g2_ ?_;refine cw_ hf (g2_ ?_);rw[hu,hto];refine gx_ ?_;refine cx_ hh (wg_ hu hto) (g2_ ?_);cases hd with
 |false=>
  refine g2_ ?_;refine ae ?_ rfl;exact wx_
 |true=>
  refine g2_ ?_;refine q0_ ?_;rw[show lkF fY m.kind=some 267 by rw[hk];rfl]
  refine g2_ ?_;have ht:(jr q.table m.frm m.inc).length=q.table.length:=by simp[jr]
  have hg:=hq.g.table;have k1:=ahK q.table m.frm m.inc (by omega)
  have kq:=cx c { q with table:=jr q.table m.frm m.inc } [] hc hcs (aeW hq.g (by rw[ht];exact hg) hq.rs) ⟨by simp,by simp⟩ (by simp)
  generalize jr q.table m.frm m.inc=T at k1 kq ⊢;refine im_ Tryz.func267 [] (g2_ ?_);refine g2_ ?_;refine .inl ⟨[oF 0,oF 1,oF 6,oF 11,oF 2,oF 7,oF 12,oF 3,oF 8,oF 13,oF 4,oF 9,oF 14,oF 5,oF 10,oF 15,oF 16,oF 17,oF 18,oF 19,oF 20],by kernel_rfl,g2_ ?_⟩
  refine cw_ k1 (g2_ ?_);exact q1_ kq
def ae0(c:an)(p:af)(m:aF):af×List aF:=
 let q:=au c p m.frm m.inc
 if q.2=true then (ay c (bu q.1 m.table) [],[])else (q.1,[])
def xr(c:an)(p:af)(m:aF):af×List aF:=
 let q:=au c p m.frm m.inc
 if q.2=true then (ay c q.1 m.list,[])else (q.1,[])
def yf(c:an)(p:af)(m:aF):af×List aF:=
 let q:=au c p m.frm m.inc
 if q.2=true then (ay c q.1 m.list,[{ pMsg (ay c q.1 m.list) 7 m.frm with list:=dM (aR (ay c q.1 m.list).ring) (pSelf (ay c q.1 m.list)) }])else (q.1,[])
theorem jw{c:an}{p:af}{l:List GDesc}(hp:okG p)(hl:ck l)(hl2: ∀d∈l,okF d):okG (ay c p l):=by
 obtain⟨m1,m2⟩:=qI (c:=c) hp hl hl2;have m2:=m2 c.near;have u2:=(m2.u p.node).1;have hv:=m2.ds (pCur p p.view) (by simp)
 have hv2:=m2.f (pCur p p.view) (by simp)
 have hn:=m2.ds (ct p.filter p.node c.near [pCur p p.view,pCur p p.near,aR (bH p p.ring),pUse c p l]) (by simp)
 have hn2:=m2.f (ct p.filter p.node c.near [pCur p p.view,pCur p p.near,aR (bH p p.ring),pUse c p l]) (by simp)
 have near: ∀far here known,known≠[]->cZ far here c.schema known∈known:=fun far here known h=>by
  have hb:=ji (far:=far) (here:=here) (dom:=c.schema) h known.length;rw[cZ,List.getD_eq_getElem?_getD,List.getElem?_eq_getElem hb];exact List.getElem_mem hb
 have hr:okF (ay c p l).ring.succ/\okF (ay c p l).ring.pred:=by
  show okF (cj _ _ _).succ/\okF (cj _ _ _).pred;unfold cj;split
  ·exact⟨wq,wq⟩
  ·rename_i h;exact⟨u2 _ (near _ _ _ h),u2 _ (near _ _ _ h)⟩
 exact⟨⟨hp.ok.filter,hv,hn,hr.1.1,hr.2.1,hp.ok.sent,hp.ok.table,hp.ok.heard,hp.ok.rows,hp.ok.reports,hp.ok.evs,hp.ok.pulls⟩,hp.filter,hv2,hn2,hr.1,hr.2,hp.table⟩
theorem ahs(c:an)(p:af)(m:aF)(dr:List UInt32)(hc:c.schema.length<=4)(hcs: ∀s∈c.schema,okS s)(hp:okH p)(hm:okMg m)(hu:p.up=true)(hto:m.to=p.node)(hk:m.kind=8):
  Con2 Tryz.prog 83 [.agg (aB c),.agg (ak p),.agg (encMg m),.fz 1 (dr.map aI)] (· =plR (.tup [.agg (ak (ae0 c p m).1),.fz 17 ((ae0 c p m).2.map encMg)])):=by
 refine Con2.ofEmb ?_;have hf:=bE p hp.ok;have hh:=dN c p m.frm m.inc hp.ok hp.rs;have hq:=du (c:=c) hp m.frm m.inc;unfold ae0;generalize au c p m.frm m.inc=Q at hh hq;obtain⟨q,hd⟩:=Q;simp only at hq hh ⊢;refine en_ Tryz.func83 [.cell 8 49,.tmp 9] (g2_ ?_);refine g2_ ?_;refine cw_ hf (g2_ ?_);rw[hu,hto];refine gx_ ?_;refine cx_ hh (wg_ hu hto) (g2_ ?_);cases hd with
 |false=>
  refine g2_ ?_;refine ae ?_ rfl;exact wx_
 |true=>
  refine g2_ ?_;refine q0_ ?_;rw[show lkF fY m.kind=some 266 by rw[hk];rfl]
  refine g2_ ?_;have hl:=vK hq m.table;have k1:=s9 q m.table hq.g.ok (by have:=hq.g.table;omega) (by have:=hm.table;omega) hq.rs
  have kq:=cx c (bu q m.table) [] hc hcs hl.g ⟨by simp,by simp⟩ (by simp)
  generalize bu q m.table=p1 at k1 kq ⊢;refine im_ Tryz.func266 [] (g2_ ?_);refine g2_ ?_;refine .inl ⟨[oF 0,oF 1,oF 5,oF 2,oF 6,oF 3,oF 7,oF 4,oF 8,oF 9,oF 10,oF 11,oF 12,oF 13],by kernel_rfl,g2_ ?_⟩
  refine cw_ k1 (g2_ ?_);exact q1_ kq
theorem wj(c:an)(p:af)(m:aF)(dr:List UInt32)(hc:c.schema.length<=4)(hcs: ∀s∈c.schema,okS s)(hp:okH p)(hm:okMg m)(hu:p.up=true)(hto:m.to=p.node)(hk:m.kind=5\/m.kind=7):
  Con2 Tryz.prog 83 [.agg (aB c),.agg (ak p),.agg (encMg m),.fz 1 (dr.map aI)] (· =plR (.tup [.agg (ak (xr c p m).1),.fz 17 ((xr c p m).2.map encMg)])):=by
 rcases hk with hk|hk
 all_goals
  refine Con2.ofEmb ?_;have hf:=bE p hp.ok;have hh:=dN c p m.frm m.inc hp.ok hp.rs;have hq:=du (c:=c) hp m.frm m.inc;unfold xr;generalize au c p m.frm m.inc=Q at hh hq;obtain⟨q,hd⟩:=Q;simp only at hq hh ⊢;refine en_ Tryz.func83 [.cell 8 49,.tmp 9] (g2_ ?_);refine g2_ ?_;refine cw_ hf (g2_ ?_);rw[hu,hto];refine gx_ ?_;refine cx_ hh (wg_ hu hto) (g2_ ?_);cases hd with
  |false=>
   refine g2_ ?_;refine ae ?_ rfl;exact wx_
  |true=>
   refine g2_ ?_;refine q0_ ?_;rw[show lkF fY m.kind=some 264 by rw[hk];rfl]
   refine g2_ ?_;have kq:=cx c q m.list hc hcs hq.g hm.ds hm.fs2;generalize ay c q m.list=p1 at kq ⊢;refine im_ Tryz.func264 [] (g2_ ?_);refine g2_ ?_;refine .inl ⟨[oF 0,oF 1,oF 5,oF 9,oF 2,oF 6,oF 10,oF 3,oF 7,oF 11,oF 4,oF 8,oF 12,oF 13,oF 14,oF 15,oF 16,oF 17],by kernel_rfl,g2_ ?_⟩
   refine cw_ kq (g2_ ?_);refine g2_ ?_;refine .inr (.inr (.inl ⟨[oF 0,oF 4,oF 1,oF 5,oF 2,oF 6,oF 3,oF 7,oT 8,oF 9],[8],by kernel_rfl,g2_ ?_⟩))
   refine ae ?_ rfl;exact wx_
def i5(c:an)(p:af)(m:aF)(sent:List GDesc):af:={ p with view:=dT (pUse c p m.list) p.node c.view p.view sent (pUse c p m.list) }
def nJ(dr:List UInt32)(c:an)(p:af)(m:aF):af×List aF:=
 let q:=au c p m.frm m.inc
 if q.2=true then (ay c (i5 c q.1 m (di c.swap (bK q.1.view m.frm) [] dr)) [],[{ pMsg q.1 4 m.frm with list:=di c.swap (bK q.1.view m.frm) [] dr }])else (q.1,[])
def lP(c:an)(p:af)(m:aF):af:=
 let w:=iz p.wait m.frm
 if w.2.2=true then i5 c { p with wait:=w.1 } m w.2.1 else p
def lT(c:an)(p:af)(m:aF):af×List aF:=
 let q:=au c p m.frm m.inc
 if q.2=true then (ay c (lP c q.1 m) [],[])else (q.1,[])
def xf(c:an)(p:af)(m:aF):af×List aF:=
 let q:=au c p m.frm m.inc
 if q.2=true then (ay c q.1 [],[])else (q.1,[])
theorem akM{r:eJ}(h1:r.succ.filter.length<=4000000)(h2:r.pred.filter.length<=4000000):ck (aR r):=⟨by have:=fM r;omega,fun d hd=>by
 rcases lV hd with ⟨_,rfl⟩|⟨_,rfl⟩
 ·exact h1
 ·exact h2⟩
theorem acs{l:List GDesc}{d:GDesc}(hl:ck l)(hd:d.filter.length<=4000000)(hl9:l.length<=3900000):ck (dM l d):=by
 refine⟨?_,fun x hx=>?_⟩
 ·simp only[dM,List.length_append,List.length_cons,List.length_take,List.length_drop];omega
 ·simp only[dM,List.mem_append,List.mem_cons]at hx;rcases hx with h|h|h
  ·exact hl.2 x (List.mem_of_mem_take h)
  ·rw[h];exact hd
  ·exact hl.2 x (List.mem_of_mem_drop h)
theorem fh{got:List GDesc}{self:UInt8}{room:Int}: ∀(r L S:List GDesc) (x:GDesc),x∈dT got self room L S r->x∈L\/x∈r
 |[],L,S,x,h=>.inl h
 | d ::r,L,S,x,h=>by
  rw[dT]at h;split at h
  ·rcases fh r _ _ x h with h|h
   ·rcases put_mem x h with h|h
    ·exact .inl h
    ·exact .inr (by rw[h];exact List.mem_cons_self)
   ·exact .inr (List.mem_cons_of_mem _ h)
  ·split at h
   ·rcases fh r _ _ x h with h|h
    ·exact .inl h
    ·exact .inr (List.mem_cons_of_mem _ h)
   ·split at h
    ·rcases fh r _ _ x h with h|h
     ·rcases put_mem x h with h|h
      ·exact .inl (give_mem2 S x h)
      ·exact .inr (by rw[h];exact List.mem_cons_self)
     ·exact .inr (List.mem_cons_of_mem _ h)
    ·rcases fh r _ _ x h with h|h
     ·exact .inl h
     ·exact .inr (List.mem_cons_of_mem _ h)
where
 give_mem2 {L got:List GDesc}: ∀(S:List GDesc) (x:GDesc),x∈(cV L got S).1->x∈L
  |[],x,h=>h
  |s::r,x,h=>by
   rw[cV]at h;split at h
   ·exact(List.mem_filter.1 h).1
   ·exact give_mem2 r x h
theorem uV{L got:List GDesc}: ∀(S:List GDesc),(cV L got S).1.length<=L.length
 |[]=>Nat.le_refl _
 |s::r=>by
  rw[cV];split
  ·exact List.length_filter_le _ _
  ·exact uV r
theorem iC{got:List GDesc}{self:UInt8}{room:Int}: ∀(r L S:List GDesc),(dT got self room L S r).length<=L.length+r.length
 |[],L,S=>Nat.le_refl _
 | d::r,L,S=>by
  have h1:=iS (self:=self) (l:=L) d room;rw[dT];split
  ·have:=iC (got:=got) (self:=self) (room:=room) r (dz L d self room).1 S;simp only[List.length_cons];omega
  ·split
   ·have:=iC (got:=got) (self:=self) (room:=room) r L S;simp only[List.length_cons];omega
   ·split
    ·have h2:=uV (L:=L) (got:=got) S;have h3:=iS (self:=self) (l:=(cV L got S).1) d ((cV L got S).1.length+1);have:=iC (got:=got) (self:=self) (room:=room) r (dz (cV L got S).1 d self ((cV L got S).1.length+1)).1 (cV L got S).2.2;simp only[List.length_cons];omega
    ·have:=iC (got:=got) (self:=self) (room:=room) r L (cV L got S).2.2;simp only[List.length_cons];omega
theorem tV{many:Int}: ∀(r:List UInt32) (left out:List GDesc),(di many left out r).length<=out.length+left.length
 |[],left,out=>by simp[di]
 | d::r,left,out=>by
  rw[di];split
  ·omega
  ·split
   ·rename_i x hx;have hk:=(List.getElem?_eq_some_iff.1 hx).1;have:=tV (many:=many) r (left.take (d.toNat % left.length)++left.drop (d.toNat % left.length+1)) (out++[x]);simp only[List.length_append,List.length_take,List.length_drop,List.length_cons,List.length_nil]at this;omega
   ·omega
theorem apS{many:Int}{l:List GDesc}{nd:UInt8}{dr:List UInt32}(h:ok8 l):ok8 (di many (bK l nd) [] dr):=by
 have h1:=tV (many:=many) dr (bK l nd) [];have h2:(bK l nd).length<=l.length:=List.length_filter_le _ _;have h3:=h.1;refine⟨by simp only[List.length_nil]at h1;omega,fun d hd=>?_⟩
 rcases pick_mem many dr _ _ d hd with h|h'
 ·exact(show ok8 l from ‹ok8 l›).2 d (List.mem_filter.1 h).1
 ·cases h'
theorem wm{c:an}{p:af}{m:aF}{sent:List GDesc}(hc:c.schema.length<=4)(h:okH p)(hm:okMg m):okG (i5 c p m sent):=by
 refine nK h.g ?_ ?_
 ·refine Nat.le_trans (iC _ _ _) ?_;have h1:=(als (c:=c) (p:=p) hm.list hc).1;have h2:=h.v8.1;omega
 ·intro x hx;rcases fh _ _ _ x hx with h1|h1
  ·exact h.g.view x h1
  ·exact hm.fs2 x (qM h1)
attribute[local go_sem] iD
theorem ad6(c:an)(p:af)(m:aF)(dr:List UInt32)(hc:c.schema.length<=4)(hcs: ∀s∈c.schema,okS s)(hp:okH p)(hm:okMg m)(hu:p.up=true)(hto:m.to=p.node)(hk:m.kind=6):
  Con2 Tryz.prog 83 [.agg (aB c),.agg (ak p),.agg (encMg m),.fz 1 (dr.map aI)] (· =plR (.tup [.agg (ak (yf c p m).1),.fz 17 ((yf c p m).2.map encMg)])):=by
 refine Con2.ofEmb ?_;have hf:=bE p hp.ok;have hh:=dN c p m.frm m.inc hp.ok hp.rs;have hq:=du (c:=c) hp m.frm m.inc;unfold yf;generalize au c p m.frm m.inc=Q at hh hq;obtain⟨q,hd⟩:=Q;simp only at hq hh ⊢;refine en_ Tryz.func83 [.cell 8 49,.tmp 9] (g2_ ?_);refine g2_ ?_;refine cw_ hf (g2_ ?_);rw[hu,hto];refine gx_ ?_;refine cx_ hh (wg_ hu hto) (g2_ ?_);cases hd with
 |false=>
  refine g2_ ?_;refine ae ?_ rfl;exact wx_
 |true=>
  refine g2_ ?_;refine q0_ ?_;rw[show lkF fY m.kind=some 265 by rw[hk];rfl]
  refine g2_ ?_;have kq:=cx c q m.list hc hcs hq.g hm.ds hm.fs2;have hg:=jw (c:=c) hq.g hm.ds hm.fs2;generalize ay c q m.list=p1 at kq hg ⊢;have k1:=ju p1.ring hg.ok.succ hg.ok.pred;have k2:=gU p1 hg.ok;have hrl:=akM hg.ok.succ hg.ok.pred;have hr2:=fM p1.ring;have k3:=oL (aR p1.ring) (pSelf p1) hrl hg.ok.filter;have k4:=gm p1 7 m.frm;have k5:=bk (dM (aR p1.ring) (pSelf p1)) (acs hrl hg.ok.filter (by omega))
  have k6:=dY [] (by simp)
  obtain⟨M1,hM1⟩: ∃M,M=pMsg p1 7 m.frm:=⟨_,rfl⟩;have hMt:M1.table=[]:=by rw[hM1];rfl
  rw[<-hM1]at k4 ⊢;generalize dM (aR p1.ring) (pSelf p1)=Wl at k3 k5 ⊢;generalize aR p1.ring=B at k1 k3;generalize pSelf p1=S at k2 k3;refine im_ Tryz.func265 [] (g2_ ?_);refine g2_ ?_;refine im_ Tryz.func264 [] (g2_ ?_);refine g2_ ?_;refine .inl ⟨[oF 0,oF 1,oF 5,oF 9,oF 2,oF 6,oF 10,oF 3,oF 7,oF 11,oF 4,oF 8,oF 12,oF 13,oF 14,oF 15,oF 16,oF 17],by kernel_rfl,g2_ ?_⟩
  refine cw_ kq (g2_ ?_);refine .inl ⟨[oF 0,oF 1,oF 6,oF 12,oF 2,oF 7,oF 13,oF 3,oF 8,oF 14,oF 4,oF 9,oF 15,oF 5,oF 10,oT 11,oT 16,oT 17,oF 18],by kernel_rfl,g2_ ?_⟩
  refine cw_ k1 (g2_ ?_);refine cw_ k2 (g2_ ?_);refine cw_ k3 (g2_ ?_);refine im_ Tryz.func177 [] (g2_ ?_);refine g2_ ?_;refine cw_ k4 (g2_ ?_);refine cw_ k5 (g2_ ?_);refine cw_ k6 (g2_ ?_);refine .inl ⟨[oF 0,oF 1,oF 5,oF 2,oF 3,oF 4,oT 6,oF 7,oF 8,oF 9,oF 10],by kernel_rfl,g2_ ?_⟩
  refine .inr (.inr (.inl ⟨[oF 0,oF 4,oF 1,oF 5,oF 2,oF 6,oF 3,oF 7,oT 8,oF 9],[8],by kernel_rfl,g2_ ?_⟩))
  refine ae ?_ rfl;exact wf_ hMt
theorem ym(c:an)(p:af)(m:aF)(dr:List UInt32)(hc:c.schema.length<=4)(hcs: ∀s∈c.schema,okS s)(hp:okH p)(hm:okMg m)(hu:p.up=true)(hto:m.to=p.node)(hk:m.kind=3)(hdr:dr.length<=4000000):
  Con2 Tryz.prog 83 [.agg (aB c),.agg (ak p),.agg (encMg m),.fz 1 (dr.map aI)] (· =plR (.tup [.agg (ak (nJ dr c p m).1),.fz 17 ((nJ dr c p m).2.map encMg)])):=by
 refine Con2.ofEmb ?_;have hf:=bE p hp.ok;have hh:=dN c p m.frm m.inc hp.ok hp.rs;have hq:=du (c:=c) hp m.frm m.inc;unfold nJ;generalize au c p m.frm m.inc=Q at hh hq;obtain⟨q,hd⟩:=Q;simp only at hq hh ⊢;refine en_ Tryz.func83 [.cell 8 49,.tmp 9] (g2_ ?_);refine g2_ ?_;refine cw_ hf (g2_ ?_);rw[hu,hto];refine gx_ ?_;refine cx_ hh (wg_ hu hto) (g2_ ?_);cases hd with
 |false=>
  refine g2_ ?_;refine ae ?_ rfl;exact wx_
 |true=>
  refine g2_ ?_;refine q0_ ?_;rw[show lkF fY m.kind=some 262 by rw[hk];rfl]
  refine g2_ ?_;have hs8:ok8 (di c.swap (bK q.view m.frm) [] dr):=apS hq.v8;have k1:=aji q.view c.swap m.frm dr hq.v8 hdr;have k2:=gm q 4 m.frm;have k3:=bk _ hs8.toDs;have k4:=dY [] (by simp)
  have k5:=og c q m.list (by omega) hq.g.ok hm.ds
  have k6:=afm q.view (pUse c q m.list) _ q.node c.view hq.v8 (als hm.list hc) hs8 hq.vw;have kq:=cx c (i5 c q m (di c.swap (bK q.view m.frm) [] dr)) [] hc hcs (wm hc hq hm) ⟨by simp,by simp⟩ (by simp)
  unfold i5 at kq ⊢;obtain⟨M1,hM1⟩: ∃M,M=pMsg q 4 m.frm:=⟨_,rfl⟩;have hMt:M1.table=[]:=by rw[hM1];rfl
  rw[<-hM1]at k2 ⊢;generalize di c.swap (bK q.view m.frm) [] dr=sent at k1 k3 k6 kq ⊢;generalize dT (pUse c q m.list) q.node c.view q.view sent (pUse c q m.list)=V at k6 kq ⊢;generalize pUse c q m.list=U at k5 k6;refine im_ Tryz.func262 [] (g2_ ?_);refine g2_ ?_;refine .inl ⟨[oF 0,oF 5,oF 10,oF 15,oF 1,oF 6,oF 11,oF 16,oF 2,oF 7,oF 12,oF 17,oF 3,oF 8,oF 13,oF 18,oF 4,oF 9,oF 14,oF 19,oF 20],by kernel_rfl,g2_ ?_⟩
  refine cw_ k1 (g2_ ?_);refine im_ Tryz.func177 [] (g2_ ?_);refine g2_ ?_;refine cw_ k2 (g2_ ?_);refine cw_ k3 (g2_ ?_);refine cw_ k4 (g2_ ?_);refine .inl ⟨[oF 0,oF 1,oF 5,oF 2,oF 3,oF 4,oT 6,oF 7,oF 8,oF 9,oF 10],by kernel_rfl,g2_ ?_⟩
  refine im_ Tryz.func330 [] (g2_ ?_);refine g2_ ?_;refine .inl ⟨[oF 0,oF 4,oF 8,oF 1,oF 5,oF 9,oF 2,oF 6,oF 10,oF 3,oF 7,oF 11,oF 12,oF 13,oF 14],by kernel_rfl,g2_ ?_⟩
  refine cw_ k5 (g2_ ?_);refine .inl ⟨[oF 0,oF 1,oF 6,oF 7,oF 8,oF 13,oF 2,oF 9,oF 14,oF 3,oF 10,oF 15,oF 4,oF 11,oF 16,oF 5,oF 12,oF 17,oF 18,oF 19,oF 20,oF 21,oF 22],by kernel_rfl,g2_ ?_⟩
  refine cw_ k6 (g2_ ?_);refine .inl ⟨[oF 0,oF 1,oF 2,oF 3,oF 4,oF 5,oF 6,oF 7,oF 8,oF 9],by kernel_rfl,g2_ ?_⟩
  refine cw_ kq (g2_ ?_);refine .inr (.inr (.inl ⟨[oF 0,oF 4,oF 1,oF 5,oF 2,oF 6,oF 3,oF 7,oT 8,oF 9],[8],by kernel_rfl,g2_ ?_⟩))
  refine ae ?_ rfl;exact wf_ hMt
theorem aaY(c:an)(p:af)(f:List GSpan)(hc:c.schema.length<=4)(hcs: ∀s∈c.schema,okS s)(hp:okG p)(hf:f.length<=4000000)(hn:okG { p with filter:=(br c.schema f).1 })(hu:p.up=true):
  Con2 Tryz.prog 29 [.agg (aB c),.agg (ak p),fzS f] (· =plR (.tup [.agg (ak (if (br c.schema f).2=0 then ay c { p with filter:=(br c.schema f).1 } []else p)),.v (.int .i64 (br c.schema f).2)])):=by
 refine Con2.ofEmb ?_;have k1:=bE p hp.ok;have k2:=yD c.schema f (by omega) (by omega)
 have k3:=cx c { p with filter:=(br c.schema f).1 } [] hc hcs hn ⟨by simp,by simp⟩ (by simp)
 generalize br c.schema f=n at k2 k3 ⊢;obtain⟨g,e⟩:=n;simp only at k2 k3 ⊢;refine en_ Tryz.func29 [.cell 6 49,.tmp 7] (g2_ ?_);refine g2_ ?_;refine cw_ k1 (g2_ ?_);rw[hu];refine g2_ ?_;refine cx_ k2 (wf_ hu) (g2_ ?_);refine ez (fun h=>?_) (fun h=>?_)
 ·rw[if_neg h];refine g2_ ?_;refine ae ?_ rfl;exact wf_ hu
 ·rw[if_pos h];refine g2_ ?_;refine cx_ k3 (wf_ hu) (g2_ ?_);refine ae ?_ rfl;exact wg_ hu h
theorem sI(c:an)(p:af)(node:UInt8)(inc:UInt16)(hp:okP p)(hr:fP p.reports):
  Con2 Tryz.prog 84 [.agg (aB c),.agg (ak p),.v (.int .u8 node.toNat),.v (.int .u16 inc.toNat)] (· =plR (.tup [.agg (ak (au c p node inc).1),.v (.bool (au c p node inc).2)])):=by
 refine Con2.ofEmb ?_;have k1:=bE p hp;have k2:=dN c p node inc hp hr;generalize au c p node inc=Q at k2 ⊢;obtain⟨q,b⟩:=Q;refine en_ Tryz.func84 [.cell 8 49,.tmp 9] (g2_ ?_);refine g2_ ?_;refine .inr (.inr (.inl ⟨[oF 0,oF 1,oF 3,oF 4,oT 2,oF 5,oF 6,oF 7,oF 8,oF 9],[],by kernel_rfl,g2_ ?_⟩))
 refine cw_ k1 (g2_ ?_);refine cw_ k2 (g2_ ?_);refine ae ?_ rfl;exact ws_
theorem im(c:an)(p:af)(l:List GDesc)(hc:c.schema.length<=4)(hcs: ∀s∈c.schema,okS s)(hp:okG p)(hl:ck l)(hl2: ∀d∈l,okF d):
  Con2 Tryz.prog 85 [.agg (aB c),.agg (ak p),fzD l] (· =plR (.agg (ak (ay c p l)))):=by
 refine Con2.ofEmb ?_;have k1:=bE p hp.ok;have k2:=cx c p l hc hcs hp hl hl2;generalize ay c p l=q at k2 ⊢;refine en_ Tryz.func85 [.cell 6 49] (g2_ ?_);refine g2_ ?_;refine .inr (.inr (.inl ⟨[oF 0,oF 1,oF 3,oT 2,oF 4,oF 5],[],by kernel_rfl,g2_ ?_⟩))
 refine cw_ k1 (g2_ ?_);refine cw_ k2 (g2_ ?_);refine ae ?_ rfl;exact ws_
theorem adf{c:an}{p:af}{node:UInt8}{inc:UInt16}:(au c p node inc).1.wait=p.wait:=by grind [au]
theorem sg{p:af}(h:okH p){w:GW}(hw:ck w.sent):okH { p with wait:=w }:=
 ⟨⟨⟨h.g.ok.filter,h.g.ok.view,h.g.ok.near,h.g.ok.succ,h.g.ok.pred,hw,h.g.ok.table,h.g.ok.heard,h.g.ok.rows,h.g.ok.reports,h.g.ok.evs,h.g.ok.pulls⟩,h.g.filter,h.g.view,h.g.near,h.g.succ,h.g.pred,h.g.table⟩,h.rs,h.v8,h.vw⟩
theorem ae4{w:GW}{frm:UInt8}(h:ok8 w.sent):ok8 (iz w frm).1.sent/\ok8 (iz w frm).2.1:=by
 unfold iz;split
 ·exact⟨⟨Nat.zero_le _,fun d hd=>absurd (show d∈([]:List GDesc)from hd) List.not_mem_nil⟩,h⟩
 ·exact⟨h,⟨Nat.zero_le _,fun d hd=>absurd hd List.not_mem_nil⟩⟩
theorem uf(c:an)(p:af)(m:aF)(dr:List UInt32)(hc:c.schema.length<=4)(hcs: ∀s∈c.schema,okS s)(hp:okH p)(hm:okMg m)(hu:p.up=true)(hto:m.to=p.node)(hk:m.kind=4)(hws:ok8 p.wait.sent):
  Con2 Tryz.prog 83 [.agg (aB c),.agg (ak p),.agg (encMg m),.fz 1 (dr.map aI)] (· =plR (.tup [.agg (ak (lT c p m).1),.fz 17 ((lT c p m).2.map encMg)])):=by
 refine Con2.ofEmb ?_;have hf:=bE p hp.ok;have hh:=dN c p m.frm m.inc hp.ok hp.rs;have hq:=du (c:=c) hp m.frm m.inc;have hqw:=adf (c:=c) (p:=p) (node:=m.frm) (inc:=m.inc);unfold lT;generalize au c p m.frm m.inc=Q at hh hq hqw;obtain⟨q,hd⟩:=Q;simp only at hq hh hqw ⊢;refine en_ Tryz.func83 [.cell 8 49,.tmp 9] (g2_ ?_);refine g2_ ?_;refine cw_ hf (g2_ ?_);rw[hu,hto];refine gx_ ?_;refine cx_ hh (wg_ hu hto) (g2_ ?_);cases hd with
 |false=>
  refine g2_ ?_;refine ae ?_ rfl;exact wx_
 | true=>
  refine g2_ ?_;refine q0_ ?_;rw[show lkF fY m.kind=some 263 by rw[hk];rfl]
  refine g2_ ?_;have hqs:ok8 q.wait.sent:=by rw[hqw];exact hws
  obtain⟨hw1,hw2⟩:=ae4 (frm:=m.frm) hqs;have k1:=aja q.wait m.frm hqs;have hq3:=sg hq (w:=(iz q.wait m.frm).1) hw1.toDs;have k5:Con2 Tryz.prog 150 [.agg (aB c),.agg (ak { q with wait:=(iz q.wait m.frm).1 }),fzD m.list] (· =plR (fzD (pUse c q m.list))):=og c { q with wait:=(iz q.wait m.frm).1 } m.list (by omega) hq3.g.ok hm.ds
  have k6:=afm q.view (pUse c q m.list) (iz q.wait m.frm).2.1 q.node c.view hq.v8 (als hm.list hc) hw2 hq.vw;have kq1:=cx c q [] hc hcs hq.g ⟨by simp,by simp⟩ (by simp)
  have kq2:=cx c (i5 c { q with wait:=(iz q.wait m.frm).1 } m (iz q.wait m.frm).2.1) [] hc hcs (wm hc hq3 hm) ⟨by simp,by simp⟩ (by simp)
  have hans:lP c q m=if (iz q.wait m.frm).2.2=true then i5 c { q with wait:=(iz q.wait m.frm).1 } m (iz q.wait m.frm).2.1 else q:=rfl
  have hmg:i5 c { q with wait:=(iz q.wait m.frm).1 } m (iz q.wait m.frm).2.1={ q with wait:=(iz q.wait m.frm).1,view:=dT (pUse c q m.list) q.node c.view q.view (iz q.wait m.frm).2.1 (pUse c q m.list) }:=rfl;rw[hans];rw[hmg]at kq2 ⊢;generalize iz q.wait m.frm=a at k1 k5 k6 kq2 ⊢;obtain⟨w,sent,ok⟩:=a;simp only at k1 k5 k6 kq2 ⊢;generalize dT (pUse c q m.list) q.node c.view q.view sent (pUse c q m.list)=V at k6 kq2 ⊢;generalize pUse c q m.list=U at k5 k6;refine im_ Tryz.func263 [] (g2_ ?_);refine g2_ ?_;refine .inr (.inl ⟨(.fl 0 (.fl 5 (.fl 1 (.fl 6 (.fl 2 (.fl 7 (.fl 3 (.fl 8 (.fl 4 (.fl 9 (.eff 10 false (.fl 11 (.fl 12 (.fl 13 (.fl 14 (.eff 15 true (.eff 16 false (.fl 17 (.fl 18 .done)) .no) .no))))) (.eff 15 true (.eff 10 false (.fl 11 (.fl 12 (.fl 13 (.fl 14 (.eff 16 false (.fl 17 (.fl 18 .done)) .no))))) .no) .no)))))))))))),by kernel_rfl,g2_ ?_⟩)
  repeat' (first
   |(with_reducible refine And.intro ?_ ?_)
   |(refine CallS.eqW k1 ?_ (.inl ?_) ?_;(focus (simp-implicitDefEqProofs only[go_sem,ab];done));(focus (simp-implicitDefEqProofs only[go_sem,ab];done));refine g2_ ?_)
   |(with_reducible refine av ?_;refine g2_ ?_))
  all_goals
   cases ok with
   |false=>
    have kq:=kq1;rw[if_neg (by decide)]
    refine g2_ ?_;exact q1_ kq
   |true=>
    have kq:=kq2;rw[if_pos rfl];refine g2_ ?_;refine im_ Tryz.func330 [] (g2_ ?_);refine g2_ ?_;refine .inl ⟨[oF 0,oF 4,oF 8,oF 1,oF 5,oF 9,oF 2,oF 6,oF 10,oF 3,oF 7,oF 11,oF 12,oF 13,oF 14],by kernel_rfl,g2_ ?_⟩
    refine cw_ k5 (g2_ ?_);refine .inl ⟨[oF 0,oF 1,oF 6,oF 7,oF 8,oF 13,oF 2,oF 9,oF 14,oF 3,oF 10,oF 15,oF 4,oF 11,oF 16,oF 5,oF 12,oF 17,oF 18,oF 19,oF 20,oF 21,oF 22],by kernel_rfl,g2_ ?_⟩
    refine cw_ k6 (g2_ ?_);exact q1_ kq
theorem ab3(c:an)(p:af)(m:aF)(dr:List UInt32)(hc:c.schema.length<=4)(hcs: ∀s∈c.schema,okS s)(hp:okH p)(hu:p.up=true)(hto:m.to=p.node)(hk:lkF fY m.kind=none):
  Con2 Tryz.prog 83 [.agg (aB c),.agg (ak p),.agg (encMg m),.fz 1 (dr.map aI)] (· =plR (.tup [.agg (ak (xf c p m).1),.fz 17 ((xf c p m).2.map encMg)])):=by
 refine Con2.ofEmb ?_;have hf:=bE p hp.ok;have hh:=dN c p m.frm m.inc hp.ok hp.rs;have hq:=du (c:=c) hp m.frm m.inc;unfold xf;generalize au c p m.frm m.inc=Q at hh hq;obtain⟨q,hd⟩:=Q;simp only at hq hh ⊢;have kq:=cx c q [] hc hcs hq.g ⟨by simp,by simp⟩ (by simp)
 generalize ay c q []=q' at kq ⊢;refine en_ Tryz.func83 [.cell 8 49,.tmp 9] (g2_ ?_);refine g2_ ?_;refine cw_ hf (g2_ ?_);rw[hu,hto];refine gx_ ?_;refine cx_ hh (wg_ hu hto) (g2_ ?_);cases hd with
 |false=>
  refine g2_ ?_;refine ae ?_ rfl;exact wx_
 |true=>
  refine g2_ ?_;refine q0_ ?_;rw[hk];refine gf_ @Option.isSome_none.{0} ?_;exact q1_ kq
theorem apy(c:an)(p:af)(m:aF)(dr:List UInt32)(hp:okP p)(hto:m.to≠p.node):
  Con2 Tryz.prog 83 [.agg (aB c),.agg (ak p),.agg (encMg m),.fz 1 (dr.map aI)] (· =plR (.tup [.agg (ak p),.fz 17 []])):=by
 cases hu:p.up with
 |false=>exact uL c p m dr hp hu
 |true=>
 refine Con2.ofEmb ?_;have hf:=bE p hp;refine en_ Tryz.func83 [.cell 8 49,.tmp 9] (g2_ ?_);refine g2_ ?_;refine cw_ hf (g2_ ?_);rw[hu];refine g2_ ?_;rw[show((m.to.toNat:Int) !=(p.node.toNat:Int))=true from bne_iff_ne.2 (fun h=>hto ((apW _ _).1 h))]
 refine g2_ ?_;refine ae ?_ rfl;exact wf_ hu
