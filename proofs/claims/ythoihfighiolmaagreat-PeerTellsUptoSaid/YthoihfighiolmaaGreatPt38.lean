import Derived.Test.YthoihfighiolmaaGreatPt33
set_option linter.unusedSectionVars false
set_option linter.unusedSimpArgs false
set_option linter.unusedVariables false
set_option maxRecDepth 10000
set_option maxHeartbeats 4000000
namespace Go.Eng
theorem iT{p:ah}(h:okP p){v n:List GDesc}{r:b9}(hv:aR v)(hn:aR n)(h1:r.succ.filter.length<=4000000)(h2:r.pred.filter.length<=4000000):okP { p with view:=v,near:=n,ring:=r }:=
 ⟨h.filter,hv,hn,h1,h2,h.sent,h.table,h.heard,h.rows,h.reports,h.evs,h.pulls⟩
end Go.Eng
namespace Go.Proofs.YthoihfighiolmaaGreat.V
open Go.Eng
attribute [local go_sem] zDesc aP af fzD plR bb a_ aE bj aC ak bk cR z8 z16 z32 z64 encMg aH dE fk List.map_cons List.map_nil
def zPc:List DV:=[.v (.int .u8 0),.v (.int .u16 0),.v (.bool false),.v (.slice none 0 0),.v (.slice none 0 0),.v (.slice none 0 0),.v (.bool false),.v (.bool false),.v (.int .u8 0),.v (.int .u16 0),.v (.int .u8 0),.v (.slice none 0 0),.v (.int .u8 0),.v (.int .u16 0),.v (.int .u8 0),.v (.slice none 0 0),.v (.bool false),.v (.int .u8 0),.v (.int .u8 0),.v (.slice none 0 0),.v (.slice none 0 0),.v (.int .u32 0),.v (.slice none 0 0),.v (.int .u32 0),.v (.slice none 0 0),.v (.slice none 0 0),.v (.int .i64 0),.v (.slice none 0 0),.v (.slice none 0 0),.v (.int .i64 0),.v (.int .i64 0),.v (.int .i64 0)]
set_option maxHeartbeats 4000000 in
theorem cx (c:ar) (p:ah) (l:List GDesc) (hc:c.schema.length<=4) (hcs: ∀s∈c.schema,okS s) (hp:okG p) (hl:aR l) (hl2: ∀d∈l,okF d):
  Con2 Tryz.prog 93 [.agg (aC c),.agg (ak p),fzD l] (· =plR (.agg (ak (aJ c p l)))):=by
 refine Con2.ofEmb ?_
 obtain⟨m1,m2⟩:=lT (c:=c) hp hl hl2
 have m2:=m2 c.near
 have u1:=m1.u p.node
 have u2:=m2.u p.node
 have hk:=hp.ok
 have k1:Con2 Tryz.prog 179 [.agg (ak p),fzD p.view] (· =plR (fzD (pCur p p.view))):=vA p p.view hk hk.view
 have k2:Con2 Tryz.prog 179 [.agg (ak { p with view:=pCur p p.view }),fzD p.near] (· =plR (fzD (pCur p p.near))):=vA { p with view:=pCur p p.view } p.near (iT hk (dA hk.view) hk.near hk.succ hk.pred) hk.near
 have k3:Con2 Tryz.prog 180 [.agg (ak { p with view:=pCur p p.view,near:=pCur p p.near }),.agg (af p.ring.succ)] (· =plR (.v (.bool (ck p p.ring.succ)))):=rn _ _ (iT hk (dA hk.view) (dA hk.near) hk.succ hk.pred)
 have k4: ∀hs su,su.filter.length<=4000000->Con2 Tryz.prog 180 [.agg (ak { p with view:=pCur p p.view,near:=pCur p p.near,ring:=⟨hs,p.ring.hp,su,p.ring.pred⟩ }),.agg (af p.ring.pred)] (· =plR (.v (.bool (ck p p.ring.pred)))):=fun hs su h=>
  rn _ _ (iT (r:=⟨hs,p.ring.hp,su,p.ring.pred⟩) hk (dA hk.view) (dA hk.near) h hk.pred)
 have hsf:(bJ p p.ring).succ.filter.length<=4000000:=by
  simp only[bJ];split
  ·exact Nat.zero_le _
  ·exact hk.succ
 have hpf:(bJ p p.ring).pred.filter.length<=4000000:=by
  simp only[bJ];split
  ·exact Nat.zero_le _
  ·exact hk.pred
 have k5:=j7 (bJ p p.ring) hsf hpf
 have k6:Con2 Tryz.prog 181 [.agg (aC c),.agg (ak { p with view:=pCur p p.view,near:=pCur p p.near,ring:=bJ p p.ring }),fzD l] (· =plR (fzD (pUse c p l))):=l8 c _ l (by omega) (iT hk (dA hk.view) (dA hk.near) hsf hpf) hl
 have k7:=xD p.filter p.node c.near _ (by simp) m1.ds hk.filter hp.filter u1.1 u1.2
 have k8:Con2 Tryz.prog 20 [.agg (ak { p with view:=pCur p p.view,near:=cG p.filter p.node c.near [pCur p p.view,pCur p p.near,aw (bJ p p.ring),pUse c p l],ring:=bJ p p.ring })] (· =plR (.agg (af (pSelf p)))):=
  fD _ (iT hk (dA hk.view) (m2.ds _ (by simp)) hsf hpf)
 have k9:=x9 c.schema (pSelf p) _ (by simp) m2.ds hc hcs hk.filter hp.filter u2.1 (Nat.le_trans u2.2 (by omega))
 have hres:aJ c p l={ p with view:=pCur p p.view,near:=cG p.filter p.node c.near [pCur p p.view,pCur p p.near,aw (bJ p p.ring),pUse c p l],ring:=bN c.schema (pSelf p) [pCur p p.view,cG p.filter p.node c.near [pCur p p.view,pCur p p.near,aw (bJ p p.ring),pUse c p l],aw (bJ p p.ring),pUse c p l] }:=rfl
 rw[hres]
 clear hres m1 m2 u1 u2 hsf hpf
 generalize bN c.schema (pSelf p) [pCur p p.view,cG p.filter p.node c.near [pCur p p.view,pCur p p.near,aw (bJ p p.ring),pUse c p l],aw (bJ p p.ring),pUse c p l]=R at k9
 generalize cG p.filter p.node c.near [pCur p p.view,pCur p p.near,aw (bJ p p.ring),pUse c p l]=N at k7 k8 k9
 generalize pUse c p l=M at k6 k7 k9
 generalize aw (bJ p p.ring)=B at k5 k7 k9
 generalize pSelf p=S at k8 k9
 generalize pCur p p.view=v at k1 k2 k3 k4 k6 k7 k8 k9
 generalize pCur p p.near=n at k2 k3 k4 k6 k7 k8
 have hr: ∀a b s q,bJ p p.ring=⟨a,b,s,q⟩->bJ p p.ring=⟨a,b,s,q⟩:=fun _ _ _ _ h=>h
 unfold bJ at hr
 generalize hR:bJ p p.ring=r at k5 k6 k8
 unfold bJ at hR
 clear hr
 obtain⟨q,hq⟩: ∃q:b9,q=⟨p.ring.hs&&ck p p.ring.succ,p.ring.hp,if (p.ring.hs&& !ck p p.ring.succ)=true then zDesc else p.ring.succ,p.ring.pred⟩:=⟨_,rfl⟩
 have hqs:q.succ.filter.length<=4000000:=by
  rw[hq]
  simp only
  split
  ·exact Nat.zero_le _
  ·exact hk.succ
 have k4':=k4 q.hs q.succ hqs
 rw[show(⟨q.hs,p.ring.hp,q.succ,p.ring.pred⟩:b9)=q by rw[hq]]at k4'
 have q1:q.hp=p.ring.hp:=by rw[hq]
 have q2:q.pred=p.ring.pred:=by rw[hq]
 refine ev_ Tryz.func93 [.cell 6 49] ?_
 refine Vc2.sq (g2_ ?_)
 refine Vc2.sq (g2_ ?_)
 refine cw_ k1 (g2_ ?_)
 refine Vc2.sq (g2_ ?_)
 refine cw_ k2 (g2_ ?_)
 refine Vc2.seqJ (γ:=Unit) (fun _=>⟨[(2,.d (fzD l)),(3,.loc 3 0),(4,.loc 4 0),(6,.loc 6 0)],[(3,⟨aC c,26⟩),(4,⟨ak { p with view:=v,near:=n,ring:=q },49⟩),(6,⟨zPc,49⟩)],[],0,0⟩) (fun _=>True) ?_ (fun _ _=>?_)
 ·refine g2_ ?_
  cases h1:p.ring.hs with
  |false=>
   rw[show q=⟨false,p.ring.hp,p.ring.succ,p.ring.pred⟩by rw[hq];simp[h1]]
   refine gf_ h1 ?_
   refine⟨(),aa [] ?_⟩
   repeat first|simp-implicitDefEqProofs only[go_sem,ab,h1,zPc]|with_reducible refine gl_ ?_
   first|done|rfl|exact⟨rfl,rfl⟩
  | true=>
   refine gf_ h1 ?_
   refine cx_ k3 (wf_ h1) (g2_ ?_)
   cases h2:ck p p.ring.succ with
   |false=>
    rw[show q=⟨false,p.ring.hp,zDesc,p.ring.pred⟩by rw[hq];simp[h1,h2]]
    refine gf_ h1 ?_
    refine⟨(),aa [] ?_⟩
    repeat first|simp-implicitDefEqProofs only[go_sem,ab,h1,zPc]|with_reducible refine gl_ ?_
    first|done|rfl|exact⟨rfl,rfl⟩
   |true=>
    rw[show q=⟨true,p.ring.hp,p.ring.succ,p.ring.pred⟩by rw[hq];simp[h1,h2]]
    refine gf_ h1 ?_
    refine⟨(),aa [] ?_⟩
    repeat first|simp-implicitDefEqProofs only[go_sem,ab,h1,zPc]|with_reducible refine gl_ ?_
    first|done|rfl|exact⟨rfl,rfl⟩
 have er:r=⟨q.hs,q.hp&&ck p q.pred,q.succ,if (q.hp&& !ck p q.pred)=true then zDesc else q.pred⟩:=by
  rw[<-hR,hq]
 rw[<-q2]at k4'
 clear hq hR k3 k4 hqs q1 q2
 refine Vc2.seqJ (γ:=Unit) (fun _=>⟨[(2,.d (fzD l)),(3,.loc 3 0),(4,.loc 4 0),(6,.loc 6 0)],[(3,⟨aC c,26⟩),(4,⟨ak { p with view:=v,near:=n,ring:=r },49⟩),(6,⟨zPc,49⟩)],[],0,0⟩) (fun _=>True) ?_ (fun _ _=>?_)
 ·refine g2_ ?_
  cases h1:q.hp with
  |false=>
   rw[show r=⟨q.hs,false,q.succ,q.pred⟩by rw[er];simp[h1]]
   refine gf_ h1 ?_
   refine⟨(),aa [] ?_⟩
   repeat first|simp-implicitDefEqProofs only[go_sem,ab,h1,zPc]|with_reducible refine gl_ ?_
   first|done|rfl|exact⟨rfl,rfl⟩
  | true=>
   refine gf_ h1 ?_
   refine cx_ k4' (wf_ h1) (g2_ ?_)
   cases h2:ck p q.pred with
   |false=>
    rw[show r=⟨q.hs,false,q.succ,zDesc⟩by rw[er];simp[h1,h2]]
    refine gf_ h1 ?_
    refine⟨(),aa [] ?_⟩
    repeat first|simp-implicitDefEqProofs only[go_sem,ab,h1,zPc]|with_reducible refine gl_ ?_
    first|done|rfl|exact⟨rfl,rfl⟩
   |true=>
    rw[show r=⟨q.hs,true,q.succ,q.pred⟩by rw[er];simp[h1,h2]]
    refine gf_ h1 ?_
    refine⟨(),aa [] ?_⟩
    repeat first|simp-implicitDefEqProofs only[go_sem,ab,h1,zPc]|with_reducible refine gl_ ?_
    first|done|rfl|exact⟨rfl,rfl⟩
 clear er
 refine Vc2.of ?_
 refine g2_ ?_
 refine cw_ k5 (g2_ ?_)
 refine cw_ k6 (g2_ ?_)
 refine cw_ k7 (g2_ ?_)
 refine .inr (.inl ⟨(.fl 0 (.fl 2 (.fl 4 (.fl 6 (.fl 8 (.fl 9 (.fl 1 (.fl 5 (.fl 7 (.eff 3 true (.eff 10 true (.eff 11 false (.fl 12 (.eff 13 false .done .no)) .no) .no) (.eff 10 true (.eff 3 true (.eff 11 false (.fl 12 (.eff 13 false .done .no)) .no) .no) .no))))))))))),by kernel_rfl,g2_ ?_⟩)
 repeat' (first
  |(with_reducible refine And.intro ?_ ?_)
  |(refine cw_ k8 (g2_ ?_))
  |(refine cw_ k9 (g2_ ?_))
  |(with_reducible refine aK ?_;refine g2_ ?_))
 all_goals
  first
   |(show 32<=zPc.length;decide)
   |(refine ae ?_ rfl;(focus (simp-implicitDefEqProofs only[go_sem,ab];done)))
end Go.Proofs.YthoihfighiolmaaGreat.V
namespace Go.Proofs.YthoihfighiolmaaGreat.V
open Go.Eng
structure okH(p:ah):Prop where
 g:okG p
 rs:jc p.reports
 v8:ok8 p.view
 vw:Vw p.node p.view
theorem okH.ok{p:ah}(h:okH p):okP p:=h.g.ok
theorem aaK(l:List an)(i:UInt8)(inc:UInt16):(cl l i inc).length=l.length:=by simp[cl]
theorem abn{p:ah}(h:okP p){t:List an}{r:List (List cO)}(ht:t.length<=4000000)(hr:jc r):okP { p with table:=t,reports:=r }:=
 ⟨h.filter,h.view,h.near,h.succ,h.pred,h.sent,ht,h.heard,h.rows,⟨by have:=hr.1;show r.length<=4000000;omega,hr.2⟩,h.evs,h.pulls⟩
theorem abJ{p:ah}(h:okG p){t:List an}{r:List (List cO)}(ht:t.length<=12)(hr:jc r):okG { p with table:=t,reports:=r }:=
 ⟨abn h.ok (by omega) hr,h.filter,h.view,h.near,h.succ,h.pred,ht⟩
theorem oc{p:ah}(h:okH p){t:List an}{r:List (List cO)}(ht:t.length<=12)(hr:jc r):okH { p with table:=t,reports:=r }:=
 ⟨abJ h.g ht hr,hr,h.v8,h.vw⟩
theorem ea{c:ar}{p:ah}(h:okH p)(node:UInt8)(inc:UInt16):okH (aI c p node inc).1:=by
 have ht:=h.g.table;unfold aI;split
 ·exact h
 ·split
  ·exact h
  ·split
   ·exact h
   ·refine oc h (by rw[aaK];exact ht) ?_
    split
    ·exact jv h.rs
    ·exact h.rs
def d9(c:ar)(p:ah)(m:bo):ah×List bo:=
 match m.list with
 |[d]=>if d.node=m.frm/\d.inc=m.inc/\bp c d=true then ({ p with view:=dJ p.view d p.node c.view },[{ pMsg p 2 m.frm with list:=bE p.view (pSelf p),table:=p.table }])else (p,[])
 |_=>(p,[])
def qw(c:ar)(p:ah)(m:bo):ah×List bo:=
 let q:=aI c p m.frm m.inc
 if q.2=true then (aJ c (d9 c q.1 m).1 [],(d9 c q.1 m).2)else (q.1,[])
structure okMg(m:bo):Prop where
 list:m.list.length<=1048576
 f8: ∀d∈m.list,d.filter.length<=1048576
 fs: ∀d∈m.list, ∀s∈d.filter,okS s
 table:m.table.length<=1048576
theorem okMg.ds{m:bo}(h:okMg m):aR m.list:=⟨by have:=h.list;omega,fun d hd=>by have:=h.f8 d hd;omega⟩
theorem okMg.fs2{m:bo}(h:okMg m): ∀d∈m.list,okF d:=fun d hd=>⟨by have:=h.f8 d hd;omega,h.fs d hd⟩
theorem afs(a b:UInt8):((a.toNat:Int)=(b.toNat:Int))↔a=b:=⟨fun h=>UInt8.toNat_inj.1 (by omega),fun h=>by rw[h]⟩
theorem alE(a b:UInt16):((a.toNat:Int)=(b.toNat:Int))↔a=b:=⟨fun h=>UInt16.toNat_inj.1 (by omega),fun h=>by rw[h]⟩
theorem mZ{l:List GDesc}{x d:GDesc}{self:UInt8}{room:Int}(h:x∈dJ l d self room):x∈l\/x=d:=by
 unfold dJ at h;split at h
 ·exact put_mem x h
 ·split at h
  ·exact .inl h
  ·split at h
   ·exact .inl h
   ·split at h
    ·rcases put_mem x h with h|h
     ·exact .inl (List.mem_filter.1 h).1
     ·exact .inr h
    ·exact .inl h
theorem adv{l:List GDesc}{d:GDesc}{self:UInt8}{room:Int}:(dJ l d self room).length<=l.length+1:=by
 unfold dJ;split
 ·exact hX d room
 ·split
  ·exact Nat.le_succ _
  ·split
   ·exact Nat.le_succ _
   ·split
    ·refine Nat.le_trans (hX d _) ?_;have:=List.length_filter_le (fun e:GDesc=> !decide (e.node=(‹GDesc›).node)) l
     exact Nat.succ_le_succ (List.length_filter_le _ _)
    ·exact Nat.le_succ _
theorem ix{p:ah}(h:okG p){v:List GDesc}(h1:v.length<=4000000)(h2: ∀d∈v,okF d):okG { p with view:=v }:=
 ⟨⟨h.ok.filter,⟨h1,fun d hd=>(h2 d hd).1⟩,h.ok.near,h.ok.succ,h.ok.pred,h.ok.sent,h.ok.table,h.ok.heard,h.ok.rows,h.ok.reports,h.ok.evs,h.ok.pulls⟩,h.filter,h2,h.near,h.succ,h.pred,h.table⟩
attribute[local go_sem] zDesc aP af fzD plR bb a_ aE bj aC ak bk cR z8 z16 z32 z64 encMg aH dE List.map_cons List.map_nil
theorem rZ(c:ar)(p:ah)(m:bo)(dr:List UInt32)(hc:c.schema.length<=4)(hcs: ∀s∈c.schema,okS s)(hp:okH p)(hm:okMg m)(hu:p.up=true)(hto:m.to=p.node)(hk:m.kind=1):
  Con2 Tryz.prog 44 [.agg (aC c),.agg (ak p),.agg (encMg m),.fz 1 (dr.map aZ)] (· =plR (.tup [.agg (ak (qw c p m).1),.fz 17 ((qw c p m).2.map encMg)])):=by
 refine Con2.ofEmb ?_;have hf:=bn p hp.ok;have hh:=dT c p m.frm m.inc hp.ok hp.rs;have hq:=ea (c:=c) hp m.frm m.inc;unfold qw;generalize aI c p m.frm m.inc=Q at hh hq;obtain⟨q,hd⟩:=Q;simp only at hq hh ⊢;refine en_ Tryz.func44 [.cell 8 49,.tmp 9] (g2_ ?_);refine g2_ ?_;refine cw_ hf (g2_ ?_);rw[hu,hto];refine gx_ ?_;refine cx_ hh (wg_ hu hto) (g2_ ?_);cases hd with
 |false=>
  refine g2_ ?_;refine ae ?_ rfl;exact wx_
 | true =>
  refine g2_ ?_;refine q0_ ?_;rw[show lkF fF m.kind=some 206 by rw[hk];rfl]
  refine g2_ ?_;have kq:=cx c q [] hc hcs hq.g ⟨by simp,by simp⟩ (by simp)
  have hfin:=sW c m.list (by omega) hm.ds
  have hmf:=hm.f8;have hmi:=hm.fs;cases hml:m.list with
  |nil=>
   rw[show d9 c q m=(q,[])by rw[d9,hml]]
   refine im_ Tryz.func206 [] (g2_ ?_);refine g2_ ?_;refine .inl ⟨[oF 0,oF 1,oF 2,oF 3,oF 4,oF 8,oF 5,oF 9,oF 6,oF 10,oF 7,oF 11,oF 12,oF 13,oF 14,oF 15,oF 16,oF 20,oF 17,oF 21,oF 18,oF 22,oF 19,oF 23,oF 24,oF 25,oF 26],by kernel_rfl,gf_ @c00 ?_⟩
   exact q1_ kq
  | cons d r=>
   cases r with
   |cons e r=>
    have hlen:((r.length+1+1:Nat):Int)≠1:=by omega
    rw[show d9 c q m=(q,[])by rw[d9,hml]]
    refine im_ Tryz.func206 [] (g2_ ?_);refine g2_ ?_;refine .inl ⟨[oF 0,oF 1,oF 2,oF 3,oF 4,oF 8,oF 5,oF 9,oF 6,oF 10,oF 7,oF 11,oF 12,oF 13,oF 14,oF 15,oF 16,oF 20,oF 17,oF 21,oF 18,oF 22,oF 19,oF 23,oF 24,oF 25,oF 26],by kernel_rfl,gx_ ?_⟩
    rw[show(((r.length+1+1:Nat):Int) !=1)=true from bne_iff_ne.2 hlen]
    refine g2_ ?_;exact q1_ kq
   | nil =>
    rw[hml]at hfin hmf hmi;have hd8:=hmf d (by simp)
    have hdi:=hmi d (by simp)
    refine im_ Tryz.func206 [] (g2_ ?_);refine g2_ ?_;refine .inl ⟨[oF 0,oF 1,oF 2,oF 3,oF 4,oF 8,oF 5,oF 9,oF 6,oF 10,oF 7,oF 11,oF 12,oF 13,oF 14,oF 15,oF 16,oF 20,oF 17,oF 21,oF 18,oF 22,oF 19,oF 23,oF 24,oF 25,oF 26],by kernel_rfl,gx_ ?_⟩
    rw[show(((0+1:Nat):Int) !=1)=false from rfl]
    refine g2_ ?_
    by_cases e1:d.node=m.frm
    ·rw [show((d.node.toNat:Int) !=(m.frm.toNat:Int))=false by rw[e1];exact bne_self_eq_false _]
     refine g2_ ?_
     by_cases e2:d.inc=m.inc
     ·rw [show((d.inc.toNat:Int) !=(m.inc.toNat:Int))=false by rw[e2];exact bne_self_eq_false _]
      refine g2_ ?_;refine cw_ hfin ?_;cases e3:bp c d with
      | true=>
       have ef:pFine c [d]=[d]:=by simp[pFine,e3]
       rw[ef];have hj:d9 c q m=({ q with view:=dJ q.view d q.node c.view },[{ pMsg q 2 m.frm with list:=bE q.view (pSelf q),table:=q.table }]):=by simp[d9,hml,e1,e2,e3]
       rw[hj];have ks:=fD q hq.g.ok;have kw:=mm q.view (pSelf q) hq.g.ok.view hq.g.ok.filter;have km:=fe q 2 m.frm
       have hwl:aR (bE q.view (pSelf q)):=by
        refine⟨?_,fun x hx=>?_⟩
        ·have h1:=hq.v8.1;simp only[bE,List.length_append,List.length_cons,List.length_take,List.length_drop];omega
        ·simp only[bE,List.mem_append,List.mem_cons]at hx;rcases hx with h|h|h
         ·exact hq.g.ok.view.2 x (List.mem_of_mem_take h)
         ·rw[h];exact hq.g.ok.filter
         ·exact hq.g.ok.view.2 x (List.mem_of_mem_drop h)
       have kc:=bh (bE q.view (pSelf q)) hwl;have kt:=fw (q.table.map aE) (by have:=hq.g.table;rw[List.length_map];omega)
       have ka:=ajq q.view d q.node c.view hq.v8 (aeH hc e3) hq.vw
       have kq':=cx c { q with view:=dJ q.view d q.node c.view } [] hc hcs (ix hq.g (Nat.le_trans adv (by have:=hq.v8.1;omega)) (fun x hx=>by
        rcases mZ hx with h|h
        ·exact hq.g.view x h
        ·rw[h];exact⟨by omega,hdi⟩)) ⟨by simp,by simp⟩ (by simp)
       clear kq;have kq:=kq';clear kq';generalize dJ q.view d q.node c.view=V at ka kq ⊢;generalize bE q.view (pSelf q)=Wl at kw kc ⊢;generalize pSelf q=S at ks kw;generalize hM:pMsg q 2 m.frm=M at km ⊢;refine gx_ ?_;rw[show(((1:Nat):Int)==0)=false from rfl]
       refine g2_ ?_;refine .inl ⟨[oF 0,oF 1,oF 6,oF 11,oF 17,oF 2,oF 7,oF 12,oF 18,oF 3,oF 8,oF 13,oF 19,oF 4,oF 9,oF 14,oF 20,oF 5,oF 10,oF 21,oT 15,oT 16,oF 22],by kernel_rfl,g2_ ?_⟩
       refine cw_ ks (g2_ ?_);refine cw_ kw (g2_ ?_);refine im_ Tryz.func120 [] (g2_ ?_);refine g2_ ?_;refine cw_ km (g2_ ?_);refine cw_ kc (g2_ ?_);refine cw_ kt (g2_ ?_);refine .inl ⟨[oF 0,oF 1,oF 5,oF 2,oF 3,oF 4,oT 6,oF 7,oF 8,oF 9,oF 10],by kernel_rfl,g2_ ?_⟩
       refine .inl ⟨[oF 0,oF 1,oF 6,oF 9,oF 14,oF 2,oF 7,oF 10,oF 15,oF 3,oF 8,oF 11,oF 16,oF 4,oF 12,oF 17,oF 5,oF 13,oF 18,oF 19,oF 20,oF 21,oF 22,oF 23],by kernel_rfl,g2_ ?_⟩
       refine cw_ ka (g2_ ?_);exact q1_ kq
      |false=>
       have ef:pFine c [d]=[]:=by simp[pFine,e3]
       have hj:d9 c q m=(q,[]):=by simp[d9,hml,e3]
       rw[ef,hj];refine gf_ @c00 ?_;exact q1_ kq
     ·have hj:d9 c q m=(q,[]):=by simp[d9,hml,e2]
      rw[hj,show((d.inc.toNat:Int) !=(m.inc.toNat:Int))=true from bne_iff_ne.2 (fun h=>e2 ((alE _ _).1 h))]
      refine g2_ ?_;exact q1_ kq
    ·have hj:d9 c q m=(q,[]):=by simp[d9,hml,e1]
     rw[hj,show((d.node.toNat:Int) !=(m.frm.toNat:Int))=true from bne_iff_ne.2 (fun h=>e1 ((afs _ _).1 h))]
     refine g2_ ?_;exact q1_ kq
