import Derived.Test.YtmhmahcdanclnaaGreatNo41
set_option linter.unusedSectionVars false
set_option linter.unusedSimpArgs false
set_option linter.unusedVariables false
set_option maxRecDepth 10000
set_option maxHeartbeats 4000000
namespace Go.Proofs.YtmhmahcdanclnaaGreat.V
open Go.Eng
attribute [local go_sem] zDesc aS ah fzD plR ba aL aR aC aE ak az aU z8 z16 z32 z64 encMg a_ b_ mn List.map_cons List.map_nil List.set_cons_succ List.set_cons_zero
theorem ahW(c:ar)(p:af)(l:List GDesc)(hc:c.schema.length<=4)(hcs: ∀s∈c.schema,okS s)(hp:okG p)(hl:cg l)(hl2: ∀d∈l,okF d):
  Con2 Tryz.prog 85 [.agg (aE c),.agg (ak p),fzD l] (· =⟨.agg ((ak (aB c p l)).set 24 (.rf 0 0 p.rows.length)),[(0,.arr 84 3 (p.rows.map aC) false)],1⟩):=by
 refine Con2.keep ?_;have kf:=qe p hp.ok;obtain⟨m1,m2⟩:=qM (c:=c) hp hl hl2;have m2:=m2 c.near;have u1:=m1.u p.node;have u2:=m2.u p.node;have hk:=hp.ok;have k1:Con2 Tryz.prog 147 [.agg ((ak p).set 24 (opN p.rows.length)),fzD p.view] (· =plR (fzD (pCur p p.view))):=vu p.rows.length p p.view hk hk.view
 have k2:Con2 Tryz.prog 147 [.agg ((ak { p with view:=pCur p p.view }).set 24 (opN p.rows.length)),fzD p.near] (· =plR (fzD (pCur p p.near))):=vu p.rows.length { p with view:=pCur p p.view } p.near (f_ hk (bV hk.view) hk.near hk.succ hk.pred) hk.near
 have k3:Con2 Tryz.prog 148 [.agg ((ak { p with view:=pCur p p.view,near:=pCur p p.near }).set 24 (opN p.rows.length)),.agg (ah p.ring.succ)] (· =plR (.v (.bool (cC p p.ring.succ)))):=tK p.rows.length _ _ (f_ hk (bV hk.view) (bV hk.near) hk.succ hk.pred)
 have k4: ∀hs su,su.filter.length<=4000000->Con2 Tryz.prog 148 [.agg ((ak { p with view:=pCur p p.view,near:=pCur p p.near,ring:=⟨hs,p.ring.hp,su,p.ring.pred⟩ }).set 24 (opN p.rows.length)),.agg (ah p.ring.pred)] (· =plR (.v (.bool (cC p p.ring.pred)))):=fun hs su h=>
  tK p.rows.length _ _ (f_ (r:=⟨hs,p.ring.hp,su,p.ring.pred⟩) hk (bV hk.view) (bV hk.near) h hk.pred)
 have hsf:(bH p p.ring).succ.filter.length<=4000000:=by
  simp only[bH];split
  ·exact Nat.zero_le _
  ·exact hk.succ
 have hpf:(bH p p.ring).pred.filter.length<=4000000:=by
  simp only[bH];split
  ·exact Nat.zero_le _
  ·exact hk.pred
 have k5:=i7 (bH p p.ring) hsf hpf;have k6:Con2 Tryz.prog 150 [.agg (aE c),.agg ((ak { p with view:=pCur p p.view,near:=pCur p p.near,ring:=bH p p.ring }).set 24 (opN p.rows.length)),fzD l] (· =plR (fzD (pUse c p l))):=afX p.rows.length c _ l (by omega) (f_ hk (bV hk.view) (bV hk.near) hsf hpf) hl
 have k7:=pA p.filter p.node c.near _ (by simp) m1.ds hk.filter hp.filter u1.1 u1.2
 have k8:Con2 Tryz.prog 81 [.agg ((ak { p with view:=pCur p p.view,near:=c_ p.filter p.node c.near [pCur p p.view,pCur p p.near,aY (bH p p.ring),pUse c p l],ring:=bH p p.ring }).set 24 (opN p.rows.length))] (· =plR (.agg (ah (pSelf p)))):=
  acD p.rows.length _ (f_ hk (bV hk.view) (m2.ds _ (by simp)) hsf hpf)
 have k9:=pZ c.schema (pSelf p) _ (by simp) m2.ds hc hcs hk.filter hp.filter u2.1 (Nat.le_trans u2.2 (by omega))
 have hres:aB c p l={ p with view:=pCur p p.view,near:=c_ p.filter p.node c.near [pCur p p.view,pCur p p.near,aY (bH p p.ring),pUse c p l],ring:=dK c.schema (pSelf p) [pCur p p.view,c_ p.filter p.node c.near [pCur p p.view,pCur p p.near,aY (bH p p.ring),pUse c p l],aY (bH p p.ring),pUse c p l] }:=rfl;rw[hres];clear hres m1 m2 u1 u2 hsf hpf;generalize dK c.schema (pSelf p) [pCur p p.view,c_ p.filter p.node c.near [pCur p p.view,pCur p p.near,aY (bH p p.ring),pUse c p l],aY (bH p p.ring),pUse c p l]=R at k9;generalize c_ p.filter p.node c.near [pCur p p.view,pCur p p.near,aY (bH p p.ring),pUse c p l]=N at k7 k8 k9;generalize pUse c p l=M at k6 k7 k9;generalize aY (bH p p.ring)=B at k5 k7 k9;generalize pSelf p=S at k8 k9;generalize pCur p p.view=v at k1 k2 k3 k4 k6 k7 k8 k9;generalize pCur p p.near=n at k2 k3 k4 k6 k7 k8;have hr: ∀a b s q,bH p p.ring=⟨a,b,s,q⟩->bH p p.ring=⟨a,b,s,q⟩:=fun _ _ _ _ h=>h
 unfold bH at hr;generalize hR:bH p p.ring=r at k5 k6 k8;unfold bH at hR;clear hr;obtain⟨q,hq⟩: ∃q:ep,q=⟨p.ring.hs&&cC p p.ring.succ,p.ring.hp,if (p.ring.hs&& !cC p p.ring.succ)=true then zDesc else p.ring.succ,p.ring.pred⟩:=⟨_,rfl⟩
 have hqs:q.succ.filter.length<=4000000:=by
  rw[hq];simp only;split
  ·exact Nat.zero_le _
  ·exact hk.succ
 have k4':=k4 q.hs q.succ hqs;rw[show(⟨q.hs,p.ring.hp,q.succ,p.ring.pred⟩:ep)=q by rw[hq]]at k4'
 have q1:q.hp=p.ring.hp:=by rw[hq]
 have q2:q.pred=p.ring.pred:=by rw[hq]
 refine en_ Tryz.func85 [.cell 6 49] (g2_ ?_);refine g2_ ?_;refine .inr (.inr (.inl ⟨[oF 0,oF 1,oF 3,oT 2,oF 4,oF 5],[],by kernel_rfl,g2_ ?_⟩))
 refine cw_ kf ?_;clear kf;refine g2_ ?_;refine il_ Tryz.func79 [.cell 6 49] ?_;refine Vc2.sq (g2_ ?_);refine Vc2.sq (g2_ ?_);refine CallS.opq 0 rfl ?_;refine cw_ k1 (g2_ ?_);refine Vc2.sq (g2_ ?_);refine CallS.opq 0 rfl ?_;refine cw_ k2 (g2_ ?_);refine Vc2.seqJ (γ:=Unit) (fun _=>⟨[(2,.d (fzD l)),(3,.loc 3 0),(4,.loc 4 0),(6,.loc 6 0)],[(3,⟨aE c,26⟩),(4,⟨(ak { p with view:=v,near:=n,ring:=q }).set 24 (.rf 0 0 p.rows.length),49⟩),(6,⟨zPc,49⟩)],[(0,.arr 84 3 (p.rows.map aC) false)],1,1⟩) (fun _=>True) ?_ (fun _ _=>?_)
 ·refine g2_ ?_;cases h1:p.ring.hs with
  |false=>
   rw[show q=⟨false,p.ring.hp,p.ring.succ,p.ring.pred⟩by rw[hq];simp[h1]]
   refine gf_ h1 ?_;refine⟨(),aa [] ?_⟩
   repeat first|simp-implicitDefEqProofs only[go_sem,ab,h1,zPc]|with_reducible refine gl_ ?_
   first|done|rfl|exact⟨rfl,rfl⟩
  | true=>
   refine gf_ h1 ?_;refine CallS.opq 0 rfl ?_;refine cx_ k3 (wf_ h1) (g2_ ?_);cases h2:cC p p.ring.succ with
   |false=>
    rw[show q=⟨false,p.ring.hp,zDesc,p.ring.pred⟩by rw[hq];simp[h1,h2]]
    refine gf_ h1 ?_;refine⟨(),aa [] ?_⟩
    repeat first|simp-implicitDefEqProofs only[go_sem,ab,h1,zPc]|with_reducible refine gl_ ?_
    first|done|rfl|exact⟨rfl,rfl⟩
   |true=>
    rw[show q=⟨true,p.ring.hp,p.ring.succ,p.ring.pred⟩by rw[hq];simp[h1,h2]]
    refine gf_ h1 ?_;refine⟨(),aa [] ?_⟩
    repeat first|simp-implicitDefEqProofs only[go_sem,ab,h1,zPc]|with_reducible refine gl_ ?_
    first|done|rfl|exact⟨rfl,rfl⟩
 have er:r=⟨q.hs,q.hp&&cC p q.pred,q.succ,if (q.hp&& !cC p q.pred)=true then zDesc else q.pred⟩:=by
  rw[<-hR,hq]
 rw[<-q2]at k4';clear hq hR k3 k4 hqs q1 q2;refine Vc2.seqJ (γ:=Unit) (fun _=>⟨[(2,.d (fzD l)),(3,.loc 3 0),(4,.loc 4 0),(6,.loc 6 0)],[(3,⟨aE c,26⟩),(4,⟨(ak { p with view:=v,near:=n,ring:=r }).set 24 (.rf 0 0 p.rows.length),49⟩),(6,⟨zPc,49⟩)],[(0,.arr 84 3 (p.rows.map aC) false)],1,1⟩) (fun _=>True) ?_ (fun _ _=>?_)
 ·refine g2_ ?_;cases h1:q.hp with
  |false=>
   rw[show r=⟨q.hs,false,q.succ,q.pred⟩by rw[er];simp[h1]]
   refine gf_ h1 ?_;refine⟨(),aa [] ?_⟩
   repeat first|simp-implicitDefEqProofs only[go_sem,ab,h1,zPc]|with_reducible refine gl_ ?_
   first|done|rfl|exact⟨rfl,rfl⟩
  | true=>
   refine gf_ h1 ?_;refine CallS.opq 0 rfl ?_;refine cx_ k4' (wf_ h1) (g2_ ?_);cases h2:cC p q.pred with
   |false=>
    rw[show r=⟨q.hs,false,q.succ,zDesc⟩by rw[er];simp[h1,h2]]
    refine gf_ h1 ?_;refine⟨(),aa [] ?_⟩
    repeat first|simp-implicitDefEqProofs only[go_sem,ab,h1,zPc]|with_reducible refine gl_ ?_
    first|done|rfl|exact⟨rfl,rfl⟩
   |true=>
    rw[show r=⟨q.hs,true,q.succ,q.pred⟩by rw[er];simp[h1,h2]]
    refine gf_ h1 ?_;refine⟨(),aa [] ?_⟩
    repeat first|simp-implicitDefEqProofs only[go_sem,ab,h1,zPc]|with_reducible refine gl_ ?_
    first|done|rfl|exact⟨rfl,rfl⟩
 clear er;refine Vc2.of ?_;refine g2_ ?_;refine cw_ k5 (g2_ ?_);refine CallS.opq 0 rfl ?_;refine cw_ k6 (g2_ ?_);refine cw_ k7 (g2_ ?_);refine .inr (.inl ⟨(.fl 0 (.fl 2 (.fl 4 (.fl 6 (.fl 8 (.fl 9 (.fl 1 (.fl 5 (.fl 7 (.eff 3 true (.eff 10 true (.eff 11 false (.fl 12 (.eff 13 false .done .no)) .no) .no) (.eff 10 true (.eff 3 true (.eff 11 false (.fl 12 (.eff 13 false .done .no)) .no) .no) .no))))))))))),by kernel_rfl,g2_ ?_⟩)
 repeat' (first
  |(with_reducible refine And.intro ?_ ?_)
  |(refine CallS.opq 0 rfl ?_;refine CallS.eqW k8 ?_ (.inl ?_) ?_;(focus (simp-implicitDefEqProofs only[go_sem,ab];done));(focus (simp-implicitDefEqProofs only[go_sem,ab];done));refine g2_ ?_)
  |(refine cw_ k9 (g2_ ?_))
  |(with_reducible refine av ?_;refine g2_ ?_))
 all_goals
  first
   |(show 32<=zPc.length;decide)
   |(refine⟨⟨_,_,_⟩,⟨0,_,rfl,rfl,?_⟩,gy _⟩;(focus (simp-implicitDefEqProofs only[go_sem,ab];done)))
