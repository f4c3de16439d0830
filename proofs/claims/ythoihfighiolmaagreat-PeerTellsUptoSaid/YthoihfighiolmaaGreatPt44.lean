import Derived.Test.YthoihfighiolmaaGreatPt39
import Derived.Test.YthoihfighiolmaaGreatPt43
set_option linter.unusedSectionVars false
set_option linter.unusedSimpArgs false
set_option linter.unusedVariables false
set_option maxRecDepth 10000
set_option maxHeartbeats 4000000
namespace Go.Eng
theorem yj{kept:List GDesc}{l:List GDesc}{r:b9}{k:Nat}(h:k<l.length):rDrops kept (l.take (k+1)) r=if kept.any (fun e=>decide (e.node=l[k].node))=true then rDrops kept (l.take k) r else eB (rDrops kept (l.take k) r) l[k].node:=by
 rw[rDrops,List.take_add_one,List.getElem?_eq_getElem h,List.foldl_append];rfl
def lkK(p:ah)(n:Nat):List UInt8:=((List.range n).map UInt8.ofNat).filter fun x=>decide (x∈cy p)
theorem ad3(p:ah):bA p=lkK p 256:=ajR _
theorem afS{p:ah}{n:Nat}:lkK p (n+1)=lkK p n++(if UInt8.ofNat n∈cy p then [UInt8.ofNat n]else []):=by
 rw[lkK,lkK,List.range_succ,List.map_append,List.filter_append]
 by_cases h:UInt8.ofNat n∈cy p
 ·rw[if_pos h];simp[h]
 ·rw[if_neg h];simp[h]
theorem aji{p:ah}{n:Nat}:(lkK p n).length<=n:=by
 rw[lkK];refine Nat.le_trans (List.length_filter_le _ _) ?_;simp
structure FP(c:ar)(q:GDesc->Bool)(p:ah):Prop where
 view: ∀d∈p.view,q d=true
 near: ∀d∈p.near,q d=true
 succ:p.ring.hs=true->q p.ring.succ=true
 pred:p.ring.hp=true->q p.ring.pred=true
theorem tH{q:GDesc->Bool}{kept:List GDesc}: ∀(l:List GDesc) (r:b9),(r.hs=true->q r.succ=true)->(r.hp=true->q r.pred=true)->((rDrops kept l r).hs=true->q (rDrops kept l r).succ=true)/\((rDrops kept l r).hp=true->q (rDrops kept l r).pred=true)
 |[],r,h1,h2=>⟨h1,h2⟩
 | d::l,r,h1,h2=>by
  rw[show rDrops kept (d::l) r=rDrops kept l (if kept.any (fun e=>decide (e.node=d.node))=true then r else eB r d.node)from rfl]
  split
  ·exact tH l r h1 h2
  ·refine tH l _ ?_ ?_
   ·intro h;simp only[eB,Bool.and_eq_true,Bool.not_eq_true']at h ⊢;rw[if_neg (by simp[h.2])];exact h1 h.1
   ·intro h;simp only[eB,Bool.and_eq_true,Bool.not_eq_true']at h ⊢;rw[if_neg (by simp[h.2])];exact h2 h.1
theorem nh{kept:List GDesc}{n:Nat}: ∀{r:b9},r.succ.filter.length<=n->r.pred.filter.length<=n-> ∀(l:List GDesc),(rDrops kept l r).succ.filter.length<=n/\(rDrops kept l r).pred.filter.length<=n
 |r,h1,h2,[]=>⟨h1,h2⟩
 | r,h1,h2,d::l=>by
  rw[show rDrops kept (d::l) r=rDrops kept l (if kept.any (fun e=>decide (e.node=d.node))=true then r else eB r d.node)from rfl]
  split
  ·exact nh h1 h2 l
  ·refine nh ?_ ?_ l
   ·simp only[eB];split
    ·exact Nat.zero_le _
    ·exact h1
   ·simp only[eB];split
    ·exact Nat.zero_le _
    ·exact h2
end Go.Eng
namespace Go.Proofs.YthoihfighiolmaaGreat.V
open Go.Eng
attribute [local go_sem] zDesc aP af fzD plR bb a_ aE bj aC ak bk cR z8 z16 z32 z64 encMg aH dE List.map_cons List.map_nil List.set_cons_succ List.set_cons_zero
theorem aj1{c:ar}{q:GDesc->Bool}{p:ah}(h:FP c q p): ∀d∈aw p.ring,q d=true:=fun d hd=>by
 rcases dU hd with ⟨h1,rfl⟩|⟨h1,rfl⟩
 ·exact h.succ h1
 ·exact h.pred h1
theorem acu{c:ar}{q:GDesc->Bool}{p:ah}(h:FP c q p){kept l:List GDesc}{d:GDesc}(hd:d∈aw (rDrops kept l p.ring)):q d=true:=by
 obtain⟨h1,h2⟩:=tH (q:=q) (kept:=kept) l p.ring h.succ h.pred;rcases dU hd with ⟨h3,rfl⟩|⟨h3,rfl⟩
 ·exact h1 h3
 ·exact h2 h3
theorem wF(l:List GDesc)(x:UInt8):iB l x.toNat=l.any fun e=>decide (e.node=x):=by
 unfold iB;congr 1;funext d;rw[decide_eq_decide,UInt8.toNat_inj]
theorem mI(l:List GDesc){n:Nat}(hn:n<256):iB l n=decide (UInt8.ofNat n∈l.map (·.node)):=by
 have e:(UInt8.ofNat n).toNat=n:=by rw[UInt8.toNat_ofNat'];omega
 have:=wF l (UInt8.ofNat n);rw[e]at this;rw[this,Bool.eq_iff_iff,List.any_eq_true,decide_eq_true_eq,List.mem_map];simp
theorem tL(p:ah)(hv:p.view.length<=4000000)(hn:p.near.length<=4000000):Con2 Tryz.prog 24 [.agg (ak p)] (· =bb 5 1 ((bA p).map aQ)):=by
 have hrl:=cQ p.ring;have kr:=fU p.ring;have k1:=fun n=>lI p.view n hv
 have k2:=fun n=>lI p.near n hn
 have k3:=fun n=>lI (aw p.ring) n (by omega)
 have hm: ∀n,n<256->(decide (UInt8.ofNat n∈cy p)=(iB p.view n||(iB p.near n||iB (aw p.ring) n))):=fun n h=>by
  rw[mI _ h,mI _ h,mI _ h];simp[cy,Bool.decide_or,or_assoc]
 rw[ad3];generalize aw p.ring=RL at kr k3 hm;refine en_ Tryz.func24 [.tmp 2] (g2_ ?_);refine g2_ ?_;refine av (γ:=Nat) (fun n=>[(4,.d (.v (.int .i64 (n:Nat)))),(3,.d (.rf 0 0 (lkK p n).length))]) (fun _=>[]) (fun n=>[(0,.arr 5 1 ((lkK p n).map aQ) false)]) 1 (fun n=>n<=256) (fun n=>256-n) 0 (aa [(0,.nil 1)] ?_) (by omega) (fun n hn=>?_)
 ·refine x1_ (c2_ @lkK.eq_1 @List.range_zero) ?_
  repeat' (first|rfl|refine And.intro ?_ ?_)
 ·have hll:(lkK p n).length<=n:=aji;have hsn:=afS (p:=p) (n:=n);refine g2_ ?_;refine aq (fun h=>?_) (fun h=>?_)
  ·have hn1:n<256:=by omega
   have hd:=hm n hn1;have hn8:(UInt8.ofNat n).toNat=n:=by rw[UInt8.toNat_ofNat'];omega
   have put:(iB p.view n||(iB p.near n||iB RL n))=true->lkK p (n+1)=lkK p n++[UInt8.ofNat n]:=fun g=>by rw[hsn,if_pos (by rw[g]at hd;exact of_decide_eq_true hd)]
   have no:(iB p.view n||(iB p.near n||iB RL n))=false->lkK p (n+1)=lkK p n:=fun g=>by rw[hsn,if_neg (by rw[g]at hd;exact of_decide_eq_false hd),List.append_nil]
   refine g2_ ?_;refine ce_ (k1 n) ?_;cases b1:iB p.view n with
   |true=>
    refine g2_ ?_;refine dx (by omega) ?_
    refine gx_ ?_;refine⟨n+1,aa [(0,.to 2)] ?_,by omega,by omega⟩
    have hput:=put (by rw[b1];rfl)
    repeat first|simp-implicitDefEqProofs only[go_sem,ab,hput,List.map_append,List.length_append,aQ,hn8]|with_reducible refine gl_ ?_
    try (repeat' (first|rfl|refine And.intro ?_ ?_))
   |false=>
   refine g2_ ?_;refine ce_ (k2 n) ?_;cases b2:iB p.near n with
   |true=>
    refine g2_ ?_;refine dx (by omega) ?_
    refine gx_ ?_;refine⟨n+1,aa [(0,.to 2)] ?_,by omega,by omega⟩
    have hput:=put (by rw[b1,b2];rfl)
    repeat first|simp-implicitDefEqProofs only[go_sem,ab,hput,List.map_append,List.length_append,aQ,hn8]|with_reducible refine gl_ ?_
    try (repeat' (first|rfl|refine And.intro ?_ ?_))
   |false=>
   refine g2_ ?_;refine ce_ kr (g2_ ?_);refine ce_ (k3 n) ?_;cases b3:iB RL n with
   |true=>
    refine g2_ ?_;refine dx (by omega) ?_
    refine gx_ ?_;refine⟨n+1,aa [(0,.to 2)] ?_,by omega,by omega⟩
    have hput:=put (by rw[b1,b2,b3];rfl)
    repeat first|simp-implicitDefEqProofs only[go_sem,ab,hput,List.map_append,List.length_append,aQ,hn8]|with_reducible refine gl_ ?_
    try (repeat' (first|rfl|refine And.intro ?_ ?_))
   |false=>
    refine g2_ ?_;refine⟨n+1,aa [(0,.to 0)] ?_,by omega,by omega⟩
    have hno:=no (by rw[b1,b2,b3];rfl)
    refine gf_ hno ?_
    try (repeat' (first|rfl|refine And.intro ?_ ?_))
  ·obtain rfl:n=256:=by omega
   refine g2_ ?_;exact⟨_,rfl,aa [] wx_⟩
theorem mM(p:ah)(hv:p.view.length<=4000000)(hn:p.near.length<=4000000):Con2 Tryz.prog 24 [.agg (ak p)] (· =plR (.fz 1 ((bA p).map aQ))):=by
 have k:=tL p hv hn;generalize (bA p).map aQ=L at k;refine k.emb ?_ rfl;simp[embD,lk,rfD,List.take_of_length_le]
theorem uA(c:ar)(p:ah)(hv:p.view.length<=4000000)(hn:p.near.length<=4000000)(h0:0<=c.nodes)(h12:c.nodes<=12)(hll:(bA p).length<=4000000):Con2 Tryz.prog 62 [.agg (aC c),.agg (ak p)] (· =plR (.tup [.agg (ak (if p.up=false then p else fQ c p)),.fz 17 ((if p.up=false then []else (bA p).map (pMsg p 9)).map encMg),.v (.int .i64 (if p.up=false then 53 else 0))])):=by
 refine Con2.ofEmb ?_;have kl:=mM p hv hn;have kd:=nv c p h0 h12;have ks:=fun to=>dL p 9 to [] []
 generalize fQ c p=q at kd;refine en_ Tryz.func62 [.cell 4 49,.tmp 5,.tmp 6] (g2_ ?_);refine g2_ ?_;cases hu:p.up with
 |false=>
  refine g2_ ?_;refine ae ?_ rfl;exact wf_ hu
 | true=>
  rw[if_neg (by simp),if_neg (by simp),if_neg (by simp)]
  generalize bA p=L at kl hll;refine g2_ ?_;refine CallS.eq kl (wf_ hu) (.inl ws_) ?_;refine g2_ ?_;refine av (γ:=Nat) (fun i=>[(9,.d (.v (.int .i64 (i:Nat)))),(7,.d (.rf 0 0 i))]) (fun _=>[]) (fun i=>[(0,.arr 60 17 (((L.take i).map (pMsg p 9)).map encMg) false)]) 1 (fun i=>i<=L.length) (fun i=>L.length-i) 0 (aa [(0,.nil 17)] ?_) (by omega) (fun i hi=>?_)
  ·refine x0_ ?_
   first|done|rfl|exact⟨rfl,rfl⟩
  ·have htl:(L.take i).length=i:=by rw[List.length_take];omega
   refine gx_ ?_;refine aq (fun h=>?_) (fun h=>?_)
   ·have hk:i<L.length:=by omega
    have hgk:(L.map aQ)[i]? =some [.v (.int .u8 L[i].toNat)]:=by rw[List.getElem?_map,List.getElem?_eq_getElem hk];rfl
    have hsn:(L.take (i+1)).map (pMsg p 9)=(L.take i).map (pMsg p 9)++[pMsg p 9 L[i]]:=by rw[List.take_add_one,List.getElem?_eq_getElem hk,List.map_append];rfl
    have ksi:=ks L[i];generalize L[i]=to at hgk hsn ksi;refine g2_ ?_;refine .inl ⟨[oF 0,oF 1,oF 2,oF 3,oF 4,oF 5,oF 6,oF 7,oF 8,oF 9],by kernel_rfl,gf_ hgk ?_⟩
    refine cx_ ksi (wf_ hu) (gf_ htl ?_);refine⟨i+1,aa [(0,.to 2)] ?_,by omega,by omega⟩
    refine x1_ hsn ?_
    try first|rfl|exact⟨rfl,by simp[pMsg]⟩
   ·have he:L.take i=L:=List.take_of_length_le (by omega)
    obtain rfl:i=L.length:=by omega
    rw[he];refine g2_ ?_;refine CallS.eq kd (wf_ hu) (.inl ws_) ?_;refine g2_ ?_;refine ae ?_ rfl;refine gx_ ?_
    try rw[List.take_of_length_le (by simp)]
theorem kR(p:ah)(l:List GDesc)(hp:okP p)(hl:aR l)(ht: ∀d∈l,d.node.toNat<p.table.length):Con2 Tryz.prog 132 [.agg (ak p),fzD l] (· =plR (fzD (pCur p l))):=ep (ad8 p l hp hl fun d hd _=>ht d hd)
theorem aaT(c:ar)(l:List GDesc)(hc:c.schema.length<=4000000)(hl:aR l):Con2 Tryz.prog 27 [.agg (aC c),fzD l] (· =plR (fzD (pFine c l))):=ep (wi c l hc hl)
theorem abl{c:ar}{d:GDesc}(h:bp c d=true):(d.node.toNat:Int)<c.nodes:=by simp[bp]at h;exact h.1.1
theorem yC{c:ar}{d:GDesc}(h:bp c d=true):bB c.schema d.filter=true:=by simp[bp]at h;exact h.2
theorem fV(c:ar)(p:ah)(l:List GDesc)(h4:c.schema.length<=4)(hcs: ∀s∈c.schema,okS s)(hp:okG p)(hf:bB c.schema p.filter=true)(hP:FP c (bp c) p)(ht:(p.table.length:Int)=c.nodes)(hl:aR l)(hl2: ∀d∈l,okF d):Con2 Tryz.prog 64 [.agg (aC c),.agg (ak p),fzD l] (· =plR (.agg (ak (aJ c p l)))):=by
 refine Con2.ofEmb ?_;have hk:=hp.ok;have hm:=lT (c:=c) hp hl hl2;have hlt: ∀d,bp c d=true->d.node.toNat<p.table.length:=fun d h=>by have:=abl h;omega
 have hrl2:=cQ p.ring
 have hRL:aR (aw p.ring):=⟨by omega,fun d hd=>by
  rcases dU hd with ⟨_,rfl⟩|⟨_,rfl⟩
  ·exact hk.succ
  ·exact hk.pred⟩
 have kv:=kR p p.view hk hk.view fun d hd=>hlt d (hP.view d hd)
 have hVo:aR (pCur p p.view):=dA hk.view;have kn:Con2 Tryz.prog 132 [.agg (ak { p with view:=pCur p p.view }),fzD p.near] (· =plR (fzD (pCur p p.near))):=kR { p with view:=pCur p p.view } p.near ⟨hk.filter,hVo,hk.near,hk.succ,hk.pred,hk.sent,hk.table,hk.heard,hk.rows,hk.reports,hk.evs,hk.pulls⟩ hk.near fun d hd=>hlt d (hP.near d hd)
 have hNo:aR (pCur p p.near):=dA hk.near;have hk2:okP { p with view:=pCur p p.view,near:=pCur p p.near }:=⟨hk.filter,hVo,hNo,hk.succ,hk.pred,hk.sent,hk.table,hk.heard,hk.rows,hk.reports,hk.evs,hk.pulls⟩;have kr:=fU p.ring;have ks:Con2 Tryz.prog 132 [.agg (ak { p with view:=pCur p p.view,near:=pCur p p.near }),fzD (aw p.ring)] (· =plR (fzD (pCur p (aw p.ring)))):=kR { p with view:=pCur p p.view,near:=pCur p p.near } (aw p.ring) hk2 hRL fun d hd=>hlt d (aj1 hP d hd)
 have hKl:(pCur p (aw p.ring)).length<=2:=Nat.le_trans (List.length_filter_le _ _) hrl2;have kh:=fun (x:UInt8)=>lI (pCur p (aw p.ring)) x.toNat (by omega)
 have hring:=ahF p p.ring;have hKe:=fun x=>wF (pCur p (aw p.ring)) x
 have kfi:=aaT c l (by omega) hl
 have hFi:aR (pFine c l):=bu hl;have kco: ∀r:b9,r.succ.filter.length<=4000000->r.pred.filter.length<=4000000->Con2 Tryz.prog 132 [.agg (ak { p with view:=pCur p p.view,near:=pCur p p.near,ring:=r }),fzD (pFine c l)] (· =plR (fzD (pUse c p l))):=fun r r1 r2=>kR { p with view:=pCur p p.view,near:=pCur p p.near,ring:=r } (pFine c l) (iT hk hVo hNo r1 r2) hFi fun d hd=>hlt d (List.mem_filter.1 hd).2
 obtain⟨m1,m2⟩:=hm;have m2:=m2 c.near;have u1:=m1.u p.node;have u2:=m2.u p.node;have k7:=qV p.filter p.node c.near _ (by simp) m1.ds hk.filter hp.filter (Nat.le_trans u1.2 (by omega)) u1.1
 have hnf: ∀d∈cG p.filter p.node c.near [pCur p p.view,pCur p p.near,aw (bJ p p.ring),pUse c p l], ∃k∈[pCur p p.view,pCur p p.near,aw (bJ p p.ring),pUse c p l],d∈k:=fun d hd=>dN (iJ hd)
 have hq4: ∀k∈[pCur p p.view,pCur p p.near,aw (bJ p p.ring),pUse c p l], ∀d∈k,bp c d=true:=fun k hk' d hd=>by
  simp only[List.mem_cons,List.not_mem_nil,or_false]at hk';rcases hk' with rfl|rfl|rfl|rfl
  ·exact hP.view d (List.mem_filter.1 hd).1
  ·exact hP.near d (List.mem_filter.1 hd).1
  ·rw[<-hring]at hd;exact acu hP hd
  ·exact(List.mem_filter.1 (List.mem_filter.1 hd).1).2
 have hq5: ∀d∈aV p.node [pCur p p.view,cG p.filter p.node c.near [pCur p p.view,pCur p p.near,aw (bJ p p.ring),pUse c p l],aw (bJ p p.ring),pUse c p l],bp c d=true:=fun d hd=>by
  obtain⟨k,h1,h2⟩:=dN hd;simp only[List.mem_cons,List.not_mem_nil,or_false]at h1;rcases h1 with rfl|rfl|rfl|rfl
  ·exact hq4 _ (by simp) d h2
  ·obtain⟨k,h3,h4⟩:=hnf d h2;exact hq4 k h3 d h4
  ·exact hq4 _ (by simp) d h2
  ·exact hq4 _ (by simp) d h2
 have k8: ∀(N:List GDesc) (r:b9),aR N->r.succ.filter.length<=4000000->r.pred.filter.length<=4000000->Con2 Tryz.prog 23 [.agg (ak { p with view:=pCur p p.view,near:=N,ring:=r })] (· =plR (.agg (af (pSelf p)))):=fun N r hN h1 h2=>gd _ (iT hk hVo hN h1 h2)
 have k9:=qW c.schema (pSelf p) _ (by simp) m2.ds h4 hcs ⟨hf,hp.filter⟩ (Nat.le_trans u2.2 (by omega)) (fun d hd=>⟨yC (hq5 d hd),(u2.1 d hd).2⟩)
 have hNN:=m2.ds _ (List.mem_cons_of_mem _ List.mem_cons_self);have hres:aJ c p l={ p with view:=pCur p p.view,near:=cG p.filter p.node c.near [pCur p p.view,pCur p p.near,aw (bJ p p.ring),pUse c p l],ring:=bN c.schema (pSelf p) [pCur p p.view,cG p.filter p.node c.near [pCur p p.view,pCur p p.near,aw (bJ p p.ring),pUse c p l],aw (bJ p p.ring),pUse c p l] }:=rfl;rw[hres];clear hres m1 m2 u1 u2 hq4 hq5 hnf;have hD: ∀i,(rDrops (pCur p (aw p.ring)) ((aw p.ring).take i) p.ring).succ.filter.length<=4000000/\(rDrops (pCur p (aw p.ring)) ((aw p.ring).take i) p.ring).pred.filter.length<=4000000:=fun i=>nh hk.succ hk.pred _
 rw[<-hring]at k7 k9 hNN;rw[<-hring];generalize bN c.schema (pSelf p) [pCur p p.view,cG p.filter p.node c.near [pCur p p.view,pCur p p.near,aw (rDrops (pCur p (aw p.ring)) (aw p.ring) p.ring),pUse c p l],aw (rDrops (pCur p (aw p.ring)) (aw p.ring) p.ring),pUse c p l]=R at k9;generalize cG p.filter p.node c.near [pCur p p.view,pCur p p.near,aw (rDrops (pCur p (aw p.ring)) (aw p.ring) p.ring),pUse c p l]=N at k7 k8 k9 hNN;generalize pUse c p l=M at kco k7 k9;generalize pSelf p=S at k8 k9;generalize pFine c l=FF at kfi kco;generalize pCur p p.view=v at kv kn ks kco k7 k8 k9;generalize pCur p p.near=n at kn ks kco k7;have hdrop:=fun (k:Nat) (h:k<(aw p.ring).length)=>yj (kept:=pCur p (aw p.ring)) (r:=p.ring) h
 have hdr:=fun (r:b9) x=>xO r x
 have hlist:=fun (r:b9)=>fU r
 generalize pCur p (aw p.ring)=K at ks hKl kh hKe hD hdrop k7 k9;generalize hRg:aw p.ring=L0 at kr ks hRL hrl2 hD hdrop k7 k9;refine en_ Tryz.func64 [.cell 6 49] (g2_ ?_);refine g2_ ?_;refine ce_ kv (g2_ ?_);refine ce_ kn (g2_ ?_);refine ce_ kr (g2_ ?_);refine ce_ ks (g2_ ?_);refine av (γ:=Nat) (fun i=>[(9,.d (.v (.int .i64 (i:Nat))))]) (fun i=>[(4,⟨ak { p with view:=v,near:=n,ring:=rDrops K (L0.take i) p.ring },49⟩)]) (fun _=>[]) 0 (fun i=>i<=L0.length) (fun i=>L0.length-i) 0 (aa [] ?_) (by omega) (fun i hi=>?_)
 ·refine x1_ (c2_ @rDrops.eq_1 @List.foldl_nil.{0,0}) ?_
  first|done|rfl|exact⟨rfl,rfl⟩
 ·obtain⟨hD1,hD2⟩:=hD i;refine gx_ ?_;refine aq (fun h=>?_) (fun h=>?_)
  ·have hki:i<L0.length:=by omega
   have hgi:=aX (f:=af) hki;have hsn:=hdrop i hki;generalize rDrops K (L0.take i) p.ring=r at hsn hD1 hD2;have khi:=kh L0[i].node;have hKi:=hKe L0[i].node;have hnd:=L0[i].node.toNat_lt;generalize L0[i]=d at hgi hsn khi hKi hnd ⊢;rw[hKi]at khi;have hdd:=hdr r d.node;refine gf_ hgi ?_;refine ce_ khi ?_;cases hb:K.any (fun e=>decide (e.node=d.node))with
   |true=>
    rw[if_pos hb]at hsn;refine g2_ ?_;refine⟨i+1,aa [] ?_,by omega,by omega⟩
    refine gf_ hsn ?_
    try (repeat' (first|rfl|refine And.intro ?_ ?_))
   |false=>
    rw[if_neg (by rw[hb];decide)]at hsn
    refine g2_ ?_;refine .inl ⟨[oF 0,oF 2,oF 3,oF 1,oF 4,oF 5,oF 6,oF 7,oF 8,oF 9],by kernel_rfl,gf_ hgi ?_⟩
    refine ce_ hdd (g2_ ?_);refine⟨i+1,aa [] ?_,by omega,by omega⟩
    refine gf_ hsn ?_
    try (repeat' (first|rfl|refine And.intro ?_ ?_))
  ·have he:L0.take i=L0:=List.take_of_length_le (by omega)
   rw[he]at hD1 hD2 ⊢;generalize rDrops K L0 p.ring=r at hD1 hD2 k7 k9;have hli:=hlist r;generalize aw r=B at hli k7 k9;have kco':=kco r hD1 hD2;have k8':=k8 N r hNN hD1 hD2;refine g2_ ?_;refine ce_ hli (g2_ ?_);refine akV (.fl 0 (.fl 1 (.fl 2 (.eff 3 true (.eff 4 false (.fl 5 .done) .no) .no)))) [(11,.d (fzD M))] ?_ ?_
   ·refine g2_ ?_
    repeat' (first
     |(with_reducible refine And.intro ?_ ?_)
     |(refine CallS.eqW kfi ?_ (.inl ?_) ?_;(focus (simp-implicitDefEqProofs only[go_sem,ab];done));(focus (simp-implicitDefEqProofs only[go_sem,ab];done));refine g2_ ?_)
     |(refine CallS.eqW kco' ?_ (.inl ?_) ?_;(focus (simp-implicitDefEqProofs only[go_sem,ab];done));(focus (simp-implicitDefEqProofs only[go_sem,ab];done));refine g2_ ?_)
     |(refine aa [] ?_;(focus (simp-implicitDefEqProofs only[go_sem,ab];done))))
   refine g2_ ?_;refine cx_ k7 (by simp-implicitDefEqProofs only[go_sem,ab,fk]) (g2_ ?_)
   refine .inr (.inl ⟨(.fl 0 (.fl 2 (.fl 4 (.fl 6 (.fl 8 (.fl 9 (.fl 1 (.fl 5 (.fl 7 (.eff 3 true (.eff 10 true (.eff 11 false (.fl 12 (.eff 13 false .done .no)) .no) .no) (.eff 10 true (.eff 3 true (.eff 11 false (.fl 12 (.eff 13 false .done .no)) .no) .no) .no))))))))))),by kernel_rfl,g2_ ?_⟩)
   repeat' (first
    |(with_reducible refine And.intro ?_ ?_)
    |(refine CallS.eqW k8' ?_ (.inl ?_) ?_;(focus (simp-implicitDefEqProofs only[go_sem,ab];done));(focus (simp-implicitDefEqProofs only[go_sem,ab];done));refine g2_ ?_)
    |(refine CallS.eqW k9 ?_ (.inl ?_) ?_;(focus (repeat first|simp-implicitDefEqProofs only[go_sem,ab,fk]|with_reducible refine gl_ ?_;done));(focus (simp-implicitDefEqProofs only[go_sem,ab];done));refine g2_ ?_)
    |(with_reducible refine aK ?_;refine g2_ ?_)
    |(refine ae ?_ rfl;(focus (simp-implicitDefEqProofs only[go_sem,ab];done))))
theorem xr(c:ar)(p:ah)(f:List GSpan)(h4:c.schema.length<=4)(hcs: ∀s∈c.schema,okS s)(n2:f.length<=1000000000)(hp:okG { p with filter:=(aS c.schema f).1 })(hr:bB c.schema (aS c.schema f).1=true)(hP:FP c (bp c) p)(ht:(p.table.length:Int)=c.nodes):Con2 Tryz.prog 60 [.agg (aC c),.agg (ak p),fzS f] (· =plR (.tup [.agg (ak (if p.up=false then p else if (aS c.schema f).2=0 then aJ c { p with filter:=(aS c.schema f).1 } []else p)),.v (.int .i64 (if p.up=false then 53 else (aS c.schema f).2))])):=by
 refine Con2.ofEmb ?_;have kn:=uu c.schema f (by omega) n2
 have km:=fV c { p with filter:=(aS c.schema f).1 } [] h4 hcs hp hr ⟨hP.view,hP.near,hP.succ,hP.pred⟩ ht ⟨by simp,by simp⟩ (by simp)
 generalize aJ c { p with filter:=(aS c.schema f).1 } []=Q at km;generalize aS c.schema f=F at kn km;obtain⟨g,e⟩:=F;simp only at kn km ⊢;refine en_ Tryz.func60 [.cell 6 49,.tmp 7] (g2_ ?_);refine g2_ ?_;cases hu:p.up with
 |false=>
  refine g2_ ?_;refine ae ?_ rfl;exact wf_ hu
 | true=>
  simp only[Bool.true_eq_false,if_false]
  repeat first|simp-implicitDefEqProofs only[go_sem,ab,fzS]|with_reducible first|refine gl_ ?_|refine ga_ ?_|refine gn_ ?_
  refine CallS.eq kn (wf_ hu) (.inl ws_) ?_
  repeat first|simp-implicitDefEqProofs only[go_sem,ab,fzS]|with_reducible first|refine gl_ ?_|refine ga_ ?_|refine gn_ ?_
  refine cu (fun h=>?_) (fun h=>?_)
  ·rw[if_neg h];refine g2_ ?_;refine ae ?_ rfl;exact wf_ hu
  ·have h:e=0:=by omega
   subst h
   repeat first|simp-implicitDefEqProofs only[go_sem,ab,fzS]|with_reducible first|refine gl_ ?_|refine ga_ ?_|refine gn_ ?_
   refine cx_ km (wf_ hu) (g2_ ?_);refine ae ?_ rfl;exact wx_
