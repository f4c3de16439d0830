import Derived.Test.YtmhmahcdanclnaaGreatNo38
set_option linter.unusedSectionVars false
set_option linter.unusedSimpArgs false
set_option linter.unusedVariables false
set_option maxRecDepth 10000
namespace Go.Eng
def GRow.encV(r:GRow):List Value:=[.int .u16 r.inc.toNat,.int .u32 r.pre.toNat,.int .u64 r.bits.toNat]
def GMark.encV(r:GMark):List Value:=[.int .u8 r.node.toNat,.int .u16 r.inc.toNat,.int .u32 r.seq.toNat]
def ea(l:List GRow):List (UInt8×GRow):=(l.mapIdx fun i r=>(UInt8.ofNat i,r)).filter fun x=>decide (0<x.2.inc.toNat)
theorem abn{l:List GRow}{k:Nat}(hk:k<l.length):ea (l.take (k+1))=ea (l.take k)++(if 0<l[k].inc.toNat then [(UInt8.ofNat k,l[k])]else []):=by
 unfold ea;have hl:(l.take k).length=k:=by rw[List.length_take];omega
 rw[List.take_add_one,List.getElem?_eq_getElem hk,Option.toList_some,List.mapIdx_append,List.filter_append]
 congr 1
 simp only[List.mapIdx_cons,List.mapIdx_nil,Nat.zero_add,hl,List.filter_cons,List.filter_nil,decide_eq_true_eq]
theorem acr{l:List GRow}{k:Nat}:ea (l.take k) <+: ea l:=by grind [List.take_append_drop,UInt8.ofNat,ea]
theorem wT(l:List GRow):kU l=(ea l).map fun x=>rwMark x.1 x.2:=by
 unfold kU ea;have h:=List.filter_map (f:=fun x:UInt8×GRow=>rwMark x.1 x.2) (p:=fun m=>decide (0<m.inc.toNat)) (l:=l.mapIdx fun i r=>(UInt8.ofNat i,r))
 have e:(l.mapIdx fun i r=>(UInt8.ofNat i,r)).map (fun x=>rwMark x.1 x.2)=l.mapIdx fun i r=>rwMark (UInt8.ofNat i) r:=by
  apply List.ext_getElem?;intro j;rw[List.getElem?_map,List.getElem?_mapIdx,List.getElem?_mapIdx];cases l[j]? <;>rfl
 rw[e]at h;exact h
theorem ab6(l:List GRow):(ea l).length<=l.length:=by grind [ea]
end Go.Eng
namespace Go.Proofs.YtmhmahcdanclnaaGreat.V
open Go.Eng
attribute [local go_sem] tx nE GRow.encV GMark.encV
abbrev PKn:Type:=UInt8×GRow
def ajT(x:PKn):List Value:=[.int .u8 x.1.toNat,.agg x.2.encV.toArray]
attribute [local go_sem] ajT
theorem agF{ub:World}{b1 c1:Nat}{p1:Option Addr}{l:List GRow}(h1:CellsAt ub ⟨b1,0,none⟩ [.slice p1 l.length c1])
  (s1:Sl ub 3 p1 l.length c1 (l.map GRow.encV)) (hn:l.length<=256):
  amm Tryz.prog 283 [.pointer (some ⟨b1,0,none⟩)] ajT (· =ea l) (· <+: ea l) (fun _=>True) ub:=by
 refine⟨by kernel_rfl,fun L I Ix u0 u hub hy h0=>?_⟩
 refine fa Ty.mixed Tryz.func283 rfl (by kernel_rfl) (by kernel_rfl) rfl [] rfl ?_
 have hS:=(hub _ _ h0).1;refine vs_ ?_;refine⟨_,h1.mono hS,rfl,.inl rfl,?_⟩;refine vs_ ?_;refine abm (γ:=Unit) l.length (fun _=>[]) (fun _=>[]) (fun k _ u'=>I (ea (l.take k)) u') () (gW (by simp only[go_sem,bI,bc,bw,bm,Nat.reduceBEq,Nat.reduceAdd,Nat.reduceLeDiff,Nat.reduceEqDiff,Int.reduceAdd,Int.reduceBEq,Int.reduceBNe,reduceCtorEq,beq_self_eq_true,Bool.true_beq,Bool.false_beq])) h0 (fun _ _=>rfl) (by omega) (fun _=>rfl) ?_ ?_
 ·intro k _ u' hk hI;have hS2:=(hub _ _ hI).1;have e1:l[k]? =some l[k]:=List.getElem?_eq_getElem hk;have e3:=abn hk;have hpre:ea (l.take (k+1)) <+: ea l:=acr;generalize l[k]=x at e1 e3;refine vs_ ?_;refine⟨⟨s1.some_ hk,by omega,by omega⟩,?_⟩
  refine(s1.mono hS2).load (aei e1) (.inr rfl) (Nat.le_of_ble_eq_true rfl) ?_;refine vs_ ?_;intro b4;refine re (fun h=>by omega) (fun _=>?_)
  refine vs_ ?_;refine pJ (fun hg=>?_) (fun hg=>?_)
  ·have h5:0<x.inc.toNat:=by simpa using hg
   have e8:(UInt8.ofNat k).toNat=k:=by rw[UInt8.toNat_ofNat'];exact Nat.mod_eq_of_lt (by omega)
   rw[if_pos h5]at e3;rw[e3]at hpre;have hyk:=hy _ (UInt8.ofNat k,x) _ hI hpre;unfold ajT at hyk;rw[e8]at hyk;refine vs_ ?_;refine ek hg ?_;refine vs_ ?_;refine ek hg ?_;refine vs_ ?_;rw[aaU (by omega)]
   refine vs_ ?_;refine ek hg ?_;refine vs_ ?_;refine ek hg ?_;refine vs_ ?_;refine AtYield.mono ?_ hyk
   rintro r v' (⟨rfl,hI'⟩|⟨rfl,hI'⟩)
   ·refine vs_ ?_;refine ek hg ?_;refine vs_ ?_;rw[hg];refine vs_ ?_;refine⟨(),gW (by simp only[go_sem,bI,bc,bw,bm,Nat.reduceBEq,Nat.reduceAdd,Nat.reduceLeDiff,Nat.reduceEqDiff,Int.reduceAdd,Int.reduceBEq,Int.reduceBNe,reduceCtorEq,beq_self_eq_true,Bool.true_beq,Bool.false_beq]),?_⟩
    rw[e3];exact hI'
   ·refine vs_ ?_;refine ek hg ?_;refine vs_ ?_;rw[hg];refine vs_ ?_;exact .inr ⟨_,hpre,hI'⟩
  ·have h5: ¬0<x.inc.toNat:=by simpa using hg
   rw[if_neg h5,List.append_nil]at e3;refine vs_ ?_;refine gr hg ?_;refine vs_ ?_;refine gr hg ?_;refine vs_ ?_;refine gr hg ?_;refine vs_ ?_;refine gr hg ?_;refine vs_ ?_;refine gr hg ?_;refine vs_ ?_;rw[hg];refine vs_ ?_;refine⟨(),gW (by simp only[go_sem,bI,bc,bw,bm,Nat.reduceBEq,Nat.reduceAdd,Nat.reduceLeDiff,Nat.reduceEqDiff,Int.reduceAdd,Int.reduceBEq,Int.reduceBNe,reduceCtorEq,beq_self_eq_true,Bool.true_beq,Bool.false_beq]),?_⟩
   rw[e3];exact hI
 ·intro _ u' hI;refine vs_ ?_;refine .inl ⟨_,rfl,?_⟩;rw[List.take_length]at hI;exact hI
theorem aiW(p:Option Addr)(n c:Nat)(u:World):Con Tryz.prog 178 [.slice p n c] u (fun r u'=> ∃b1,r= .func (.func 283) #[] #[.pointer (some ⟨b1,0,none⟩)]/\CellsAt u' ⟨b1,0,none⟩ [.slice p n c]):=by
 refine fL Ty.mixed Tryz.func178 rfl (by kernel_rfl) (by kernel_rfl) rfl [.tmp 2] rfl ?_
 refine vs_ ?_;intro b u1 g1 _ _ g3 _;exact⟨g1,b,rfl,fun j w hw=>by rw[Addr.add_lit];exact eH g3 (by simpa using hw)⟩
attribute [local go_sem] List.zip_cons_cons List.zip_nil_right List.zip_nil_left vN rr pY pq z4
theorem aiL(l:List GRow)(p:Option Addr)(c:Nat)(u:World)(s1:Sl u 3 p l.length c (l.map GRow.encV))(hn:l.length<=256):
  Con Tryz.prog 99 [.slice p l.length c] u (fun r u'=> ∃p' c',r= .slice p' (kU l).length c'/\Sl u' 3 p' (kU l).length c' ((kU l).map GMark.encV)):=by
 rw[wT];refine fL Ty.mixed Tryz.func99 rfl (by kernel_rfl) (by kernel_rfl) rfl [.tmp 2] rfl ?_
 refine vs_ ?_;intro b3;refine AtCall.of_spec (aiW p l.length c u) ?_
 rintro r ub hsb ⟨b1,rfl,g1⟩
 refine vs_ ?_;refine nF ?_
 refine jT (gf:=283) (lb:=[.pointer (some ⟨b1,0,none⟩)]) rfl (agF g1 (s1.mono hsb) hn) (fun _=>rfl)
  (fun pre σ v=>Sub ub v/\ ∃p n c,σ=[(3,⟨b3,[.slice p n c],40⟩)]/\n=pre.length/\cW ub p/\Eng.Own u v 57 3 p n c ((pre.map fun x=>rwMark x.1 x.2).map GMark.encV))
  (fun pre e σ v=>False) (fun _ _ _ h=>⟨h.1,trivial⟩) ⟨Sub.refl _,none,0,0,rfl,rfl,by simp[cW],Eng.Own.nil_ _ _ _ _⟩ ?_ ?_ ?_
 ·rintro pre ⟨y,x⟩ σ v hsame ⟨h3,p',n',c',rfl,hn',hfp,ho⟩ hpre
  have hlen:n'<256:=by
   have:=hpre.length_le;have:=ab6 l;simp at *;omega
  refine Vc.of ?_;refine vs_ ?_;intro b5;refine Vc.of ?_;refine vs_ ?_
  have hsm:=xv (u:=v) (vs:=[.int .u8 y.toNat,.agg x.encV.toArray]) (yX y x) ⟨_,_,rfl,⟨rfl,rfl⟩,_,_,rfl,⟨_,rfl,_,_,rfl,⟨rfl,rfl⟩,_,_,rfl,⟨rfl,rfl⟩,_,_,rfl,⟨rfl,rfl⟩,rfl⟩,rfl⟩
   (v:=.agg (rwMark y x).encV.toArray) (by
    rintro us β w ⟨V,rfl,_,_,rfl,⟨rfl,_⟩,_,_,rfl,⟨rfl,_⟩,_,_,rfl,⟨rfl,_⟩,rfl⟩
    rfl)
  refine .inl ⟨[oF 0,oF 1,oF 2,oT 3,oT 4,oF 5,oF 6],by kernel_rfl,?_⟩
  refine vs_ ?_;refine AtCall.of_spec hsm ?_
  rintro _ v2 hv2 rfl
  refine vs_ ?_;refine nu (n:=1) (vs:=[.agg (rwMark y x).encV.toArray]) Ty.el40 rfl rfl (by intro v hv;simp at hv;subst hv;rfl) (by omega) ?_
  intro pv v3 hov hsv hfv;refine vs_ ?_;refine gX Ty.el40 (ho.mono (hv2.trans hsv)) hov.sl (by intro y hy;simp at hy;subst hy;rfl) (by omega) (by omega) ?_
  intro q' d' w' ho' hsw hqw;refine vs_ ?_;refine⟨[(3,⟨b3,[.slice q' (n'+1) d'],40⟩)],?_,gW (by simp only[go_sem,bI,bc,bw,bm,Nat.reduceBEq,Nat.reduceAdd,Nat.reduceLeDiff,Nat.reduceEqDiff,Int.reduceAdd,Int.reduceBEq,Int.reduceBNe,reduceCtorEq,beq_self_eq_true,Bool.true_beq,Bool.false_beq]),hsw.sub ((h3.trans hv2).trans hsv) hfp,_,_,_,rfl,?_,?_,?_⟩
  ·exact SameB.one
  ·simp[hn']
  ·rcases hqw with rfl|h
   ·exact hfp
   ·exact fun a ha=>Fresh.anti ((h3.trans hv2).trans hsv) (h a ha)
  ·rw[List.map_append,List.map_append];exact ho'
 ·rintro xs σ v hsame rfl ⟨h3,p',n',c',rfl,hn',hfp,ho⟩
  refine vs_ ?_;subst hn';have e3:((ea l).map fun x=>rwMark x.1 x.2).length=(ea l).length:=List.length_map _
  refine⟨hsb.trans h3,p',c',by first|rfl|rw[e3],?_⟩
  first|exact ho.sl|(rw[e3];exact ho.sl)
 ·rintro pre e σ v hsame hpre h
  exact h.elim
theorem oI{us:World}: ∀(l:List GRow) (V:List (List Value)),HVss us (l.map aC) V↔V=l.map GRow.encV
 |[],V=>Iff.rfl
 | x::l,V=>by
  constructor
  ·rintro⟨v,V',rfl,⟨a,_,rfl,⟨rfl,_⟩,b,_,rfl,⟨rfl,_⟩,c,_,rfl,⟨rfl,_⟩,rfl⟩,h⟩
   rw[(oI l V').1 h];rfl
  ·rintro rfl
   exact⟨_,_,rfl,⟨_,_,rfl,⟨rfl,rfl⟩,_,_,rfl,⟨rfl,rfl⟩,_,_,rfl,⟨rfl,rfl⟩,rfl⟩,(oI l _).2 rfl⟩
theorem ta{us:World}: ∀(l:List GMark),HVss us (l.map aL) (l.map GMark.encV)
 |[]=>rfl
 |x::l=>⟨_,_,rfl,⟨_,_,rfl,⟨rfl,rfl⟩,_,_,rfl,⟨rfl,rfl⟩,_,_,rfl,⟨rfl,rfl⟩,rfl⟩,ta l⟩
theorem abF(l:List GMark):bl (l.map GMark.encV):=by intro y hy;obtain⟨x,_,rfl⟩:=List.mem_map.1 hy;rfl
theorem ado(l:List GRow)(hn:l.length<=256):Con2 Tryz.prog 99 [.fz 3 (l.map aC)] (· =plR (.fz 3 ((kU l).map aL))):=by
 rintro u vs ⟨v1,_,rfl,⟨p,n,c,V,rfl,h1,_,h2⟩,rfl⟩
 obtain rfl:=(oI l V).1 h2;obtain rfl:l.length=n:=by simpa using h1.len
 refine(aiL l p c u h1 hn).to2 ?_
 rintro r u' ⟨p',c',rfl,h⟩
 exact⟨_,_,_,_,rfl,h,abF _,ta _⟩
end Go.Proofs.YtmhmahcdanclnaaGreat.V
namespace Go.Proofs.YtmhmahcdanclnaaGreat.V
open Go.Eng
attribute [local go_sem] aS ah fzD plR ba aL aR aC aE ak az aU z8 z16 z32 z64 encMg aN b_ aA aH a_ gj
theorem vh: ∀(n:Nat) (l:List UInt8) (dr:List UInt32),(iz n l dr).length<=l.length
 |0,_,_=>Nat.zero_le _
 |n+1,l,dr=>by
  unfold iz;split
  ·exact Nat.zero_le _
  ·rename_i x hx;have h1:=vh n (l.eraseIdx ((dr.headD 0).toNat % l.length)) dr.tail;have h2:=(List.getElem?_eq_some_iff.1 hx).1;rw[List.length_eraseIdx_of_lt h2]at h1;rw[List.length_cons];omega
theorem rH(c:ar)(p:af)(e:GEvt)(hops:UInt8)(links:List UInt8)(dr:List UInt32)(he:e.vals.length<=4000000/\e.data.length<=4000000)(hl:links.length<=4000000)(hdr:dr.length<=4000000)(hsw:0<=c.swap/\c.swap<=1000000):
  Con2 Tryz.prog 90 [.agg (aE c),.agg (ak p),.agg (az e),.v (.int .u8 hops.toNat),.fz 1 (links.map aA),.fz 1 (dr.map aH)] (· =plR (.fz 17 ((gb c p e hops links dr).map encMg))):=by
 refine Con2.ofEmb ?_;have k1:=abD dr (c.swap+1) hdr;have hbl:(gK dr (c.swap+1)).length<=4000000:=by unfold gK;rw[List.length_drop];omega
 have k2:=am2 links c.fanout (gK dr (c.swap+1)) hl hbl;have k3:=fun to=>kz p 10 to
 have k4:=jL e he.1 he.2;have hLl:=vh c.fanout.toNat links (gK dr (c.swap+1));unfold gb;generalize iz c.fanout.toNat links (gK dr (c.swap+1))=L at k2 hLl ⊢;generalize gK dr (c.swap+1)=D at k1 k2;obtain⟨f,hf⟩: ∃f:UInt8->aK,f=fun to=>{ pMsg p 10 to with ev:=e,hops:=hops }:=⟨_,rfl⟩
 have hfe: ∀to,encMg (f to)=[.v (.int .u8 10),.v (.int .u8 p.node.toNat),.v (.int .u16 p.inc.toNat),.v (.int .u8 to.toNat),.fz 4 [],.fz 3 [],.v (.int .u8 e.id.node.toNat),.v (.int .u16 e.id.inc.toNat),.v (.int .u32 e.id.seq.toNat),.fz 1 (e.vals.map b_),.fz 1 (e.data.map aA),.v (.int .u8 hops.toNat),.v (.int .u8 0),.v (.int .u16 0),.v (.int .u32 0),.fz 3 [],.fz 3 []]:=fun to=>by rw[hf];rfl
 rw[<-hf];clear hf;refine en_ Tryz.func90 [.tmp 12] (g2_ ?_);refine g2_ ?_;refine .inl ⟨[oF 0,oF 1,oF 3,oF 4,oF 10,oF 2,oF 5,oF 6,oT 7,oF 8,oF 9],by kernel_rfl,g2_ ?_⟩
 refine cw_ k1 (g2_ ?_);refine cw_ k2 (gx_ ?_);refine aq L.length (fun k=>[(13,.d (.rf 0 0 ((L.take k).map f).length))]) (fun _=>[]) (fun k=>[(0,.arr 60 17 (((L.take k).map f).map encMg) false)]) 1 (fun _=>True) (aa [(0,.nil 17)] ?_) trivial (fun g k=>ws_) (by omega) (fun g=>ws_) (fun k hk _=>?_) (fun _=>?_)
 ·refine x0_ ?_
  first|done|rfl|exact⟨rfl,rfl⟩
 ·have hg:(L.map aA)[k]? =some [.v (.int .u8 L[k].toNat)]:=by rw[List.getElem?_map,List.getElem?_eq_getElem hk];rfl
  have hsn:(L.take (k+1)).map f=(L.take k).map f++[f L[k]]:=by rw[List.take_add_one,List.getElem?_eq_getElem hk,List.map_append];rfl
  have hsl:(L.take (k+1)).length=((L.take k).map f).length+1:=by have:=congrArg List.length hsn;rw[List.length_map,List.length_append]at this;exact this
  have hsl2:((L.take k).map f).length<=4000000:=by rw[List.length_map,List.length_take];omega
  have kk:=k3 L[k];have hfk:=hfe L[k];generalize (L.take k).map f=A at hsn hsl hsl2;generalize f L[k]=x at hsn hfk;refine gf_ hg ?_;refine cw_ kk (gf_ (c2_ @pMsg.eq_1 @zEvt.eq_1) ?_);refine cw_ k4 (gx_ ?_);refine⟨k+1,aa [(0,.to 2)] ?_,rfl⟩;refine x1_ (c2_ hsn hsl) ?_
  first|done|exact congrArg (fun z=>List.map encMg A++[z]) hfk|trace_state
 ·rw[List.take_of_length_le (Nat.le_refl L.length)];have hsl3:(L.map f).length<=4000000:=by rw[List.length_map];omega
  generalize L.map f=A at hsl3 ⊢;refine g2_ ?_;refine ae ?_ rfl;exact wf_ @an
end Go.Proofs.YtmhmahcdanclnaaGreat.V
namespace Go.Proofs.YtmhmahcdanclnaaGreat.V
open Go.Eng
section
variable {c:ar} {p q:af} {m:aK} {dr:List UInt32} {b:d7} {e:GEvt} {x:GID} {o:iX} {l:List GAsk}
abbrev apZ(a:GAsk):Nat:=a.id.key
structure Pk(c:ar)(l:List GAsk):Prop where
 len:(l.length:Int)<=c.pulls
 up:Up apZ l
 left: ∀a∈l,a.left≠0
theorem alb{l':List GAsk}(h:Pk c l)(hs:l'.Sublist l):Pk c l':=
 ⟨by have:=hs.length_le;have:=h.len;omega,h.up.sublist hs,fun a ha=>h.left a (hs.subset ha)⟩
theorem arl(l:List GAsk)(a:GAsk):acq l a=mV apZ l a:=rfl
theorem arv(h:Pk c l)(a:GAsk):Pk c (yV l a c.pulls):=by
 unfold yV;split
 ·rename_i he;unfold abM at he
  by_cases h1:a.left=0
  ·rw[if_pos h1]at he;cases he
  rw[if_neg h1]at he
  by_cases h2:adm l a.id=true
  ·rw[if_pos h2]at he;cases he
  rw[if_neg h2]at he
  by_cases h3:c.pulls<=(l.length:Int)
  ·rw[if_pos h3]at he;cases he
  rw[arl];refine⟨?_,xU h.up fun y hy=>akm fun e4=>h2 ?_,fun y hy=>?_⟩
  ·rw[(jt l a).length_eq,List.length_cons];omega
  ·unfold adm;rw[List.any_eq_true];exact⟨y,hy,by simpa using e4⟩
  ·rcases iw.1 hy with rfl|hy
   ·exact h1
   ·exact h.left y hy
 ·exact h
theorem afT(h:Pk c l):Pk c (Eng.pTick l):=by
 unfold Eng.pTick;have h1:Pk c (l.filter fun a=> !decide (a.left.toNat<=1)):=alb h List.filter_sublist
 refine⟨by rw[List.length_map];exact h1.len,?_,?_⟩
 ·exact List.pairwise_map.2 h1.up
 ·intro a ha;obtain⟨y,hy,rfl⟩:=List.mem_map.1 ha;have h2:=(List.mem_filter.1 hy).2;simp only[Bool.not_eq_true',decide_eq_false_iff_not]at h2;intro h0;have h3:(y.left-1).toNat=0:=by rw[show y.left-1=0 from h0];rfl
  have hl:=y.left.toNat_lt;have h4:(y.left-1).toNat=y.left.toNat-1:=UInt8.toNat_sub_of_le _ _ (UInt8.le_iff_toNat_le.2 (by show 1<=_;omega))
  omega
structure Ew(c:ar)(p:af)(k:Int):Prop where
 bf:Bf c p.buf
 pk:Pk c p.pulls
 rows: ∀r∈p.rows,l6 r c.window=true
 seq:p.seq.toNat<=c.last.toNat
 down:p.up=false->p.seq=0
 passed:0<=p.passed/\p.passed<=k
 evicted:0<=p.evicted/\p.evicted<=k
 collected:0<=p.collected/\p.collected<=k
theorem Ew.ev{k:Int}(h:Ew c p k)(g:Ev1 p q):Ew c q k:=
 ⟨by rw[g.buf];exact h.bf,by rw[g.pulls];exact h.pk,by rw[g.rows];exact h.rows,by rw[g.seq];exact h.seq,by rw[g.up,g.seq];exact h.down,by rw[g.passed];exact h.passed,by rw[g.evicted];exact h.evicted,by rw[g.collected];exact h.collected⟩
theorem Ew.more{k k':Int}(h:Ew c p k)(g:k<=k'):Ew c p k':=⟨h.bf,h.pk,h.rows,h.seq,h.down,⟨h.passed.1,by have:=h.passed.2;omega⟩,⟨h.evicted.1,by have:=h.evicted.2;omega⟩,⟨h.collected.1,by have:=h.collected.2;omega⟩⟩
theorem lK{k:Int}(hw:1<=c.window/\c.window<=64)(h:Ew c p k):Ew c (aI c p e).1 (k+1):=by
 by_cases ha:(aI c p e).2.1=true
 ·obtain⟨hu,hm⟩:=gJ ha;obtain⟨hv,hn,hl,ho,r,hr,hrm⟩:=jq hm;rw[nc hu hm];refine⟨amo h.bf ⟨hv,hn,hl⟩,alb h.pk (List.filter_sublist.trans List.filter_sublist),?_,h.seq,h.down,?_,⟨h.evicted.1,by have:=h.evicted.2;show p.evicted<=_;omega⟩,⟨h.collected.1,by have:=h.collected.2;show p.collected<=_;omega⟩⟩
  ·intro r' hr';obtain⟨i,hi⟩:=List.getElem?_of_mem hr';have hi:(p.rows.modify e.id.node.toNat fun r=>(cO r e.id c.window).1)[i]? =some r':=hi
   rw[List.getElem?_modify]at hi;cases hp:p.rows[i]? with
   |none=>rw[hp]at hi;cases hi
   |some v=>
    rw[hp]at hi;have hv:=h.rows v (List.mem_of_getElem? hp);have hi:(if e.id.node.toNat=i then (cO v e.id c.window).1 else v)=r':=by simpa using hi
    rw[<-hi];split
    ·exact x8 hw hv
    ·exact hv
  ·show 0<=(if (dk p.buf e).2=52 then p.passed+1 else p.passed)/\(if (dk p.buf e).2=52 then p.passed+1 else p.passed)<=k+1
   have:=h.passed;split<;>omega
 ·rw[jM ha];exact h.more (by omega)
theorem adz{k:Int}{vals:List Int}{data:List UInt8}(hn:(p.node.toNat:Int)<c.nodes)(hw:1<=c.window/\c.window<=64)(h:Ew c p k):Ew c (aD c p vals data dr).1 (k+1):=by
 rcases cQ (c:=c) (p:=p) (vals:=vals) (data:=data) (dr:=dr)with ⟨j,_,e1⟩|⟨h1,h2,h3,h4,h5,e1⟩
 ·rw[e1];exact h.more (by omega)
 ·rw[e1];have hl:=c.last.toNat_lt
  have hse:(p.seq+1).toNat=p.seq.toNat+1:=by
   rw[UInt32.toNat_add];show(p.seq.toNat+1) % _=_;omega
  have hi:=(abE.1 h2).2.2.2.1;have hi1:1<=p.inc.toNat:=hi;refine⟨amo (by split;exact zU h.bf _ _;exact h.bf) ⟨h2,hn,by show(p.seq+1).toNat<=_;omega⟩,h.pk,?_,by show(p.seq+1).toNat<=_;omega,fun hd=>?_,⟨h.passed.1,by have:=h.passed.2;show p.passed<=_;omega⟩,?_,⟨h.collected.1,by have:=h.collected.2;show p.collected<=_;omega⟩⟩
  ·intro r' hr';rcases List.mem_or_eq_of_mem_set hr' with hr'|rfl
   ·exact h.rows r' hr'
   ·refine(iI hw).2 (.inr ⟨fun e0=>?_,rfl,Nat.two_pow_pos _⟩)
    have:p.inc.toNat=0:=by rw[show p.inc=0 from e0];rfl
    omega
  ·have hd:p.up=false:=hd;rw[h1]at hd;cases hd
  ·have:=h.evicted;simp only[ix];split<;>exact⟨by omega,by omega⟩
