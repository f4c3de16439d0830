import Derived.Test.YthoihfighiolmaaGreatPt17
import Derived.RangeFuncNested
set_option linter.unusedSectionVars false
set_option linter.unusedSimpArgs false
set_option linter.unusedVariables false
set_option maxRecDepth 10000
namespace Go.Eng
def okS(s:GSpan):Prop:= -2147483648<=s.a/\s.a<=2147483647/\ -2147483648<=s.b/\s.b<=2147483647
def kM(s:GSpan):GSpan:=if s.b<s.a then ⟨1,0⟩else s
def cY(s:GSpan):Bool:=decide (s.b<s.a)
def cf(x y:GSpan):GSpan:=⟨if x.a<y.a then y.a else x.a,if y.b<x.b then y.b else x.b⟩
def tG(x y:GSpan):Bool:=cY y||(decide (x.a<=y.a)&&decide (y.b<=x.b))
def sLen(s:GSpan):Nat:=if s.b<s.a then 0 else min (s.b-s.a+1).toNat 4294967295
theorem mT(s:GSpan):((kM s).a==1&&((kM s).b==0))=cY s:=by grind [cY,kM]
theorem qn{x y:GSpan}(hx:okS x)(hy:okS y):okS (cf x y):=by grind [okS,cf]
theorem afX(w:World)(p:Nat->Prop): ∃V:World, ∀b o,o≠i5->(V.heap[b]? =some o↔(p b/\w.heap[b]? =some o)):=by
 classical
 refine⟨{ w with heap:=((List.range w.heap.size).map fun i=>if p i then (w.heap[i]?).getD i5 else i5).toArray },fun b o ho=>?_⟩
 simp only[List.getElem?_toArray,List.getElem?_map]
 by_cases hb:b<w.heap.size
 ·rw[List.getElem?_range hb,Option.map_some]
  by_cases hp:p b
  ·simp[hp,hb]
  ·simp only[hp,if_false,Option.some.injEq,false_and,iff_false];exact fun e=>ho e.symm
 ·rw[List.getElem?_eq_none (by simp;omega),Array.getElem?_eq_none (by omega)]
  simp
theorem fa{r:Loop}:Obj.loop r≠i5:=by intro h;cases h
theorem acx{u:World}{b:Nat}(h: ¬Fresh u b): ∃o,u.heap[b]? =some o/\o≠i5:=by
 refine Classical.byContradiction fun hn=>h fun o ho=>Classical.byContradiction fun hj=>hn ⟨o,ho,hj⟩
def SameB(σ σ':List (Nat×Loc)):Prop:= ∀k,match lk σ k with
 |some l=> ∃l',lk σ' k=some l'/\l'.b=l.b/\l'.T=l.T
 |none=>lk σ' k=none
theorem SameB.to{σ σ':List (Nat×Loc)}(h:SameB σ σ'){k:Nat}{l:Loc}(hk:lk σ k=some l): ∃l',lk σ' k=some l'/\l'.b=l.b/\l'.T=l.T:=by
 have:=h k;rw[hk]at this;exact this
theorem SameB.back{σ σ':List (Nat×Loc)}(h:SameB σ σ'){k:Nat}{l':Loc}(hk:lk σ' k=some l'): ∃l,lk σ k=some l/\l'.b=l.b/\l'.T=l.T:=by
 have:=h k;cases hs:lk σ k with
 |none=>rw[hs]at this;rw[this]at hk;cases hk
 |some l=>
  rw[hs]at this;obtain⟨l2,h1,h2⟩:=this;rw[h1]at hk;cases hk;exact⟨l,rfl,h2⟩
theorem SameB.refl(σ:List (Nat×Loc)):SameB σ σ:=fun k=>by
 cases h:lk σ k with
 |none=>exact rfl
 |some l=>exact⟨l,rfl,rfl,rfl⟩
theorem SameB.val{σ σ':List (Nat×Loc)}(h:SameB σ σ'){ρ ρ':List (Nat×SV)}(x:SV):S.val ⟨ρ,σ'⟩ x=S.val ⟨ρ',σ⟩ x:=by
 cases x with
 |loc k off=>
  simp only[S.val,S.find];cases hs:lk σ k with
  |none=>have:=h k;rw[hs]at this;rw[this]
  |some l=>obtain⟨l',h1,h2,_⟩:=h.to hs;rw[h1,Option.map_some,Option.map_some,h2]
 |_=>rfl
structure Plus(σ:List (Nat×Loc))(v V:World)(L:Nat)(r:Loop):Prop where
 sub:Sub v V
 loc: ∀k l,lk σ k=some l->V.heap[l.b]? =some (.cells l.cells.toArray l.T (0,0))/\Fresh v l.b
 rcd:V.heap[L]? =some (.loop r)/\Fresh v L
 only: ∀b, ¬Fresh V b-> ¬Fresh v b\/(∃k l,lk σ k=some l/\b=l.b)\/b=L
theorem Plus.ex{σ:List (Nat×Loc)}{v w:World}{L:Nat}{r:Loop}(hs:Sub v w)(hl: ∀k l,lk σ k=some l->w.heap[l.b]? =some (.cells l.cells.toArray l.T (0,0))/\Fresh v l.b)
  (hr:w.heap[L]? =some (.loop r)) (hf:Fresh v L): ∃V,Plus σ v V L r/\Sub V w:=by
 obtain⟨V,hV⟩:=afX w (fun b=> ¬Fresh v b\/(∃k l,lk σ k=some l/\b=l.b)\/b=L)
 refine⟨V,⟨fun b o hb ho=>(hV b o ho).2 ⟨.inl fun hf=>ho (hf o hb),hs b o hb ho⟩,fun k l hk=>⟨(hV _ _ ax).2 ⟨.inr (.inl ⟨k,l,hk,rfl⟩),(hl k l hk).1⟩,(hl k l hk).2⟩,
  ⟨(hV _ _ fa).2 ⟨.inr (.inr rfl),hr⟩,hf⟩,fun b hb=>?_⟩,fun b o h ho=>((hV b o ho).1 h).2⟩
 obtain⟨o,ho,hn⟩:=acx hb;exact((hV b o hn).1 ho).1
def aky(P:Program)(gf:FuncId)(lb:List Value){α:Type}(encs:α->List Value)(Sd Sp Si:List α->Prop)(ub:World):Prop:=
 cW P gf=true/\ ∀(l:Nat) (I Ix:List α->World->Prop) (u0 u:World),(∀pre v,I pre v->Sub ub v/\Si pre)->
  (∀pre x v,I pre v->Sp (pre++[x])->AtYield false P l (encs x) u0 v fun r v'=>(r= .bool true/\I (pre++[x]) v')\/(r= .bool false/\Ix (pre++[x]) v'))->
  I [] u->aa_ false P gf (.func (.yield l) #[] #[]::lb) u0 u fun _ v'=>(∃xs,Sd xs/\I xs v')\/(∃pre,Sp pre/\Ix pre v')
def se:List (Nat×Value)->S->S
 |[],s=>s
 |(t,v)::r,s=>se r (s.put (some t) (.v v))
theorem sA{C:Ctx}{u w:World}{ds:List Deferred}: ∀(l:List (Nat×Value)) (s:S) (T:Array Value),(∀p∈l,p.1<C.n)->Sim C s u ⟨T,ds⟩ w->Sim C (se l s) u ⟨l.foldl (fun T p=>T.setIfInBounds p.1 p.2) T,ds⟩ w
 |[],s,T,_,h=>h
 |(t,v)::r,s,T,hl,h=>sA r _ _ (fun p hp=>hl p (List.mem_cons_of_mem _ hp)) (h.put_v (d:=some t) (v:=v) (by simpa[dC]using hl (t,v) List.mem_cons_self))
def amc(σ:List (Nat×Loc))(I:List (Nat×Loc)->World->Prop)(Ix:Exit->List (Nat×Loc)->World->Prop)(e:Exit)(s:S)(v:World):Prop:=
 match e with
 | .normal=> ∃σ',SameB σ σ'/\(⟨[],σ'⟩:S).le s/\I σ' v
 | .exit j=> ∃σ',SameB σ σ'/\(⟨[],σ'⟩:S).le s/\Ix (.exit j) σ' v
 | .ret=> ∃σ',SameB σ σ'/\(⟨[],σ'⟩:S).le s/\Ix .ret σ' v
 |_=>False
def amT(P:Program)(u0:World)(bd:Code)(R:Exit->S->World->Prop)(e:Exit)(s:S)(v:World):Prop:=
 match e with
 | .normal=>Vc P u0 bd R s v
 |_=>False
def amG:Exit->Option Code
 | .ret=>some .ret
 | .exit j=>some (.exit j)
 |_=>none
theorem Sim.rehold{C:Ctx}{s:S}{u:World}{a:Act}{w:World}{L:Nat}{r:Loop}(r':Loop)(h:Sim C s u a w)(hh:C.held=[(L,.loop r)])(hu: ¬Fresh C.ue L)(h0:Fresh C.u0 L):
  Sim ⟨C.n,C.w0,C.ue,C.u0,C.rd,[(L,.loop r')]⟩ s u a (w.putObj L (.loop r')):=by
 obtain⟨g1,g2,g3⟩:=h.defers.hld (L,.loop r) (by rw[hh];exact List.mem_singleton.2 rfl)
 have hoth: ∀b,b≠L->(w.putObj L (.loop r')).heap[b]? =w.heap[b]?:=fun b hb=>World.putObj_heap_other hb
 refine⟨h.size,⟨h.defers.nd,fun d hd=>?_,fun l hl=>?_,fun p hp=>?_⟩,h.slots,h.wfl,h.wfe,fun b o hb ho=>?_,fun k l hk=>?_,h.dist,fun b o hb=>?_,h.dom,⟨by have:=h.le.size;simpa using this,h.le.os,h.le.output⟩,fun b o hb ho=>?_,h.sub00⟩
 ·obtain⟨D,e,h1,h2,h3⟩:=h.defers.mks d hd;refine⟨D,e,?_,h2,h3⟩;rw[hoth D (fun e=>by rw[e,show w.heap[L]? =some (.loop r)from g1]at h1;cases h1)]
  exact h1
 ·obtain⟨r2,hr2⟩:=h.defers.rcd l hl;rw[hh]at hr2;cases List.mem_singleton.1 hr2;exact⟨r',List.mem_singleton.2 rfl⟩
 ·cases List.mem_singleton.1 hp;exact⟨World.putObj_heap_same (ba g1),g2,fun _ _ _ e=>by cases e⟩
 ·rw[hoth b (fun e=>by subst e;exact ho (g2 o hb))]
  exact h.sub b o hb ho
 ·obtain⟨f1,f2,f3⟩:=h.locs k l hk;refine⟨?_,f2,f3⟩;rw[hoth l.b (fun e=>by rw[e]at f1;rw[show w.heap[L]? =some (.loop r)from g1]at f1;cases f1)]
  exact f1
 ·by_cases e:b=L
  ·subst e;exact .inr ⟨hu,h0⟩
  ·rw[hoth b e];exact h.keep b o hb
 ·rw[hoth b (fun e=>by subst e;exact ho (h0 o hb))]
  exact h.sub0 b o hb ho
theorem Sim.round_out{C:Ctx}{s0:S}{u V0 V' v w1 w2:World}{a:Act}{L:Nat}{r0 r r':Loop}{σ:List (Nat×Loc)}(hs:Sim C s0 u a w1)(hp0:Plus s0.σ u V0 L r0)(hst:Step false C.u0 V0 w1 V' w2)(hL1:w1.heap[L]? =some (.loop r0))
  (hsame:SameB s0.σ σ) (hp:Plus σ v V' L r) (hge:C.w0.heap.size<=L) (hhd: ∀p∈C.held,p.1≠L):Sim C ⟨s0.ρ,σ⟩ v a (w2.putObj L (.loop r')):=by
 have hoth: ∀b,b≠L->(w2.putObj L (.loop r')).heap[b]? =w2.heap[b]?:=fun b hb=>World.putObj_heap_other hb
 have only0: ∀b, ¬Fresh V0 b->b≠L-> ¬Fresh u b\/ ∃k l,s0.find k=some l/\b=l.b:=fun b hb hne=>(hp0.only b hb).imp id fun h=>h.resolve_right hne
 have dom0: ∀b,b<w1.heap.size-> ¬Fresh v b-> ¬Fresh V0 b:=fun b hb hn=>hst.dom b hb fun hf=>hn (Fresh.anti hp.sub hf)
 have keepB: ∀b o,w1.heap[b]? =some o->(∀c t f,o≠ .cells c t f)->Fresh u b->b≠L->Fresh V0 b:=fun b o hb hc hf hne=>Classical.byContradiction fun hn=>by
  rcases only0 b hn hne with h|⟨k,l,hk,rfl⟩
  ·exact h hf
  ·have:=(hs.locs k l hk).1;rw[this]at hb;cases hb;exact hc _ _ _ rfl
 have keep2: ∀b o,w1.heap[b]? =some o->(∀c t f,o≠ .cells c t f)->Fresh u b->b≠L->(w2.putObj L (.loop r')).heap[b]? =some o/\Fresh v b:=fun b o hb hc hf hne=>by
  have hV:=keepB b o hb hc hf hne;refine⟨?_,Classical.byContradiction fun hn=>dom0 b (ba hb) hn hV⟩
  rw[hoth b hne];exact(hst.keep b o hb).resolve_right fun h=>h.2.1 hV
 have hlocs: ∀k l,lk σ k=some l-> ∃l0,s0.find k=some l0/\l.b=l0.b:=fun k l hk=>by
  obtain⟨l0,h1,h2,_⟩:=hsame.back hk;exact⟨l0,h1,h2⟩
 refine⟨hs.size,⟨hs.defers.nd,fun d hd=>?_,hs.defers.rcd,fun p hp=>?_⟩,fun t x hx=>?_,fun t k off ht=>?_,fun t sv sz i off ht=>hs.wfe t sv sz i off ht,fun b o hb ho=>?_,fun k l hk=>?_,fun k k' l l' hk hk' hne=>?_,fun b o hb=>?_,fun b hb hn=>?_,?_,fun b o hb ho=>?_,hs.sub00⟩
 ·obtain⟨D,e,h1,h2,h3⟩:=hs.defers.mks d hd;have hne:D≠L:=fun e=>by rw[e,hL1]at h1;cases h1
  obtain⟨g1,g2⟩:=keep2 D _ h1 (fun _ _ _ e=>by cases e) h2 hne
  exact⟨D,e,g1,g2,h3⟩
 ·obtain⟨h1,h2,h3⟩:=hs.defers.hld p hp;obtain⟨g1,g2⟩:=keep2 p.1 _ h1 h3 h2 (hhd p hp);exact⟨g1,g2,h3⟩
 ·rw[hsame.val (ρ':=s0.ρ)]at hx;exact hs.slots t x hx
 ·have h1:=hs.wfl t k off ht;intro h2;have h3:=hsame k;cases h4:lk s0.σ k with
  |none=>exact h1 h4
  |some l=>rw[h4]at h3;obtain⟨l',h5,_⟩:=h3;have h2:lk σ k=none:=h2;rw[h5]at h2;cases h2
 ·rw[hoth b (fun e=>by subst e;exact ho (hp.rcd.2 o hb))]
  exact hst.sub b o (hp.sub b o hb ho) ho
 ·obtain⟨g1,g2⟩:=hp.loc k l hk;obtain⟨l0,h1,h2⟩:=hlocs k l hk;refine⟨?_,g2,by rw[h2];exact(hs.locs k l0 h1).2.2⟩
  rw[hoth l.b (fun e=>by rw[e,hp.rcd.1]at g1;cases g1)]
  exact hst.sub _ _ g1 ax
 ·obtain⟨l0,h1,h2⟩:=hlocs k l hk;obtain⟨l1,h3,h4⟩:=hlocs k' l' hk';rw[h2,h4];exact hs.dist k k' l0 l1 h1 h3 hne
 ·have hbs:=ba hb;rcases hs.keep b o hb with h1|h1
  ·rcases hst.keep b o h1 with h2|⟨_,h2,h3⟩
   ·rw[hoth b (by omega)];exact .inl h2
   ·rcases only0 b h2 (by omega)with h4|⟨k,l,hk,rfl⟩
    ·exact .inr ⟨hs.dom b hbs h4,h3⟩
    ·exact .inr (((hs.locs k l hk).2.2).resolve_left (by omega))
  ·exact .inr h1
 ·rcases only0 b (dom0 b (Nat.lt_of_lt_of_le hb hs.le.size) hn) (by omega)with h4|⟨k,l,hk,rfl⟩
  ·exact hs.dom b hb h4
  ·exact(((hs.locs k l hk).2.2).resolve_left (by omega)).1
 ·have h1:=hs.le.trans hst.le;exact⟨by have:=h1.size;simpa using this,h1.os,h1.output⟩
 ·have hbL:=hs.sub00.lt hb ho;rw[hoth b (by omega)]
  exact(hst.keep b o (hs.sub0 b o hb ho)).resolve_right fun h=>ho (h.2.2 o hb)
theorem mg{P:Program}{α:Type}{u0 u ub:World}{g:Operand}{ps:Array Tmp}{az bd:Code}{Q:Exit->S->World->Prop}{s:S}{gf:FuncId}{lb:List Value}{encs:α->List Value}{Sd Sp Si:List α->Prop}
  (hg:s.sv g= .v (.func (.func gf) #[] lb.toArray)) (hit:aky P gf lb encs Sd Sp Si ub) (hps: ∀x,(encs x).length=ps.size)
  (I:List α->List (Nat×Loc)->World->Prop) (Ix:List α->Exit->List (Nat×Loc)->World->Prop) (hub: ∀pre σ v,I pre σ v->Sub ub v/\Si pre) (h0:I [] s.σ u)
  (hrnd: ∀pre x σ v,SameB s.σ σ->I pre σ v->Sp (pre++[x])->Vc P u0 az (amT P u0 bd (amc s.σ (I (pre++[x])) (Ix (pre++[x])))) (se (ps.toList.zip (encs x)) ⟨s.ρ,σ⟩) v)
  (hdone: ∀xs σ v,SameB s.σ σ->Sd xs->I xs σ v->Q .normal ⟨s.ρ,σ⟩ v)
  (hstop: ∀pre e σ v,SameB s.σ σ->Sp pre->Ix pre e σ v->Q e ⟨s.ρ,σ⟩ v):Vc P u0 (.rangeFunc g ps az bd) Q s u:=by
 intro hm C a w hu hf hs n;subst hu;simp only[fits,Bool.and_eq_true,List.all_eq_true,decide_eq_true_eq]at hf;obtain⟨⟨hfp,hfa⟩,hfb⟩:=hf;refine wpIn_rangeFunc ?_;intro fn _
 have hent: ∃L mark Dn w1,(Instr.enterLoop fn a.tmps ps az bd (kB C.rd).round).run P w= .ok (L,mark) w1/\w1.heap[L]? =some (.loop ⟨.ready,none,fn,a.tmps,ps,az,bd,Dn⟩)/\w.heap.size<=L/\Ext w w1/\Mks C u w1 (mark++a.defers)/\Le w w1:=by
  cases hrd:C.rd with
  | none=>
   refine⟨w.heap.size+1,[{ target:=.collected w.heap.size,args:=#[] }],w.heap.size,_,run_enterLoop_outer _ _ _ _ _,?_,Nat.le_succ _,(cr w _).trans (cr _ _),?_,⟨by simp;omega,rfl,rfl⟩⟩
   ·have:=World.alloc_heap_new (w.alloc (.deferred (some []))) (.loop ⟨.ready,none,fn,a.tmps,ps,az,bd,w.heap.size⟩)
    rwa[World.size_alloc]at this
   ·have he:Ext w ((w.alloc (.deferred (some []))).alloc (.loop ⟨.ready,none,fn,a.tmps,ps,az,bd,w.heap.size⟩)):=(cr w _).trans (cr _ _);have hm1:=hs.defers.mono (w':=(w.alloc (.deferred (some []))).alloc (.loop ⟨.ready,none,fn,a.tmps,ps,az,bd,w.heap.size⟩)) (fun b o hb _ hf=>⟨he b o hb,hf⟩)
    refine⟨List.nodup_cons.2 ⟨fun hd=>?_,hm1.nd⟩,fun d hd=>?_,hm1.rcd,hm1.hld⟩
    ·obtain⟨D,e,h1,_⟩:=hs.defers.mks _ hd;have:w.heap.size=D:=by injection e with e1 _;injection e1
     have:=ba h1;omega
    ·rcases List.mem_cons.1 hd with rfl|hd
     ·refine⟨w.heap.size,rfl,cr _ _ _ _ (World.alloc_heap_new w _),aO hs.sub (Nat.le_refl _),hs.le.size⟩
     ·exact hm1.mks d hd
  |some l0=>
   obtain⟨r0,hr0⟩:=hs.defers.rcd l0 hrd;have hl0:=(hs.defers.hld _ hr0).1;have he:=cr w (.loop ⟨.ready,none,fn,a.tmps,ps,az,bd,r0.defers⟩);exact⟨w.heap.size,[],r0.defers,_,run_enterLoop_inner hl0 _ _ _ _ _,World.alloc_heap_new w _,Nat.le_refl _,he,hs.defers.mono (fun b o hb _ hf=>⟨he b o hb,hf⟩),⟨by simp,rfl,rfl⟩⟩
 obtain⟨L,mark,Dn,w1,hen,hL,hLw,hext,hmk,hle1⟩:=hent;have hsx:=hs.ext hext hle1;have hs1:Sim C s u ⟨a.tmps,mark++a.defers⟩ w1:=⟨hsx.size,hmk,hsx.slots,hsx.wfl,hsx.wfe,hsx.sub,hsx.locs,hsx.dist,hsx.keep,hsx.dom,hsx.le,hsx.sub0,hsx.sub00⟩;have hge:=hs.eval_v hg;have hfL:Fresh u L:=aO hs.sub hLw;have hf0:Fresh C.u0 L:=aO hs.sub0 hLw;have hCL:C.w0.heap.size<=L:=Nat.le_trans hs.le.size hLw;have hhd: ∀p∈C.held,p.1≠L:=fun p hp e=>by have:=ba (hs.defers.hld p hp).1;omega
 refine⟨L,mark,w1,{ target:=.fn (.func gf) lb.toArray,args:=#[.func (.yield L) #[] #[]] },w1,gf,#[.func (.yield L) #[] #[]]++lb.toArray,w1,hen,?_,fun _ _=>trivial,?_,(fun h=>by cases h),?_⟩
 ·simp only[resolve,hge];simp[go_sem]
 ·simp only[invoke,lR hit.1]
 -- what is kept
 obtain⟨rec,hrec⟩: ∃rec:LoopState->Option Code->Loop,rec=fun st pe=>⟨st,pe,fn,a.tmps,ps,az,bd,Dn⟩:=⟨_,rfl⟩
 have hLr:w1.heap[L]? =some (.loop (rec .ready none)):=by rw[hrec];exact hL
 obtain⟨V0,hp0,hV0⟩:=Plus.ex (σ:=s.σ) (r:=rec .ready none) hs1.sub (fun k l hk=>⟨(hs1.locs k l hk).1,(hs1.locs k l hk).2.1⟩) hLr hfL
 have hcall:=(hit.2 L (fun pre V=> ∃σ v,SameB s.σ σ/\I pre σ v/\Plus σ v V L (rec .ready none)) (fun pre V=> ∃e c σ v,amG e=some c/\SameB s.σ σ/\Ix pre e σ v/\Plus σ v V L (rec .done (some c))) C.u0 V0
  (fun pre V ⟨σ,v,_,h1,h2⟩=>⟨(hub pre σ v h1).1.trans h2.sub,(hub pre σ v h1).2⟩) ?_ ⟨s.σ,u,SameB.refl _,h0,hp0⟩).2 w1 hV0 hs1.sub0
 ·rw[show(#[Value.func (.yield L) #[] #[]]++lb.toArray)=(Value.func (.yield L) #[] #[]::lb).toArray by simp]
  refine(r6 hcall).mono ?_
  rintro e w2 ⟨r,V',rfl,hst,⟨xs,hxs,σ,v,hsame,hI,hp⟩|⟨pre,hpre,e,c,σ,v,hc,hsame,hI,hp⟩⟩
  ·have hL2:w2.heap[L]? =some (.loop (rec .ready none)):=hst.sub _ _ hp.rcd.1 fa;exact⟨none,_,by have:=run_endLoop (P:=P) hL2 (by rw[hrec];simp);rw[hrec]at this;exact this,⟨⟨s.ρ,σ⟩,v,hs1.round_out hp0 hst hLr hsame hp hCL hhd,hdone xs σ v hsame hxs hI⟩⟩
  ·have hL2:w2.heap[L]? =some (.loop (rec .done (some c))):=hst.sub _ _ hp.rcd.1 fa;refine⟨some c,_,by have:=run_endLoop (P:=P) hL2 (by rw[hrec];simp);rw[hrec]at this;exact this,?_⟩
   have hQ:=hstop pre e σ v hsame hpre hI;have hsim:=hs1.round_out (r':={ rec .done (some c)with state:=.exhausted }) hp0 hst hLr hsame hp hCL hhd;rw[hrec]at hsim;cases e with
   |ret=>cases hc;exact wpIn_ret ⟨_,v,hsim,hQ⟩
   |exit j=>cases hc;exact wpIn_exit ⟨_,v,hsim,hQ⟩
   |_=>cases hc
 ·-- a round
  rintro pre x V ⟨σ,v,hsame,hI,hpl⟩ hlen w' hV hu0
  have hL':w'.heap[L]? =some (.loop (rec .ready none)):=hV _ _ hpl.rcd.1 fa;have hy:=run_yield (P:=P) (args:=(encs x).toArray) hL' (by rw[hrec];simpa using hps x)
  rw[hrec]at hy;refine⟨fn,_,az,bd,hy,roundIn_of_wpIn (F:=Fence.wide) (n:=0) trivial ?_⟩
  have hloc0: ∀k l,lk σ k=some l-> ∃l0,s.find k=some l0/\l.b=l0.b:=fun k l hk=>by
   obtain⟨l0,h1,h2,_⟩:=hsame.back hk;exact⟨l0,h1,h2⟩
  have hVL: ¬Fresh V L:=fun hf=>fa (hf _ hpl.rcd.1)
  have hbase:Sim ⟨C.n,w',V,C.u0,some L,[(L,.loop (rec .ready none))]⟩ ⟨s.ρ,σ⟩ v ⟨a.tmps,[]⟩ w':=by
   refine⟨hs.size,⟨List.nodup_nil,(fun d hd=>by cases hd),fun l hl=>?_,fun p hp=>?_⟩,fun t y hy=>?_,fun t k off ht=>?_,fun t sv sz i off ht=>hs.wfe t sv sz i off ht,hpl.sub.trans hV,fun k l hk=>?_,fun k k' l l' hk hk' hne=>?_,fun b o hb=>.inl hb,fun b _ hn hf=>hn (Fresh.anti hpl.sub hf),⟨Nat.le_refl _,rfl,rfl⟩,hu0,hu0⟩
   ·cases hl;exact⟨_,List.mem_singleton.2 rfl⟩
   ·cases List.mem_singleton.1 hp;exact⟨hL',hpl.rcd.2,fun _ _ _ e=>by cases e⟩
   ·rw[hsame.val (ρ':=s.ρ)]at hy;exact hs.slots t y hy
   ·intro h2;have h1:=hs.wfl t k off ht;cases h4:lk s.σ k with
    |none=>exact h1 h4
    |some l=>obtain⟨l',h5,_⟩:=hsame.to h4;have h2:lk σ k=none:=h2;rw[h5]at h2;cases h2
   ·obtain⟨g1,g2⟩:=hpl.loc k l hk;obtain⟨l0,h1,h2⟩:=hloc0 k l hk;exact⟨hV _ _ g1 ax,g2,.inr ⟨fun hf=>ax (hf _ g1),by rw[h2];exact fresh0 hs h1⟩⟩
   ·obtain⟨l0,h1,h2⟩:=hloc0 k l hk;obtain⟨l1,h3,h4⟩:=hloc0 k' l' hk';rw[h2,h4];exact hs.dist k k' l0 l1 h1 h3 hne
  have hsim:=sA (C:=⟨C.n,w',V,C.u0,some L,[(L,.loop (rec .ready none))]⟩) (ps.toList.zip (encs x)) _ a.tmps (fun p hp=>hfp p.1 (List.of_mem_zip hp).1) hbase
  have hfold:(ps.zip (encs x).toArray).foldl (fun tmps (t,a)=>tmps.setIfInBounds t a) a.tmps=(ps.toList.zip (encs x)).foldl (fun T p=>T.setIfInBounds p.1 p.2) a.tmps:=by
   rw[<-Array.foldl_toList];simp
  simp only;rw[hfold];refine wpIn_mono (hrnd pre x σ v hsame hI hlen hm ⟨C.n,w',V,C.u0,some L,[(L,.loop (rec .ready none))]⟩ _ w' rfl hfa hsim 0) ?_;intro e a1 w2 hl;cases e with
  |exit j=>obtain⟨_,_,_,h⟩:=hl;exact h.elim
  |ret=>obtain⟨_,_,_,h⟩:=hl;exact h.elim
  |goto l=>exact hl.elim
  |panic c=>exact hl.elim
  |outgrown=>exact hl.elim
  |normal=>
  obtain⟨s1,v1,hs2,hvc⟩:=hl;have hL2:=(hs2.defers.hld (L,.loop (rec .ready none)) (List.mem_singleton.2 rfl)).1;have hbr:=run_beginRound (P:=P) hL2 (by rw[hrec])
  have hrb:({ rec .ready none with state:=.busy }:Loop)=rec .busy none:=by rw[hrec]
  rw[hrb]at hbr;have hs3:=hs2.rehold (rec .busy none) rfl hVL hf0;refine⟨_,hbr,wpIn_mono (hvc hm ⟨C.n,w',V,C.u0,some L,[(L,.loop (rec .busy none))]⟩ _ _ rfl hfb hs3 0) ?_⟩
  have fin: ∀(jump:Option Code) (s3:S) (v3:World) (a2:Act) (w3:World) (σ3:List (Nat×Loc)),Sim ⟨C.n,w',V,C.u0,some L,[(L,.loop (rec .busy none))]⟩ s3 v3 a2 w3->SameB s.σ σ3->(⟨[],σ3⟩:S).le s3->
    ∃V4,Plus σ3 v3 V4 L (rec (if jump.isNone then .ready else .done) jump)/\Step false C.u0 V w' V4 (w3.putObj L (.loop (rec (if jump.isNone then .ready else .done) jump)))/\(Instr.endRound L jump).run P w3= .ok (.bool jump.isNone) (w3.putObj L (.loop (rec (if jump.isNone then .ready else .done) jump))):=by
   intro jump s3 v3 a2 w3 σ3 h3 hsm hle;obtain⟨k1,k2,_⟩:=h3.defers.hld (L,.loop (rec .busy none)) (List.mem_singleton.2 rfl);have hoth: ∀b,b≠L->(w3.putObj L (.loop (rec (if jump.isNone then .ready else .done) jump))).heap[b]? =w3.heap[b]?:=fun b hb=>World.putObj_heap_other hb
   have hf3: ∀k l,lk σ3 k=some l->w3.heap[l.b]? =some (.cells l.cells.toArray l.T (0,0))/\Fresh v3 l.b:=fun k l hk=>by
    have h4:=(hle.find k).resolve_left (by intro e;have e:lk σ3 k=none:=e;rw[hk]at e;cases e)
    have h5:s3.find k=some l:=h4.trans hk;exact⟨(h3.locs k l h5).1,(h3.locs k l h5).2.1⟩
   obtain⟨V4,g1,g2⟩:=Plus.ex (σ:=σ3) (v:=v3) (w:=w3.putObj L (.loop (rec (if jump.isNone then .ready else .done) jump))) (L:=L) (r:=rec (if jump.isNone then .ready else .done) jump)
    (fun b o hb ho=>by rw[hoth b (fun e=>by subst e;exact ho (k2 o hb))];exact h3.sub b o hb ho)
    (fun k l hk=>⟨by rw[hoth l.b (fun e=>by have:=(hf3 k l hk).1;rw[e,show w3.heap[L]? =some (.loop (rec .busy none))from k1]at this;cases this)];exact(hf3 k l hk).1,(hf3 k l hk).2⟩)
    (World.putObj_heap_same (ba k1)) k2
   refine⟨V4,g1,⟨g2,fun b o hb=>?_,fun b hb hn=>?_,?_⟩,?_⟩
   ·rcases h3.keep b o hb with h4|h4
    ·by_cases e:b=L
     ·subst e;exact .inr ⟨rfl,hVL,hf0⟩
     ·rw[hoth b e];exact .inl h4
    ·exact .inr ⟨rfl,h4⟩
   ·rcases g1.only b hn with h4|⟨k,l,hk,rfl⟩|rfl
    ·exact h3.dom b hb h4
    ·obtain⟨l0,f1,f2,_⟩:=hsm.back hk;obtain⟨l1,f3,f4,_⟩:=hsame.to f1;rw[f2, <-f4];exact fun hf=>ax (hf _ (hpl.loc k l1 f3).1)
    ·exact hVL
   ·have:=h3.le;exact⟨by have:=this.size;simpa using this,this.os,this.output⟩
   ·have:=run_endRound (P:=P) jump k1;rw[hrec]at this ⊢;exact this
  intro e a2 w3 hl2;cases e with
  |normal=>
   obtain⟨s3,v3,h3,σ3,hsm,hle,hI3⟩:=hl2;obtain⟨V4,g1,g2,g3⟩:=fin none s3 v3 a2 w3 σ3 h3 hsm hle;exact⟨_,_,g3,_,V4,rfl,g2,.inl ⟨rfl,σ3,v3,hsm,hI3,g1⟩⟩
  |exit j=>
   obtain⟨s3,v3,h3,σ3,hsm,hle,hI3⟩:=hl2;obtain⟨V4,g1,g2,g3⟩:=fin (some (.exit j)) s3 v3 a2 w3 σ3 h3 hsm hle;exact⟨_,_,g3,_,V4,rfl,g2,.inr ⟨rfl,.exit j,_,σ3,v3,rfl,hsm,hI3,g1⟩⟩
  |ret=>
   obtain⟨s3,v3,h3,σ3,hsm,hle,hI3⟩:=hl2;obtain⟨V4,g1,g2,g3⟩:=fin (some .ret) s3 v3 a2 w3 σ3 h3 hsm hle;exact⟨_,_,g3,_,V4,rfl,g2,.inr ⟨rfl,.ret,_,σ3,v3,rfl,hsm,hI3,g1⟩⟩
  |goto l=>exact hl2.elim
  |panic c=>exact hl2.elim
  |outgrown=>exact hl2.elim
