import Derived.Test.YthoihfighiolmaaGreatPt2
import Derived.Tactics
import Derived.WalkKit
set_option linter.unusedSectionVars false
set_option linter.unusedSimpArgs false
set_option linter.unusedVariables false
namespace Go.Eng
inductive SV where
 |unk
 |v (x:Value)
 |loc (k off:Nat)
 |elt (s:Value) (sz:Nat) (i:Int) (off:Nat)
structure Loc where
 b:Nat
 cells:List Value
 T:TypeId
structure S where
 ρ:List (Nat×SV)
 σ:List (Nat×Loc)
def lk{α:Type}:List (Nat×α)->Nat->Option α
 |[],_=>none
 |(k,x)::r,t=>bif k==t then some x else lk r t
def S.get(s:S)(t:Nat):SV:=(lk s.ρ t).getD .unk
def S.find(s:S)(k:Nat):Option Loc:=lk s.σ k
def S.put(s:S)(d:Option Nat)(x:SV):S:=
 match d with
 |some d=>⟨(d,x)::s.ρ,s.σ⟩
 |none=>s
def S.sv(s:S):Operand->SV
 | .tmp t=>s.get t
 | .const x=>.v x
 | .global g=>.v (.pointer (some ⟨g,0,none⟩))
 | .func f=>.v (.func (.func f) #[] #[])
def bT(s:Value)(sz:Nat)(i:Int)(off:Nat):Option Addr:=
 match s with
 | .slice (some a) _ _=>some ((a.add (i.toNat*sz)).add off)
 |_=>none
def S.val(s:S):SV->Option Value
 | .unk=>none
 | .v x=>some x
 | .loc k off=>(s.find k).map fun l=>.pointer (some ⟨l.b,off,none⟩)
 | .elt sv sz i off=>(bT sv sz i off).map fun a=>.pointer (some a)
structure Ctx where
 n:Nat
 w0:World
 ue:World
 u0:World
 rd:Option Nat
 held:List (Nat×Obj)
structure Le(w w':World):Prop where
 size:w.heap.size<=w'.heap.size
 os:w'.os=w.os
 output:w'.output=w.output
theorem Le.trans{a b c:World}(h:Le a b)(h':Le b c):Le a c:=⟨Nat.le_trans h.size h'.size,h'.os.trans h.os,h'.output.trans h.output⟩
def Mk(C:Ctx)(u w:World)(d:Deferred):Prop:= ∃D,d=({ target:=.collected D,args:=#[] }:Deferred)/\w.heap[D]? =some (.deferred (some []))/\Fresh u D/\C.w0.heap.size<=D
structure Mks(C:Ctx)(u w:World)(ds:List Deferred):Prop where
 nd:ds.Nodup
 mks: ∀d∈ds,Mk C u w d
 rcd: ∀l,C.rd=some l-> ∃r,(l,Obj.loop r)∈C.held
 hld: ∀p∈C.held,w.heap[p.1]? =some p.2/\Fresh u p.1/\ ∀c t f,p.2≠ .cells c t f
theorem Mks.mono{C:Ctx}{u w u' w':World}{ds:List Deferred}(h:Mks C u w ds)(hk: ∀b o,w.heap[b]? =some o->(∀c t f,o≠ .cells c t f)->Fresh u b->w'.heap[b]? =some o/\Fresh u' b):Mks C u' w' ds:=
  ⟨h.nd,fun d hd=>let ⟨D,e,h1,h2,h3⟩:=h.mks d hd;⟨D,e,(hk _ _ h1 (fun _ _ _ e=>by cases e) h2).1,(hk _ _ h1 (fun _ _ _ e=>by cases e) h2).2,h3⟩,
   h.rcd,fun p hp=>let ⟨h1,h2,h3⟩:=h.hld p hp;⟨(hk _ _ h1 h3 h2).1,(hk _ _ h1 h3 h2).2,h3⟩⟩
structure Sim(C:Ctx)(s:S)(u:World)(a:Act)(w:World):Prop where
 size:a.tmps.size=C.n
 defers:Mks C u w a.defers
 slots: ∀t v,s.val (s.get t)=some v->a.tmps.getD t undef=v
 wfl: ∀t k off,s.get t= .loc k off->s.find k≠none
 wfe: ∀t sv sz i off,s.get t= .elt sv sz i off->bT sv sz i off≠none
 sub:Sub u w
 locs: ∀k l,s.find k=some l->w.heap[l.b]? =some (.cells l.cells.toArray l.T (0,0))/\Fresh u l.b/\(C.w0.heap.size<=l.b\/(¬Fresh C.ue l.b/\Fresh C.u0 l.b))
 dist: ∀k k' l l',s.find k=some l->s.find k'=some l'->k≠k'->l.b≠l'.b
 keep: ∀(b:Nat) (o:Obj),C.w0.heap[b]? =some o->w.heap[b]? =some o\/(¬Fresh C.ue b/\Fresh C.u0 b)
 dom: ∀b,b<C.w0.heap.size-> ¬Fresh u b-> ¬Fresh C.ue b
 le:Le C.w0 w
 sub0:Sub C.u0 w
 sub00:Sub C.u0 C.w0
theorem aj{α:Type}{k t:Nat}{x:α}{r:List (Nat×α)}(h:k≠t):lk ((k,x)::r) t=lk r t:=by
 have:(k==t)=false:=by simpa using h
 simp[lk,this]
theorem au{α:Type}{k:Nat}{x:α}{r:List (Nat×α)}:lk ((k,x)::r) k=some x:=by simp[lk]
theorem S.get_put_ne{s:S}{d t:Nat}{x:SV}(h:d≠t):(s.put (some d) x).get t=s.get t:=by simp[S.put,S.get,aj h]
theorem S.get_put_eq{s:S}{d:Nat}{x:SV}:(s.put (some d) x).get d=x:=by simp[S.put,S.get,au]
theorem S.find_put{s:S}{d:Option Nat}{x:SV}{k:Nat}:(s.put d x).find k=s.find k:=by cases d<;>rfl
theorem S.val_put{s:S}{d:Option Nat}{x y:SV}:(s.put d x).val y=s.val y:=by
 cases y<;>simp[S.val,S.find_put]
theorem Sim.eval{C:Ctx}{s:S}{u:World}{a:Act}{w:World}(h:Sim C s u a w){x:Operand}{v:Value}(hv:s.val (s.sv x)=some v):a.eval x=v:=by
 cases x with
 |tmp t=>exact h.slots t v hv
 |const x=>simpa[S.sv,S.val,Act.eval]using hv
 |global g=>simpa[S.sv,S.val,Act.eval]using hv
 |func f=>simpa[S.sv,S.val,Act.eval]using hv
theorem Sim.eval_v{C:Ctx}{s:S}{u:World}{a:Act}{w:World}(h:Sim C s u a w){x:Operand}{v:Value}(hv:s.sv x= .v v):a.eval x=v:=
 h.eval (by rw[hv];rfl)
def dC(n:Nat):Option Tmp->Bool
 |some d=>decide (d<n)
 |none=>true
theorem Sim.put{C:Ctx}{s:S}{u:World}{a:Act}{w:World}(h:Sim C s u a w){d:Option Tmp}{x:SV}{v:Value}(hd:dC C.n d=true)
  (hv: ∀v',s.val x=some v'->v'=v) (hw: ∀k off,x= .loc k off->s.find k≠none)
  (he: ∀sv sz i off,x= .elt sv sz i off->bT sv sz i off≠none):Sim C (s.put d x) u (a.put d v) w:=by
 cases d with
 |none=>exact h
 | some d=>
  have hd':d<C.n:=by simpa[dC]using hd
  refine⟨by simp[Act.put,h.size],h.defers,?_,?_,?_,h.sub,?_,?_,h.keep,h.dom,h.le,h.sub0,h.sub00⟩
  ·intro t v' ht;rw[S.val_put]at ht
   by_cases hdt:d=t
   ·subst hdt;rw[S.get_put_eq]at ht;have:=hv v' ht;subst this;simp[Act.put,h.size,hd']
   ·rw[S.get_put_ne hdt]at ht;have:=h.slots t v' ht;simp only[Act.put];rw[<-this];simp[Array.getElem?_setIfInBounds_ne hdt]
  ·intro t k off ht;rw[S.find_put]
   by_cases hdt:d=t
   ·subst hdt;rw[S.get_put_eq]at ht;exact hw k off ht
   ·rw[S.get_put_ne hdt]at ht;exact h.wfl t k off ht
  ·intro t sv sz i off ht
   by_cases hdt:d=t
   ·subst hdt;rw[S.get_put_eq]at ht;exact he sv sz i off ht
   ·rw[S.get_put_ne hdt]at ht;exact h.wfe t sv sz i off ht
  ·intro k l hk;rw[S.find_put]at hk;exact h.locs k l hk
  ·intro k k' l l' hk hk';rw[S.find_put]at hk hk';exact h.dist k k' l l' hk hk'
theorem Sim.put_v{C:Ctx}{s:S}{u:World}{a:Act}{w:World}(h:Sim C s u a w){d:Option Tmp}{v:Value}(hd:dC C.n d=true):Sim C (s.put d (.v v)) u (a.put d v) w:=
 h.put hd (fun v' h'=>by simpa[S.val]using h'.symm) (fun _ _ h'=>by cases h') (fun _ _ _ _ h'=>by cases h')
theorem Sim.ext{C:Ctx}{s:S}{u:World}{a:Act}{w w':World}(h:Sim C s u a w)(he:Ext w w')(hl:Le w w'):Sim C s u a w':=by
 refine⟨h.size,h.defers.mono (fun b o hb _ hf=>⟨he b o hb,hf⟩),h.slots,h.wfl,h.wfe,h.sub.trans he.sub,?_,h.dist,?_,h.dom,h.le.trans hl,h.sub0.trans he.sub,h.sub00⟩
 ·intro k l hk;obtain⟨h1,h2,h3⟩:=h.locs k l hk;exact⟨he _ _ h1,h2,h3⟩
 ·intro b o hb;exact(h.keep b o hb).imp (he b o) id
structure Step(x:Bool)(u0 u w u' w':World):Prop where
 sub:Sub u' w'
 keep: ∀(b:Nat) (o:Obj),w.heap[b]? =some o->w'.heap[b]? =some o\/(x=false/\ ¬Fresh u b/\Fresh u0 b)
 dom: ∀b,b<w.heap.size-> ¬Fresh u' b-> ¬Fresh u b
 le:Le w w'
theorem Step.ext{u0 u w u' w':World}(h:Step true u0 u w u' w'):Ext w w':=fun b o hb=>
 (h.keep b o hb).resolve_right (fun h=>by cases h.1)
theorem Sim.step{C:Ctx}{s:S}{u:World}{a:Act}{w:World}(h:Sim C s u a w){x:Bool}{u' w':World}(hs:Step x C.u0 u w u' w'):Sim C s u' a w':=by
 refine⟨h.size,h.defers.mono (fun b o hb _ hf=>⟨(hs.keep b o hb).resolve_right (fun hx=>hx.2.1 hf),Classical.byContradiction fun hn=>hs.dom b (ba hb) hn hf⟩),h.slots,h.wfl,h.wfe,hs.sub,?_,h.dist,?_,?_,h.le.trans hs.le,?_,h.sub00⟩
 ·intro k l hk;obtain⟨h1,h2,h3⟩:=h.locs k l hk;refine⟨(hs.keep _ _ h1).resolve_right (fun hx=>hx.2.1 h2),?_,h3⟩
  exact Classical.byContradiction fun hn=>hs.dom _ (ba h1) hn h2
 ·intro b o hb;rcases h.keep b o hb with h1|h1
  ·rcases hs.keep b o h1 with h2|⟨_,h2,h3⟩
   ·exact .inl h2
   ·exact .inr ⟨h.dom b (ba hb) h2,h3⟩
  ·exact .inr h1
 ·intro b hb hn;exact h.dom b hb (hs.dom b (Nat.lt_of_lt_of_le hb h.le.size) hn)
 ·intro b o hb ho;refine(hs.keep b o (h.sub0 b o hb ho)).resolve_right (fun hx=>ho (hx.2.2 o hb))
def leR(s1 s:S):List (Nat×SV)->Prop
 |[]=>True
 |(t,_)::r=>(s1.get t= .unk\/s.get t=s1.get t)/\(match s1.get t with| .loc k _=>(s1.find k).isSome=true|_=>True)/\leR s1 s r
def leL(s1 s:S):List (Nat×Loc)->Prop
 |[]=>True
 |(k,_)::r=>s.find k=s1.find k/\leL s1 s r
structure S.le(s1 s:S):Prop where
 get: ∀t,s1.get t= .unk\/s.get t=s1.get t
 wfl: ∀t k off,s1.get t= .loc k off->s1.find k≠none\/s1.find k=s.find k
 find: ∀k,s1.find k=none\/s.find k=s1.find k
theorem abI{s1 s:S}: ∀(l:List (Nat×SV)),leR s1 s l-> ∀p∈l,(s1.get p.1= .unk\/s.get p.1=s1.get p.1)/\(∀k off,s1.get p.1= .loc k off->s1.find k≠none):=by
 intro l
 induction l with
 |nil=>intro _ p hp;cases hp
 | cons q r ih=>
  intro h p hp;obtain⟨t,x⟩:=q;obtain⟨h1,h2,h3⟩:=h;rcases List.mem_cons.1 hp with rfl|hp
  ·refine⟨h1,fun k off hk hn=>?_⟩
   simp only[hk]at h2;rw[hn]at h2;cases h2
  ·exact ih h3 p hp
theorem aj4{s1 s:S}: ∀(l:List (Nat×Loc)),leL s1 s l-> ∀p∈l,s.find p.1=s1.find p.1:=by
 intro l
 induction l with
 |nil=>intro _ p hp;cases hp
 |cons q r ih=>
  intro h p hp;obtain⟨t,x⟩:=q;rcases List.mem_cons.1 hp with rfl|hp
  ·exact h.1
  ·exact ih h.2 p hp
theorem de{α:Type}: ∀{l:List (Nat×α)} {t:Nat} {x:α},lk l t=some x->(t,x)∈l:=by
 intro l
 induction l with
 |nil=>intro t x h;cases h
 |cons p r ih=>
  intro t x h;obtain⟨k,y⟩:=p
  by_cases hk:k=t
  ·subst hk;rw[au]at h;cases h;exact List.mem_cons_self
  ·rw[aj hk]at h;exact List.mem_cons_of_mem _ (ih h)
theorem lz{s1 s:S}(h:leR s1 s s1.ρ/\leL s1 s s1.σ):s1.le s:=by
 obtain⟨hR,hL⟩:=h;refine⟨fun t=>?_,fun t k off ht=>?_,fun k=>?_⟩
 ·cases hl:lk s1.ρ t with
  |none=>exact .inl (by simp[S.get,hl])
  |some x=>exact(abI _ hR (t,x) (de hl)).1
 ·cases hl:lk s1.ρ t with
  |none=>simp[S.get,hl]at ht
  |some x=>exact .inl ((abI _ hR (t,x) (de hl)).2 k off ht)
 ·cases hl:s1.find k with
  |none=>exact .inl rfl
  |some l=>exact .inr (by rw[<-hl];exact aj4 _ hL (k,l) (de hl))
theorem Sim.le_of{C:Ctx}{s s1:S}{u:World}{a:Act}{w:World}(h:Sim C s u a w)(hle:s1.le s):Sim C s1 u a w:=by
 have hfind: ∀k l,s1.find k=some l->s.find k=some l:=by
  intro k l hk;rcases hle.find k with h1|h1
  ·rw[hk]at h1;cases h1
  ·rw[h1];exact hk
 have hget: ∀t,s1.get t≠ .unk->s.get t=s1.get t/\(∀k off,s1.get t= .loc k off->s1.find k≠none):=by
  intro t ht;have e:=(hle.get t).resolve_left ht;exact⟨e,fun k off hk=>(hle.wfl t k off hk).elim id fun h1=>by rw[h1];exact h.wfl t k off (by rw[e,hk])⟩
 refine⟨h.size,h.defers,?_,?_,?_,h.sub,?_,?_,h.keep,h.dom,h.le,h.sub0,h.sub00⟩
 ·intro t v hv;have ht:s1.get t≠ .unk:=by intro he;rw[he]at hv;cases hv
  refine h.slots t v ?_;rw[(hget t ht).1];cases hg:s1.get t with
  |unk=>exact absurd hg ht
  |v x=>rw[hg]at hv;exact hv
  |elt sv sz i off=>rw[hg]at hv;exact hv
  |loc k off=>
   rw[hg]at hv;simp only[S.val]at hv ⊢;cases hk:s1.find k with
   |none=>rw[hk]at hv;cases hv
   |some l=>rw[hk]at hv;rw[hfind k l hk];exact hv
 ·intro t k off ht;exact(hget t (by rw[ht];intro h;cases h)).2 k off ht
 ·intro t sv sz i off ht;refine h.wfe t sv sz i off ?_;rw[(hget t (by rw[ht];intro h;cases h)).1];exact ht
 ·intro k l hk;exact h.locs k l (hfind k l hk)
 ·intro k k' l l' hk hk';exact h.dist k k' l l' (hfind k l hk) (hfind k' l' hk')
def lay(P:Program)(T:TypeId):Option (Bool×Nat):=
 match P.underlying T,P.info? T with
 |some (.struct _),some i=>some (true,i.size)
 |some (.array _ _),some i=>some (true,i.size)
 |some _,some i=>some (false,i.size)
 |_,_=>none
def bg(P:Program)(T:TypeId)(f:Nat):Option Nat:=
 match P.underlying T with
 | some (.struct fs)=>match fs[f]? with
  |some fd=>match P.info? fd.type with
   |some i=>if i.size=0 then none else some fd.offset
   |none=>none
  |none=>none
 |_=>none
def afK(P:Program)(T:TypeId)(f:Nat):Option (Nat×Bool×Nat):=
 match P.underlying T with
 |some (.struct fs)=>match fs[f]? with
  |some fd=>(lay P fd.type).map fun (ag,n)=>(fd.offset,ag,n)
  |none=>none
 |_=>none
def esz(P:Program)(T:TypeId):Option Nat:=
 match P.underlying T with
 |some (.slice e)=>(P.info? e).map (·.size)
 |_=>none
def dK(P:Program)(T:TypeId):Option (List Value):=
 match P.info? T with
 |some i=>i.zero.map (·.cells.toList)
 |none=>none
def ld(ag:Bool)(n off:Nat)(cs:List Value):Value:=
 bif ag then .agg ((cs.drop off).take n).toArray else (cs.drop off).headD undef
def splice(cs:List Value)(off:Nat)(vs:List Value):List Value:=cs.take off++vs++cs.drop (off+vs.length)
def bF:List Value->Bool
 |[]=>true
 |v::r=>v.oneCell'&&bF r
def AtPure(P:Program)(e:Sem Value)(K:Value->Prop):Prop:= ∃r,(∀w,e.run P w= .ok r w)/\K r
def AtRead(P:Program)(e:Sem Value)(u:World)(K:Value->Prop):Prop:= ∃r,(∀w,Sub u w->e.run P w= .ok r w)/\K r
def AtEff(x:Bool)(P:Program)(e:Sem Value)(u0 u:World)(K:Value->World->Prop):Prop:=
 ∀w,Sub u w->Sub u0 w-> ∃r w' u',e.run P w= .ok r w'/\Step x u0 u w u' w'/\K r u'
def AtDo(x:Bool)(P:Program)(e:Sem Unit)(u0 u:World)(K:World->Prop):Prop:=
 ∀w,Sub u w->Sub u0 w-> ∃w' u',e.run P w= .ok () w'/\Step x u0 u w u' w'/\K u'
def cW(P:Program)(f:FuncId):Bool:=
 match P.funcs[f]? with
 |some fn=>fn.body.isSome&& !(fn.name=="runtime.NumGoroutine")
 |none=>false
def aa_(x:Bool)(P:Program)(f:FuncId)(args:List Value)(u0 u:World)(K:Value->World->Prop):Prop:=
 cW P f=true/\ ∀w,Sub u w->Sub u0 w->Calls P f args.toArray w fun e w'=> ∃r u',e= .returned r/\Step x u0 u w u' w'/\K r u'
def xB(P:Program)(f:FuncId):Option (Array Value->Sem Value):=
 match P.funcs[f]? with
 |some fn=>if fn.name=="runtime.NumGoroutine"||fn.body.isSome||(Extern.findNext fn).isSome then none else Extern.find fn
 |none=>none
def amo(x:Bool)(P:Program)(f:FuncId)(args:List Value)(u0 u:World)(K:Value->World->Prop):Prop:=
 ∃e,xB P f=some e/\AtEff x P (e args.toArray) u0 u K
def AtCall(x:Bool)(P:Program)(f:FuncId)(args:List Value)(u0 u:World)(K:Value->World->Prop):Prop:=aa_ x P f args u0 u K\/amo x P f args u0 u K
def AtYield(x:Bool)(P:Program)(l:Nat)(args:List Value)(u0 u:World)(K:Value->World->Prop):Prop:=
 ∀w,Sub u w->Sub u0 w->YieldAt Fence.wide 0 P l args.toArray w fun e w'=> ∃r u',e= .returned r/\Step x u0 u w u' w'/\K r u'
def abf(x:Bool)(P:Program)(fv:Value)(args:List Value)(u0 u:World)(K:Value->World->Prop):Prop:=
 ∃l,fv= .func (.yield l) #[] #[]/\AtYield x P l args u0 u K
def afC(u:World)(sv:Value)(sz:Nat)(i:Int)(cs:List Value):Prop:=
 ∃a len cap,sv= .slice (some a) len cap/\cs.length=sz/\ ∀j v,cs[j]? =some v->u.cell? ((a.add (i.toNat*sz)).add j)=some v
def abq(u:World)(sv:Value)(sz:Nat)(i:Int)(ag:Bool)(n off:Nat)(K:Value->Prop):Prop:=
 ∃cs,afC u sv sz i cs/\(n=1\/ag=true)/\off+n<=cs.length/\K (ld ag n off cs)
def CellsAt(u:World)(a:Addr)(cs:List Value):Prop:= ∀j v,cs[j]? =some v->u.cell? (a.add j)=some v
def aeM(u:World)(a:Addr)(ag:Bool)(n:Nat)(K:Value->Prop):Prop:=
 ∃cs,CellsAt u a cs/\cs.length=n/\(n=1\/ag=true)/\K (ld ag n 0 cs)
def eZ(s:S)(d:Option Tmp)(u:World)(K:S->World->Prop)(r:Value):Prop:=K (s.put d (.v r)) u
def ey(s:S)(d:Option Tmp)(K:S->World->Prop)(r:Value)(u:World):Prop:=K (s.put d (.v r)) u
def lh(s:S)(d:Option Tmp)(K:S->World->Prop)(u:World):Prop:=K (s.put d (.v undef)) u
def aeL(p:Option Addr)(n:Nat)(i:Int)(K:Prop):Prop:=(p.isSome=true/\0<=i/\i<n)/\K
def jb(k b:Nat):SV->SV
 | .loc k' off=>bif k'==k then .v (.pointer (some ⟨b,off,none⟩))else .loc k' off
 |x=>x
def zw(k b:Nat):List (Nat×SV)->List (Nat×SV)
 |[]=>[]
 |(t,x)::r=>(t,jb k b x)::zw k b r
def lV(k:Nat):List (Nat×Loc)->List (Nat×Loc)
 |[]=>[]
 |(k',l)::r=>bif k'==k then lV k r else (k',l)::lV k r
def S.pub(s:S)(k b:Nat):S:=⟨zw k b s.ρ,lV k s.σ⟩
def pP(a:Value)(K:List Value->S->World->Prop)(vs:List Value)(s:S)(u:World):Prop:=K (a::vs) s u
def f_(u0:World):List Operand->S->World->(List Value->S->World->Prop)->Prop
 |[],s,u,K=>K [] s u
 | x ::r,s,u,K=>
  match s.sv x with
  | .v a=>f_ u0 r s u (pP a K)
  | .loc k off=>
   match s.find k with
   | some l=> ∀u',Sub u u'->Fresh u l.b->Fresh u0 l.b->u'.heap[l.b]? =some (.cells l.cells.toArray l.T (0,0))->(∀b',b'≠l.b->Fresh u b'->Fresh u' b')->
     f_ u0 r (s.pub k l.b) u' (pP (.pointer (some ⟨l.b,off,none⟩)) K)
   |none=>False
  |_=>False
def vals(s:S):List Operand->Option (List Value)
 |[]=>some []
 | x::r=>
  match s.sv x with
  | .v a=>match vals s r with
   |some vs=>some (a::vs)
   |none=>none
  |_=>none
def ky(s:S):Option Operand->Option (Option Value)
 |none=>some none
 |some x=>match s.sv x with
  | .v a=>some (some a)
  |_=>none
def ik(s:S):List (Nat×Operand)->Option (List (Nat×Value))
 |[]=>some []
 | (i,x)::r=>
  match s.sv x with
  | .v a=>match ik s r with
   |some vs=>some ((i,a)::vs)
   |none=>none
  |_=>none
def addLoc(s:S)(d b:Nat)(cs:List Value)(T:TypeId):S:=⟨(d,.loc d 0)::s.ρ,(d,⟨b,cs,T⟩)::s.σ⟩
def setLoc(s:S)(k:Nat)(l:Loc)(cs:List Value)(d:Option Tmp):S:=(⟨s.ρ,(k,⟨l.b,cs,l.T⟩)::s.σ⟩:S).put d (.v undef)
def abc(K:S->World->Prop)(d:Option Tmp)(fn:Fn)(nf:Nat)(vs:List Value)(s:S)(u:World):Prop:=
 K (s.put d (.v (.func fn (vs.take nf).toArray (vs.drop nf).toArray))) u
def rz(x:Bool)(P:Program)(u0:World)(f:FuncId)(first captured:List Value)(K:S->World->Prop)(d:Option Tmp)(vs:List Value)(s:S)(u:World):Prop:=
 AtCall x P f (first++vs++captured) u0 u (ey s d K)
def pd(x:Bool)(P:Program)(u0:World)(fv:Value)(K:S->World->Prop)(d:Option Tmp)(vs:List Value)(s:S)(u:World):Prop:=
 abf x P fv vs u0 u (ey s d K)
def oY:=@Builtin.len_
def t_:=@Builtin.cap_
def uk:=@Builtin.min_
def tp:=@Builtin.max_
def iW:=@Builtin.append_
def jF:=@Builtin.copy_
def ahM:=@Builtin.delete_
def t0:=@Builtin.clear_
def ox:=@Instr.buildSlice
def jC:=@Instr.build
def cD:=@Instr.sliceAt
def fG:=@Instr.storeAt
def jh:=@Instr.index
def o5:=@Instr.lookup
def nJ:=@Instr.makeSlice
def xM:=@Instr.makeMap
def qD:=@Instr.mapUpdate
def afk:=@Instr.mapEntry
def xU:=@Instr.entryStore
def iUn:=@Op.unary
def dO:=@convert
def bm(op:BinOp)(T:TypeId)(y z:Operand)(a b:Value):Sem Value:=do eqGuard op T y z a b;binOp op T a b
def mu(P:Program)(T:TypeId)(x:SV)(K:Value->Prop)(s:S)(u:World):Prop:=
 match lay P T with
 | some (ag,n)=>
  match x with
  | .loc k off=>match s.find k with
   |some l=>(n=1\/ag=true)/\off+n<=l.cells.length/\K (ld ag n off l.cells)
   |none=>False
  | .elt sv sz i off=>abq u sv sz i ag n off K
  | .v (.pointer (some a))=>aeM u a ag n K
  |_=>False
 |none=>False
def ke(P:Program)(T:TypeId)(f:Nat)(x:SV)(d:Option Tmp)(K:S->World->Prop)(s:S)(u:World):Prop:=
 match bg P T f with
 |some e=>
  match x with
  | .loc k off=>K (s.put d (.loc k (off+e))) u
  | .elt sv sz i off=>K (s.put d (.elt sv sz i (off+e))) u
  | .v (.pointer (some a))=>K (s.put d (.v (.pointer (some (a.add e))))) u
  |_=>False
 |none=>False
def fN(P:Program)(b:Bool)(u0:World)(T:TypeId)(x:SV)(y:SV)(d:Option Tmp)(K:S->World->Prop)(s:S)(u:World):Prop:=
 match y with
 | .v a=>
  match x with
  | .loc k off=>match s.find k,lay P T with
   |some l,some (_,n)=>a.cells.toList.length=n/\off+n<=l.cells.length/\bF a.cells.toList=true/\K (setLoc s k l (splice l.cells off a.cells.toList) d) u
   |_,_=>False
  | .v p=>AtDo b P (fG T p a) u0 u (lh s d K)
  | .elt sv sz i off=>match bT sv sz i off with
   |some ad=>AtDo b P (fG T (.pointer (some ad)) a) u0 u (lh s d K)
   |none=>False
  | .unk=>False
 |_=>False
def asz(P:Program)(T:TypeId):Option (Nat×Nat):=
 match P.underlying T with
 |some (.array len e)=>(P.info? e).map fun i=>(len,i.size)
 |_=>none
def ag0(d:Option Tmp)(K:S->World->Prop)(s:S)(u:World)(k off:Nat)(i:Int):Option (Nat×Nat)->Prop
 |some (len,sz)=>(0<=i/\i<(len:Int))/\K (s.put d (.loc k (off+i.toNat*sz))) u
 |none=>False
def ry(P:Program)(T:TypeId)(x i:SV)(d:Option Tmp)(K:S->World->Prop)(s:S)(u:World):Prop:=
 match esz P T,x,i with
 |some sz,.v (.slice p n c),.v (.int _ i)=>aeL p n i (K (s.put d (.elt (.slice p n c) sz i 0)) u)
 |none,.loc k off,.v (.int _ i)=>ag0 d K s u k off i (asz P T)
 |_,_,_=>False
def lu(P:Program)(x:Bool)(u0:World)(c:Call)(ty:TypeId)(d:Option Tmp)(K:S->World->Prop)(s:S)(u:World):Prop:=
 match c.callee with
 | .builtin .len=>match vals s c.args.toList with
  |some vs=>AtRead P (oY c.argTypes ty vs.toArray) u (eZ s d u K)
  |none=>False
 | .builtin .cap=>match vals s c.args.toList with
  |some vs=>AtRead P (t_ c.argTypes ty vs.toArray) u (eZ s d u K)
  |none=>False
 | .builtin .min=>match vals s c.args.toList with
  |some vs=>AtPure P (uk c.argTypes ty vs.toArray) (eZ s d u K)
  |none=>False
 | .builtin .max=>match vals s c.args.toList with
  |some vs=>AtPure P (tp c.argTypes ty vs.toArray) (eZ s d u K)
  |none=>False
 | .builtin .append=>match vals s c.args.toList with
  |some vs=>AtEff x P (iW c.argTypes ty vs.toArray) u0 u (ey s d K)
  |none=>False
 | .builtin .copy=>match vals s c.args.toList with
  |some vs=>AtEff x P (jF c.argTypes ty vs.toArray) u0 u (ey s d K)
  |none=>False
 | .builtin .delete=>match vals s c.args.toList with
  |some vs=>AtEff x P (ahM c.argTypes ty vs.toArray) u0 u (ey s d K)
  |none=>False
 | .builtin .clear=>match vals s c.args.toList with
  |some vs=>AtEff x P (t0 c.argTypes ty vs.toArray) u0 u (ey s d K)
  |none=>False
 | .value f=>match s.sv f with
  | .v (.func (.func g) first captured)=>f_ u0 c.args.toList s u (rz x P u0 g first.toList captured.toList K d)
  | .v fv=>f_ u0 c.args.toList s u (pd x P u0 fv K d)
  |_=>False
 |_=>False
def cj(P:Program)(x:Bool)(u0:World)(o:Oper)(K:S->World->Prop)(s:S)(u:World):Prop:=
 match o.op with
 | .move y=>K (s.put o.dst (s.sv y)) u
 | .assign y=>K (s.put o.dst (s.sv y)) u
 | .pick c y z=>match s.sv c with
  | .v (.bool t)=>K (s.put o.dst (bif t then s.sv y else s.sv z)) u
  |_=>False
 | .load T y=>mu P T (s.sv y) (eZ s o.dst u K) s u
 | .nilCheck y=>match s.sv y with
  | .loc k off=>K (s.put o.dst (.loc k off)) u
  | .elt sv sz i off=>K (s.put o.dst (.elt sv sz i off)) u
  | .v (.pointer (some a))=>K (s.put o.dst (.v (.pointer (some a)))) u
  |_=>False
 | .binOp op T y z _=>match s.sv y,s.sv z with
  | .v a,.v b=>AtPure P (bm op T y z a b) (eZ s o.dst u K)
  |_,_=>False
 | .unOp op _ y=>match s.sv y with
  | .v a=>AtPure P (iUn op a) (eZ s o.dst u K)
  |_=>False
 | .convert src dst y=>match s.sv y with
  | .v a=>bif efc src dst then AtEff x P (dO src dst a) u0 u (ey s o.dst K)else AtRead P (dO src dst a) u (eZ s o.dst u K)
  |_=>False
 | .makeFunc fn first captured=>f_ u0 (first.toList++captured.toList) s u (abc K o.dst fn first.size)
 | .build T ps=>match ik s ps.toList with
  |some vs=>AtPure P (jC T vs.toArray) (eZ s o.dst u K)
  |none=>False
 | .slice T y lo hi mx=>match s.sv y,ky s lo,ky s hi,ky s mx with
  | .v a,some l,some h,some m=>AtPure P (cD T a l h m) (eZ s o.dst u K)
  |_,_,_,_=>False
 | .fieldAddr T y f=>ke P T f (s.sv y) o.dst K s u
 | .field T y f=>match s.sv y with
  | .v (.agg cs)=>match afK P T f with
   |some (off,ag,n)=>(n=1\/ag=true)/\off+n<=cs.toList.length/\K (s.put o.dst (.v (ld ag n off cs.toList))) u
   |none=>False
  |_=>False
 | .indexAddr T y i=>ry P T (s.sv y) (s.sv i) o.dst K s u
 | .index T y i=>match s.sv y,s.sv i with
  | .v a,.v b=>AtRead P (jh T a b) u (eZ s o.dst u K)
  |_,_=>False
 | .lookup T y i ok=>match s.sv y,s.sv i with
  | .v a,.v b=>AtRead P (o5 T a b ok) u (eZ s o.dst u K)
  |_,_=>False
 | .extract y i=>match s.sv y with
  | .v (.tuple vs)=>match vs.toList[i]? with
   |some r=>K (s.put o.dst (.v r)) u
   |none=>False
  |_=>False
 | .alloc T=>match dK P T,o.dst with
  |some cs,some d=>s.find d=none/\ ∀b,K (addLoc s d b cs T) u
  |_,_=>False
 | .box T y=>match s.sv y,o.dst with
  | .v a,some d=>s.find d=none/\ ∀b,K (addLoc s d b a.cells.toList T) u
  |_,_=>False
 | .store T y z=>fN P x u0 T (s.sv y) (s.sv z) o.dst K s u
 | .buildSlice T n ps=>match ik s ps.toList with
  |some vs=>AtEff x P (ox T n vs.toArray) u0 u (ey s o.dst K)
  |none=>False
 | .makeSlice T l c=>match s.sv l,s.sv c with
  | .v a,.v b=>AtEff x P (nJ T a b) u0 u (ey s o.dst K)
  |_,_=>False
 | .makeMap T r=>match ky s r with
  |some a=>AtEff x P (xM T a) u0 u (ey s o.dst K)
  |none=>False
 | .mapUpdate T m k y=>match s.sv m,s.sv k,s.sv y with
  | .v a,.v b,.v c=>AtDo x P (qD T a b c) u0 u (lh s o.dst K)
  |_,_,_=>False
 | .insert T m k y=>match s.sv m,s.sv k,s.sv y with
  | .v a,.v b,.v c=>AtDo x P (qD T a b c) u0 u (lh s o.dst K)
  |_,_,_=>False
 | .mapEntry T m k=>match s.sv m,s.sv k with
  | .v a,.v b=>AtEff x P (afk T a b) u0 u (ey s o.dst K)
  |_,_=>False
 | .entryStore T m k y=>match s.sv m,s.sv k,s.sv y with
  | .v a,.v b,.v c=>AtDo x P (xU T a b c) u0 u (lh s o.dst K)
  |_,_,_=>False
 | .call c=>lu P x u0 c o.type o.dst K s u
 |_=>False
def learn(u:World)(b:Nat)(o:Obj):World:=
 { u with heap:=((List.range (max u.heap.size (b+1))).map fun i=>if i=b then o else (u.heap[i]?).getD i5).toArray }
theorem bL(u:World)(b:Nat)(o:Obj):(learn u b o).heap[b]? =some o:=by grind [learn,List.getElem?_range]
theorem fR{u:World}{b c:Nat}{o o':Obj}(h:c≠b)(hn:o'≠i5):(learn u b o).heap[c]? =some o'↔u.heap[c]? =some o':=by
 by_cases hc:c<max u.heap.size (b+1)
 ·simp only[learn,List.getElem?_toArray,List.getElem?_map,List.getElem?_range hc,Option.map_some,if_neg h];cases hu:u.heap[c]? with
  |none=>simp;exact fun e=>hn e.symm
  |some x=>simp
 ·have h1:u.heap[c]? =none:=by apply Array.getElem?_eq_none;omega
  have h2:(learn u b o).heap[c]? =none:=by
   apply Array.getElem?_eq_none;simp[learn];omega
  rw[h1,h2]
theorem cP{u:World}{b c:Nat}{o:Obj}(h:c≠b)(hf:Fresh u c):Fresh (learn u b o) c:=fun o' ho'=>
 Classical.byContradiction fun hn=>hn (hf o' ((fR h hn).1 ho'))
theorem dR{u:World}{b:Nat}{o:Obj}(hf:Fresh u b):Sub u (learn u b o):=fun c o' h hn=>by
 by_cases hc:c=b
 ·subst hc;exact absurd (hf o' h) hn
 ·exact(fR hc hn).2 h
theorem j5{u w:World}{b:Nat}{o:Obj}(hs:Sub u w)(hb:w.heap[b]? =some o):Sub (learn u b o) w:=fun c o' h hn=>by
 by_cases hc:c=b
 ·subst hc;rw[bL]at h;cases h;exact hb
 ·exact hs c o' ((fR hc hn).1 h) hn
theorem akl{k b t:Nat}: ∀(l:List (Nat×SV)),lk (zw k b l) t=(lk l t).map (jb k b):=by
 intro l
 induction l with
 |nil=>rfl
 |cons p r ih=>
  obtain⟨t',x⟩:=p
  by_cases h:t'=t
  ·subst h;simp[zw,au]
  ·simp[zw,aj h,ih]
theorem aeI{k j:Nat}: ∀(l:List (Nat×Loc)),lk (lV k l) j=if j=k then none else lk l j:=by
 intro l
 induction l with
 |nil=>simp[lV,lk]
 | cons p r ih=>
  obtain⟨k',x⟩:=p
  by_cases h:k'=k
  ·subst h;simp only[lV,beq_self_eq_true,cond_true,ih]
   by_cases hj:j=k'
   ·simp[hj]
   ·simp only[hj,if_false];rw[aj (fun e=>hj e.symm)]
  ·have hb:(k'==k)=false:=by simpa using h
   simp only[lV,hb,cond_false]
   by_cases hj:k'=j
   ·subst hj;simp[au,h]
   ·rw[aj hj,aj hj,ih]
theorem S.get_pub(s:S)(k b t:Nat):(s.pub k b).get t=jb k b (s.get t):=by
 simp only[S.get,S.pub,akl];cases lk s.ρ t<;>rfl
theorem S.find_pub(s:S)(k b j:Nat):(s.pub k b).find j=if j=k then none else s.find j:=by
 simp only[S.find,S.pub,aeI]
theorem Sim.pub{C:Ctx}{s:S}{u:World}{a:Act}{w:World}(h:Sim C s u a w){k:Nat}{l:Loc}(hk:s.find k=some l):
  Sim C (s.pub k l.b) (learn u l.b (.cells l.cells.toArray l.T (0,0))) a w:=by
 obtain⟨h1,h2,h3⟩:=h.locs k l hk;refine⟨h.size,h.defers.mono (fun b o hb hc hf=>⟨hb,cP (fun e=>by subst e;rw[h1]at hb;cases hb;exact hc _ _ _ rfl) hf⟩),?_,?_,?_,j5 h.sub h1,?_,?_,h.keep,?_,h.le,h.sub0,h.sub00⟩
 ·intro t v hv;refine h.slots t v ?_;rw[S.get_pub]at hv;cases hg:s.get t with
  |unk=>rw[hg]at hv;exact hv
  |v x=>rw[hg]at hv;exact hv
  |elt sv sz i off=>rw[hg]at hv;exact hv
  | loc k' off=>
   rw[hg]at hv
   by_cases hkk:k'=k
   ·subst hkk;simp only[jb,beq_self_eq_true,cond_true,S.val]at hv;simp only[S.val,hk,Option.map_some];exact hv
   ·have hb:(k'==k)=false:=by simpa using hkk
    simp only[jb,hb,cond_false,S.val,S.find_pub,hkk,if_false]at hv;exact hv
 ·intro t k' off ht;rw[S.get_pub]at ht;cases hg:s.get t with
  |unk=>rw[hg]at ht;cases ht
  |v x=>rw[hg]at ht;cases ht
  |elt sv sz i off=>rw[hg]at ht;cases ht
  | loc k2 off2=>
   rw[hg]at ht
   by_cases hkk:k2=k
   ·subst hkk;simp[jb]at ht
   ·have hb:(k2==k)=false:=by simpa using hkk
    simp only[jb,hb,cond_false]at ht;cases ht;rw[S.find_pub,if_neg hkk];exact h.wfl t k' off hg
 ·intro t sv sz i off ht;rw[S.get_pub]at ht;cases hg:s.get t with
  |unk=>rw[hg]at ht;cases ht
  |v x=>rw[hg]at ht;cases ht
  |elt sv' sz' i' off'=>rw[hg]at ht;cases ht;exact h.wfe t _ _ _ _ hg
  | loc k2 off2=>
   rw[hg]at ht
   by_cases hkk:k2=k
   ·subst hkk;simp[jb]at ht
   ·have hb:(k2==k)=false:=by simpa using hkk
    simp only[jb,hb,cond_false]at ht;cases ht
 ·intro k' l' hk';rw[S.find_pub]at hk';split at hk'
  ·cases hk'
  ·rename_i hne;obtain⟨g1,g2,g3⟩:=h.locs k' l' hk';exact⟨g1,cP (h.dist k' k l' l hk' hk hne) g2,g3⟩
 ·intro k1 k2 l1 l2 hk1 hk2 hne;rw[S.find_pub]at hk1 hk2;split at hk1
  ·cases hk1
  ·split at hk2
   ·cases hk2
   ·exact h.dist k1 k2 l1 l2 hk1 hk2 hne
 ·intro b hb hn
  by_cases hbl:b=l.b
  ·subst hbl;rcases h3 with h3|h3
   ·omega
   ·exact h3.1
  ·exact h.dom b hb (fun hf=>hn (cP hbl hf))
theorem fresh0{C:Ctx}{s:S}{u:World}{a:Act}{w:World}(h:Sim C s u a w){k:Nat}{l:Loc}(hk:s.find k=some l):Fresh C.u0 l.b:=by
 obtain⟨h1,h2,h3⟩:=h.locs k l hk;exact h3.elim (aO h.sub00) (·.2)
theorem lq{C:Ctx}{a:Act}{w:World}: ∀(l:List Operand) (s:S) (u:World) (K:List Value->S->World->Prop),f_ C.u0 l s u K->Sim C s u a w->
  ∃s' u',K (l.map a.eval) s' u'/\Sim C s' u' a w:=by
 intro l
 induction l with
 |nil=>intro s u K h hs;exact⟨s,u,h,hs⟩
 | cons x r ih=>
  intro s u K h hs;simp only[f_]at h;split at h
  ·rename_i v hv;obtain⟨s',u',hK,hs'⟩:=ih s u _ h hs;refine⟨s',u',?_,hs'⟩;rw[List.map_cons,hs.eval_v hv];exact hK
  ·rename_i k off hv;split at h
   ·rename_i l hl;have hp:=hs.pub hl;obtain⟨g1,g2,g3⟩:=hs.locs k l hl;obtain⟨s',u',hK,hs'⟩:=ih _ _ _ (h _ (dR g2) g2 (fresh0 hs hl) (bL _ _ _) (fun b' hb' hf=>cP hb' hf)) hp
    refine⟨s',u',?_,hs'⟩;have he:a.eval x= .pointer (some ⟨l.b,off,none⟩):=hs.eval (by rw[hv];simp[S.val,hl])
    rw[List.map_cons,he];exact hK
   ·exact h.elim
  ·exact h.elim
theorem rC{C:Ctx}{s:S}{u:World}{a:Act}{w:World}(hs:Sim C s u a w): ∀{l:List Operand} {vs:List Value},vals s l=some vs->l.map a.eval=vs:=by
 intro l
 induction l with
 |nil=>intro vs h;simp[vals]at h;simp[h]
 | cons x r ih=>
  intro vs h;simp only[vals]at h;split at h
  ·rename_i v hv;split at h
   ·rename_i vs' hvs;cases h;rw[List.map_cons,hs.eval_v hv,ih hvs]
   ·cases h
  ·cases h
theorem o7{C:Ctx}{s:S}{u:World}{a:Act}{w:World}(hs:Sim C s u a w): ∀{l:List (Nat×Operand)} {vs:List (Nat×Value)},ik s l=some vs->l.map (fun (i,x)=>(i,a.eval x))=vs:=by
 intro l
 induction l with
 |nil=>intro vs h;simp[ik]at h;simp[h]
 | cons p r ih=>
  intro vs h;obtain⟨i,x⟩:=p;simp only[ik]at h;split at h
  ·rename_i v hv;split at h
   ·rename_i vs' hvs;cases h;rw[List.map_cons,ih hvs];simp only[hs.eval_v hv]
   ·cases h
  ·cases h
theorem j8{C:Ctx}{s:S}{u:World}{a:Act}{w:World}(hs:Sim C s u a w){x:Option Operand}{v:Option Value}(h:ky s x=some v):x.map a.eval=v:=by
 cases x with
 |none=>simp[ky]at h;simp[h]
 |some x=>
  simp only[ky]at h;split at h
  ·rename_i b hb;cases h;simp[hs.eval_v hb]
  ·cases h
theorem Addr.add_add(a:Addr)(m n:Nat):(a.add m).add n=a.add (m+n):=by
 unfold Addr.add
 by_cases hm:m=0<;>by_cases hn:n=0<;>simp[hm,hn]
 omega
theorem jU{P:Program}{T:TypeId}{ag:Bool}{n:Nat}(h:lay P T=some (ag,n))(w:World):
  (isAgg T).run P w= .ok ag w/\(sizeOf T).run P w= .ok n w:=by
 unfold lay at h;split at h
 ·rename_i fs i hu hi;cases h;exact⟨by simp[isAgg,run_underlying hu],by simp[sizeOf,typeInfo,hi]⟩
 ·rename_i l e i hu hi;cases h;exact⟨by simp[isAgg,run_underlying hu],by simp[sizeOf,typeInfo,hi]⟩
 ·rename_i d i h1 h2 hu hi;cases h;refine⟨?_,by simp[sizeOf,typeInfo,hi]⟩
  simp only[isAgg,Sem.run_bind,run_underlying hu,Result.andThen_ok];cases d<;>first|rfl|exact(h1 _ _ hu hi).elim|exact(h2 _ _ _ hu hi).elim|simp_all
 ·cases h
theorem gZ{P:Program}{T:TypeId}{ag:Bool}{n off:Nat}(h:lay P T=some (ag,n)){w:World}{a:Addr}{cs:List Value}(hn:n=1\/ag=true)
  (hl:off+n<=cs.length) (hc:CellsAt w a cs):(loadVar T (a.add off)).run P w= .ok (ld ag n off cs) w:=by
 obtain⟨h1,h2⟩:=jU h w;simp only[loadVar,Sem.run_bind,h1,Result.andThen_ok];cases ag with
 | true=>
  have hsub:((cs.drop off).take n).length=n:=by simp;omega
  have hload:=run_loadCells_list (P:=P) w (a.add off) ((cs.drop off).take n) (fun j v hv=>by
   rw[Addr.add_add];refine hc _ v ?_;rw[List.getElem?_take]at hv;split at hv
   ·rwa[List.getElem?_drop]at hv
   ·cases hv)
  rw[hsub]at hload;simp[h2,hload,ld]
 |false=>
  have h1':n=1:=by rcases hn with h|h;exact h;cases h
  subst h1';have hlt:off<cs.length:=by omega
  have:=hc off cs[off] (List.getElem?_eq_getElem hlt);simp only[Bool.false_eq_true,if_false,run_load,this,ld,cond_false]
  congr 1
  rw[List.headD_eq_head?_getD,List.head?_drop,List.getElem?_eq_getElem hlt];rfl
theorem CellsAt.mono{u w:World}{a:Addr}{cs:List Value}(hs:Sub u w)(h:CellsAt u a cs):CellsAt w a cs:=fun j v hv=>hs.cell (h j v hv)
theorem nQ{w:World}{b:Nat}{cs:List Value}{T:TypeId}{f:Nat×Nat}(h:w.heap[b]? =some (.cells cs.toArray T f)):CellsAt w ⟨b,0,none⟩ cs:=fun j v hv=>by
 rw[Addr.add_lit];exact fm h (by simpa using hv)
def LdW(s:S)(u:World)(x:SV)(w':World):Prop:=
 match x with
 | .loc k _=> ∀l,s.find k=some l->w'.heap[l.b]? =some (.cells l.cells.toArray l.T (0,0))
 |_=>Sub u w'
theorem sd{P:Program}{C:Ctx}{s:S}{u:World}{a:Act}{w:World}(hs:Sim C s u a w){T:TypeId}{y:Operand}{K:Value->Prop}(h:mu P T (s.sv y) K s u):
  ∃v,K v/\ ∀w',LdW s u (s.sv y) w'->(Instr.loadAt T (a.eval y)).run P w'= .ok v w':=by
 unfold mu at h;split at h
 ·rename_i ag n hl;split at h
  ·rename_i k off hv;split at h
   ·rename_i l hk;obtain⟨h1,h2,h3⟩:=h;refine⟨_,h3,fun w' he=>?_⟩
    have hev:a.eval y= .pointer (some ⟨l.b,off,none⟩):=hs.eval (by rw[hv];simp[S.val,hk])
    rw[hev];rw[hv]at he;have:=gZ hl h1 h2 (nQ (he l hk));rw[Addr.add_lit,Nat.zero_add]at this;simpa[Instr.loadAt,Instr.sureAddr]using this
   ·exact h.elim
  ·rename_i sv sz i off hv;obtain⟨cs,⟨ad,len,cap,rfl,hlen,hcell⟩,h1,h2,h3⟩:=h;refine⟨_,h3,fun w' he=>?_⟩
   have hev:a.eval y= .pointer (some ((ad.add (i.toNat*sz)).add off)):=hs.eval (by rw[hv];simp[S.val,bT])
   rw[hev];rw[hv]at he;have:=gZ hl h1 h2 (CellsAt.mono he hcell);simpa[Instr.loadAt,Instr.sureAddr]using this
  ·rename_i ad hv;obtain⟨cs,hc,hlen,h1,h3⟩:=h;refine⟨_,h3,fun w' he=>?_⟩
   rw[hs.eval_v hv];rw[hv]at he;have:=gZ (off:=0) hl h1 (by omega) (CellsAt.mono he hc)
   rw[Addr.add_zero']at this;simpa[Instr.loadAt,Instr.sureAddr]using this
  ·exact h.elim
 ·exact h.elim
def cV:List Nat->Nat->Bool
 |[],_=>false
 |j::r,k=>bif j==k then true else cV r k
def Near(ks:List Nat)(s:S)(u w':World):Prop:=Sub u w'/\ ∀k l,s.find k=some l->cV ks k=false->w'.heap[l.b]? =some (.cells l.cells.toArray l.T (0,0))
def al4(ks:List Nat):SV->Prop
 | .loc k _=>cV ks k=false
 |_=>True
def aab(ks:List Nat)(o:Oper)(s:S):Prop:=
 match o.op with
 | .load _ y=>al4 ks (s.sv y)
 |_=>True
theorem oh{o:Oper}{s:S}:aab [] o s:=by
 unfold aab;split
 ·unfold al4;split
  ·rfl
  ·trivial
 ·trivial
def uR(P:Program)(C:Ctx)(ks:List Nat)(s:S)(u:World)(o:Oper)(K:S->World->Prop)(a:Act)(w:World):Prop:=
 ∃v s' u',K s' u'/\Sim C s' u' (a.put o.dst v) w/\((∀w',(execOp a.eval o).run P w'= .ok (.value v) w')\/(mL o.op=false/\ ∀w',Near ks s u w'->(execOp a.eval o).run P w'= .ok (.value v) w'))
section
variable {P:Program} {C:Ctx} {s:S} {u:World} {a:Act} {w:World} {K:S->World->Prop} {ks:List Nat}
theorem mX(hs:Sim C s u a w):Near ks s u w:=⟨hs.sub,fun k l hk _=>(hs.locs k l hk).1⟩
theorem LdW.of{x:SV}{w':World}(hl:al4 ks x)(h:Near ks s u w'):LdW s u x w':=by
 cases x with
 |loc k off=>exact fun l hk=>h.2 k l hk hl
 |_=>exact h.1
theorem eP{o:Oper}{r:Value}{x:SV}(hs:Sim C s u a w)(hd:dC C.n o.dst=true)(hv: ∀v',s.val x=some v'->v'=r)(hw: ∀k off,x= .loc k off->s.find k≠none)
  (he: ∀sv sz i off,x= .elt sv sz i off->bT sv sz i off≠none) (hK:K (s.put o.dst x) u) (hr: ∀w',(execOp a.eval o).run P w'= .ok (.value r) w'):uR P C ks s u o K a w:=
 ⟨r,_,u,hK,hs.put hd hv hw he,.inl hr⟩
theorem qc{o:Oper}{r:Value}(hs:Sim C s u a w)(hd:dC C.n o.dst=true)(hK:K (s.put o.dst (.v r)) u)(hr: ∀w',(execOp a.eval o).run P w'= .ok (.value r) w'):uR P C ks s u o K a w:=
 ⟨r,_,u,hK,hs.put_v hd,.inl hr⟩
theorem sN{o:Oper}{r:Value}(hs:Sim C s u a w)(hd:dC C.n o.dst=true)(hp:mL o.op=false)(hK:K (s.put o.dst (.v r)) u)
  (hr: ∀w',Near ks s u w'->(execOp a.eval o).run P w'= .ok (.value r) w'):uR P C ks s u o K a w:=
 ⟨r,_,u,hK,hs.put_v hd,.inr ⟨hp,hr⟩⟩
theorem sv_loc(hs:Sim C s u a w){y:Operand}{k off:Nat}(h:s.sv y= .loc k off):s.find k≠none:=by
 cases y with
 |tmp t=>exact hs.wfl t k off h
 |const x=>cases h
 |global g=>cases h
 |func f=>cases h
theorem sv_elt(hs:Sim C s u a w){y:Operand}{sv:Value}{sz:Nat}{i:Int}{off:Nat}(h:s.sv y= .elt sv sz i off):bT sv sz i off≠none:=by
 cases y with
 |tmp t=>exact hs.wfe t sv sz i off h
 |const x=>cases h
 |global g=>cases h
 |func f=>cases h
theorem abU{o:Oper}{y:Operand}(ho:o.op= .move y\/o.op= .assign y)(hs:Sim C s u a w)(hd:dC C.n o.dst=true)(h:K (s.put o.dst (s.sv y)) u):uR P C ks s u o K a w:=by
 refine eP hs hd (r:=a.eval y) (fun v' hv=>(hs.eval hv).symm) (fun k off hx=>sv_loc hs hx) (fun _ _ _ _ hx=>sv_elt hs hx) h (fun w'=>?_)
 rcases ho with ho|ho<;>simp[execOp,ho]
theorem ahY{o:Oper}{T:TypeId}{y:Operand}{f:Nat}(ho:o.op= .fieldAddr T y f)(hs:Sim C s u a w)(hd:dC C.n o.dst=true)(h:ke P T f (s.sv y) o.dst K s u):uR P C ks s u o K a w:=by
 unfold ke at h;split at h
 ·rename_i e he
  have hrun: ∀(ad:Addr) w',(Instr.fieldAt T (.pointer (some ad)) f).run P w'= .ok (.pointer (some (ad.add e))) w':=by
   intro ad w';unfold bg at he;split at he
   ·rename_i fs hu;split at he
    ·rename_i fd hfd;split at he
     ·rename_i i hi;split at he
      ·cases he
      ·rename_i hz;cases he;simp[Instr.fieldAt,run_underlying hu,hfd,Instr.sureAddr,fieldPlace,sizeOf,typeInfo,hi,hz]
     ·cases he
    ·cases he
   ·cases he
  split at h
  ·rename_i k off hv;cases hk:s.find k with
   |none=>exact(sv_loc hs hv hk).elim
   |some l=>
    have hev:a.eval y= .pointer (some ⟨l.b,off,none⟩):=hs.eval (by rw[hv];simp[S.val,hk])
    refine eP hs hd (r:=.pointer (some ⟨l.b,off+e,none⟩)) ?_ ?_ (by intro _ _ _ _ hx;cases hx) h ?_
    ·intro v' hv';simp[S.val,hk]at hv';exact hv'.symm
    ·intro k' off' hx;cases hx;rw[hk];intro h;cases h
    ·intro w';have:=hrun ⟨l.b,off,none⟩ w';rw[Addr.add_lit]at this;simp[execOp,ho,hev,this]
  ·rename_i sv sz i off hv;cases hk:bT sv sz i off with
   |none=>exact(sv_elt hs hv hk).elim
   | some ad=>
    have hev:a.eval y= .pointer (some ad):=hs.eval (by rw[hv];simp[S.val,hk])
    refine eP hs hd (r:=.pointer (some (ad.add e))) ?_ (by intro k off hx;cases hx) ?_ h ?_
    ·intro v' hv';unfold bT at hk;split at hk
     ·cases hk;simp[S.val,bT,Addr.add_add]at hv';rw[<-hv',Addr.add_add,Addr.add_add]
     ·cases hk
    ·intro sv' sz' i' off' hx hn;cases hx;unfold bT at hk hn;split at hk
     ·simp at hn
     ·cases hk
    ·intro w';simp[execOp,ho,hev,hrun ad w']
  ·rename_i ad hv;have hev:=hs.eval_v hv;refine qc hs hd h (fun w'=>?_)
   simp[execOp,ho,hev,hrun ad w']
  ·exact h.elim
 ·exact h.elim
theorem aka{T:TypeId}{sz:Nat}(h:esz P T=some sz)(p:Option Addr)(n c:Nat)(k:IntKind)(i:Int)(ad:Addr)(hp:p=some ad)(h0:0<=i)(h1:i<n)(w:World):
  (Instr.indexAt T (.slice p n c) (.int k i)).run P w= .ok (.pointer (some (ad.add (i.toNat*sz)))) w:=by
 subst hp;unfold esz at h;split at h
 ·rename_i e hu;cases hi:P.info? e with
  |none=>simp[hi]at h
  |some info=>
   simp[hi]at h;subst h;simp[Instr.indexAt,asIntOf,run_underlying hu,h0,h1,sizeOf,typeInfo,hi]
 ·cases h
theorem ajI{T:TypeId}{len sz:Nat}(h:asz P T=some (len,sz))(ad:Addr)(k:IntKind)(i:Int)(h0:0<=i)(h1:i<(len:Int))(w:World):
  (Instr.indexAt T (.pointer (some ad)) (.int k i)).run P w= .ok (.pointer (some (ad.add (i.toNat*sz)))) w:=by
 unfold asz at h;split at h
 ·rename_i n e hu;cases hi:P.info? e with
  |none=>simp[hi]at h
  |some info=>
   simp[hi]at h;obtain⟨rfl,rfl⟩:=h;simp[Instr.indexAt,asIntOf,run_underlying hu,Instr.sureAddr,h0,h1,sizeOf,typeInfo,hi]
 ·cases h
theorem ak6{o:Oper}{T:TypeId}{y z:Operand}(ho:o.op= .indexAddr T y z)(hs:Sim C s u a w)(hd:dC C.n o.dst=true)(h:ry P T (s.sv y) (s.sv z) o.dst K s u):uR P C ks s u o K a w:=by
 unfold ry at h;split at h
 ·rename_i sz p n c k i hsz hy hz;obtain⟨⟨h1,h2,h3⟩,hK⟩:=h;cases p with
  |none=>cases h1
  |some ad=>
   refine eP hs hd (r:=.pointer (some (ad.add (i.toNat*sz)))) ?_ (by intro k off hx;cases hx) (by intro _ _ _ _ hx hn;cases hx;simp[bT]at hn) hK ?_
   ·intro v' hv';simp[S.val,bT,Addr.add_zero']at hv';exact hv'.symm
   ·intro w';simp[execOp,ho,hs.eval_v hy,hs.eval_v hz,aka hsz (some ad) n c k i ad rfl h2 h3 w']
 ·rename_i k off kk i hsz hy hz;unfold ag0 at h;split at h
  ·rename_i len sz ha;obtain⟨⟨h1,h2⟩,hK⟩:=h;cases hk:s.find k with
   |none=>exact(sv_loc hs hy hk).elim
   |some l=>
    have hev:a.eval y= .pointer (some ⟨l.b,off,none⟩):=hs.eval (by rw[hy];simp[S.val,hk])
    refine eP hs hd (r:=.pointer (some ⟨l.b,off+i.toNat*sz,none⟩)) ?_ ?_ (by intro _ _ _ _ hx;cases hx) hK ?_
    ·intro v' hv';simp[S.val,hk]at hv';exact hv'.symm
    ·intro k' off' hx;cases hx;rw[hk];intro h;cases h
    ·intro w';have:=ajI ha ⟨l.b,off,none⟩ kk i h1 h2 w';rw[Addr.add_lit]at this;simp[execOp,ho,hev,hs.eval_v hz,this]
  ·exact h.elim
 ·exact h.elim
theorem qS{α β γ:Type}(r:Result α)(f:α->World->Result β)(g:β->World->Result γ):(r.andThen f).andThen g=r.andThen fun a w=>(f a w).andThen g:=by cases r<;>rfl
theorem jA{o:Oper}{e:Sem Value}(he: ∀w',(execOp a.eval o).run P w'=(e.run P w').andThen fun r w''=>.ok (.value r) w'')(hs:Sim C s u a w)(hd:dC C.n o.dst=true)
  (h:AtPure P e (eZ s o.dst u K)):uR P C ks s u o K a w:=by
 obtain⟨r,hr,hK⟩:=h;exact qc hs hd hK (fun w'=>by rw[he,hr w'];rfl)
theorem jR{o:Oper}{e:Sem Value}(hp:mL o.op=false)(he: ∀w',(execOp a.eval o).run P w'=(e.run P w').andThen fun r w''=>.ok (.value r) w'')(hs:Sim C s u a w)(hd:dC C.n o.dst=true)
  (h:AtRead P e u (eZ s o.dst u K)):uR P C ks s u o K a w:=by
 obtain⟨r,hr,hK⟩:=h;exact sN hs hd hp hK (fun w' hx=>by rw[he,hr w' hx.1];rfl)
theorem wV(l:Array Operand){vs:List Value}(h:l.toList.map a.eval=vs):l.map a.eval=vs.toArray:=by
 apply Array.ext';simp[h]
theorem lG(l:Array (Nat×Operand)){vs:List (Nat×Value)}(h:l.toList.map (fun (i,x)=>(i,a.eval x))=vs):(l.map fun (i,x)=>(i,a.eval x))=vs.toArray:=by
 apply Array.ext';simp[h]
theorem nE{o:Oper}{b:Builtin}{args:Array Operand}{tys:Array TypeId}(ho:o.op= .call { callee:=.builtin b,args,argTypes:=tys }){vs:List Value}
  (hv:args.toList.map a.eval=vs) (w':World): ∃consts,(execOp a.eval o).run P w'=(builtin b tys o.type consts vs.toArray).run P w':=by
 simp only[execOp,ho,resolve,Sem.run_bind,Sem.run_pure,Result.andThen_ok,invoke,wV args hv];exact⟨_,rfl⟩
theorem x8{o:Oper}{x:Bool}(hf:bK o.op=true)(hl:aab ks o s)(hs:Sim C s u a w)(hd:dC C.n o.dst=true)(h:cj P x C.u0 o K s u):uR P C ks s u o K a w:=by
 unfold cj at h;simp only[oY,t_,uk,tp,iW,jF,ahM,t0,ox,jC,cD,fG,jh,o5,nJ,xM,qD,afk,xU,iUn,dO]at h;cases hop:o.op with
 |move y=>simp only[hop]at h;exact abU (.inl hop) hs hd h
 |assign y=>simp only[hop]at h;exact abU (.inr hop) hs hd h
 | pick c y z=>
  simp only[hop]at h;split at h
  ·rename_i t hc;have hev:=hs.eval_v hc;refine eP hs hd (x:=bif t then s.sv y else s.sv z) (r:=bif t then a.eval y else a.eval z) ?_ ?_ ?_ h ?_
   ·cases t<;>exact fun v' hv=>(hs.eval hv).symm
   ·cases t<;>exact fun k off hx=>sv_loc hs hx
   ·cases t<;>exact fun _ _ _ _ hx=>sv_elt hs hx
   ·intro w';cases t<;>simp[execOp,hop,hev,asBool]
  ·exact h.elim
 |load T y=>
  simp only[hop]at h;simp only[aab,hop]at hl;obtain⟨v,hK,hr⟩:=sd hs h;exact sN hs hd (by rw[hop];rfl) hK (fun w' he=>by simp[execOp,hop,hr w' (.of hl he)])
 | nilCheck y=>
  simp only[hop]at h;split at h
  ·rename_i k off hv;cases hk:s.find k with
   |none=>exact(sv_loc hs hv hk).elim
   |some l=>
    have hev:a.eval y= .pointer (some ⟨l.b,off,none⟩):=hs.eval (by rw[hv];simp[S.val,hk])
    refine eP hs hd (r:=.pointer (some ⟨l.b,off,none⟩)) ?_ ?_ (by intro _ _ _ _ hx;cases hx) h ?_
    ·intro v' hv';simp[S.val,hk]at hv';exact hv'.symm
    ·intro k' off' hx;cases hx;rw[hk];intro h;cases h
    ·intro w';simp[execOp,hop,hev]
  ·rename_i sv sz i off hv;cases had:bT sv sz i off with
   |none=>exact(sv_elt hs hv had).elim
   |some ad=>
    have hev:a.eval y= .pointer (some ad):=hs.eval (by rw[hv];simp[S.val,had])
    refine eP hs hd (r:=.pointer (some ad)) ?_ (by intro _ _ hx;cases hx) ?_ h ?_
    ·intro v' hv';simp[S.val,had]at hv';exact hv'.symm
    ·intro _ _ _ _ hx;cases hx;rw[had];intro h;cases h
    ·intro w';simp[execOp,hop,hev]
  ·rename_i ad hv;exact qc hs hd h (fun w'=>by simp[execOp,hop,hs.eval_v hv])
  ·exact h.elim
 |binOp op T y z t2=>
  simp only[hop]at h;split at h
  ·rename_i va vb hy hz;exact jA (fun w'=>by simp[execOp,hop,hs.eval_v hy,hs.eval_v hz,bm,qS]) hs hd h
  ·exact h.elim
 |unOp op T y=>
  simp only[hop]at h;split at h
  ·rename_i va hy;exact jA (fun w'=>by simp[execOp,hop,hs.eval_v hy]) hs hd h
  ·exact h.elim
 |convert src dst y=>
  have hsd:efc src dst=false:=by rw[hop]at hf;simpa[bK]using hf
  simp only[hop,hsd,cond_false]at h;split at h
  ·rename_i va hy;exact jR (by rw[hop];rfl) (fun w'=>by simp[execOp,hop,hs.eval_v hy]) hs hd h
  ·exact h.elim
 | makeFunc fn first captured=>
  simp only[hop]at h;obtain⟨s',u',hK,hs'⟩:=lq _ s u _ h hs;unfold abc at hK;have hrun: ∀w',(execOp a.eval o).run P w'= .ok (.value (.func fn (first.map a.eval) (captured.map a.eval))) w':=fun w'=>by simp[execOp,hop,Instr.makeFunc]
  have e1:(List.take first.size ((first.toList++captured.toList).map a.eval)).toArray=first.map a.eval:=by
   apply Array.ext';simp[List.map_append]
  have e2:(List.drop first.size ((first.toList++captured.toList).map a.eval)).toArray=captured.map a.eval:=by
   apply Array.ext';simp[List.map_append]
  rw[e1,e2]at hK;exact⟨_,_,u',hK,hs'.put_v hd,.inl hrun⟩
 |build T ps=>
  simp only[hop]at h;split at h
  ·rename_i vs hv;exact jA (fun w'=>by simp only[execOp,hop,lG ps (o7 hs hv)];simp) hs hd h
  ·exact h.elim
 |slice T y lo hi mx=>
  simp only[hop]at h;split at h
  ·rename_i va l hh m hy hlo hhi hmx;exact jA (fun w'=>by simp[execOp,hop,hs.eval_v hy,j8 hs hlo,j8 hs hhi,j8 hs hmx]) hs hd h
  ·exact h.elim
 |fieldAddr T y f=>simp only[hop]at h;exact ahY hop hs hd h
 | field T y f=>
  simp only[hop]at h;split at h
  ·rename_i cs hy;split at h
   ·rename_i off ag n hfv;obtain⟨h1,h2,hK⟩:=h;refine qc hs hd hK (fun w'=>?_)
    unfold afK at hfv;split at hfv
    ·rename_i fs hu;split at hfv
     ·rename_i fd hfd;cases hl:lay P fd.type with
      |none=>simp[hl]at hfv
      | some q=>
       obtain⟨ag',n'⟩:=q;simp[hl]at hfv;obtain⟨rfl,rfl,rfl⟩:=hfv;obtain⟨r1,r2⟩:=jU hl w';simp only[execOp,hop,hs.eval_v hy,Instr.field,Sem.run_bind,run_underlying hu,Result.andThen_ok,hfd,asAgg,Sem.run_pure,part,r1];cases ag' with
       |true=>
        simp only[if_true,Sem.run_bind,r2,Result.andThen_ok,Sem.run_pure,ld,cond_true]
        congr 3
        apply Array.ext';simp[List.take_drop,Array.toList_extract]
       |false=>
        have h1':n'=1:=by rcases h1 with h|h;exact h;cases h
        subst h1';have hlt:fd.offset<cs.size:=by have h3:fd.offset+1<=cs.toList.length:=h2;rw[Array.length_toList]at h3;omega
        simp only[Bool.false_eq_true,if_false,Array.getElem?_eq_getElem hlt,Sem.run_pure,Result.andThen_ok,ld,cond_false]
        congr 2
        rw[List.headD_eq_head?_getD,List.head?_drop];simp[hlt]
     ·cases hfv
    ·cases hfv
   ·exact h.elim
  ·exact h.elim
 |indexAddr T y i=>simp only[hop]at h;exact ak6 hop hs hd h
 |index T y i=>
  simp only[hop]at h;split at h
  ·rename_i va vb hy hz;exact jR (by rw[hop];rfl) (fun w'=>by simp[execOp,hop,hs.eval_v hy,hs.eval_v hz]) hs hd h
  ·exact h.elim
 |lookup T y i ok=>
  simp only[hop]at h;split at h
  ·rename_i va vb hy hz;exact jR (by rw[hop];rfl) (fun w'=>by simp[execOp,hop,hs.eval_v hy,hs.eval_v hz]) hs hd h
  ·exact h.elim
 | extract y i=>
  simp only[hop]at h;split at h
  ·rename_i vs hy;split at h
   ·rename_i r hr;refine qc hs hd h (fun w'=>?_)
    have:vs[i]? =some r:=by simpa using hr
    simp[execOp,hop,hs.eval_v hy,Instr.extract,this]
   ·exact h.elim
  ·exact h.elim
 | call c=>
  obtain⟨callee,args,tys⟩:=c;cases callee with
  |value f=>rw[hop]at hf;simp[bK]at hf
  |invoke r m=>rw[hop]at hf;simp[bK]at hf
  | builtin b=>
   rw[hop]at hf;simp only[hop,lu,oY,t_,uk,tp,iW,jF,ahM,t0,ox,jC,cD,fG,jh,o5,nJ,xM,qD,afk,xU,iUn,dO]at h;cases b<;>simp only[bK,zi,Bool.false_eq_true]at hf
   all_goals
    simp only at h;split at h
    ·rename_i vs hv
     first
      |refine jR (by rw[hop];rfl) (fun w'=>?_) hs hd h
      |refine jA (fun w'=>?_) hs hd h
     obtain⟨consts,hr⟩:=nE (P:=P) hop (rC hs hv) w';rw[hr];simp[builtin]
    ·exact h.elim
 |_=>rw[hop]at hf;simp[bK]at hf
theorem agC{o:Oper}{x:Bool}(hf:bK o.op=true)(hs:Sim C s u a w)(hd:dC C.n o.dst=true)(h:cj P x C.u0 o K s u): ∃v s' u',K s' u'/\Sim C s' u' (a.put o.dst v) w/\(execOp a.eval o).run P w= .ok (.value v) w:=by
 obtain⟨v,s',u',h1,h2,h3⟩:=x8 hf oh hs hd h;exact⟨v,s',u',h1,h2,h3.elim (· w) fun h=>h.2 w (mX hs)⟩
def acZ(P:Program)(C:Ctx)(x:Bool)(o:Oper)(K:S->World->Prop)(a:Act)(w:World):Prop:=
 ∀Q:Exit->Act->World->Prop,owp P o a w (fun a' w'=>(x=true->Ext w w')/\ ∃s' u',Sim C s' u' a' w'/\K s' u') Q
theorem kX{o:Oper}{e:Sem Value}{x:Bool}(he: ∀w',(execOp a.eval o).run P w'=(e.run P w').andThen fun r w''=>.ok (.value r) w'')(hs:Sim C s u a w)(hd:dC C.n o.dst=true)
  (h:AtEff x P e C.u0 u (ey s o.dst K)):acZ P C x o K a w:=by
 intro Q;obtain⟨r,w',u',hr,hst,hK⟩:=h w hs.sub hs.sub0;refine .inl ?_;simp only[Oper.wp,he,hr,Result.andThen_ok,Oper.upon];exact⟨fun hx=>by subst hx;exact hst.ext,_,u',(hs.step hst).put_v hd,hK⟩
theorem vq{o:Oper}{e:Sem Unit}{x:Bool}(he: ∀w',(execOp a.eval o).run P w'=(e.run P w').andThen fun _ w''=>.ok .skip w'')(hs:Sim C s u a w)(hd:dC C.n o.dst=true)
  (h:AtDo x P e C.u0 u (lh s o.dst K)):acZ P C x o K a w:=by
 intro Q;obtain⟨w',u',hr,hst,hK⟩:=h w hs.sub hs.sub0;refine .inl ?_;simp only[Oper.wp,he,hr,Result.andThen_ok,Oper.upon];exact⟨fun hx=>by subst hx;exact hst.ext,_,u',(hs.step hst).put_v hd,hK⟩
theorem ia{d b t:Nat}{cs:List Value}{T:TypeId}(h:d≠t):(addLoc s d b cs T).get t=s.get t:=by simp[addLoc,S.get,aj h]
theorem ig{d b:Nat}{cs:List Value}{T:TypeId}:(addLoc s d b cs T).get d= .loc d 0:=by simp[addLoc,S.get,au]
theorem dz{d b k:Nat}{cs:List Value}{T:TypeId}(h:d≠k):(addLoc s d b cs T).find k=s.find k:=by simp[addLoc,S.find,aj h]
theorem dB{d b:Nat}{cs:List Value}{T:TypeId}:(addLoc s d b cs T).find d=some ⟨b,cs,T⟩:=by simp[addLoc,S.find,au]
theorem cr(w:World)(o:Obj):Ext w { w with heap:=w.heap.push o }:=fun b o' h=>by
 have:=ba h;simp only[Array.getElem?_push];rw[if_neg (by omega)]
 exact h
theorem Sim.addLoc{d:Nat}{cs:Array Value}{T:TypeId}(hs:Sim C s u a w)(hd:d<C.n)(hf:s.find d=none):
  Sim C (Eng.addLoc s d w.heap.size cs.toList T) u (a.put (some d) (.pointer (some ⟨w.heap.size,0,none⟩))) { w with heap:=w.heap.push (.cells cs T) }:=by
 have he:=cr w (.cells cs T);have hs':=hs.ext he ⟨by simp,rfl,rfl⟩
 refine⟨by simp[Act.put,hs.size],hs'.defers,?_,?_,?_,hs'.sub,?_,?_,hs'.keep,hs'.dom,hs'.le,hs'.sub0,hs'.sub00⟩
 ·intro t v hv
  by_cases hdt:d=t
  ·subst hdt;rw[ig]at hv;simp[S.val,dB]at hv;subst hv;simp[Act.put,hs.size,hd]
  ·rw[ia hdt]at hv
   have hv':s.val (s.get t)=some v:=by
    cases hg:s.get t with
    |unk=>rw[hg]at hv;exact hv
    |v x=>rw[hg]at hv;exact hv
    |elt sv sz i off=>rw[hg]at hv;exact hv
    |loc k off=>
     rw[hg]at hv;have hk:d≠k:=fun e=>hs.wfl t k off hg (e▸hf)
     simp only[S.val,dz hk]at hv;exact hv
   have:=hs.slots t v hv';simp only[Act.put];rw[<-this];simp[Array.getElem?_setIfInBounds_ne hdt]
 ·intro t k off ht
  by_cases hdt:d=t
  ·subst hdt;rw[ig]at ht;cases ht;rw[dB];intro h;cases h
  ·rw[ia hdt]at ht;have hk:d≠k:=fun e=>hs.wfl t k off ht (e▸hf)
   rw[dz hk];exact hs.wfl t k off ht
 ·intro t sv sz i off ht
  by_cases hdt:d=t
  ·subst hdt;rw[ig]at ht;cases ht
  ·rw[ia hdt]at ht;exact hs.wfe t sv sz i off ht
 ·intro k l hk
  by_cases hdk:d=k
  ·subst hdk;rw[dB]at hk;cases hk;exact⟨by simp,aO hs.sub (Nat.le_refl _),.inl hs.le.size⟩
  ·rw[dz hdk]at hk;exact hs'.locs k l hk
 ·intro k k' l l' hk hk' hne;have old: ∀k l,s.find k=some l->l.b<w.heap.size:=fun k l hk=>ba (hs.locs k l hk).1
  by_cases hdk:d=k
  ·subst hdk;rw[dB]at hk;rw[dz hne]at hk';cases hk;have:=old k' l' hk';simp only;omega
  ·rw[dz hdk]at hk
   by_cases hdk':d=k'
   ·subst hdk';rw[dB]at hk';cases hk';have:=old k l hk;simp only;omega
   ·rw[dz hdk']at hk';exact hs.dist k k' l l' hk hk' hne
theorem vD{o:Oper}{x:Bool}{d:Nat}{cs:Array Value}{T:TypeId}(hdst:o.dst=some d)
  (he:(execOp a.eval o).run P w= .ok (.value (.pointer (some ⟨w.heap.size,0,none⟩))) { w with heap:=w.heap.push (.cells cs T) }) (hs:Sim C s u a w) (hd:dC C.n o.dst=true)
  (hf:s.find d=none) (hK: ∀b,K (addLoc s d b cs.toList T) u):acZ P C x o K a w:=by
 intro Q;refine .inl ?_;simp only[Oper.wp,he,Oper.upon];refine⟨fun _=>cr _ _,_,u,?_,hK w.heap.size⟩
 rw[hdst]at hd ⊢;exact hs.addLoc (by simpa[dC]using hd) hf
theorem kA{cs vs:List Value}{off:Nat}(h:off+vs.length<=cs.length):(splice cs off vs).length=cs.length:=by
 simp[splice];omega
theorem dp: ∀{l:List Value},bF l=true-> ∀v∈l,v.oneCell'=true:=by
 intro l
 induction l with
 |nil=>intro _ v hv;cases hv
 |cons x r ih=>
  intro h v hv;simp only[bF,Bool.and_eq_true]at h;rcases List.mem_cons.1 hv with rfl|hv
  ·exact h.1
  ·exact ih h.2 v hv
theorem Sim.setLoc{k:Nat}{l:Loc}{cs:List Value}(hs:Sim C s u a w)(hk:s.find k=some l):
  Sim C (⟨s.ρ,(k,⟨l.b,cs,l.T⟩)::s.σ⟩:S) u a (w.setRow l.b cs.toArray):=by
 obtain⟨g1,g2,g3⟩:=hs.locs k l hk;have hfn: ∀j,k≠j->(⟨s.ρ,(k,⟨l.b,cs,l.T⟩)::s.σ⟩:S).find j=s.find j:=fun j h=>by simp[S.find,aj h]
 have hfe:(⟨s.ρ,(k,⟨l.b,cs,l.T⟩)::s.σ⟩:S).find k=some ⟨l.b,cs,l.T⟩:=by simp[S.find,au]
 have hoth: ∀b,b≠l.b->(w.setRow l.b cs.toArray).heap[b]? =w.heap[b]?:=fun b hb=>setRow_other w l.b b _ hb
 refine⟨hs.size,hs.defers.mono (fun b o hb hc hf=>⟨by rw[hoth b (fun e=>by subst e;rw[g1]at hb;cases hb;exact hc _ _ _ rfl)];exact hb,hf⟩),?_,?_,hs.wfe,?_,?_,?_,?_,hs.dom,?_,?_,hs.sub00⟩
 ·intro t v hv;refine hs.slots t v ?_;have hg:(⟨s.ρ,(k,⟨l.b,cs,l.T⟩)::s.σ⟩:S).get t=s.get t:=rfl;rw[hg]at hv;cases hgt:s.get t with
  |unk=>rw[hgt]at hv;exact hv
  |v x=>rw[hgt]at hv;exact hv
  |elt sv sz i off=>rw[hgt]at hv;exact hv
  |loc k' off=>
   rw[hgt]at hv
   by_cases hkk:k=k'
   ·subst hkk;simp only[S.val,hfe,Option.map_some]at hv;simp only[S.val,hk,Option.map_some];exact hv
   ·simp only[S.val,hfn k' hkk]at hv;exact hv
 ·intro t k' off ht
  by_cases hkk:k=k'
  ·subst hkk;rw[hfe];intro h;cases h
  ·rw[hfn k' hkk];exact hs.wfl t k' off ht
 ·intro b o hb ho
  by_cases hbl:b=l.b
  ·subst hbl;exact absurd (g2 o hb) ho
  ·rw[hoth b hbl];exact hs.sub b o hb ho
 ·intro k' l' hk'
  by_cases hkk:k=k'
  ·subst hkk;rw[hfe]at hk';cases hk';exact⟨setRow_heap w l.b _ _ _ _ g1,g2,g3⟩
  ·rw[hfn k' hkk]at hk';obtain⟨f1,f2,f3⟩:=hs.locs k' l' hk';refine⟨?_,f2,f3⟩;rw[hoth _ (hs.dist k' k l' l hk' hk (fun e=>hkk e.symm))]
   exact f1
 ·intro k1 k2 l1 l2 h1 h2 hne
  have down: ∀j m,(⟨s.ρ,(k,⟨l.b,cs,l.T⟩)::s.σ⟩:S).find j=some m-> ∃m',s.find j=some m'/\m'.b=m.b:=by
   intro j m hj
   by_cases hkk:k=j
   ·subst hkk;rw[hfe]at hj;cases hj;exact⟨l,hk,rfl⟩
   ·rw[hfn j hkk]at hj;exact⟨m,hj,rfl⟩
  obtain⟨m1,f1,e1⟩:=down k1 l1 h1;obtain⟨m2,f2,e2⟩:=down k2 l2 h2;rw[<-e1, <-e2];exact hs.dist k1 k2 m1 m2 f1 f2 hne
 ·intro b o hb
  by_cases hne:b=l.b
  ·subst hne;rcases g3 with g3|g3
   ·have:=ba hb;omega
   ·exact .inr g3
  ·rw[hoth b hne];exact hs.keep b o hb
 ·exact hs.le.trans ⟨by simp[World.setRow],rfl,rfl⟩
 ·intro b o hb ho
  have hne:b≠l.b:=fun e=>by
   rcases g3 with g3|g3
   ·have:=hs.sub00.lt hb ho;omega
   ·exact ho (g3.2 o (by rw[<-e];exact hb))
  rw[hoth b hne];exact hs.sub0 b o hb ho
theorem aeR{o:Oper}{x:Bool}{T:TypeId}{y z:Operand}(hop:o.op= .store T y z)(hx:x=false)(hs:Sim C s u a w)(hd:dC C.n o.dst=true)
  (h:fN P x C.u0 T (s.sv y) (s.sv z) o.dst K s u):acZ P C x o K a w:=by
 subst hx;unfold fN at h;simp only[fG]at h;split at h
 ·rename_i va hz;have hez:=hs.eval_v hz;split at h
  ·rename_i k off hy;split at h
   ·rename_i l ag n hk hl;obtain⟨h1,h2,h3,hK⟩:=h;intro Q;obtain⟨g1,g2,g3⟩:=hs.locs k l hk;have hey:a.eval y= .pointer (some ⟨l.b,off,none⟩):=hs.eval (by rw[hy];simp[S.val,hk])
    have hst:=run_storeCells_at P l.b off l.T va.cells.toList 0 l.cells.toArray w g1 (by simp only[Nat.add_zero,List.size_toArray];rw[h1];exact h2) (dp h3)
    simp only[Nat.add_zero]at hst;have hsz:=(jU hl w).2
    have hrun:(execOp a.eval o).run P w= .ok .skip (w.setRow l.b (splice l.cells off va.cells.toList).toArray):=by
     have hc:va.cells.size=n:=by simpa using h1
     simp[execOp,hop,hey,hez,Instr.storeAt,Instr.sureAddr,storeVar,hsz,hc,hst,splice]
    refine .inl ?_;simp only[Oper.wp,hrun,Oper.upon];refine⟨fun h=>(by cases h),_,u,?_,hK⟩
    exact(hs.setLoc hk).put_v hd
   ·exact h.elim
  ·rename_i p hy;exact vq (fun w'=>by simp[execOp,hop,hs.eval_v hy,hez]) hs hd h
  ·rename_i sv sz i off hy;split at h
   ·rename_i ad had;have hey:a.eval y= .pointer (some ad):=hs.eval (by rw[hy];simp[S.val,had])
    exact vq (fun w'=>by simp[execOp,hop,hey,hez]) hs hd h
   ·exact h.elim
  ·exact h.elim
 ·exact h.elim
theorem lR{f:FuncId}(h:cW P f=true)(args:Array Value)(w':World):(callFunc f args).run P w'= .ok (.enter f args) w':=by
 unfold cW at h;split at h
 ·rename_i fn hf;simp only[Bool.and_eq_true,Bool.not_eq_true']at h;have hb:fn.body.isNone=false:=by cases hb:fn.body<;>simp_all
  simp only[callFunc,Sem.run_bind,run_program,Result.andThen_ok,hf,h.2,hb,Bool.false_eq_true,if_false];rfl
 ·cases h
theorem wP{f:FuncId}{e:Array Value->Sem Value}(h:xB P f=some e)(args:Array Value)(w':World):(callFunc f args).run P w'=((e args).run P w').andThen fun r w''=>.ok (.value r) w'':=by
 unfold xB at h;split at h
 ·rename_i fn hf;split at h
  ·cases h
  ·rename_i hc;simp only[Bool.or_eq_true,not_or,Bool.not_eq_true]at hc;obtain⟨⟨h1,h2⟩,h3⟩:=hc;have hb:fn.body.isNone=true:=by cases hb:fn.body<;>simp_all
   have hn:Extern.findNext fn=none:=by cases hn:Extern.findNext fn<;>simp_all
   simp only[callFunc,Sem.run_bind,run_program,Result.andThen_ok,hf,h1,hb,Bool.false_eq_true,if_false,if_true,hn,h,run_mark];simp
 ·cases h
theorem ai_{o:Oper}{x:Bool}{f:FuncId}{args:List Value}(hrun: ∀w',(execOp a.eval o).run P w'=(callFunc f args.toArray).run P w')(hs:Sim C s u a w)(hd:dC C.n o.dst=true)
  (h:AtCall x P f args C.u0 u (ey s o.dst K)):acZ P C x o K a w:=by
 rcases h with ⟨hb,hc⟩|⟨e,he,hc⟩
 ·intro Q;refine .inl ?_;simp only[Oper.wp,hrun,lR hb,Oper.upon];refine(hc w hs.sub hs.sub0).mono ?_
  rintro e w' ⟨r,u',rfl,hst,hK⟩
  exact⟨fun hx=>by subst hx;exact hst.ext,_,u',(hs.step hst).put_v hd,hK⟩
 ·exact kX (fun w'=>by rw[hrun,wP he]) hs hd hc
theorem oU{o :Oper}{x:Bool}(hf:bK o.op=false)(hx:x=true-> ∀T y z,o.op≠ .store T y z)(hs:Sim C s u a w)(hd:dC C.n o.dst=true)(h:cj P x C.u0 o K s u):acZ P C x o K a w:=by
  unfold cj at h;simp only[oY,t_,uk,tp,iW,jF,ahM,t0,ox,jC,cD,fG,jh,o5,nJ,xM,qD,afk,xU,iUn,dO]at h;cases hop:o.op with
  | alloc T=>
    simp only[hop]at h;split at h
    · rename_i cs d hz hdst
      unfold dK at hz;split at hz
      · rename_i i hi
        cases hz0:i.zero with
        |none=>simp[hz0]at hz
        | some z=>
          simp[hz0]at hz;subst hz;refine vD (cs:=z.cells) (T:=T) hdst ?_ hs hd h.1 (by simpa using h.2)
          simp[execOp,hop,Instr.alloc,zeroValue,typeInfo,hi,hz0,newVar,newRow]
      · cases hz
    · exact h.elim
  | box T y=>
    simp only[hop]at h;split at h
    · rename_i va d hy hdst
      refine vD (cs:=va.cells) (T:=T) hdst ?_ hs hd h.1 (by simpa using h.2)
      simp[execOp,hop,Instr.box,hs.eval_v hy,newVar,newRow]
    · exact h.elim
  | convert src dst y=>
    have hsd:efc src dst=true:=by rw[hop]at hf;simpa[bK]using hf
    simp only[hop,hsd,cond_true]at h;split at h
    · rename_i va hy
      exact kX (fun w'=>by simp[execOp,hop,hs.eval_v hy]) hs hd h
    · exact h.elim
  | store T y z=>
    simp only[hop]at h;cases x with
    |true=>exact(hx rfl T y z hop).elim
    |false=>exact aeR hop rfl hs hd h
  | buildSlice T n ps=>
    simp only[hop]at h;split at h
    · rename_i vs hv
      exact kX (fun w'=>by simp only[execOp,hop,lG ps (o7 hs hv)];simp) hs hd h
    · exact h.elim
  | makeSlice T l c=>
    simp only[hop]at h;split at h
    · rename_i va vb hy hz
      exact kX (fun w'=>by simp[execOp,hop,hs.eval_v hy,hs.eval_v hz]) hs hd h
    · exact h.elim
  | makeMap T r=>
    simp only[hop]at h;split at h
    · rename_i va hy
      exact kX (fun w'=>by simp[execOp,hop,j8 hs hy]) hs hd h
    · exact h.elim
  | mapUpdate T m k y=>
    simp only[hop]at h;split at h
    · rename_i va vb vc h1 h2 h3
      exact vq (fun w'=>by simp[execOp,hop,hs.eval_v h1,hs.eval_v h2,hs.eval_v h3]) hs hd h
    · exact h.elim
  | insert T m k y=>
    simp only[hop]at h;split at h
    · rename_i va vb vc h1 h2 h3
      exact vq (fun w'=>by simp[execOp,hop,hs.eval_v h1,hs.eval_v h2,hs.eval_v h3]) hs hd h
    · exact h.elim
  | mapEntry T m k=>
    simp only[hop]at h;split at h
    · rename_i va vb h1 h2
      exact kX (fun w'=>by simp[execOp,hop,hs.eval_v h1,hs.eval_v h2]) hs hd h
    · exact h.elim
  | entryStore T m k y=>
    simp only[hop]at h;split at h
    · rename_i va vb vc h1 h2 h3
      exact vq (fun w'=>by simp[execOp,hop,hs.eval_v h1,hs.eval_v h2,hs.eval_v h3]) hs hd h
    · exact h.elim
  | call c =>
    obtain⟨callee,args,tys⟩:=c;simp only[hop,lu,oY,t_,uk,tp,iW,jF,ahM,t0,ox,jC,cD,fG,jh,o5,nJ,xM,qD,afk,xU,iUn,dO]at h;cases callee with
    |invoke r m=>exact h.elim
    | builtin b=>
      rw[hop]at hf;cases b<;>simp only at h<;>first|exact h.elim|skip
      all_goals
        split at h
        · rename_i vs hv
          first
            | (refine kX (fun w'=>?_) hs hd h
               obtain⟨consts,hr⟩:=nE (P:=P) hop (rC hs hv) w';rw[hr]
               simp[builtin])
            | (exfalso
               simp[bK,zi]at hf;done)
        · exact h.elim
    | value f=>
      simp only at h;split at h
      · rename_i g first captured hfv
        obtain⟨s',u',hK,hs'⟩:=lq _ s u _ h hs;unfold rz at hK;refine ai_ (fun w'=>?_) hs' hd hK
        have hargs:args.map a.eval=(args.toList.map a.eval).toArray:=by apply Array.ext';simp
        simp only[execOp,hop,resolve,hs.eval_v hfv,Deferred.ofValue,Sem.run_bind,Sem.run_pure,Result.andThen_ok,invoke,hargs]
        congr 2
        apply Array.ext';simp
      · rename_i fv hno hfv
        obtain⟨s',u',hK,hs'⟩:=lq _ s u _ h hs;unfold pd abf at hK;obtain⟨l,rfl,hK⟩:=hK;intro Q;obtain⟨fn,tmps,as,b,hy,hR⟩:=hK w hs'.sub hs'.sub0;have hargs:args.map a.eval=(args.toList.map a.eval).toArray:=by apply Array.ext';simp
        have hrun:(execOp a.eval o).run P w= .ok (.round l fn tmps as b) w:=by
          rw[<-hy];simp only[execOp,hop,resolve,hs.eval_v hfv,Deferred.ofValue,Sem.run_bind,Sem.run_pure,Result.andThen_ok,invoke,hargs]
          congr 2
          simp
        refine .inr ⟨l,fn,tmps,as,b,w,hrun,hR.mono ?_⟩
        rintro e w' ⟨r,u2,rfl,hst,hK2⟩
        exact⟨fun hx=>by subst hx;exact hst.ext,_,u2,(hs'.step hst).put_v hd,hK2⟩
      · exact h.elim
  |_=>first|(rw[hop]at hf;simp[bK]at hf;done)|(simp only[hop]at h)
end
def anq(ks:List Nat):SV->Prop
 | .loc k _=>cV ks k=true
 |_=>False
def aiG(ks:List Nat)(o:Oper)(s:S):Prop:=
 match o.op with
 | .store _ y _=>anq ks (s.sv y)
 |_=>True
def mb(s:S)(k:Nat):Option Nat:=(s.find k).map (·.b)
def iv(o:Oper):Option Nat:=
 match o.op with
 | .alloc _=>o.dst
 | .box _ _=>o.dst
 |_=>none
def keepL(s s':S)(d:Option Nat):List Nat->Prop
 |[]=>True
 |k::r=>(d=some k\/mb s' k=none\/mb s' k=mb s k)/\keepL s s' d r
theorem kS{s s':S}{d:Option Nat}: ∀{ks:List Nat},keepL s s' d ks-> ∀k l',cV ks k=true->s'.find k=some l'->d=some k\/ ∃l,s.find k=some l/\l.b=l'.b:=by
 intro ks
 induction ks with
 |nil=>intro _ k l' h;cases h
 | cons j r ih=>
  intro h k l' hm hf;simp only[cV]at hm
  by_cases hjk:j=k
  ·subst hjk;rcases h.1 with h1|h1|h1
   ·exact .inl h1
   ·simp[mb,hf]at h1
   ·simp only[mb,hf,Option.map_some]at h1;cases hs:s.find j with
    |none=>rw[hs]at h1;cases h1
    |some l=>rw[hs]at h1;exact .inr ⟨l,rfl,by simpa using h1.symm⟩
  ·have:(j==k)=false:=by simpa using hjk
   rw[this]at hm;exact ih h.2 k l' hm hf
section
variable {P:Program} {C:Ctx} {s:S} {u:World} {a:Act} {w:World} {K:S->World->Prop} {ks:List Nat}
theorem Near.ext{w':World}(h:Near ks s u w)(he:Ext w w'):Near ks s u w':=⟨h.1.trans he.sub,fun k l hk hm=>he _ _ (h.2 k l hk hm)⟩
theorem ahk{o:Oper}{x:Bool}(hn:iv o≠none)(hs:Sim C s u a w)(hd:dC C.n o.dst=true)(h:cj P x C.u0 o K s u)(Q:Exit->Act->World->Prop):
  o.wp P a w (fun a' w'=>Ext w w'/\ ∃d cs T,iv o=some d/\Sim C (addLoc s d w.heap.size cs T) u a' w'/\K (addLoc s d w.heap.size cs T) u) Q:=by
 unfold cj at h
 have key: ∀{d:Nat} {cs:Array Value} {T:TypeId},o.dst=some d->iv o=some d->(execOp a.eval o).run P w= .ok (.value (.pointer (some ⟨w.heap.size,0,none⟩))) { w with heap:=w.heap.push (.cells cs T) }->
   s.find d=none->(∀b,K (addLoc s d b cs.toList T) u)->o.wp P a w (fun a' w'=>Ext w w'/\ ∃d cs T,iv o=some d/\Sim C (addLoc s d w.heap.size cs T) u a' w'/\K (addLoc s d w.heap.size cs T) u) Q:=by
  intro d cs T hdst hnd he hf hK;simp only[Oper.wp,he,Oper.upon];refine⟨cr _ _,d,_,T,hnd,?_,hK w.heap.size⟩;rw[hdst]at hd ⊢;exact hs.addLoc (by simpa[dC]using hd) hf
 cases hop:o.op with
 | alloc T=>
  simp only[hop]at h;split at h
  ·rename_i cs d hz hdst;unfold dK at hz;split at hz
   ·rename_i i hi;cases hz0:i.zero with
    |none=>simp[hz0]at hz
    |some z=>
     simp[hz0]at hz;subst hz;refine key (cs:=z.cells) (T:=T) hdst (by simp[iv,hop,hdst]) ?_ h.1 (by simpa using h.2)
     simp[execOp,hop,Instr.alloc,zeroValue,typeInfo,hi,hz0,newVar,newRow]
   ·cases hz
  ·exact h.elim
 | box T y=>
  simp only[hop]at h;split at h
  ·rename_i va d hy hdst;refine key (cs:=va.cells) (T:=T) hdst (by simp[iv,hop,hdst]) ?_ h.1 (by simpa using h.2)
   simp[execOp,hop,Instr.box,hs.eval_v hy,newVar,newRow]
  ·exact h.elim
 |_=>exact(hn (by simp[iv,hop])).elim
theorem adb{o:Oper}{x:Bool}{T:TypeId}{y z:Operand}(hop:o.op= .store T y z)(hst:anq ks (s.sv y))(hs:Sim C s u a w)(hd:dC C.n o.dst=true)
  (h:fN P x C.u0 T (s.sv y) (s.sv z) o.dst K s u) (Q:Exit->Act->World->Prop):
  o.wp P a w (fun a' w'=> ∃k l,cV ks k=true/\s.find k=some l/\(∀b,b≠l.b->w'.heap[b]? =w.heap[b]?)/\ ∃s' u',Sim C s' u' a' w'/\K s' u') Q:=by
 unfold fN at h;simp only[fG]at h;split at h
 ·rename_i va hz;have hez:=hs.eval_v hz;split at h
  ·rename_i k off hy;rw[hy]at hst;split at h
   ·rename_i l ag n hk hl;obtain⟨h1,h2,h3,hK⟩:=h;obtain⟨g1,g2,g3⟩:=hs.locs k l hk;have hey:a.eval y= .pointer (some ⟨l.b,off,none⟩):=hs.eval (by rw[hy];simp[S.val,hk])
    have hst2:=run_storeCells_at P l.b off l.T va.cells.toList 0 l.cells.toArray w g1 (by simp only[Nat.add_zero,List.size_toArray];rw[h1];exact h2) (dp h3)
    simp only[Nat.add_zero]at hst2;have hsz:=(jU hl w).2
    have hrun:(execOp a.eval o).run P w= .ok .skip (w.setRow l.b (splice l.cells off va.cells.toList).toArray):=by
     have hc:va.cells.size=n:=by simpa using h1
     simp[execOp,hop,hey,hez,Instr.storeAt,Instr.sureAddr,storeVar,hsz,hc,hst2,splice]
    simp only[Oper.wp,hrun,Oper.upon];exact⟨k,l,hst,hk,fun b hb=>setRow_other w l.b b _ hb,_,u,(hs.setLoc hk).put_v hd,hK⟩
   ·exact h.elim
  ·rename_i p hy;rw[hy]at hst;exact hst.elim
  ·rename_i sv sz i off hy;rw[hy]at hst;exact hst.elim
  ·rename_i hy;rw[hy]at hst;exact hst.elim
 ·exact h.elim
def HInv(ks:List Nat)(s:S)(w:World)(R:World->Prop):Prop:=
 ∃s0 u0,R=Near ks s0 u0/\Near ks s0 u0 w/\ ∀k l,cV ks k=true->s.find k=some l->Fresh u0 l.b/\ ∀k0 l0,s0.find k0=some l0->cV ks k0=false->l0.b≠l.b
theorem HInv.self(hs:Sim C s u a w):HInv ks s w (Near ks s u):=by
 refine⟨s,u,rfl,mX hs,fun k l hm hk=>⟨(hs.locs k l hk).2.1,fun k0 l0 hk0 hm0=>hs.dist k0 k l0 l hk0 hk (fun e=>?_)⟩⟩
 rw[e,hm]at hm0;cases hm0
theorem HInv.holds{R:World->Prop}(h:HInv ks s w R):R w:=by
 obtain⟨s0,u0,rfl,h1,_⟩:=h;exact h1
theorem HInv.ext{R:World->Prop}{s':S}{w':World}(h:HInv ks s w R)(he:Ext w w')(hk: ∀k l',cV ks k=true->s'.find k=some l'->(∃l,s.find k=some l/\l.b=l'.b)\/w.heap.size<=l'.b):HInv ks s' w' R:=by
 obtain⟨s0,u0,rfl,h1,h2⟩:=h;refine⟨s0,u0,rfl,h1.ext he,fun k l' hm hf=>?_⟩
 rcases hk k l' hm hf with ⟨l,hl,e⟩|hge
 ·have:=h2 k l hm hl;rw[e]at this;exact this
 ·refine⟨aO h1.1 hge,fun k0 l0 hk0 hm0=>?_⟩
  have:=ba (h1.2 k0 l0 hk0 hm0);omega
theorem HInv.store{R:World->Prop}{s':S}{w':World}{k:Nat}{l:Loc}(h:HInv ks s w R)(hm:cV ks k=true)(hk:s.find k=some l)(ho: ∀b,b≠l.b->w'.heap[b]? =w.heap[b]?)
  (hkeep: ∀k l',cV ks k=true->s'.find k=some l'-> ∃l,s.find k=some l/\l.b=l'.b):HInv ks s' w' R:=by
 obtain⟨s0,u0,rfl,h1,h2⟩:=h;obtain⟨hf,hne⟩:=h2 k l hm hk;refine⟨s0,u0,rfl,⟨fun b o hb hn=>?_,fun k0 l0 hk0 hm0=>?_⟩,fun k1 l1 hm1 hf1=>?_⟩
 ·have hbl:b≠l.b:=fun e=>hn (hf o (e▸hb))
  rw[ho b hbl];exact h1.1 b o hb hn
 ·rw[ho _ (hne k0 l0 hk0 hm0)];exact h1.2 k0 l0 hk0 hm0
 ·obtain⟨l2,hl2,e⟩:=hkeep k1 l1 hm1 hf1;have:=h2 k1 l2 hm1 hl2;rw[e]at this;exact this
