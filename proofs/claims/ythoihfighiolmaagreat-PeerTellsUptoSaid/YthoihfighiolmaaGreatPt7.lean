import Derived.Test.YthoihfighiolmaaGreatPt5
import Derived.Test.YthoihfighiolmaaGreatPt6
import Derived.Laws.AppendOwnNone
set_option linter.unusedSectionVars false
set_option linter.unusedSimpArgs false
set_option linter.unusedVariables false
namespace Go.Eng
section
variable {P:Program} {u0 u:World} {Q:Exit->S->World->Prop}
def pw{γ:Type}(ti:Nat)(ρ:List (Nat×SV))(σ:List (Nat×Loc))(pre:γ->List (Nat×SV))(loc:γ->List (Nat×Loc))(F:Nat->γ->World->Prop)(k:Nat)(id:Nat)
  (Q:Exit->S->World->Prop) (e:Exit) (s:S) (u:World):Prop:=
 match e with
 | .normal=> ∃g',(⟨(ti,.v (.int .i64 k))::(pre g'++ρ),loc g'++σ⟩:S).le s/\F (k+1) g' u
 |e=>fi id Q e s u
theorem qQ{γ:Type}{ti:Nat}{ρ:List (Nat×SV)}{σ:List (Nat×Loc)}{pre:γ->List (Nat×SV)}{loc:γ->List (Nat×Loc)}{F:Nat->γ->World->Prop}{k id:Nat}{s:S}:
  pw ti ρ σ pre loc F k id Q .normal s u= ∃g',(⟨(ti,.v (.int .i64 k))::(pre g'++ρ),loc g'++σ⟩:S).le s/\F (k+1) g' u:=rfl
theorem zm{γ:Type}{ti:Nat}{ρ:List (Nat×SV)}{σ:List (Nat×Loc)}{pre:γ->List (Nat×SV)}{loc:γ->List (Nat×Loc)}{F:Nat->γ->World->Prop}{k id:Nat}{s:S}:
  pw ti ρ σ pre loc F k id Q .ret s u=Q .ret s u:=rfl
theorem ai1{R ρ':List (Nat×SV)}{σ1 σ':List (Nat×Loc)}{ti tj:Nat}{a b x:SV}(hb: ∀k off,b≠ .loc k off)(hj:lk R tj=none)
  (h:(⟨(ti,a)::R,σ1⟩:S).le ⟨ρ',σ'⟩):(⟨(ti,b)::R,σ1⟩:S).le ⟨(ti,b)::(tj,x)::ρ',σ'⟩:=by
 refine⟨fun t=>?_,fun t k off ht=>?_,h.find⟩
 ·by_cases hti:ti=t
  ·subst hti;exact .inr (by simp[S.get,au])
  ·by_cases htj:tj=t
   ·subst htj;exact .inl (by simp[S.get,aj hti,hj])
   ·have:=h.get t;simp only[S.get,aj hti,aj htj]at this ⊢;exact this
 ·by_cases hti:ti=t
  ·subst hti;simp only[S.get,au,Option.getD_some]at ht;exact(hb k off ht).elim
  ·refine h.wfl t k off ?_;simp only[S.get,aj hti]at ht ⊢;exact ht
theorem ad5{γ:Type}{ρ:List (Nat×SV)}{σ:List (Nat×Loc)}{body:Code}{yn:Operand}{id id2 r1 r2 ti tc tj:Nat}{T T2 T3 T4 y1 y2 y3:TypeId}{p1 p2 p3:String}{e1 e2 e3:Array Edge}
  (n:Nat) (pre:γ->List (Nat×SV)) (loc:γ->List (Nat×Loc)) (F:Nat->γ->World->Prop) (g0:γ)
  (hle:(⟨(ti,.v (.int .i64 0))::(pre g0++ρ),loc g0++σ⟩:S).le ⟨ρ,σ⟩) (hF:F 0 g0 u)
  (hn: ∀g (k:Nat),(⟨(ti,.v (.int .i64 k))::(pre g++ρ),loc g++σ⟩:S).sv yn= .v (.int .i64 n)) (hmax:n<=9223372036854775807) (hj: ∀g,lk (pre g++ρ) tj=none)
  (hbody: ∀k g u',k<n->F k g u'->Vc P u0 body (fi id2 (pw ti ρ σ pre loc F k id Q)) ⟨(tc,.v (.bool true))::(ti,.v (.int .i64 k))::(pre g++ρ),loc g++σ⟩ u')
  (hend: ∀g u',F n g u'->Q .normal ⟨(tc,.v (.bool false))::(ti,.v (.int .i64 n))::(pre g++ρ),loc g++σ⟩ u'):
  vc P u0 (.block id (.loop (.seq (.region r1 [⟨some tc,.binOp .lss T (.tmp ti) yn T2,y1,p1,e1,none⟩].toArray false)
   (.seq (.cond (.tmp tc) .skip (.exit id)) (.seq (.block id2 body)
    (.region r2 [⟨some tj,.binOp .add T3 (.tmp ti) (.const (.int .i64 1)) T4,y2,p2,e2,none⟩,⟨some ti,.move (.tmp tj),y3,p3,e3,none⟩].toArray false)))))) Q ⟨ρ,σ⟩ u:=by
 skip
 refine p7 ?_;refine⟨Nat×γ,fun x=>⟨(ti,.v (.int .i64 x.1))::(pre x.2++ρ),loc x.2++σ⟩,fun x u=>x.1<=n/\F x.1 x.2 u,fun x=>n-x.1,⟨(0,g0),hle,Nat.zero_le _,hF⟩,?_⟩
 rintro⟨k,g⟩ u1 ⟨hk,hF1⟩
 simp only at hk hF1 ⊢;refine Vc.seq (Vc.of ?_);rw[mO,iZ,lY,yG,pU,hn g k,t8,Option.getD_some,aar,uF,tD,mj,lO,jB];refine Vc.seq (Vc.of ?_);rw[aba,pU,t8,Option.getD_some];have hdec:decide ((k:Int)<(n:Int))=decide (k<n):=by simp
 rw[hdec]
 by_cases hlt:k<n
 ·rw[show decide (k<n)=true from by simpa using hlt,oy,abw,jB]
  refine Vc.seq (Vc.block (Vc.mono ?_ (hbody k g u1 hlt hF1)));intro e s2 u2 h
  have key: ∀s2 u2,pw ti ρ σ pre loc F k id Q .normal s2 u2->alY P u0 (.region r2 [⟨some tj,.binOp .add T3 (.tmp ti) (.const (.int .i64 1)) T4,y2,p2,e2,none⟩,⟨some ti,.move (.tmp tj),y3,p3,e3,none⟩].toArray false)
    (abd (fun x:Nat×γ=>⟨(ti,.v (.int .i64 x.1))::(pre x.2++ρ),loc x.2++σ⟩) (fun x u=>x.1<=n/\F x.1 x.2 u) (fun x=>n-x.1) (k,g) (fi id Q)) .normal s2 u2:=by
   intro s2 u2 h;obtain⟨g',hle',hF'⟩:=h;obtain⟨ρ',σ'⟩:=s2
   have hti:(⟨ρ',σ'⟩:S).get ti= .v (.int .i64 k):=by
    rcases hle'.get ti with h1|h1
    ·simp[S.get,au]at h1
    ·rw[h1];simp[S.get,au]
   have hti':(lk ρ' ti).getD .unk= .v (.int .i64 k):=hti;rw[jB];refine Vc.of ?_;rw[mO,iZ,lY,yG,pU,vC,hti',aar,um,dQ (by omega),tD,lO,iZ,lY,abC,pU,t8,Option.getD_some,lO,mj]
   refine⟨(k+1,g'),?_,⟨hlt,hF'⟩,by simp;omega⟩
   exact ai1 (by intro k off h;cases h) (hj g') hle'
  cases e with
  |normal=>exact key s2 u2 h
  |exit j=>
   simp only[fi]at h ⊢;cases hb:(j==id2)<;>simp only[hb,cond_true,cond_false]at h⊢
   ·exact h
   ·exact key s2 u2 h
  |ret=>exact h
  |goto l=>exact h
  |panic c=>exact h
  |outgrown=>exact h
 ·have hkn:k=n:=by omega
  subst hkn;rw[show decide (k<k)=false from by simp,ny,abB]
  show fi id Q (.exit id) _ _;rw[nO,beq_self_eq_true,cond_true];exact hend g u1 hF1
theorem afj{γ:Type}{ρ:List (Nat×SV)}{σ:List (Nat×Loc)}{body:Code}{id id2 r1 r2 ti tn tc tj:Nat}{T T2 T3 T4 y1 y2 y3:TypeId}{p1 p2 p3:String}{e1 e2 e3:Array Edge}
  (n:Nat) (pre:γ->List (Nat×SV)) (loc:γ->List (Nat×Loc)) (F:Nat->γ->World->Prop) (g0:γ)
  (hle:(⟨(ti,.v (.int .i64 0))::(pre g0++ρ),loc g0++σ⟩:S).le ⟨ρ,σ⟩) (hF:F 0 g0 u)
  (hn: ∀g k,(lk ((ti,SV.v (.int .i64 k))::(pre g++ρ)) tn).getD .unk= .v (.int .i64 n)) (hmax:n<=9223372036854775807) (hj: ∀g,lk (pre g++ρ) tj=none)
  (hbody: ∀k g u',k<n->F k g u'->vc P u0 body (fi id2 (pw ti ρ σ pre loc F k id Q)) ⟨(tc,.v (.bool true))::(ti,.v (.int .i64 k))::(pre g++ρ),loc g++σ⟩ u')
  (hend: ∀g u',F n g u'->Q .normal ⟨(tc,.v (.bool false))::(ti,.v (.int .i64 n))::(pre g++ρ),loc g++σ⟩ u'):
  vc P u0 (.block id (.loop (.seq (.region r1 [⟨some tc,.binOp .lss T (.tmp ti) (.tmp tn) T2,y1,p1,e1,none⟩].toArray false)
   (.seq (.cond (.tmp tc) .skip (.exit id)) (.seq (.block id2 body)
    (.region r2 [⟨some tj,.binOp .add T3 (.tmp ti) (.const (.int .i64 1)) T4,y2,p2,e2,none⟩,⟨some ti,.move (.tmp tj),y3,p3,e3,none⟩].toArray false)))))) Q ⟨ρ,σ⟩ u:=
 ad5 (yn:=.tmp tn) n pre loc F g0 hle hF (fun g k=>hn g k) hmax hj (fun k g u h1 h2=>Vc.of (hbody k g u h1 h2)) hend
structure Sl(u:World)(sz:Nat)(p:Option Addr)(n c:Nat)(xs:List (List Value)):Prop where
 len:xs.length=n
 cap:n<=c
 each: ∀x∈xs,x.length=sz
 nil:p=none->n=0/\c=0
 at_: ∀a,p=some a->(0<n->a.spot=none)/\ ∀i x,xs[i]? =some x-> ∀j v,x[j]? =some v->u.cell? ⟨a.block,a.off+i*sz+j,none⟩=some v
theorem Sl.mono{u u':World}{sz:Nat}{p:Option Addr}{n c:Nat}{xs:List (List Value)}(hs:Sub u u')(h:Sl u sz p n c xs):Sl u' sz p n c xs:=
 ⟨h.len,h.cap,h.each,h.nil,fun a ha=>⟨(h.at_ a ha).1,fun i x hx j v hv=>hs.cell ((h.at_ a ha).2 i x hx j v hv)⟩⟩
theorem Sl.none_(u:World)(sz:Nat):Sl u sz none 0 0 []:=⟨rfl,Nat.le_refl _,by simp,fun _=>⟨rfl,rfl⟩,fun a h=>by cases h⟩
theorem Sl.some_{u:World}{sz:Nat}{p:Option Addr}{n c:Nat}{xs:List (List Value)}(h:Sl u sz p n c xs){i:Nat}(hi:i<n):p.isSome=true:=by
 cases p with
 |none=>have:=(h.nil rfl).1;omega
 |some a=>rfl
theorem Sl.elt{u:World}{sz:Nat}{p:Option Addr}{n c:Nat}{xs:List (List Value)}(h:Sl u sz p n c xs){i:Nat}{x:List Value}(hx:xs[i]? =some x):
  afC u (.slice p n c) sz i x:=by
 have hlt:i<xs.length:=by rcases Nat.lt_or_ge i xs.length with h|h;exact h;simp[List.getElem?_eq_none h]at hx
 cases p with
 |none=>have:=(h.nil rfl).1;have:=h.len;omega
 |some a=>
  obtain⟨h1,h2⟩:=h.at_ a rfl;have h1:=h1 (by have:=h.len;omega)
  refine⟨a,n,c,rfl,h.each x (List.mem_of_getElem? hx),fun j v hv=>?_⟩
  have h3:=h2 i x hx j v hv;obtain⟨b,o,sp⟩:=a;cases h1;rw[Addr.add_lit,Addr.add_lit];simpa using h3
theorem Sl.load{u:World}{sz:Nat}{p:Option Addr}{n c:Nat}{xs:List (List Value)}(h:Sl u sz p n c xs){i:Nat}{x:List Value}(hx:xs[i]? =some x){ag:Bool}{m off:Nat}{K:Value->Prop}
  (hm:m=1\/ag=true) (hl:off+m<=x.length) (hK:K (ld ag m off x)):abq u (.slice p n c) sz i ag m off K:=⟨x,h.elt hx,hm,hl,hK⟩
theorem Sl.take{u:World}{sz:Nat}{p:Option Addr}{n c:Nat}{xs:List (List Value)}(h:Sl u sz p n c xs){k:Nat}(hk:k<=n):Sl u sz p k c (xs.take k):=by
 refine⟨by have:=h.len;simp;omega,Nat.le_trans hk h.cap,fun x hx=>h.each x (List.mem_of_mem_take hx),fun hp=>by have:=h.nil hp;omega,fun a ha=>⟨fun h0=>(h.at_ a ha).1 (by omega),fun i x hx j v hv=>?_⟩⟩
 refine(h.at_ a ha).2 i x ?_ j v hv;rw[List.getElem?_take]at hx;split at hx
 ·exact hx
 ·cases hx
def fo(p:Option Addr)(c l sz:Nat):Option Addr:=if c=l then p else p.map (·.add (l*sz))
theorem Sl.drop{u:World}{sz:Nat}{p:Option Addr}{n c:Nat}{xs:List (List Value)}(h:Sl u sz p n c xs){l:Nat}(hl:l<=n):Sl u sz (fo p c l sz) (n-l) (c-l) (xs.drop l):=by
 have hlen:=h.len;have hcap:=h.cap;refine⟨by simp;omega,by omega,fun x hx=>h.each x (List.mem_of_mem_drop hx),fun hp=>?_,fun a ha=>?_⟩
 ·cases p with
  |none=>have:=h.nil rfl;omega
  |some a=>unfold fo at hp;split at hp<;>simp at hp
 ·by_cases hcl:c=l
  ·have hx:xs.drop l=[]:=by apply List.drop_eq_nil_of_le;omega
   rw[hx];simp only[fo,hcl,if_true]at ha;exact⟨fun h0=>(h.at_ a ha).1 (by omega),fun i x hx=>by simp at hx⟩
  ·simp only[fo,hcl,if_false]at ha;cases p with
   |none=>cases ha
   | some a0=>
    simp at ha;obtain⟨h1,h2⟩:=h.at_ a0 rfl
    by_cases hn0:n-l=0
    ·have hx:xs.drop l=[]:=by apply List.drop_eq_nil_of_le;omega
     rw[hx];exact⟨fun h0=>by omega,fun i x hx=>by simp at hx⟩
    have h1:=h1 (by omega)
    obtain⟨b,o,sp⟩:=a0;cases h1;rw[Addr.add_lit]at ha;subst ha;refine⟨fun _=>rfl,fun i x hx j v hv=>?_⟩
    rw[List.getElem?_drop]at hx;have:=h2 (l+i) x hx j v hv;simp only at this ⊢;rw[<-this]
    congr 2
    rw[Nat.add_mul];omega
section
variable {Kv:Value->Prop} {T e:TypeId} {p:Option Addr} {n c:Nat} {k:IntKind} {i:Int}
theorem agZ(hT:P.underlying T=some (.slice e)){info:TypeInfo}(hi:P.info? e=some info)(h0:0<=i)(h1:i<=c):AtPure P (cD T (.slice p n c) none (some (.int k i)) none) Kv=Kv (.slice p i.toNat c):=
 aA fun w=>by
  simp only[cD,Instr.sliceAt,Instr.slice,Instr.sliceBounds,Instr.sliceBound,Sem.run_bind,run_underlying hT,Result.andThen_ok,Sem.run_pure,asIntOf,h0,h1,and_self,if_true,sizeOf,typeInfo,run_program,hi]
  congr 1
  cases p with
  |none=>simp
  |some a=>simp[Addr.add]
theorem yD(hT:P.underlying T=some (.slice e)){info:TypeInfo}(hi:P.info? e=some info)(h0:0<=i)(h1:i<=n):
  AtPure P (cD T (.slice p n c) (some (.int k i)) none none) Kv=Kv (.slice (fo p c i.toNat info.size) (n-i.toNat) (c-i.toNat)):=
 aA fun w=>by
  simp only[cD,Instr.sliceAt,Instr.slice,Instr.sliceBounds,Instr.sliceBound,Sem.run_bind,run_underlying hT,Result.andThen_ok,Sem.run_pure,asIntOf,h0,h1,and_self,if_true,sizeOf,typeInfo,run_program,hi,fo]
end
end
structure Own(u0 u:World)(e sz:Nat)(p:Option Addr)(n c:Nat)(xs:List (List Value)):Prop where
 len:xs.length=n
 each: ∀x∈xs,x.length=sz
 at_:(p=none/\n=0/\c=0)\/ ∃g cur,p=some ⟨g,0,none⟩/\u.heap[g]? =some (.cells cur e (0,0))/\n<=c/\c<=maxLen/\cur.size=c*sz/\cur.toList.take (n*sz)=xs.flatten/\Fresh u0 g
def SubX(p:Option Addr)(u u':World):Prop:= ∀(b:Nat) (o:Obj),(∀a,p=some a->b≠a.block)->u.heap[b]? =some o->o≠i5->u'.heap[b]? =some o
def dk(u:World)(p:Option Addr):Prop:= ∀a,p=some a->Fresh u a.block
theorem SubX.sub{u0 u u':World}{p:Option Addr}(h0:Sub u0 u)(h:SubX p u u')(hf:dk u0 p):Sub u0 u':=fun b o hb ho=>by
 refine h b o (fun a ha hba=>?_) (h0 b o hb ho) ho
 subst hba;exact ho (hf a ha o hb)
theorem SubX.of_sub{p:Option Addr}{u u':World}(h:Sub u u'):SubX p u u':=fun b o _ hb ho=>h b o hb ho
theorem aM{sz:Nat}: ∀(xs:List (List Value)),(∀x∈xs,x.length=sz)->xs.flatten.length=xs.length*sz:=by
 intro xs
 induction xs with
 |nil=>intro _;simp
 |cons x r ih=>
  intro h;rw[List.flatten_cons,List.length_append,h x List.mem_cons_self,ih (fun y hy=>h y (List.mem_cons_of_mem _ hy)),List.length_cons,Nat.add_mul]
  omega
theorem kV{sz:Nat}: ∀(xs:List (List Value)),(∀x∈xs,x.length=sz)-> ∀i x,xs[i]? =some x-> ∀j v,x[j]? =some v->xs.flatten[i*sz+j]? =some v:=by
 intro xs
 induction xs with
 |nil=>intro _ i x h;simp at h
 | cons y r ih=>
  intro h i x hx j v hv;have hy:=h y List.mem_cons_self;rw[List.flatten_cons];cases i with
  |zero=>
   simp at hx;subst hx;have hj:j<y.length:=by rcases Nat.lt_or_ge j y.length with h|h;exact h;simp[List.getElem?_eq_none h]at hv
   rw[Nat.zero_mul,Nat.zero_add,List.getElem?_append_left hj];exact hv
  |succ i=>
   rw[List.getElem?_append_right (by rw[hy,Nat.add_mul];omega)]
   have:=ih (fun z hz=>h z (List.mem_cons_of_mem _ hz)) i x (by simpa using hx) j v hv
   rw[<-this]
   congr 1
   rw[hy,Nat.add_mul];omega
theorem Own.sl{u0 u:World}{e sz:Nat}{p:Option Addr}{n c:Nat}{xs:List (List Value)}(h:Own u0 u e sz p n c xs):Sl u sz p n c xs:=by
 rcases h.at_ with ⟨rfl,h1,h2⟩|⟨g,cur,rfl,hg,h1,h2,h3,h4,h5⟩
 ·exact⟨h.len,by omega,h.each,fun _=>⟨h1,h2⟩,(fun a ha=>by cases ha)⟩
 ·refine⟨h.len,h1,h.each,(fun hp=>by cases hp),fun a ha=>?_⟩
  cases ha;refine⟨fun _=>rfl,fun i x hx j v hv=>?_⟩
  refine fm hg ?_;have h6:=kV xs h.each i x hx j v hv;rw[<-h4,List.getElem?_take]at h6;split at h6
  ·simpa using h6
  ·cases h6
theorem Own.mono{u0 u u':World}{e sz:Nat}{p:Option Addr}{n c:Nat}{xs:List (List Value)}(hs:Sub u u')(h:Own u0 u e sz p n c xs):Own u0 u' e sz p n c xs:=
 ⟨h.len,h.each,h.at_.imp id fun ⟨g,cur,h1,h2,h3⟩=>⟨g,cur,h1,hs _ _ h2 ax,h3⟩⟩
theorem Own.anti{u0 u0' u:World}{e sz:Nat}{p:Option Addr}{n c:Nat}{xs:List (List Value)}(hs:Sub u0' u0)(h:Own u0 u e sz p n c xs):Own u0' u e sz p n c xs:=
 ⟨h.len,h.each,h.at_.imp id fun ⟨g,cur,h1,h2,h3,h4,h5,h6,h7⟩=>⟨g,cur,h1,h2,h3,h4,h5,h6,Fresh.anti hs h7⟩⟩
theorem Own.fresh{u0 u:World}{e sz:Nat}{p:Option Addr}{n c:Nat}{xs:List (List Value)}(h:Own u0 u e sz p n c xs):dk u0 p:=fun a ha=>by
 rcases h.at_ with ⟨rfl,_⟩|⟨g,cur,rfl,_,_,_,_,_,h5⟩
 ·cases ha
 ·cases ha;exact h5
theorem Own.known{u0 u:World}{e sz:Nat}{p:Option Addr}{n c:Nat}{xs:List (List Value)}(h:Own u0 u e sz p n c xs){a:Addr}(ha:p=some a): ¬Fresh u a.block:=fun hf=>by
 rcases h.at_ with ⟨rfl,_⟩|⟨g,cur,rfl,hg,_⟩
 ·cases ha
 ·cases ha;exact ax (hf _ hg)
theorem Own.nil_(u0 u:World)(e sz:Nat):Own u0 u e sz none 0 0 []:=⟨rfl,by simp,.inl ⟨rfl,rfl,rfl⟩⟩
theorem Own.subX{u0 u u':World}{e sz:Nat}{p q:Option Addr}{n c:Nat}{xs:List (List Value)}(hs:SubX q u u')(hne: ∀a b,p=some a->q=some b->a.block≠b.block)(h:Own u0 u e sz p n c xs):Own u0 u' e sz p n c xs:=
 ⟨h.len,h.each,h.at_.imp id fun ⟨g,cur,h1,h2,h3⟩=>⟨g,cur,h1,hs _ _ (fun b hb=>hne _ b h1 hb) h2 ax,h3⟩⟩
theorem iD{x:Bool}{u0 u w w':World}{o:Obj}(hu:Sub u w)(hw:w'.heap=w.heap.push o)(hos:w'.os=w.os:=by rfl)(hout:w'.output=w.output:=by rfl):Step x u0 u w (learn u w.heap.size o) w':=by
 have hat:w'.heap[w.heap.size]? =some o:=by rw[hw];simp
 have hold: ∀(b:Nat) (o':Obj),w.heap[b]? =some o'->w'.heap[b]? =some o':=fun _ _ h=>by
  have:=ba h;rw[hw,Array.getElem?_push,if_neg (by omega)]
  exact h
 refine⟨j5 (fun b o' h hn=>hold b o' (hu b o' h hn)) hat,fun _ _ h=>.inl (hold _ _ h),fun _ hb hn hf=>hn (cP (by omega) hf),⟨by rw[hw];simp,hos,hout⟩⟩
theorem jl{u0 u w:World}{g:Nat}{cur cs:Array Value}{e:TypeId}{fr:Nat×Nat}(hu:Sub u w)(hg:u.heap[g]? =some (.cells cur e fr))(hf:Fresh u0 g):
  Step false u0 u w (learn u g (.cells cs e fr)) (w.setRow g cs):=by
 have hgw:=hu g _ hg ax;have hn: ¬Fresh u g:=fun h=>ax (h _ hg)
 refine⟨?_,fun b o h=>?_,fun b _ hb hfb=>?_,⟨by simp[World.setRow],rfl,rfl⟩⟩
 ·intro b o h ho
  by_cases hb:b=g
  ·subst hb;rw[bL]at h;cases h;exact setRow_heap w b _ _ _ _ hgw
  ·rw[setRow_other w g b _ hb];exact hu b o ((fR hb ho).1 h) ho
 ·by_cases hb:b=g
  ·subst hb;exact .inr ⟨rfl,hn,hf⟩
  ·exact .inl (by rw[setRow_other w g b _ hb];exact h)
 ·by_cases hbg:b=g
  ·subst hbg;exact hn hfb
  ·exact hb (cP hbg hfb)
theorem fu{u:World}{g:Nat}{o:Obj}{p:Option Addr}(hp:p=some ⟨g,0,none⟩):SubX p u (learn u g o):=fun b o' hb h hn=>
 (fR (hb _ hp) hn).2 h
def cU(P:Program)(T e sz bytes:Nat):Bool:=
 match P.underlying T,P.info? e with
 |some (.slice e'),some i=>e'==e&&i.size==sz&&i.bytes==bytes&&decide (0<sz)&&(match i.zero with|some z=>z.cells.size==sz|none=>false)
 |_,_=>false
theorem bC{P:Program}{T e sz bytes:Nat}(h:cU P T e sz bytes=true):
  P.underlying T=some (.slice e)/\0<sz/\ ∃i z,P.info? e=some i/\i.size=sz/\i.bytes=bytes/\i.zero=some z/\z.cells.size=sz:=by grind [cU]
def bl(ys:List (List Value)):Prop:= ∀y∈ys,bF y=true
theorem fY{ys:List (List Value)}(h:bl ys): ∀v∈ys.flatten,v.oneCell'=true:=by
 intro v hv;obtain⟨y,hy,hvy⟩:=List.mem_flatten.1 hv;exact dp (h y hy) v hvy
theorem Sl.cells{u:World}{sz:Nat}{a:Addr}{n c:Nat}{xs:List (List Value)}(h:Sl u sz (some a) n c xs): ∀j v,xs.flatten[j]? =some v->u.cell? (a.add j)=some v:=by
 intro j v hv;obtain⟨h1,h2⟩:=h.at_ a rfl
 have h1:=h1 (by
  cases xs with
  |nil=>simp at hv
  |cons y r=>have:=h.len;simp at this;omega)
 obtain⟨b,o,sp⟩:=a;cases h1;rw[Addr.add_lit]
 -- the element and the cell in it
 have key: ∀(ys:List (List Value)) (k j:Nat),(∀y∈ys,y.length=sz)->ys.flatten[j]? =some v-> ∃i x j',ys[i]? =some x/\x[j']? =some v/\j=i*sz+j':=by
  intro ys
  induction ys with
  |nil=>intro k j _ h;simp at h
  | cons y r ih=>
   intro k j hl h;rw[List.flatten_cons]at h;have hy:=hl y List.mem_cons_self;rcases Nat.lt_or_ge j y.length with hj|hj
   ·rw[List.getElem?_append_left hj]at h;exact⟨0,y,j,rfl,h,by omega⟩
   ·rw[List.getElem?_append_right hj]at h;obtain⟨i,x,j',e1,e2,e3⟩:=ih (k+1) (j-y.length) (fun z hz=>hl z (List.mem_cons_of_mem _ hz)) h
    exact⟨i+1,x,j',by simpa using e1,e2,by rw[Nat.add_mul];omega⟩
 obtain⟨i,x,j',e1,e2,e3⟩:=key xs 0 j h.each hv;have:=h2 i x e1 j' v e2;rw[e3, <-this];simp only
 congr 2
 omega
theorem wq{w:World}{g:Nat}{cur:Array Value}{e:TypeId}{fr:Nat×Nat}(h:w.heap[g]? =some (.cells cur e fr)):w.setRow g cur=w:=by
 unfold World.setRow
 have hm:(w.heap.modify g fun x=>match x with| .cells c elem frozen=>.cells cur elem frozen|o=>o)=w.heap:=by
  apply Array.ext_getElem?;intro j;rw[Array.getElem?_modify];split
  ·rename_i hj;subst hj;rw[h];rfl
  ·rfl
 exact congrArg (fun h=>({ w with heap:=h }:World)) hm
theorem l5{x:Bool}{P:Program}{T e sz bytes ty:Nat}(hT:cU P T e sz bytes=true){u0 u:World}{p q:Option Addr}{n c m d:Nat}{xs ys:List (List Value)}
  (ho:Own u0 u e sz p n c xs) (hs:Sl u sz q m d ys) (h1:bl ys) (hb:(n+m)*bytes<=140737488355328) (hm:n+m<=9223372036854775807) (hx:x=false\/c=0) {K:Value->World->Prop}
  (hK: ∀p' c' u',Own u0 u' e sz p' (n+m) c' (xs++ys)->SubX p u u'->((p'=p/\c'=c/\n+m<=c)\/(dk u p'/\Sub u u'))->K (.slice p' (n+m) c') u'):
  AtEff x P (iW #[T,T] ty #[.slice p n c,.slice q m d]) u0 u K:=by
 obtain⟨ht,hsz,i,z,hi,rfl,rfl,hz,hzs⟩:=bC hT;unfold iW;intro w hu h0;have hlen:(xs++ys).length=n+m:=by rw[List.length_append,ho.len,hs.len]
 have heach: ∀x∈xs++ys,x.length=i.size:=fun x hx=>(List.mem_append.1 hx).elim (ho.each x) (hs.each x)
 have hfl:(xs++ys).flatten=xs.flatten++ys.flatten:=by simp
 have hnews:ys.flatten.length=m*i.size:=by rw[aM ys hs.each,hs.len]
 have holds:xs.flatten.length=n*i.size:=by rw[aM xs ho.each,ho.len]
 have hmax:n+m<=maxLen:=by simp only[maxLen];omega
 -- nothing is appended
 cases q with
 | none=>
  obtain⟨rfl,rfl⟩:=hs.nil rfl;have hys:ys=[]:=List.eq_nil_of_length_eq_zero hs.len;subst hys;have hcap:n<=c:=ho.sl.cap;refine⟨.slice p n c,w,u,?_,⟨hu,fun b o h=>.inl h,fun b _ h=>h,⟨Nat.le_refl _,rfl,rfl⟩⟩,?_⟩
  ·cases p with
   |none=>simp[Builtin.append_,run_underlying ht,sizeOf,typeInfo,hi,Builtin.lenOf,Builtin.firstCells,hcap]
   |some a=>simp[Builtin.append_,run_underlying ht,sizeOf,typeInfo,hi,Builtin.lenOf,Builtin.firstCells,hcap,storeCells]
  ·have:=hK p c u (by simpa using ho) (SubX.of_sub (Sub.refl u)) (.inl ⟨rfl,rfl,by simpa using hcap⟩)
   simpa using this
 | some a=>
  have hcells: ∀j v,ys.flatten[j]? =some v->w.cell? (a.add j)=some v:=fun j v hv=>hu.cell (hs.cells j v hv)
  -- what a new block brings
  have grown: ∀(old:Nat) (w':World) (v:Value),w'.heap=w.heap.push (.cells (xs.flatten.toArray++ys.flatten.toArray++Builtin.zeroCells z.cells (grownCap w (n+m) old e-(n+m))) e)->w'.os=w.os->w'.output=w.output->
    v= .slice (some ⟨w.heap.size,0,none⟩) (n+m) (grownCap w (n+m) old e)-> ∃u',Step x u0 u w u' w'/\K v u':=by
   intro old w' v hw' ho1 ho2 hv;subst hv
   refine⟨_,iD hu hw' ho1 ho2,hK (some ⟨w.heap.size,0,none⟩) _ _ ⟨hlen,heach,.inr ⟨w.heap.size,_,rfl,bL _ _ _,grownCap_ge w (n+m) old e,grownCap_le_maxLen w (n+m) old e hmax,?_,?_,aO h0 (Nat.le_refl _)⟩⟩
    (SubX.of_sub (dR (aO hu (Nat.le_refl _)))) (.inr ⟨fun a ha=>by cases ha;exact aO hu (Nat.le_refl _),dR (aO hu (Nat.le_refl _))⟩)⟩
   ·have hge:=grownCap_ge w (n+m) old e;simp only[Array.size_append,List.size_toArray,size_zeroCells,hzs,holds,hnews, <-Nat.add_mul]
    congr 1
    omega
   ·simp only[Array.toList_append];rw[hfl,Nat.add_mul, <-holds, <-hnews, <-List.length_append];exact List.take_left
  rcases ho.at_ with ⟨rfl,rfl,rfl⟩|⟨g,cur,rfl,hg,hnc,hcm,hcs,htake,hfr⟩
  ·have hxs:xs=[]:=List.eq_nil_of_length_eq_zero ho.len;subst hxs
   by_cases hm0:m=0
   ·subst hm0;have hys:ys=[]:=List.eq_nil_of_length_eq_zero hs.len;subst hys;refine⟨.slice none 0 0,w,u,?_,⟨hu,fun b o h=>.inl h,fun b _ h=>h,⟨Nat.le_refl _,rfl,rfl⟩⟩,?_⟩
    ·simp[Builtin.append_,run_underlying ht,sizeOf,typeInfo,hi,Builtin.lenOf,Builtin.firstCells,loadCells,loadCellsFrom]
    ·exact hK none 0 u (Own.nil_ _ _ _ _) (SubX.of_sub (Sub.refl u)) (.inl ⟨rfl,rfl,Nat.le_refl _⟩)
   ·have hr:=run_append_nil (P:=P) w T ty e i z ht hi hz a m d ys.flatten hnews hcells (by omega) (by omega) (by have hb:=hb;simp only[Nat.zero_add]at hb;omega)
    simp only[Nat.zero_add]at grown ⊢;obtain⟨u',h2,h3⟩:=grown 0 (w.drew.alloc (.cells (ys.flatten.toArray++Builtin.zeroCells z.cells (grownCap w m 0 e-m)) e)) _ (by show w.heap.push _=w.heap.push _;simp) rfl rfl rfl
    exact⟨_,_,u',hr,h2,h3⟩
  ·by_cases hroom:n+m<=c
   ·have hgw:=hu g _ hg ax;have hfit:n*i.size+ys.flatten.length<=cur.size:=by rw[hnews,hcs, <-Nat.add_mul];exact Nat.mul_le_mul_right _ hroom
    have hr:=run_append_room (P:=P) w T ty e i ht hi g n c cur hgw a m d ys.flatten hnews hcells (fY h1) hroom hfit;rcases hx with rfl|rfl
    case inr=>
     obtain⟨rfl,rfl⟩:n=0/\m=0:=by omega
     have hys:ys=[]:=List.eq_nil_of_length_eq_zero hs.len;have hxs:xs=[]:=List.eq_nil_of_length_eq_zero ho.len;subst hys;subst hxs
     have hcur:cur=#[]:=by
      have:cur.size=0:=by omega
      exact Array.eq_empty_of_size_eq_zero this
     subst hcur;refine⟨_,_,u,hr,?_,hK _ _ _ (by simpa using ho) (SubX.of_sub (Sub.refl u)) (.inl ⟨rfl,rfl,hroom⟩)⟩
     have hsame:w.setRow g (#[].toList.take (0*i.size)++[].flatten++#[].toList.drop (0*i.size+([]:List (List Value)).flatten.length)).toArray=w:=by
      have hnil:(#[].toList.take (0*i.size)++[].flatten++#[].toList.drop (0*i.size+([]:List (List Value)).flatten.length)).toArray=(#[]:Array Value):=by simp
      rw[hnil];exact wq hgw
     rw[hsame];exact⟨hu,fun b o h=>.inl h,fun b _ h=>h,⟨Nat.le_refl _,rfl,rfl⟩⟩
    refine⟨_,_,_,hr,jl hu hg hfr,hK _ _ _ ⟨hlen,heach,.inr ⟨g,_,rfl,bL _ _ _,hroom,hcm,?_,?_,hfr⟩⟩ (fu rfl) (.inl ⟨rfl,rfl,hroom⟩)⟩
    ·simp only[List.size_toArray,List.length_append,List.length_take,List.length_drop,Array.length_toList];omega
    ·simp only[];rw[htake,hfl,Nat.add_mul, <-holds, <-hnews, <-List.length_append];exact List.take_left
   ·have hold: ∀j v,xs.flatten[j]? =some v->w.cell? ((⟨g,0,none⟩:Addr).add j)=some v:=fun j v hv=>hu.cell (ho.sl.cells j v hv)
    have hr:=run_append_grow (P:=P) w T ty e i z ht hi hz ⟨g,0,none⟩ n c xs.flatten holds hold a m d ys.flatten hnews hcells (by omega) (by omega) (growslice_fits (by omega) hb)
    obtain⟨u',h2,h3⟩:=grown c (w.drew.alloc (.cells (xs.flatten.toArray++ys.flatten.toArray++Builtin.zeroCells z.cells (grownCap w (n+m) c e-(n+m))) e)) _ rfl rfl rfl rfl;exact⟨_,_,u',hr,h2,h3⟩
theorem pN{x:Bool}{P:Program}{T e sz bytes ty:Nat}(hT:cU P T e sz bytes=true){u0 u:World}{p q:Option Addr}{n c m d:Nat}{xs ys:List (List Value)}
  (ho:Own u0 u e sz p n c xs) (hs:Sl u sz q m d ys) (h1:bl ys) (hb:(n+m)*bytes<=140737488355328) (hm:n+m<=9223372036854775807) (hx:x=false\/c=0) {K:Value->World->Prop}
  (hK: ∀p' c' u',Own u0 u' e sz p' (n+m) c' (xs++ys)->SubX p u u'->(p'=p\/dk u p')->K (.slice p' (n+m) c') u'):
  AtEff x P (iW #[T,T] ty #[.slice p n c,.slice q m d]) u0 u K:=by grind [l5]
theorem mv{x:Bool}{P:Program}{T e sz bytes ty:Nat}(hT:cU P T e sz bytes=true){u0 u:World}{p q:Option Addr}{n c m d:Nat}{xs ys:List (List Value)}
  (ho:Own u0 u e sz p n c xs) (hs:Sl u sz q m d ys) (h1:bl ys) (hb:(n+m)*bytes<=140737488355328) (hm:n+m<=9223372036854775807) (hx:x=false\/c=0) (hg:c<n+m) {K:Value->World->Prop}
  (hK: ∀p' c' u',Own u0 u' e sz p' (n+m) c' (xs++ys)->Sub u u'->dk u p'->K (.slice p' (n+m) c') u'):
  AtEff x P (iW #[T,T] ty #[.slice p n c,.slice q m d]) u0 u K:=
 l5 hT ho hs h1 hb hm hx fun p' c' u' h1 h2 h3=>by
  rcases h3 with ⟨_,_,h⟩|⟨h4,h5⟩
  ·omega
  ·exact hK p' c' u' h1 h5 h4
theorem iV{P:Program}{T e sz bytes ty:Nat}(hT:cU P T e sz bytes=true){u0 u:World}{p q:Option Addr}{n c m d:Nat}{xs ys:List (List Value)}
  (ho:Own u0 u e sz p n c xs) (hs:Sl u sz q m d ys) (h1:bl ys) (hb:(n+m)*bytes<=140737488355328) (hm:n+m<=9223372036854775807) {K:Value->World->Prop}
  (hK: ∀p' c' u',Own u0 u' e sz p' (n+m) c' (xs++ys)->SubX p u u'->(p'=p\/dk u p')->K (.slice p' (n+m) c') u'):
  AtEff false P (iW #[T,T] ty #[.slice p n c,.slice q m d]) u0 u K:=pN hT ho hs h1 hb hm (.inl rfl) hK
def ez:Nat->List Value->List (Nat×Value)
 |_,[]=>[]
 |i,v::r=>(i,v)::ez (i+1) r
theorem rJ: ∀(l:List Value) (off k:Nat) (cells:Array Value),off+k+l.length<=cells.size->
  (l.zipIdx k).foldl (fun cs (x:Value×Nat)=>cs.setIfInBounds (off+x.2) x.1) cells=(cells.toList.take (off+k)++l++cells.toList.drop (off+k+l.length)).toArray:=by
 intro l
 induction l with
 |nil=>
  intro off k cells h;simp
 |cons v r ih=>
  intro off k cells h;simp only[List.length_cons]at h;simp only[List.zipIdx_cons,List.foldl_cons];rw[ih off (k+1) (cells.setIfInBounds (off+k) v) (by simp;omega)]
  congr 1
  have e:=list_seg_step cells.toList (off+k) v r (by simp;omega)
  simpa[Array.toList_setIfInBounds,Nat.add_assoc]using e
theorem afI{sz:Nat}: ∀(vs:List Value) (k:Nat) (cells:Array Value),(∀v∈vs,v.cells.toList.length=sz)->(k+vs.length)*sz=cells.size->
  Instr.fill (fun i=>some (i*sz,sz)) cells (ez k vs)=some (cells.toList.take (k*sz)++(vs.map fun v=>v.cells.toList).flatten).toArray:=by
 intro vs
 induction vs with
 |nil=>
  intro k cells _ h;simp only[ez,Instr.fill,List.map_nil,List.flatten_nil,List.append_nil]
  congr 1
  apply Array.ext';simp only[List.length_nil,Nat.add_zero]at h;rw[h,List.take_of_length_le (by simp)]
 | cons v r ih=>
  intro k cells hl h;have hv:=hl v List.mem_cons_self;simp only[List.length_cons]at h;have hmul:(k+(r.length+1))*sz=k*sz+sz+r.length*sz:=by rw[Nat.add_mul,Nat.add_mul];omega
  have hsz:v.cells.size=sz:=by simpa using hv
  simp only[ez,Instr.fill];rw[if_neg (by simp only[hsz,bne_self_eq_false,ne_eq,not_true_eq_false,decide_false,Bool.false_or,decide_eq_true_eq];omega)]
  have hfold:=rJ v.cells.toList (k*sz) 0 cells (by rw[hv];omega)
  simp only[Nat.add_zero]at hfold
  have hf2:(v.cells.zipIdx.foldl (fun cs x=>cs.setIfInBounds (k*sz+x.2) x.1) cells)=(cells.toList.take (k*sz)++v.cells.toList++cells.toList.drop (k*sz+v.cells.toList.length)).toArray:=by
   rw[<-hfold, <-Array.foldl_toList,Array.toList_zipIdx]
  have hf3:(v.cells.zipIdx.foldl (fun cs (x:Value×Nat)=>match x with|(c,j)=>cs.setIfInBounds (k*sz+j) c) cells)=(v.cells.zipIdx.foldl (fun cs x=>cs.setIfInBounds (k*sz+x.2) x.1) cells):=rfl
  rw[hf3,hf2,ih (k+1) _ (fun y hy=>hl y (List.mem_cons_of_mem _ hy)) ?_]
  ·congr 1
   simp only[List.map_cons,List.flatten_cons]
   congr 1
   rw[<-List.append_assoc]
   congr 1
   have h1:(k+1)*sz=(cells.toList.take (k*sz)++v.cells.toList).length:=by
    simp only[List.length_append,List.length_take,Array.length_toList,hsz];rw[Nat.add_mul];omega
   rw[h1];exact List.take_left
  ·simp only[List.size_toArray,List.length_append,List.length_take,List.length_drop,Array.length_toList,hsz];rw[Nat.add_mul,Nat.add_mul];omega
theorem oe{x : Bool}{P:Program}{T e sz bytes:Nat}(hT:cU P T e sz bytes=true){u0 u:World}{vs:List Value}{ps:List (Nat×Value)}{n:Nat}(hps:ps=ez 0 vs)(hn:n=vs.length)
    (hl: ∀v∈vs,v.cells.toList.length=sz) (hsm:n*sz<=16777216) {K:Value->World->Prop}
    (hK: ∀p u',Own u0 u' e sz p n n (vs.map fun v=>v.cells.toList)->Sub u u'->dk u p->K (.slice p n n) u'):
    AtEff x P (ox T n ps.toArray) u0 u K:=by
  obtain⟨ht,hsz,i,z,hi,rfl,rfl,hz,hzs⟩:=bC hT;subst hps;subst hn;intro w hu h0;have hfill:=fun (cells:Array Value) (hc:(0+vs.length)*i.size=cells.size)=>afI vs 0 cells hl hc
  have hrun : (ox T vs.length (ez 0 vs).toArray).run P w= .ok (.slice (some ⟨w.heap.size,0,none⟩) vs.length vs.length) { w with heap:=w.heap.push (.cells (vs.map fun v=>v.cells.toList).flatten.toArray e) }:=by
    have hgt: ¬(16777216<vs.length*i.size):=by omega
    have key: ∀zc:Array Value,(Instr.fill (fun j=>some (j*i.size,i.size)) ((Array.range (vs.length*i.size)).map (zc[· % zc.size]!)) (ez 0 vs))=some (vs.map fun v=>v.cells.toList).flatten.toArray:=by
      intro zc;have:=hfill ((Array.range (vs.length*i.size)).map (zc[· % zc.size]!)) (by simp)
      simpa using this
    by_cases h00:vs.length*i.size=0
    · have hv0 : vs = []:=by
        cases vs with
        |nil=>rfl
        | cons a b => rcases Nat.mul_eq_zero.1 h00 with h|h
                      · simp at h
                      · omega
      subst hv0;simp[ox,Instr.buildSlice,run_underlying ht,sizeOf,typeInfo,hi,ez,Instr.fill,newRow,Array.range_zero']
    · simp only[ox,Instr.buildSlice,Sem.run_bind,run_underlying ht,Result.andThen_ok,sizeOf,typeInfo,run_program,hi,Sem.run_pure]
      have k0:=key z.cells;simp[hgt,h00,zeroValue,typeInfo,hi,hz,k0,newRow]
  refine⟨_,_,_,hrun,iD hu rfl,hK _ _ ⟨by simp,?_,.inr ⟨w.heap.size,_,rfl,bL _ _ _,Nat.le_refl _,?_,?_,?_,aO h0 (Nat.le_refl _)⟩⟩ (dR (aO hu (Nat.le_refl _))) (fun a ha=>by cases ha;exact aO hu (Nat.le_refl _))⟩
  · intro y hy
    obtain⟨v,hv,rfl⟩:=List.mem_map.1 hy;exact hl v hv
  · have:vs.length<=vs.length*i.size:=Nat.le_mul_of_pos_right _ hsz
    simp only[maxLen];omega
  · rw[List.size_toArray,aM (sz:=i.size) _ (by intro y hy;obtain⟨v,hv,rfl⟩:=List.mem_map.1 hy;exact hl v hv),List.length_map]
  · rw[List.take_of_length_le]
    simp only[];rw[aM (sz:=i.size) _ (by intro y hy;obtain⟨v,hv,rfl⟩:=List.mem_map.1 hy;exact hl v hv),List.length_map]
    exact Nat.le_refl _
