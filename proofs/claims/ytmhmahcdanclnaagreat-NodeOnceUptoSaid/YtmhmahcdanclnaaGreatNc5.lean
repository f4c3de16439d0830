import Derived.Test.YtmhmahcdanclnaaGreatNc4
import Derived.Laws.Cover3
set_option linter.unusedSectionVars false
set_option linter.unusedSimpArgs false
set_option linter.unusedVariables false
set_option maxRecDepth 10000
namespace Go.Eng
section
variable {P:Program} {u0 u:World} {Q:Exit->S->World->Prop} {s:S} {K:S->World->Prop}
theorem afh:vc P u0 .skip Q s u=Q .normal s u:=rfl
theorem aq8:vc P u0 .ret Q s u=Q .ret s u:=rfl
theorem afC{id:Nat}:vc P u0 (.exit id) Q s u=Q (.exit id) s u:=rfl
theorem pf{id:Nat}{l:List Oper}:vc P u0 (.region id l.toArray false) Q s u=mA P u0 l (Q .normal) l s u:=rfl
theorem amS{id:Nat}{l:List Oper}:vc P u0 (.region id l.toArray true) Q s u=ad7 P u0 l.toArray (Q .normal) s u:=rfl
theorem apZ{x y:Code}:vc P u0 (.seq x y) Q s u=vc P u0 x (am6 P u0 y Q) s u:=rfl
def kM(c:SV)(s:S)(u:World)(P:Program)(u0:World)(x y:Code)(Q:Exit->S->World->Prop):Prop:=
 match c with
 | .v (.bool t)=>(t=true->vc P u0 x Q s u)/\(t=false->vc P u0 y Q s u)
 |_=>False
theorem afg{c:Operand}{x y:Code}:vc P u0 (.cond c x y) Q s u=kM (s.sv c) s u P u0 x y Q:=rfl
theorem qT{x y:Code}:kM (.v (.bool true)) s u P u0 x y Q=vc P u0 x Q s u:=by simp[kM]
theorem pX{x y:Code}:kM (.v (.bool false)) s u P u0 x y Q=vc P u0 y Q s u:=by simp[kM]
theorem ahF{x y:Code}{t:Bool}:kM (.v (.bool (!t))) s u P u0 x y Q=kM (.v (.bool t)) s u P u0 y x Q:=by
 cases t<;>simp[kM]
theorem s7{x y:Code}{p:Prop}[Decidable p](h1:p->vc P u0 x Q s u)(h2: ¬p->vc P u0 y Q s u):kM (.v (.bool (decide p))) s u P u0 x y Q:=
 ⟨fun h=>h1 (of_decide_eq_true h),fun h=>h2 (of_decide_eq_false h)⟩
theorem qE{x y:Code}{a b:Int}(h1:a=b->vc P u0 x Q s u)(h2:a≠b->vc P u0 y Q s u):kM (.v (.bool (a==b))) s u P u0 x y Q:=
 ⟨fun h=>h1 (by simpa using h),fun h=>h2 (by simpa using h)⟩
theorem afk{x y:Code}{a b:Int}(h1:a≠b->vc P u0 x Q s u)(h2:a=b->vc P u0 y Q s u):kM (.v (.bool (a !=b))) s u P u0 x y Q:=
 ⟨fun h=>h1 (by simpa using h),fun h=>h2 (by simpa using h)⟩
theorem bF{id:Nat}{x y:Code}:vc P u0 (.block id (.seq x y)) Q s u=vc P u0 (.seq x y) (fD id Q) s u:=rfl
theorem bc{id i:Nat}{l:Array Oper}{d:Bool}:vc P u0 (.block id (.region i l d)) Q s u=vc P u0 (.region i l d) (fD id Q) s u:=by cases d<;>rfl
theorem bw{id:Nat}{c:Operand}{x y:Code}:vc P u0 (.block id (.cond c x y)) Q s u=vc P u0 (.cond c x y) (fD id Q) s u:=rfl
theorem bl{id j:Nat}{x:Code}:vc P u0 (.block id (.block j x)) Q s u=vc P u0 (.block j x) (fD id Q) s u:=rfl
theorem uk{id:Nat}:fD id Q .normal s u=LeK (Q .normal) s u:=rfl
theorem acm{id:Nat}:fD id Q .ret s u=Q .ret s u:=rfl
theorem amz{K:S->World->Prop}(h:K s u):LeK K s u:=.inl h
theorem aap{y:Code}:am6 P u0 y Q .normal s u=vc P u0 y Q s u:=rfl
theorem alA{y:Code}:am6 P u0 y Q .ret s u=Q .ret s u:=rfl
theorem agj{y:Code}{j:Nat}:am6 P u0 y Q (.exit j) s u=Q (.exit j) s u:=rfl
theorem ur{id:Nat}:fC id Q .normal s u=Q .normal s u:=rfl
theorem abJ{id:Nat}:fC id Q .ret s u=Q .ret s u:=rfl
theorem ql{id j:Nat}:fC id Q (.exit j) s u=bif j==id then Q .normal s u else Q (.exit j) s u:=rfl
theorem wC{γ:Type}{st:γ->S}{F:γ->World->Prop}{μ:γ->Nat}{g:γ}:aff st F μ g Q .normal s u= ∃g',(st g').le s/\F g' u/\μ g'<μ g:=rfl
theorem ab9{γ:Type}{st:γ->S}{F:γ->World->Prop}{μ:γ->Nat}{g:γ}{j:Nat}:aff st F μ g Q (.exit j) s u=Q (.exit j) s u:=rfl
theorem yS{rs:List ResultVar}{Post:Value->World->Prop}:ah_ P rs Post .normal s u=ml Post (cK P s rs) u:=rfl
theorem alY{rs:List ResultVar}{Post:Value->World->Prop}:ah_ P rs Post .ret s u=ml Post (cK P s rs) u:=rfl
theorem acO:cK P s []=some (.tuple #[]):=rfl
theorem ac9{x:ResultVar}:cK P s [x]=bT P s x:=rfl
def apD(a b:Option Value):Option Value:=
 match a,b with
 |some a,some b=>some (.tuple #[a,b])
 |_,_=>none
def apO(a b c:Option Value):Option Value:=
 match a,b,c with
 |some a,some b,some c=>some (.tuple #[a,b,c])
 |_,_,_=>none
theorem adC{x y:ResultVar}:cK P s [x,y]=apD (bT P s x) (bT P s y):=rfl
theorem xS{x y z:ResultVar}:cK P s [x,y,z]=apO (bT P s x) (bT P s y) (bT P s z):=rfl
theorem acB{a b:Value}:apD (some a) (some b)=some (.tuple #[a,b]):=rfl
theorem ab4{a b c:Value}:apO (some a) (some b) (some c)=some (.tuple #[a,b,c]):=rfl
theorem aeo{t:Nat}:bT P s (.tmp t)=s.val (s.get t):=rfl
def alc(ag:Bool)(n off:Nat)(l:Option Loc):Option Value:=
 match l with
 |some l=>if (n=1\/ag=true)/\off+n<=l.cells.length then some (ld ag n off l.cells)else none
 |none=>none
def aq2(s:S)(x:SV)(l:Option (Bool×Nat)):Option Value:=
 match x,l with
 | .loc k off,some (ag,n)=>alc ag n off (s.find k)
 |_,_=>none
theorem aaF{t T:Nat}:bT P s (.cell t T)=aq2 s (s.get t) (lay P T):=by grind [bT,aq2,lay,alc]
theorem ajn{k off n:Nat}{ag:Bool}:aq2 s (.loc k off) (some (ag,n))=alc ag n off (s.find k):=rfl
theorem amc{off b:Nat}{cs:List Value}{T:TypeId}:alc false 1 off (some ⟨b,cs,T⟩)=if off+1<=cs.length then some ((cs.drop off).headD undef)else none:=by simp[alc,ld]
theorem oI{all:List Oper}:mA P u0 all K [] s u=K s u:=rfl
theorem j0{all:List Oper}{o:Oper}{r:List Oper}:mA P u0 all K (o::r) s u=vcG P false u0 all o (mA P u0 all K r) s u:=rfl
theorem apT{x:Bool}{i:Nat}{o:Oper}:XOk m0 x i o s=True:=
 eq_true ⟨fun h=>(by cases h),fun _=>qI,fun h=>(by cases h)⟩
def vg(P:Program)(x:Bool)(u0:World)(all:List Oper)(K:S->World->Prop)(t:OT)(s:S)(u:World)(o:Option Oper):Prop:=
 match o with
 |some o=>vcG P x u0 all o (vcT P u0 all m0 K t) s u
 |none=>False
theorem yR{all:List Oper}{i:Nat}{x:Bool}{t:OT}{o:Option Oper}:(match o with
  |some o=>XOk m0 x i o s/\vcG P x u0 all o (fun s' u'=>XK m0 o s s'/\vcT P u0 all m0 K t s' u') s u
  |none=>False)=vg P x u0 all K t s u o:=by
 have h: ∀(o:Oper) (s':S),XK m0 o s s'=True:=fun o s'=>eq_true ⟨trivial,trivial⟩
 cases o<;>simp only[apT,h,true_and,vg]
theorem ak4{all:List Oper}:vcT P u0 all m0 K .done s u=K s u:=rfl
theorem aiD{all:List Oper}{i:Nat}{t:OT}:vcT P u0 all m0 K (.fl i t) s u=vg P false u0 all K t s u (bz all i):=yR
theorem ae7{all:List Oper}{i:Nat}{x:Bool}{t:OT}:vcT P u0 all m0 K (.eff i x t .no) s u=vg P x u0 all K t s u (bz all i):=by
 rw[<-yR (i:=i)];exact and_true _
theorem aie{ops:Array Oper}{all:List Oper}:vcT P u0 all m0 K (lin ops []) s u=K s u:=rfl
theorem acH{ops:Array Oper}{all:List Oper}{i:Nat}{x:Bool}{r:List (Nat×Bool)}:vcT P u0 all m0 K (lin ops ((i,x)::r)) s u=vg P x u0 all K (lin ops r) s u (bz all i):=by
 rw[lin];cases x<;>cases lC ops i<;>first|exact ae7|exact aiD
theorem acR{all:List Oper}{x:Bool}{t:OT}{o:Oper}:vg P x u0 all K t s u (some o)=vcG P x u0 all o (vcT P u0 all m0 K t) s u:=rfl
theorem y_{o:Oper}{r:List Oper}:bz (o::r) 0=some o:=rfl
theorem aac{o:Oper}{r:List Oper}{j:Nat}:bz (o::r) (j+1)=bz r j:=rfl
theorem abp{o:Oper}{r:List Oper}:i_ (o::r) 0=o.dst:=rfl
theorem abt{o:Oper}{r:List Oper}{j:Nat}:i_ (o::r) (j+1)=i_ r j:=rfl
def ady(want:Bool)(A B:Prop)(c:SV):Prop:=
 match c with
 | .v (.bool c)=>(c=want->A)/\(c= !want->B)
 | .v (.tuple _)=>B
 |_=>False
def acn(P:Program)(x:Bool)(u0:World)(o:Oper)(K:S->World->Prop)(s:S)(u:World)(want:Bool)(d:Option Nat):Prop:=
 match d with
 |some d=>ady want (bQ P x u0 o K s u) (K (s.put o.dst (.v undef)) u) (s.get d)
 |none=>False
section
variable {x:Bool} {all:List Oper} {d:Option Tmp} {op:Op} {ty:TypeId} {pos:String} {aft:Array Edge}
theorem nw:vcG P x u0 all ⟨d,op,ty,pos,aft,none⟩ K s u=bQ P x u0 ⟨d,op,ty,pos,aft,none⟩ K s u:=rfl
theorem amq{j:Nat}{b:Bool}:vcG P x u0 all ⟨d,op,ty,pos,aft,some (j,b)⟩ K s u=acn P x u0 ⟨d,op,ty,pos,aft,some (j,b)⟩ K s u b (i_ all j):=by grind [vcG,acn,ady,i_]
end
def sT(P:Program)(x:Bool)(u0:World)(o:Oper)(K:S->World->Prop)(s:S)(u:World)(want:Bool)(c:SV):Prop:=
 ady want (bQ P x u0 o K s u) (K (s.put o.dst (.v undef)) u) c
section
variable {x:Bool} {o:Oper} {b:Bool}
theorem aab{e:Nat}:acn P x u0 o K s u b (some e)=sT P x u0 o K s u b (s.get e):=rfl
theorem qc{c:Bool}(h1:c=b->bQ P x u0 o K s u)(h2:c= !b->K (s.put o.dst (.v undef)) u):sT P x u0 o K s u b (.v (.bool c)):=⟨h1,h2⟩
theorem d9{c:Bool}(h:c=b)(h1:bQ P x u0 o K s u):sT P x u0 o K s u b (.v (.bool c)):=by subst h;exact⟨fun _=>h1,fun h=>by cases c<;>cases h⟩
theorem gw{c:Bool}(h:c= !b)(h1:K (s.put o.dst (.v undef)) u):sT P x u0 o K s u b (.v (.bool c)):=by subst h;exact⟨(fun h=>by cases b<;>cases h),fun _=>h1⟩
end
section
variable {x:Bool} {d:Option Tmp} {ty:TypeId} {pos:String} {aft:Array Edge} {g:Option (Nat×Bool)}
theorem ae0{y:Operand}:bQ P x u0 ⟨d,.move y,ty,pos,aft,g⟩ K s u=K (s.put d (s.sv y)) u:=rfl
theorem afO{y:Operand}:bQ P x u0 ⟨d,.assign y,ty,pos,aft,g⟩ K s u=K (s.put d (s.sv y)) u:=rfl
def apC(K:S->World->Prop)(s:S)(d:Option Tmp)(u:World)(y z:SV)(c:SV):Prop:=
 match c with
 | .v (.bool t)=>K (s.put d (bif t then y else z)) u
 |_=>False
theorem ao1{c y z:Operand}:bQ P x u0 ⟨d,.pick c y z,ty,pos,aft,g⟩ K s u=apC K s d u (s.sv y) (s.sv z) (s.sv c):=rfl
theorem aoK{y z:SV}{t:Bool}:apC K s d u y z (.v (.bool t))=K (s.put d (bif t then y else z)) u:=rfl
def vP(K:Value->Prop)(ag:Bool)(n off:Nat)(l:Option Loc):Prop:=
 match l with
 |some l=>(n=1\/ag=true)/\off+n<=l.cells.length/\K (ld ag n off l.cells)
 |none=>False
def aeE(K:Value->Prop)(s:S)(u:World)(y:SV)(l:Option (Bool×Nat)):Prop:=
 match l with
 |some (ag,n)=>
  match y with
  | .loc k off=>vP K ag n off (s.find k)
  | .elt sv sz i off=>aeA u sv sz i ag n off K
  | .v (.pointer (some a))=>amd u a ag n K
  |_=>False
 |none=>False
theorem aoU{T:TypeId}{y:Operand}:bQ P x u0 ⟨d,.load T y,ty,pos,aft,g⟩ K s u=aeE (eV s d u K) s u (s.sv y) (lay P T):=rfl
theorem ahk{Kv:Value->Prop}{k off n:Nat}{ag:Bool}:aeE Kv s u (.loc k off) (some (ag,n))=vP Kv ag n off (s.find k):=rfl
theorem ahe{Kv:Value->Prop}{sv:Value}{sz off n:Nat}{i:Int}{ag:Bool}:aeE Kv s u (.elt sv sz i off) (some (ag,n))=aeA u sv sz i ag n off Kv:=rfl
theorem ahT{Kv:Value->Prop}{a:Addr}{n:Nat}{ag:Bool}:aeE Kv s u (.v (.pointer (some a))) (some (ag,n))=amd u a ag n Kv:=rfl
theorem afL{Kv:Value->Prop}{n off b:Nat}{cs:List Value}{T:TypeId}:vP Kv true n off (some ⟨b,cs,T⟩)=(off+n<=cs.length/\Kv (.agg ((cs.drop off).take n).toArray)):=by
 simp[vP,ld]
theorem ahd{Kv:Value->Prop}{off b:Nat}{cs:List Value}{T:TypeId}:vP Kv false 1 off (some ⟨b,cs,T⟩)=(off+1<=cs.length/\Kv ((cs.drop off).headD undef)):=by
 simp[vP,ld]
theorem xt{r:Value}:eV s d u K r=K (s.put d (.v r)) u:=rfl
theorem anA{r:Value}:eo s d K r u=K (s.put d (.v r)) u:=rfl
theorem anJ:kR s d K u=K (s.put d (.v undef)) u:=rfl
def asi(P:Program)(op:BinOp)(T:TypeId)(y z:Operand)(Kv:Value->Prop)(a b:SV):Prop:=
 match a,b with
 | .v a,.v b=>AtPure P (bA op T y z a b) Kv
 |_,_=>False
theorem adg{op:BinOp}{T t2:TypeId}{y z:Operand}:bQ P x u0 ⟨d,.binOp op T y z t2,ty,pos,aft,g⟩ K s u=asi P op T y z (eV s d u K) (s.sv y) (s.sv z):=rfl
theorem aem{op:BinOp}{T:TypeId}{y z:Operand}{Kv:Value->Prop}{a b:Value}:asi P op T y z Kv (.v a) (.v b)=AtPure P (bA op T y z a b) Kv:=rfl
def UnK(P:Program)(op:UnOp)(Kv:Value->Prop)(a:SV):Prop:=
 match a with
 | .v a=>AtPure P (iUn op a) Kv
 |_=>False
theorem asj{op:UnOp}{T:TypeId}{y:Operand}:bQ P x u0 ⟨d,.unOp op T y,ty,pos,aft,g⟩ K s u=UnK P op (eV s d u K) (s.sv y):=rfl
theorem arH{op:UnOp}{Kv:Value->Prop}{a:Value}:UnK P op Kv (.v a)=AtPure P (iUn op a) Kv:=rfl
def apN(P:Program)(x:Bool)(u0:World)(src dst:TypeId)(s:S)(d:Option Tmp)(K:S->World->Prop)(u:World)(a:SV)(same:Bool):Prop:=
 match a with
 | .v a=>bif same then AtEff x P (dm src dst a) u0 u (eo s d K)else AtRead P (dm src dst a) u (eV s d u K)
 |_=>False
attribute [go_sem] Bool.false_and Bool.or_false Bool.false_or
theorem abM{src dst:TypeId}{y:Operand}:bQ P x u0 ⟨d,.convert src dst y,ty,pos,aft,g⟩ K s u=apN P x u0 src dst s d K u (s.sv y) (src==dst||(src==9&&dst==52)):=rfl
theorem akf{src dst:TypeId}{a:Value}:apN P x u0 src dst s d K u (.v a) false=AtRead P (dm src dst a) u (eV s d u K):=rfl
theorem yO{fn:Fn}{first captured:List Operand}:bQ P x u0 ⟨d,.makeFunc fn first.toArray captured.toArray,ty,pos,aft,g⟩ K s u=
  gM u0 (first++captured) s u (afe K d fn first.length):=rfl
theorem amv{fn:Fn}{n:Nat}{vs:List Value}:afe K d fn n vs s u=K (s.put d (.v (.func fn (vs.take n).toArray (vs.drop n).toArray))) u:=rfl
def alD(P:Program)(T:TypeId)(Kv:Value->Prop)(vs:Option (List (Nat×Value))):Prop:=
 match vs with
 |some vs=>AtPure P (kW T vs.toArray) Kv
 |none=>False
theorem ame{T:TypeId}{ps:List (Nat×Operand)}:bQ P x u0 ⟨d,.build T ps.toArray,ty,pos,aft,g⟩ K s u=alD P T (eV s d u K) (jx s ps):=rfl
theorem yB{T:TypeId}{Kv:Value->Prop}{vs:List (Nat×Value)}:alD P T Kv (some vs)=AtPure P (kW T vs.toArray) Kv:=rfl
def ajq(P:Program)(T:TypeId)(Kv:Value->Prop)(a:SV)(l h m:Option (Option Value)):Prop:=
 match a,l,h,m with
 | .v a,some l,some h,some m=>AtPure P (cD T a l h m) Kv
 |_,_,_,_=>False
theorem aiL{T:TypeId}{y:Operand}{lo hi mx:Option Operand}:bQ P x u0 ⟨d,.slice T y lo hi mx,ty,pos,aft,g⟩ K s u=
  ajq P T (eV s d u K) (s.sv y) (mb s lo) (mb s hi) (mb s mx):=rfl
theorem amk{T:TypeId}{Kv:Value->Prop}{a:Value}{l h m:Option Value}:ajq P T Kv (.v a) (some l) (some h) (some m)=AtPure P (cD T a l h m) Kv:=rfl
def OvK(a:SV):Option (Option Value):=
 match a with
 | .v a=>some (some a)
 |_=>none
theorem agz:mb s none=some none:=rfl
theorem af8{y:Operand}:mb s (some y)=OvK (s.sv y):=rfl
theorem ass{a:Value}:OvK (.v a)=some (some a):=rfl
def wM(d:Option Tmp)(K:S->World->Prop)(s:S)(u:World)(y:SV)(e:Option Nat):Prop:=
 match e with
 |some e=>
  match y with
  | .loc k off=>K (s.put d (.loc k (off+e))) u
  | .elt sv sz i off=>K (s.put d (.elt sv sz i (off+e))) u
  | .v (.pointer (some a))=>K (s.put d (.v (.pointer (some (a.add e))))) u
  |_=>False
 |none=>False
theorem xa{T:TypeId}{y:Operand}{f:Nat}:bQ P x u0 ⟨d,.fieldAddr T y f,ty,pos,aft,g⟩ K s u=wM d K s u (s.sv y) (aS P T f):=rfl
theorem acY{k off e:Nat}:wM d K s u (.loc k off) (some e)=K (s.put d (.loc k (off+e))) u:=rfl
theorem acZ{sv:Value}{sz off e:Nat}{i:Int}:wM d K s u (.elt sv sz i off) (some e)=K (s.put d (.elt sv sz i (off+e))) u:=rfl
theorem adV{a:Addr}{e:Nat}:wM d K s u (.v (.pointer (some a))) (some e)=K (s.put d (.v (.pointer (some (a.add e))))) u:=rfl
def asf(as:Option (Nat×Nat))(d:Option Tmp)(K:S->World->Prop)(s:S)(u:World)(y i:SV)(e:Option Nat):Prop:=
 match e,y,i with
 |some sz,.v (.slice p n c),.v (.int _ i)=>al0 p n i (K (s.put d (.elt (.slice p n c) sz i 0)) u)
 |none,.loc k off,.v (.int _ i)=>ajM d K s u k off i as
 |_,_,_=>False
theorem xJ{T:TypeId}{y z:Operand}:bQ P x u0 ⟨d,.indexAddr T y z,ty,pos,aft,g⟩ K s u=asf (asz P T) d K s u (s.sv y) (s.sv z) (esz P T):=rfl
theorem arq{p:Option Addr}{n c sz:Nat}{k:IntKind}{i:Int}{as:Option (Nat×Nat)}:asf as d K s u (.v (.slice p n c)) (.v (.int k i)) (some sz)=al0 p n i (K (s.put d (.elt (.slice p n c) sz i 0)) u):=rfl
def abq:List Value->Nat->Option Value
 |[],_=>none
 |v::_,0=>some v
 |_::r,j+1=>abq r j
theorem anU: ∀(l:List Value) (j:Nat),abq l j=l[j]?:=by
 intro l
 induction l with
 |nil=>intro j;rfl
 |cons o r ih=>intro j;cases j with
  |zero=>rfl
  |succ j=>simpa[abq]using ih j
def apF(d:Option Tmp)(K:S->World->Prop)(s:S)(u:World)(r:Option Value):Prop:=
 match r with
 |some r=>K (s.put d (.v r)) u
 |none=>False
def apy(d:Option Tmp)(K:S->World->Prop)(s:S)(u:World)(i:Nat)(y:SV):Prop:=
 match y with
 | .v (.tuple vs)=>match vs.toList[i]? with
  |some r=>K (s.put d (.v r)) u
  |none=>False
 |_=>False
theorem ada{y:Operand}{i:Nat}:bQ P x u0 ⟨d,.extract y i,ty,pos,aft,g⟩ K s u=apy d K s u i (s.sv y):=rfl
theorem anj{vs:List Value}{i:Nat}:apy d K s u i (.v (.tuple vs.toArray))=apF d K s u (abq vs i):=by
 rw[anU];rfl
theorem acX{r:Value}:apF d K s u (some r)=K (s.put d (.v r)) u:=rfl
theorem ahL{v:Value}{r:List Value}:abq (v::r) 0=some v:=rfl
theorem ah5{v:Value}{r:List Value}{j:Nat}:abq (v::r) (j+1)=abq r j:=rfl
def adQ(K:S->World->Prop)(s:S)(d:Nat)(cs:List Value)(T:TypeId)(u:World)(b:Nat):Prop:=K (addLoc s d b cs T) u
def ajZ(d:Option Tmp)(K:S->World->Prop)(s:S)(u:World)(T:TypeId)(cs:Option (List Value)):Prop:=
 match cs,d with
 |some cs,some d=>s.find d=none/\ ∀b,adQ K s d cs T u b
 |_,_=>False
theorem ajJ{T:TypeId}:bQ P x u0 ⟨d,.alloc T,ty,pos,aft,g⟩ K s u=ajZ d K s u T (cr P T):=rfl
theorem aaN{T:TypeId}{cs:List Value}{e:Nat}:ajZ (some e) K s u T (some cs)=(s.find e=none/\ ∀b,adQ K s e cs T u b):=rfl
def aoX(d:Option Tmp)(K:S->World->Prop)(s:S)(u:World)(T:TypeId)(y:SV):Prop:=
 match y,d with
 | .v a,some d=>s.find d=none/\ ∀b,adQ K s d a.cells.toList T u b
 |_,_=>False
theorem aqk{T:TypeId}{y:Operand}:bQ P x u0 ⟨d,.box T y,ty,pos,aft,g⟩ K s u=aoX d K s u T (s.sv y):=rfl
theorem ajg{T:TypeId}{cs:List Value}{e:Nat}:aoX (some e) K s u T (.v (.agg cs.toArray))=(s.find e=none/\ ∀b,adQ K s e cs T u b):=rfl
theorem ajs{T:TypeId}{k:IntKind}{n:Int}{e:Nat}:aoX (some e) K s u T (.v (.int k n))=(s.find e=none/\ ∀b,adQ K s e [.int k n] T u b):=rfl
theorem acD{T:TypeId}{p:Option Addr}{n c:Nat}{e:Nat}:aoX (some e) K s u T (.v (.slice p n c))=(s.find e=none/\ ∀b,adQ K s e [.slice p n c] T u b):=rfl
theorem anv{ρ:List (Nat×SV)}{σ:List (Nat×Loc)}{e b:Nat}{cs:List Value}{T:TypeId}:adQ K ⟨ρ,σ⟩ e cs T u b=K ⟨(e,.loc e 0)::ρ,(e,⟨b,cs,T⟩)::σ⟩ u:=rfl
def aon(d:Option Tmp)(K:S->World->Prop)(s:S)(u:World)(k off:Nat)(vs:List Value)(l:Option Loc)(e:Option (Bool×Nat)):Prop:=
 match l,e with
 |some l,some (_,n)=>vs.length=n/\off+n<=l.cells.length/\bk vs=true/\K (setLoc s k l (splice l.cells off vs) d) u
 |_,_=>False
def amO(P:Program)(b:Bool)(u0:World)(T:TypeId)(d:Option Tmp)(K:S->World->Prop)(s:S)(u:World)(y z:SV):Prop:=
 match z with
 | .v a=>
  match y with
  | .loc k off=>aon d K s u k off a.cells.toList (s.find k) (lay P T)
  | .v p=>AtDo b P (fU T p a) u0 u (kR s d K)
  | .elt sv sz i off=>match bO sv sz i off with
   |some ad=>AtDo b P (fU T (.pointer (some ad)) a) u0 u (kR s d K)
   |none=>False
  | .unk=>False
 |_=>False
theorem akA{T:TypeId}{y z:Operand}:bQ P x u0 ⟨d,.store T y z,ty,pos,aft,g⟩ K s u=amO P x u0 T d K s u (s.sv y) (s.sv z):=by
 show gg P x u0 T (s.sv y) (s.sv z) d K s u=_;unfold gg amO aon;cases s.sv z with
 |v a=>
  cases s.sv y with
  |loc k off=>simp only[];cases s.find k<;>cases lay P T<;>rfl
  |_=>rfl
 |_=>rfl
theorem akI{T:TypeId}{k off:Nat}{a:Value}:amO P x u0 T d K s u (.loc k off) (.v a)=aon d K s u k off a.cells.toList (s.find k) (lay P T):=rfl
theorem agY{ρ:List (Nat×SV)}{σ:List (Nat×Loc)}{k off n b:Nat}{cs vs:List Value}{T:TypeId}{ag:Bool}:
  aon none K ⟨ρ,σ⟩ u k off vs (some ⟨b,cs,T⟩) (some (ag,n))=(vs.length=n/\off+n<=cs.length/\bk vs=true/\K ⟨ρ,(k,⟨b,splice cs off vs,T⟩)::σ⟩ u):=rfl
def sU(b:Bool)(P:Program)(u0:World)(T:TypeId)(sv:Value)(sz:Nat)(i:Int)(off:Nat)(a:Value)(u:World)(K:World->Prop):Prop:=
 match bO sv sz i off with
 |some ad=>AtDo b P (fU T (.pointer (some ad)) a) u0 u K
 |none=>False
theorem aml{T:TypeId}{sv a:Value}{sz off:Nat}{i:Int}:amO P x u0 T d K s u (.elt sv sz i off) (.v a)=sU x P u0 T sv sz i off a u (kR s d K):=rfl
def asp(P:Program)(x:Bool)(u0 u:World)(Ke:Value->World->Prop)(e:List (Nat×Value)->Sem Value)(vs:Option (List (Nat×Value))):Prop:=
 match vs with
 |some vs=>AtEff x P (e vs) u0 u Ke
 |none=>False
theorem t9{T:TypeId}{n:Nat}{ps:List (Nat×Operand)}:bQ P x u0 ⟨d,.buildSlice T n ps.toArray,ty,pos,aft,g⟩ K s u=
  asp P x u0 u (eo s d K) (fun vs=>rH T n vs.toArray) (jx s ps):=rfl
theorem aiz{Ke:Value->World->Prop}{e:List (Nat×Value)->Sem Value}{vs:List (Nat×Value)}:asp P x u0 u Ke e (some vs)=AtEff x P (e vs) u0 u Ke:=rfl
def apu(P:Program)(x:Bool)(u0 u:World)(Ke:Value->World->Prop)(e:Value->Value->Sem Value)(y z:SV):Prop:=
 match y,z with
 | .v a,.v b=>AtEff x P (e a b) u0 u Ke
 |_,_=>False
theorem xl{T:TypeId}{y z:Operand}:bQ P x u0 ⟨d,.makeSlice T y z,ty,pos,aft,g⟩ K s u=apu P x u0 u (eo s d K) (qj T) (s.sv y) (s.sv z):=rfl
theorem aoe{Ke:Value->World->Prop}{e:Value->Value->Sem Value}{a b:Value}:apu P x u0 u Ke e (.v a) (.v b)=AtEff x P (e a b) u0 u Ke:=rfl
def arT(P:Program)(x:Bool)(u0 u:World)(Ke:Value->World->Prop)(e:Option Value->Sem Value)(y:Option (Option Value)):Prop:=
 match y with
 |some a=>AtEff x P (e a) u0 u Ke
 |none=>False
theorem adt{T:TypeId}{r:Option Operand}:bQ P x u0 ⟨d,.makeMap T r,ty,pos,aft,g⟩ K s u=arT P x u0 u (eo s d K) (xv T) (mb s r):=rfl
theorem ahA{Ke:Value->World->Prop}{e:Option Value->Sem Value}{a:Option Value}:arT P x u0 u Ke e (some a)=AtEff x P (e a) u0 u Ke:=rfl
def ar_(P:Program)(x:Bool)(u0 u:World)(Kw:World->Prop)(e:Value->Value->Value->Sem Unit)(y z t:SV):Prop:=
 match y,z,t with
 | .v a,.v b,.v c=>AtDo x P (e a b c) u0 u Kw
 |_,_,_=>False
theorem agn{T:TypeId}{y z t:Operand}:bQ P x u0 ⟨d,.insert T y z t,ty,pos,aft,g⟩ K s u=ar_ P x u0 u (kR s d K) (nu T) (s.sv y) (s.sv z) (s.sv t):=rfl
theorem aqo{Kw:World->Prop}{e:Value->Value->Value->Sem Unit}{a b c:Value}:ar_ P x u0 u Kw e (.v a) (.v b) (.v c)=AtDo x P (e a b c) u0 u Kw:=rfl
def amh(P:Program)(u:World)(Kv:Value->Prop)(e:List Value->Sem Value)(vs:Option (List Value)):Prop:=
 match vs with
 |some vs=>AtRead P (e vs) u Kv
 |none=>False
def amT(P:Program)(x:Bool)(u0 u:World)(Ke:Value->World->Prop)(e:List Value->Sem Value)(vs:Option (List Value)):Prop:=
 match vs with
 |some vs=>AtEff x P (e vs) u0 u Ke
 |none=>False
theorem aet{Kv:Value->Prop}{e:List Value->Sem Value}{vs:List Value}:amh P u Kv e (some vs)=AtRead P (e vs) u Kv:=rfl
theorem agx{Ke:Value->World->Prop}{e:List Value->Sem Value}{vs:List Value}:amT P x u0 u Ke e (some vs)=AtEff x P (e vs) u0 u Ke:=rfl
variable {args:List Operand} {tys:Array TypeId}
def akq(P:Program)(Kv:Value->Prop)(e:List Value->Sem Value)(vs:Option (List Value)):Prop:=
 match vs with
 |some vs=>AtPure P (e vs) Kv
 |none=>False
theorem aec{Kv:Value->Prop}{e:List Value->Sem Value}{vs:List Value}:akq P Kv e (some vs)=AtPure P (e vs) Kv:=rfl
theorem apV:bQ P x u0 ⟨d,.call ⟨.builtin .len,args.toArray,tys⟩,ty,pos,aft,g⟩ K s u=amh P u (eV s d u K) (fun vs=>rA tys ty vs.toArray) (vals s args):=rfl
theorem aqv:bQ P x u0 ⟨d,.call ⟨.builtin .cap,args.toArray,tys⟩,ty,pos,aft,g⟩ K s u=amh P u (eV s d u K) (fun vs=>xI tys ty vs.toArray) (vals s args):=rfl
theorem arp:bQ P x u0 ⟨d,.call ⟨.builtin .min,args.toArray,tys⟩,ty,pos,aft,g⟩ K s u=akq P (eV s d u K) (fun vs=>wS tys ty vs.toArray) (vals s args):=rfl
theorem ap3:bQ P x u0 ⟨d,.call ⟨.builtin .max,args.toArray,tys⟩,ty,pos,aft,g⟩ K s u=akq P (eV s d u K) (fun vs=>wZ tys ty vs.toArray) (vals s args):=rfl
theorem ait:bQ P x u0 ⟨d,.call ⟨.builtin .append,args.toArray,tys⟩,ty,pos,aft,g⟩ K s u=amT P x u0 u (eo s d K) (fun vs=>i3 tys ty vs.toArray) (vals s args):=rfl
theorem apm:bQ P x u0 ⟨d,.call ⟨.builtin .copy,args.toArray,tys⟩,ty,pos,aft,g⟩ K s u=amT P x u0 u (eo s d K) (fun vs=>kQ tys ty vs.toArray) (vals s args):=rfl
theorem aj1:bQ P x u0 ⟨d,.call ⟨.builtin .clear,args.toArray,tys⟩,ty,pos,aft,g⟩ K s u=amT P x u0 u (eo s d K) (fun vs=>rI tys ty vs.toArray) (vals s args):=rfl
def apg(P:Program)(x:Bool)(u0:World)(args:List Operand)(d:Option Tmp)(K:S->World->Prop)(s:S)(u:World)(f:SV):Prop:=
 match f with
 | .v (.func (.func g) first captured)=>gM u0 args s u (v_ x P u0 g first.toList captured.toList K d)
 | .v fv=>gM u0 args s u (sO x P u0 fv K d)
 |_=>False
theorem amI{f:Operand}:bQ P x u0 ⟨d,.call ⟨.value f,args.toArray,tys⟩,ty,pos,aft,g⟩ K s u=apg P x u0 args d K s u (s.sv f):=by
 show nc P x u0 ⟨.value f,args.toArray,tys⟩ ty d K s u=_;unfold nc apg;simp only[];cases s.sv f with
 |v y=>cases y with
  |func fn first captured=>cases fn<;>rfl
  |_=>rfl
 |_=>rfl
theorem aim{f:FuncId}{first captured:List Value}:apg P x u0 args d K s u (.v (.func (.func f) first.toArray captured.toArray))=gM u0 args s u (v_ x P u0 f first captured K d):=rfl
theorem al7{f:FuncId}{first captured vs:List Value}:v_ x P u0 f first captured K d vs s u=AtCall x P f (first++vs++captured) u0 u (eo s d K):=rfl
end
theorem tf{ρ:List (Nat×SV)}{σ:List (Nat×Loc)}{t:Nat}:(S.mk ρ σ).sv (.tmp t)=(lk ρ t).getD .unk:=rfl
theorem yM{v:Value}:s.sv (.const v)= .v v:=rfl
theorem aok{f:Nat}:s.sv (.func f)= .v (.func (.func f) #[] #[]):=rfl
theorem arj{ρ:List (Nat×SV)}{σ:List (Nat×Loc)}{t:Nat}:(S.mk ρ σ).get t=(lk ρ t).getD .unk:=rfl
theorem anZ{ρ:List (Nat×SV)}{σ:List (Nat×Loc)}{k:Nat}:(S.mk ρ σ).find k=lk σ k:=rfl
theorem nX{ρ:List (Nat×SV)}{σ:List (Nat×Loc)}{d:Nat}{y:SV}:(S.mk ρ σ).put (some d) y=⟨(d,y)::ρ,σ⟩:=rfl
theorem alv{y:SV}:s.put none y=s:=rfl
theorem aro{α:Type}{t:Nat}:lk ([]:List (Nat×α)) t=none:=rfl
theorem xw{α:Type}{t:Nat}{y:α}{r:List (Nat×α)}:lk ((t,y)::r) t=some y:=aw
theorem aoW{α:Type}{k t:Nat}{y:α}{r:List (Nat×α)}(h:(k==t)=false):lk ((k,y)::r) t=lk r t:=aj (by simpa using h)
theorem arW{y:Value}:s.val (.v y)=some y:=rfl
theorem alj:vals s []=some []:=rfl
def VsK(a:SV)(r:Option (List Value)):Option (List Value):=
 match a with
 | .v a=>match r with
  |some vs=>some (a::vs)
  |none=>none
 |_=>none
theorem ahU{y:Operand}{r:List Operand}:vals s (y::r)=VsK (s.sv y) (vals s r):=rfl
theorem arU{a:Value}{vs:List Value}:VsK (.v a) (some vs)=some (a::vs):=rfl
theorem ahv:jx s []=some []:=rfl
def PsK(i:Nat)(a:SV)(r:Option (List (Nat×Value))):Option (List (Nat×Value)):=
 match a with
 | .v a=>match r with
  |some vs=>some ((i,a)::vs)
  |none=>none
 |_=>none
theorem acu{i:Nat}{y:Operand}{r:List (Nat×Operand)}:jx s ((i,y)::r)=PsK i (s.sv y) (jx s r):=rfl
theorem ar9{i:Nat}{a:Value}{vs:List (Nat×Value)}:PsK i (.v a) (some vs)=some ((i,a)::vs):=rfl
theorem alf{Kp:List Value->S->World->Prop}:gM u0 [] s u Kp=Kp [] s u:=rfl
def aoy(u0:World)(k off:Nat)(r:List Operand)(s:S)(u:World)(Kp:List Value->S->World->Prop)(l:Option Loc):Prop:=
 match l with
 | some l=> ∀u',Sub u u'->Fresh u l.b->Fresh u0 l.b->u'.heap[l.b]? =some (.cells l.cells.toArray l.T (0,0))->(∀b',b'≠l.b->Fresh u b'->Fresh u' b')->
   gM u0 r (s.pub k l.b) u' (qY (.pointer (some ⟨l.b,off,none⟩)) Kp)
 |none=>False
def anw(u0:World)(r:List Operand)(s:S)(u:World)(Kp:List Value->S->World->Prop)(y:SV):Prop:=
 match y with
 | .v a=>gM u0 r s u (qY a Kp)
 | .loc k off=>aoy u0 k off r s u Kp (s.find k)
 |_=>False
theorem ag1{y:Operand}{r:List Operand}{Kp:List Value->S->World->Prop}:gM u0 (y::r) s u Kp=anw u0 r s u Kp (s.sv y):=by grind [gM,anw,aoy]
theorem aqX{r:List Operand}{Kp:List Value->S->World->Prop}{a:Value}:anw u0 r s u Kp (.v a)=gM u0 r s u (qY a Kp):=rfl
theorem alM{r:List Operand}{Kp:List Value->S->World->Prop}{k off:Nat}:anw u0 r s u Kp (.loc k off)=aoy u0 k off r s u Kp (s.find k):=rfl
theorem agG{r:List Operand}{Kp:List Value->S->World->Prop}{k off b:Nat}{cs:List Value}{T:TypeId}:aoy u0 k off r s u Kp (some ⟨b,cs,T⟩)=
  ∀u',Sub u u'->Fresh u b->Fresh u0 b->u'.heap[b]? =some (.cells cs.toArray T (0,0))->(∀b',b'≠b->Fresh u b'->Fresh u' b')->gM u0 r (s.pub k b) u' (qY (.pointer (some ⟨b,off,none⟩)) Kp):=rfl
theorem amo{a:Value}{vs:List Value}{Kp:List Value->S->World->Prop}:qY a Kp vs s u=Kp (a::vs) s u:=rfl
theorem aqF{ρ:List (Nat×SV)}{σ:List (Nat×Loc)}{k b:Nat}:(S.mk ρ σ).pub k b=⟨abw k b ρ,nV k σ⟩:=rfl
def bh(k:IntKind)(z:Int)(Kv:Value->Prop):Prop:=Kv (.int k (k.wrap z))
theorem aK{e:Sem Value}{Kv:Value->Prop}{r:Value}(h: ∀w,e.run P w= .ok r w):AtPure P e Kv=Kv r:=by
 apply propext;constructor
 ·rintro⟨r',h',hk⟩
  have:=h' default;rw[h default]at this;cases this;exact hk
 ·intro hk;exact⟨r,h,hk⟩
theorem lM{e:Sem Value}{Kv:Value->Prop}{r:Value}(h: ∀w,e.run P w= .ok r w):AtRead P e u Kv=Kv r:=by
 apply propext;constructor
 ·rintro⟨r',h',hk⟩
  have:=h' u (Sub.refl u);rw[h u]at this;cases this;exact hk
 ·intro hk;exact⟨r,fun w _=>h w,hk⟩
section
variable {k:IntKind} {T:TypeId} {y z:Operand} {a b:Int} {Kv:Value->Prop}
theorem xX:AtPure P (bA .add T y z (.int k a) (.int k b)) Kv=bh k (a+b) Kv:=aK fun w=>by simp[bA,eqGuard,binOp,Op.intArith]
theorem anN:AtPure P (bA .sub T y z (.int k a) (.int k b)) Kv=bh k (a-b) Kv:=aK fun w=>by simp[bA,eqGuard,binOp,Op.intArith]
theorem aot:AtPure P (bA .mul T y z (.int k a) (.int k b)) Kv=bh k (a*b) Kv:=aK fun w=>by simp[bA,eqGuard,binOp,Op.intArith]
theorem wJ:AtPure P (bA .lss T y z (.int k a) (.int k b)) Kv=Kv (.bool (decide (a<b))):=aK fun w=>by simp[bA,eqGuard,binOp,Op.intCmp]
theorem anx:AtPure P (bA .leq T y z (.int k a) (.int k b)) Kv=Kv (.bool (decide (a<=b))):=aK fun w=>by simp[bA,eqGuard,binOp,Op.intCmp]
theorem anq:AtPure P (bA .gtr T y z (.int k a) (.int k b)) Kv=Kv (.bool (decide (b<a))):=aK fun w=>by simp[bA,eqGuard,binOp,Op.intCmp]
theorem ang:AtPure P (bA .geq T y z (.int k a) (.int k b)) Kv=Kv (.bool (decide (b<=a))):=aK fun w=>by simp[bA,eqGuard,binOp,Op.intCmp]
theorem am8:AtPure P (bA .eql T y z (.int k a) (.int k b)) Kv=Kv (.bool (a==b)):=aK fun w=>by simp[bA,eqGuard,binOp,Op.intCmp]
theorem anS:AtPure P (bA .neq T y z (.int k a) (.int k b)) Kv=Kv (.bool (a !=b)):=aK fun w=>by simp[bA,eqGuard,binOp,Op.intCmp]
theorem aqV{t:Bool}:AtPure P (iUn .not (.bool t)) Kv=Kv (.bool (!t)):=aK fun w=>by simp[iUn,Op.unary]
theorem dL(h: -9223372036854775808<=a/\a<=9223372036854775807):bh .i64 a Kv=Kv (.int .i64 a):=by unfold bh;rw[IntWalk.i64_in a h]
theorem zy(h:0<=a/\a<=255):bh .u8 a Kv=Kv (.int .u8 a):=by unfold bh;rw[IntWalk.u8_in a h]
theorem agr(h:0<=a/\a<=65535):bh .u16 a Kv=Kv (.int .u16 a):=by unfold bh;rw[IntWalk.u16_in a h]
theorem agb(h:0<=a/\a<=4294967295):bh .u32 a Kv=Kv (.int .u32 a):=by unfold bh;rw[IntWalk.u32_in a h]
theorem jh(h:0<=a/\a<=18446744073709551615):bh .u64 a Kv=Kv (.int .u64 a):=by unfold bh;rw[IntWalk.u64_in a h]
def ek(P:Program)(T:TypeId):Bool:=
 match P.underlying T with
 |some (.slice _)=>true
 |_=>false
theorem lF(h:ek P T=true): ∃e,P.underlying T=some (.slice e):=by grind [ek]
def ma(P:Program)(T:TypeId):Option IntKind:=
 match P.underlying T with
 |some (.int k)=>some k
 |_=>none
theorem jB{k':IntKind}(h:ma P T=some k'):P.underlying T=some (.int k'):=by grind [ma]
def ajD(k:Option IntKind)(P:Program)(src dst:TypeId)(v:Value)(a:Int)(u:World)(Kv:Value->Prop)(ks:Option IntKind):Prop:=
 match ks,k with
 |some _,some k=>bh k a Kv
 |_,_=>AtRead P (dm src dst v) u Kv
theorem akb{src dst:TypeId}:AtRead P (dm src dst (.int k a)) u Kv=ajD (ma P dst) P src dst (.int k a) a u Kv (ma P src):=by
 unfold ajD;split
 ·rename_i k1 k' hs hd;exact lM fun w=>by simp[dm,convert,run_underlying (jB hs),run_underlying (jB hd),Conv.intToInt]
 ·rfl
theorem aep{src dst:TypeId}{v:Value}{k' k2:IntKind}:ajD (some k') P src dst v a u Kv (some k2)=bh k' a Kv:=rfl
theorem gT{p:Option Addr}{n c:Nat}{ty:TypeId}(h:ek P T=true):AtRead P (rA #[T] ty #[.slice p n c]) u Kv=Kv (.int .i64 n):=by
 obtain⟨e,hs⟩:=lF h;exact lM fun w=>by simp[rA,Builtin.len_,run_underlying hs,goInt]
theorem oD{p:Option Addr}{n c:Nat}{ty:TypeId}(h:ek P T=true):AtRead P (xI #[T] ty #[.slice p n c]) u Kv=Kv (.int .i64 c):=by
 obtain⟨e,hs⟩:=lF h;exact lM fun w=>by simp[xI,Builtin.cap_,run_underlying hs,goInt]
theorem tS{s:ByteArray}{ty:TypeId}(hs:P.underlying T=some .string):AtRead P (rA #[T] ty #[.string s]) u Kv=Kv (.int .i64 s.size):=
 lM fun w=>by simp[rA,Builtin.len_,run_underlying hs,goInt]
theorem anO{tys:Array TypeId}{ty:TypeId}:AtPure P (wS tys ty #[.int k a,.int k b]) Kv=Kv (.int k (if b<a then b else a)):=
 aK fun w=>by simp[wS,Builtin.min_,Builtin.min2]
theorem ao_{tys:Array TypeId}{ty:TypeId}:AtPure P (wZ tys ty #[.int k a,.int k b]) Kv=Kv (.int k (if a<b then b else a)):=
 aK fun w=>by simp[wZ,Builtin.max_,Builtin.max2]
theorem ajQ{c d:Bool}(hs:P.underlying T=some .bool):AtPure P (bA .neq T y z (.bool c) (.bool d)) Kv=Kv (.bool (!(c==d))):=
 aK fun w=>by simp only[bA,eqGuard,Sem.run_bind,Sem.run_pure,Result.andThen_ok,Bool.not_true,Bool.false_eq_true,if_false,run_neq_bool w T c d hs]
theorem mu{p:Option Addr}{n c:Nat}(h:ek P T=true):AtPure P (bA .eql T y z (.slice p n c) (.slice none 0 0)) Kv=Kv (.bool p.isNone):=by
 obtain⟨e,hs⟩:=lF h;exact aK fun w=>by simp only[bA,eqGuard,Sem.run_bind,Sem.run_pure,Result.andThen_ok,Bool.not_true,Bool.false_eq_true,if_false,binOp,Op.equal,Op.maxDepth,run_equalIn_slice_nil w 9999 T e p n c hs]
theorem my{p:Option Addr}{n c:Nat}(h:ek P T=true):AtPure P (bA .neq T y z (.slice p n c) (.slice none 0 0)) Kv=Kv (.bool (!p.isNone)):=by
 obtain⟨e,hs⟩:=lF h;exact aK fun w=>by simp only[bA,eqGuard,Sem.run_bind,Sem.run_pure,Result.andThen_ok,Bool.not_true,Bool.false_eq_true,if_false,run_neq_slice_nil w T e p n c hs]
end
end
attribute [go_sem] afh aq8 afC pf amS apZ afg qT pX ahF aap alA agj ur abJ ql uk acm ab9 yS alY oI j0 aie acH cS ak4 aiD ae7 acR y_ aac abp abt nw amq aab ae0 afO ao1 aoK aoU ahk ahe ahT afL ahd xt anA anJ adg aem asj arH abM akf yO amv ame yB aiL amk agz af8 ass xa acY acZ adV xJ arq ada anj acX ahL ah5 ajJ aaN aqk ajg ajs acD anv akA akI agY aml t9 aiz xl aoe adt ahA agn aqo aet aec agx apV aqv arp ap3 ait apm aj1 amI aim al7 tf yM aok arj anZ nX alv aro xw aoW arW alj ahU arU ahv acu ar9 alf ag1 aqX alM agG amo aqF abw j5 nV fJ acO ac9 adC xS acB ab4 aeo aaF ajn amc ite_true splice xX anN aot wJ anx anq ang am8 anS aqV ajQ mu my akb aep gT oD tS anO ao_ bk Value.oneCell' Value.cells List.nil_append List.cons_append List.append_nil List.drop_zero List.drop_succ_cons List.drop_nil List.take_zero List.take_succ_cons List.take_nil List.headD_cons List.length_cons List.length_nil Option.getD_some Option.getD_none Option.map_some Option.isNone_none Option.isNone_some Option.isSome_some Nat.zero_add Nat.add_zero Nat.le_refl cond_true cond_false Bool.true_and Bool.and_true Bool.not_true Bool.not_false and_true true_and eq_self true_implies ge_iff_le
structure Lf2(q:Prop):Prop where
 out:q
theorem vs_{p q:Prop}(k:q)(e:Lf2 q->p:=by intro k;(simp only[go_sem,bF,bc,bw,bl,Nat.reduceBEq,Nat.reduceAdd,Nat.reduceLeDiff,Nat.reduceEqDiff,Int.reduceAdd,Int.reduceBEq,Int.reduceBNe,reduceCtorEq,beq_self_eq_true,Bool.true_beq,Bool.false_beq];repeat ((with_reducible refine amz ?_);simp only[go_sem,bF,bc,bw,bl,Nat.reduceBEq,Nat.reduceAdd,Nat.reduceLeDiff,Nat.reduceEqDiff,Int.reduceAdd,Int.reduceBEq,Int.reduceBNe,reduceCtorEq,beq_self_eq_true,Bool.true_beq,Bool.false_beq]));exact k.out):p:=e ⟨k⟩
structure GSpan where
 a:Int
 b:Int
deriving DecidableEq
def GSpan.enc(x:GSpan):List Value:=[.int .i32 x.a,.int .i32 x.b]
def GSpan.val(x:GSpan):Value:=.agg #[.int .i32 x.a,.int .i32 x.b]
theorem GSpan.cells(x:GSpan):x.val.cells.toList=x.enc:=rfl
structure GDesc where
 node:UInt8
 inc:UInt16
 age:UInt8
 filter:List GSpan
deriving DecidableEq
theorem ajN{x y:GSpan}:(x.a==y.a&&(x.b==y.b))=decide (x=y):=by
 rw[Bool.eq_iff_iff];simp only[Bool.and_eq_true,beq_iff_eq,decide_eq_true_eq];cases x;cases y;simp
attribute [go_sem] ajN
theorem cH(x y:UInt8):((x.toNat:Int)==(y.toNat:Int))=decide (x=y):=by
 rw[Bool.eq_iff_iff];simp only[beq_iff_eq,decide_eq_true_eq];rw[<-UInt8.toNat_inj];omega
theorem ed(x y:UInt16):((x.toNat:Int)==(y.toNat:Int))=decide (x=y):=by
 rw[Bool.eq_iff_iff];simp only[beq_iff_eq,decide_eq_true_eq];rw[<-UInt16.toNat_inj];omega
theorem qB(x y:UInt16):((x.toNat:Int) !=(y.toNat:Int))= !decide (x=y):=by rw[<-ed];rfl
theorem wB(x:UInt16):((x.toNat:Int)==0)=decide (x=0):=ed x 0
theorem iM(x y:UInt8):((x.toNat:Int)<(y.toNat:Int))↔x<y:=by rw[UInt8.lt_iff_toNat_lt];omega
theorem ar1(x y:UInt8):((x.toNat:Int)<=(y.toNat:Int))↔x<=y:=by rw[UInt8.le_iff_toNat_le];omega
theorem gH(x y:UInt16):((x.toNat:Int)<(y.toNat:Int))↔x<y:=by rw[UInt16.lt_iff_toNat_lt];omega
def okS(s:GSpan):Prop:= -2147483648<=s.a/\s.a<=2147483647/\ -2147483648<=s.b/\s.b<=2147483647
def mZ(s:GSpan):GSpan:=if s.b<s.a then ⟨1,0⟩else s
def iC(s:GSpan):Bool:=decide (s.b<s.a)
def fM(x y:GSpan):GSpan:=⟨if x.a<y.a then y.a else x.a,if y.b<x.b then y.b else x.b⟩
def am5(x y:GSpan):Bool:=iC y||(decide (x.a<=y.a)&&decide (y.b<=x.b))
def sLen(s:GSpan):Nat:=if s.b<s.a then 0 else min (s.b-s.a+1).toNat 4294967295
theorem oL(s:GSpan):((mZ s).a==1&&((mZ s).b==0))=iC s:=by grind [iC,mZ]
theorem aaf{x y:GSpan}(hx:okS x)(hy:okS y):okS (fM x y):=by grind [okS,fM]
