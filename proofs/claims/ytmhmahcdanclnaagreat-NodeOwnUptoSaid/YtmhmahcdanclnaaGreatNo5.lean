import Derived.Test.YtmhmahcdanclnaaGreatNo4
import Derived.Laws.Cover3
set_option linter.unusedSectionVars false
set_option linter.unusedSimpArgs false
set_option linter.unusedVariables false
set_option maxRecDepth 10000
namespace Go.Eng
section
variable {P:Program} {u0 u:World} {Q:Exit->S->World->Prop} {s:S} {K:S->World->Prop}
theorem aeN:vc P u0 .skip Q s u=Q .normal s u:=rfl
theorem arn:vc P u0 .ret Q s u=Q .ret s u:=rfl
theorem afv{id:Nat}:vc P u0 (.exit id) Q s u=Q (.exit id) s u:=rfl
theorem o4{id:Nat}{l:List Oper}:vc P u0 (.region id l.toArray false) Q s u=mu P u0 l (Q .normal) l s u:=rfl
theorem aon{id:Nat}{l:List Oper}:vc P u0 (.region id l.toArray true) Q s u=adf P u0 l.toArray (Q .normal) s u:=rfl
theorem aru{x y:Code}:vc P u0 (.seq x y) Q s u=vc P u0 x (aoX P u0 y Q) s u:=rfl
def ku(c:SV)(s:S)(u:World)(P:Program)(u0:World)(x y:Code)(Q:Exit->S->World->Prop):Prop:=
 match c with
 | .v (.bool t)=>(t=true->vc P u0 x Q s u)/\(t=false->vc P u0 y Q s u)
 |_=>False
theorem afN{c:Operand}{x y:Code}:vc P u0 (.cond c x y) Q s u=ku (s.sv c) s u P u0 x y Q:=rfl
theorem tY{x y:Code}:ku (.v (.bool true)) s u P u0 x y Q=vc P u0 x Q s u:=by simp[ku]
theorem pH{x y:Code}:ku (.v (.bool false)) s u P u0 x y Q=vc P u0 y Q s u:=by simp[ku]
theorem afZ{x y:Code}{t:Bool}:ku (.v (.bool (!t))) s u P u0 x y Q=ku (.v (.bool t)) s u P u0 y x Q:=by
 cases t<;>simp[ku]
theorem re{x y:Code}{p:Prop}[Decidable p](h1:p->vc P u0 x Q s u)(h2: ¬p->vc P u0 y Q s u):ku (.v (.bool (decide p))) s u P u0 x y Q:=
 ⟨fun h=>h1 (of_decide_eq_true h),fun h=>h2 (of_decide_eq_false h)⟩
theorem qy{x y:Code}{a b:Int}(h1:a=b->vc P u0 x Q s u)(h2:a≠b->vc P u0 y Q s u):ku (.v (.bool (a==b))) s u P u0 x y Q:=
 ⟨fun h=>h1 (by simpa using h),fun h=>h2 (by simpa using h)⟩
theorem afo{x y:Code}{a b:Int}(h1:a≠b->vc P u0 x Q s u)(h2:a=b->vc P u0 y Q s u):ku (.v (.bool (a !=b))) s u P u0 x y Q:=
 ⟨fun h=>h1 (by simpa using h),fun h=>h2 (by simpa using h)⟩
theorem bI{id:Nat}{x y:Code}:vc P u0 (.block id (.seq x y)) Q s u=vc P u0 (.seq x y) (fq id Q) s u:=rfl
theorem bc{id i:Nat}{l:Array Oper}{d:Bool}:vc P u0 (.block id (.region i l d)) Q s u=vc P u0 (.region i l d) (fq id Q) s u:=by cases d<;>rfl
theorem bw{id:Nat}{c:Operand}{x y:Code}:vc P u0 (.block id (.cond c x y)) Q s u=vc P u0 (.cond c x y) (fq id Q) s u:=rfl
theorem bm{id j:Nat}{x:Code}:vc P u0 (.block id (.block j x)) Q s u=vc P u0 (.block j x) (fq id Q) s u:=rfl
theorem ug{id:Nat}:fq id Q .normal s u=LeK (Q .normal) s u:=rfl
theorem adN{id:Nat}:fq id Q .ret s u=Q .ret s u:=rfl
theorem ajD{K:S->World->Prop}(h:K s u):LeK K s u:=.inl h
theorem aaC{y:Code}:aoX P u0 y Q .normal s u=vc P u0 y Q s u:=rfl
theorem akb{y:Code}:aoX P u0 y Q .ret s u=Q .ret s u:=rfl
theorem agI{y:Code}{j:Nat}:aoX P u0 y Q (.exit j) s u=Q (.exit j) s u:=rfl
theorem ud{id:Nat}:fw id Q .normal s u=Q .normal s u:=rfl
theorem aep{id:Nat}:fw id Q .ret s u=Q .ret s u:=rfl
theorem pB{id j:Nat}:fw id Q (.exit j) s u=bif j==id then Q .normal s u else Q (.exit j) s u:=rfl
theorem wR{γ:Type}{st:γ->S}{F:γ->World->Prop}{μ:γ->Nat}{g:γ}:afF st F μ g Q .normal s u= ∃g',(st g').le s/\F g' u/\μ g'<μ g:=rfl
theorem adr{γ:Type}{st:γ->S}{F:γ->World->Prop}{μ:γ->Nat}{g:γ}{j:Nat}:afF st F μ g Q (.exit j) s u=Q (.exit j) s u:=rfl
theorem z6{rs:List ResultVar}{Post:Value->World->Prop}:af1 P rs Post .normal s u=mo Post (cN P s rs) u:=rfl
theorem akg{rs:List ResultVar}{Post:Value->World->Prop}:af1 P rs Post .ret s u=mo Post (cN P s rs) u:=rfl
theorem aeF:cN P s []=some (.tuple #[]):=rfl
theorem abV{x:ResultVar}:cN P s [x]=bX P s x:=rfl
def ap5(a b:Option Value):Option Value:=
 match a,b with
 |some a,some b=>some (.tuple #[a,b])
 |_,_=>none
def ap8(a b c:Option Value):Option Value:=
 match a,b,c with
 |some a,some b,some c=>some (.tuple #[a,b,c])
 |_,_,_=>none
theorem acw{x y:ResultVar}:cN P s [x,y]=ap5 (bX P s x) (bX P s y):=rfl
theorem wI{x y z:ResultVar}:cN P s [x,y,z]=ap8 (bX P s x) (bX P s y) (bX P s z):=rfl
theorem adL{a b:Value}:ap5 (some a) (some b)=some (.tuple #[a,b]):=rfl
theorem acL{a b c:Value}:ap8 (some a) (some b) (some c)=some (.tuple #[a,b,c]):=rfl
theorem acs{t:Nat}:bX P s (.tmp t)=s.val (s.get t):=rfl
def alA(ag:Bool)(n off:Nat)(l:Option Loc):Option Value:=
 match l with
 |some l=>if (n=1\/ag=true)/\off+n<=l.cells.length then some (ld ag n off l.cells)else none
 |none=>none
def arW(s:S)(x:SV)(l:Option (Bool×Nat)):Option Value:=
 match x,l with
 | .loc k off,some (ag,n)=>alA ag n off (s.find k)
 |_,_=>none
theorem zn{t T:Nat}:bX P s (.cell t T)=arW s (s.get t) (lay P T):=by grind [bX,arW,lay,alA]
theorem amY{k off n:Nat}{ag:Bool}:arW s (.loc k off) (some (ag,n))=alA ag n off (s.find k):=rfl
theorem alY{off b:Nat}{cs:List Value}{T:TypeId}:alA false 1 off (some ⟨b,cs,T⟩)=if off+1<=cs.length then some ((cs.drop off).headD undef)else none:=by simp[alA,ld]
theorem o7{all:List Oper}:mu P u0 all K [] s u=K s u:=rfl
theorem jP{all:List Oper}{o:Oper}{r:List Oper}:mu P u0 all K (o::r) s u=vcG P false u0 all o (mu P u0 all K r) s u:=rfl
theorem arL{x:Bool}{i:Nat}{o:Oper}:XOk m0 x i o s=True:=
 eq_true ⟨fun h=>(by cases h),fun _=>qO,fun h=>(by cases h)⟩
def uT(P:Program)(x:Bool)(u0:World)(all:List Oper)(K:S->World->Prop)(t:OT)(s:S)(u:World)(o:Option Oper):Prop:=
 match o with
 |some o=>vcG P x u0 all o (vcT P u0 all m0 K t) s u
 |none=>False
theorem aam{all:List Oper}{i:Nat}{x:Bool}{t:OT}{o:Option Oper}:(match o with
  |some o=>XOk m0 x i o s/\vcG P x u0 all o (fun s' u'=>XK m0 o s s'/\vcT P u0 all m0 K t s' u') s u
  |none=>False)=uT P x u0 all K t s u o:=by
 have h: ∀(o:Oper) (s':S),XK m0 o s s'=True:=fun o s'=>eq_true ⟨trivial,trivial⟩
 cases o<;>simp only[arL,h,true_and,uT]
theorem alc{all:List Oper}:vcT P u0 all m0 K .done s u=K s u:=rfl
theorem amI{all:List Oper}{i:Nat}{t:OT}:vcT P u0 all m0 K (.fl i t) s u=uT P false u0 all K t s u (bz all i):=aam
theorem aeK{all:List Oper}{i:Nat}{x:Bool}{t:OT}:vcT P u0 all m0 K (.eff i x t .no) s u=uT P x u0 all K t s u (bz all i):=by
 rw[<-aam (i:=i)];exact and_true _
theorem agb{ops:Array Oper}{all:List Oper}:vcT P u0 all m0 K (lin ops []) s u=K s u:=rfl
theorem adG{ops:Array Oper}{all:List Oper}{i:Nat}{x:Bool}{r:List (Nat×Bool)}:vcT P u0 all m0 K (lin ops ((i,x)::r)) s u=uT P x u0 all K (lin ops r) s u (bz all i):=by
 rw[lin];cases x<;>cases lC ops i<;>first|exact aeK|exact amI
theorem adv{all:List Oper}{x:Bool}{t:OT}{o:Oper}:uT P x u0 all K t s u (some o)=vcG P x u0 all o (vcT P u0 all m0 K t) s u:=rfl
theorem aau{o:Oper}{r:List Oper}:bz (o::r) 0=some o:=rfl
theorem abe{o:Oper}{r:List Oper}{j:Nat}:bz (o::r) (j+1)=bz r j:=rfl
theorem aee{o:Oper}{r:List Oper}:ja (o::r) 0=o.dst:=rfl
theorem adV{o:Oper}{r:List Oper}{j:Nat}:ja (o::r) (j+1)=ja r j:=rfl
def adF(want:Bool)(A B:Prop)(c:SV):Prop:=
 match c with
 | .v (.bool c)=>(c=want->A)/\(c= !want->B)
 | .v (.tuple _)=>B
 |_=>False
def adU(P:Program)(x:Bool)(u0:World)(o:Oper)(K:S->World->Prop)(s:S)(u:World)(want:Bool)(d:Option Nat):Prop:=
 match d with
 |some d=>adF want (bS P x u0 o K s u) (K (s.put o.dst (.v undef)) u) (s.get d)
 |none=>False
section
variable {x:Bool} {all:List Oper} {d:Option Tmp} {op:Op} {ty:TypeId} {pos:String} {aft:Array Edge}
theorem nM:vcG P x u0 all ⟨d,op,ty,pos,aft,none⟩ K s u=bS P x u0 ⟨d,op,ty,pos,aft,none⟩ K s u:=rfl
theorem alS{j:Nat}{b:Bool}:vcG P x u0 all ⟨d,op,ty,pos,aft,some (j,b)⟩ K s u=adU P x u0 ⟨d,op,ty,pos,aft,some (j,b)⟩ K s u b (ja all j):=by grind [vcG,adU,adF,ja]
end
def tR(P:Program)(x:Bool)(u0:World)(o:Oper)(K:S->World->Prop)(s:S)(u:World)(want:Bool)(c:SV):Prop:=
 adF want (bS P x u0 o K s u) (K (s.put o.dst (.v undef)) u) c
section
variable {x:Bool} {o:Oper} {b:Bool}
theorem yU{e:Nat}:adU P x u0 o K s u b (some e)=tR P x u0 o K s u b (s.get e):=rfl
theorem pJ{c:Bool}(h1:c=b->bS P x u0 o K s u)(h2:c= !b->K (s.put o.dst (.v undef)) u):tR P x u0 o K s u b (.v (.bool c)):=⟨h1,h2⟩
theorem ek{c:Bool}(h:c=b)(h1:bS P x u0 o K s u):tR P x u0 o K s u b (.v (.bool c)):=by subst h;exact⟨fun _=>h1,fun h=>by cases c<;>cases h⟩
theorem gr{c:Bool}(h:c= !b)(h1:K (s.put o.dst (.v undef)) u):tR P x u0 o K s u b (.v (.bool c)):=by subst h;exact⟨(fun h=>by cases b<;>cases h),fun _=>h1⟩
end
section
variable {x:Bool} {d:Option Tmp} {ty:TypeId} {pos:String} {aft:Array Edge} {g:Option (Nat×Bool)}
theorem ae5{y:Operand}:bS P x u0 ⟨d,.move y,ty,pos,aft,g⟩ K s u=K (s.put d (s.sv y)) u:=rfl
theorem aiK{y:Operand}:bS P x u0 ⟨d,.assign y,ty,pos,aft,g⟩ K s u=K (s.put d (s.sv y)) u:=rfl
def aqa(K:S->World->Prop)(s:S)(d:Option Tmp)(u:World)(y z:SV)(c:SV):Prop:=
 match c with
 | .v (.bool t)=>K (s.put d (bif t then y else z)) u
 |_=>False
theorem anh{c y z:Operand}:bS P x u0 ⟨d,.pick c y z,ty,pos,aft,g⟩ K s u=aqa K s d u (s.sv y) (s.sv z) (s.sv c):=rfl
theorem apa{y z:SV}{t:Bool}:aqa K s d u y z (.v (.bool t))=K (s.put d (bif t then y else z)) u:=rfl
def vV(K:Value->Prop)(ag:Bool)(n off:Nat)(l:Option Loc):Prop:=
 match l with
 |some l=>(n=1\/ag=true)/\off+n<=l.cells.length/\K (ld ag n off l.cells)
 |none=>False
def aeZ(K:Value->Prop)(s:S)(u:World)(y:SV)(l:Option (Bool×Nat)):Prop:=
 match l with
 |some (ag,n)=>
  match y with
  | .loc k off=>vV K ag n off (s.find k)
  | .elt sv sz i off=>afs u sv sz i ag n off K
  | .v (.pointer (some a))=>al7 u a ag n K
  |_=>False
 |none=>False
theorem anL{T:TypeId}{y:Operand}:bS P x u0 ⟨d,.load T y,ty,pos,aft,g⟩ K s u=aeZ (eY s d u K) s u (s.sv y) (lay P T):=rfl
theorem aiJ{Kv:Value->Prop}{k off n:Nat}{ag:Bool}:aeZ Kv s u (.loc k off) (some (ag,n))=vV Kv ag n off (s.find k):=rfl
theorem ag_{Kv:Value->Prop}{sv:Value}{sz off n:Nat}{i:Int}{ag:Bool}:aeZ Kv s u (.elt sv sz i off) (some (ag,n))=afs u sv sz i ag n off Kv:=rfl
theorem af9{Kv:Value->Prop}{a:Addr}{n:Nat}{ag:Bool}:aeZ Kv s u (.v (.pointer (some a))) (some (ag,n))=al7 u a ag n Kv:=rfl
theorem ag8{Kv:Value->Prop}{n off b:Nat}{cs:List Value}{T:TypeId}:vV Kv true n off (some ⟨b,cs,T⟩)=(off+n<=cs.length/\Kv (.agg ((cs.drop off).take n).toArray)):=by
 simp[vV,ld]
theorem agZ{Kv:Value->Prop}{off b:Nat}{cs:List Value}{T:TypeId}:vV Kv false 1 off (some ⟨b,cs,T⟩)=(off+1<=cs.length/\Kv ((cs.drop off).headD undef)):=by
 simp[vV,ld]
theorem wO{r:Value}:eY s d u K r=K (s.put d (.v r)) u:=rfl
theorem am8{r:Value}:eD s d K r u=K (s.put d (.v r)) u:=rfl
theorem apH:l9 s d K u=K (s.put d (.v undef)) u:=rfl
def ar5(P:Program)(op:BinOp)(T:TypeId)(y z:Operand)(Kv:Value->Prop)(a b:SV):Prop:=
 match a,b with
 | .v a,.v b=>AtPure P (bj op T y z a b) Kv
 |_,_=>False
theorem adp{op:BinOp}{T t2:TypeId}{y z:Operand}:bS P x u0 ⟨d,.binOp op T y z t2,ty,pos,aft,g⟩ K s u=ar5 P op T y z (eY s d u K) (s.sv y) (s.sv z):=rfl
theorem aen{op:BinOp}{T:TypeId}{y z:Operand}{Kv:Value->Prop}{a b:Value}:ar5 P op T y z Kv (.v a) (.v b)=AtPure P (bj op T y z a b) Kv:=rfl
def UnK(P:Program)(op:UnOp)(Kv:Value->Prop)(a:SV):Prop:=
 match a with
 | .v a=>AtPure P (iUn op a) Kv
 |_=>False
theorem ar3{op:UnOp}{T:TypeId}{y:Operand}:bS P x u0 ⟨d,.unOp op T y,ty,pos,aft,g⟩ K s u=UnK P op (eY s d u K) (s.sv y):=rfl
theorem ass{op:UnOp}{Kv:Value->Prop}{a:Value}:UnK P op Kv (.v a)=AtPure P (iUn op a) Kv:=rfl
def ap_(P:Program)(x:Bool)(u0:World)(src dst:TypeId)(s:S)(d:Option Tmp)(K:S->World->Prop)(u:World)(a:SV)(same:Bool):Prop:=
 match a with
 | .v a=>bif same then AtEff x P (dz src dst a) u0 u (eD s d K)else AtRead P (dz src dst a) u (eY s d u K)
 |_=>False
attribute [go_sem] Bool.false_and Bool.or_false Bool.false_or
theorem adJ{src dst:TypeId}{y:Operand}:bS P x u0 ⟨d,.convert src dst y,ty,pos,aft,g⟩ K s u=ap_ P x u0 src dst s d K u (s.sv y) (src==dst||(src==9&&dst==52)):=rfl
theorem alw{src dst:TypeId}{a:Value}:ap_ P x u0 src dst s d K u (.v a) false=AtRead P (dz src dst a) u (eY s d u K):=rfl
theorem aaN{fn:Fn}{first captured:List Operand}:bS P x u0 ⟨d,.makeFunc fn first.toArray captured.toArray,ty,pos,aft,g⟩ K s u=
  gM u0 (first++captured) s u (aeL K d fn first.length):=rfl
theorem akv{fn:Fn}{n:Nat}{vs:List Value}:aeL K d fn n vs s u=K (s.put d (.v (.func fn (vs.take n).toArray (vs.drop n).toArray))) u:=rfl
def amp(P:Program)(T:TypeId)(Kv:Value->Prop)(vs:Option (List (Nat×Value))):Prop:=
 match vs with
 |some vs=>AtPure P (j_ T vs.toArray) Kv
 |none=>False
theorem alM{T:TypeId}{ps:List (Nat×Operand)}:bS P x u0 ⟨d,.build T ps.toArray,ty,pos,aft,g⟩ K s u=amp P T (eY s d u K) (jl s ps):=rfl
theorem ze{T:TypeId}{Kv:Value->Prop}{vs:List (Nat×Value)}:amp P T Kv (some vs)=AtPure P (j_ T vs.toArray) Kv:=rfl
def ajg(P:Program)(T:TypeId)(Kv:Value->Prop)(a:SV)(l h m:Option (Option Value)):Prop:=
 match a,l,h,m with
 | .v a,some l,some h,some m=>AtPure P (cK T a l h m) Kv
 |_,_,_,_=>False
theorem amJ{T:TypeId}{y:Operand}{lo hi mx:Option Operand}:bS P x u0 ⟨d,.slice T y lo hi mx,ty,pos,aft,g⟩ K s u=
  ajg P T (eY s d u K) (s.sv y) (l_ s lo) (l_ s hi) (l_ s mx):=rfl
theorem alz{T:TypeId}{Kv:Value->Prop}{a:Value}{l h m:Option Value}:ajg P T Kv (.v a) (some l) (some h) (some m)=AtPure P (cK T a l h m) Kv:=rfl
def OvK(a:SV):Option (Option Value):=
 match a with
 | .v a=>some (some a)
 |_=>none
theorem ahm:l_ s none=some none:=rfl
theorem aiA{y:Operand}:l_ s (some y)=OvK (s.sv y):=rfl
theorem asQ{a:Value}:OvK (.v a)=some (some a):=rfl
def xL(d:Option Tmp)(K:S->World->Prop)(s:S)(u:World)(y:SV)(e:Option Nat):Prop:=
 match e with
 |some e=>
  match y with
  | .loc k off=>K (s.put d (.loc k (off+e))) u
  | .elt sv sz i off=>K (s.put d (.elt sv sz i (off+e))) u
  | .v (.pointer (some a))=>K (s.put d (.v (.pointer (some (a.add e))))) u
  |_=>False
 |none=>False
theorem yk{T:TypeId}{y:Operand}{f:Nat}:bS P x u0 ⟨d,.fieldAddr T y f,ty,pos,aft,g⟩ K s u=xL d K s u (s.sv y) (aT P T f):=rfl
theorem ab8{k off e:Nat}:xL d K s u (.loc k off) (some e)=K (s.put d (.loc k (off+e))) u:=rfl
theorem abC{sv:Value}{sz off e:Nat}{i:Int}:xL d K s u (.elt sv sz i off) (some e)=K (s.put d (.elt sv sz i (off+e))) u:=rfl
theorem acm{a:Addr}{e:Nat}:xL d K s u (.v (.pointer (some a))) (some e)=K (s.put d (.v (.pointer (some (a.add e))))) u:=rfl
def asi(as:Option (Nat×Nat))(d:Option Tmp)(K:S->World->Prop)(s:S)(u:World)(y i:SV)(e:Option Nat):Prop:=
 match e,y,i with
 |some sz,.v (.slice p n c),.v (.int _ i)=>ajL p n i (K (s.put d (.elt (.slice p n c) sz i 0)) u)
 |none,.loc k off,.v (.int _ i)=>ale d K s u k off i as
 |_,_,_=>False
theorem xm{T:TypeId}{y z:Operand}:bS P x u0 ⟨d,.indexAddr T y z,ty,pos,aft,g⟩ K s u=asi (asz P T) d K s u (s.sv y) (s.sv z) (esz P T):=rfl
theorem ard{p:Option Addr}{n c sz:Nat}{k:IntKind}{i:Int}{as:Option (Nat×Nat)}:asi as d K s u (.v (.slice p n c)) (.v (.int k i)) (some sz)=ajL p n i (K (s.put d (.elt (.slice p n c) sz i 0)) u):=rfl
def acT:List Value->Nat->Option Value
 |[],_=>none
 |v::_,0=>some v
 |_::r,j+1=>acT r j
theorem aoE: ∀(l:List Value) (j:Nat),acT l j=l[j]?:=by
 intro l
 induction l with
 |nil=>intro j;rfl
 |cons o r ih=>intro j;cases j with
  |zero=>rfl
  |succ j=>simpa[acT]using ih j
def aqg(d:Option Tmp)(K:S->World->Prop)(s:S)(u:World)(r:Option Value):Prop:=
 match r with
 |some r=>K (s.put d (.v r)) u
 |none=>False
def aqb(d:Option Tmp)(K:S->World->Prop)(s:S)(u:World)(i:Nat)(y:SV):Prop:=
 match y with
 | .v (.tuple vs)=>match vs.toList[i]? with
  |some r=>K (s.put d (.v r)) u
  |none=>False
 |_=>False
theorem aeD{y:Operand}{i:Nat}:bS P x u0 ⟨d,.extract y i,ty,pos,aft,g⟩ K s u=aqb d K s u i (s.sv y):=rfl
theorem an4{vs:List Value}{i:Nat}:aqb d K s u i (.v (.tuple vs.toArray))=aqg d K s u (acT vs i):=by
 rw[aoE];rfl
theorem ael{r:Value}:aqg d K s u (some r)=K (s.put d (.v r)) u:=rfl
theorem ahB{v:Value}{r:List Value}:acT (v::r) 0=some v:=rfl
theorem ahx{v:Value}{r:List Value}{j:Nat}:acT (v::r) (j+1)=acT r j:=rfl
def ach(K:S->World->Prop)(s:S)(d:Nat)(cs:List Value)(T:TypeId)(u:World)(b:Nat):Prop:=K (addLoc s d b cs T) u
def amv(d:Option Tmp)(K:S->World->Prop)(s:S)(u:World)(T:TypeId)(cs:Option (List Value)):Prop:=
 match cs,d with
 |some cs,some d=>s.find d=none/\ ∀b,ach K s d cs T u b
 |_,_=>False
theorem akS{T:TypeId}:bS P x u0 ⟨d,.alloc T,ty,pos,aft,g⟩ K s u=amv d K s u T (cx P T):=rfl
theorem aaO{T:TypeId}{cs:List Value}{e:Nat}:amv (some e) K s u T (some cs)=(s.find e=none/\ ∀b,ach K s e cs T u b):=rfl
def ana(d:Option Tmp)(K:S->World->Prop)(s:S)(u:World)(T:TypeId)(y:SV):Prop:=
 match y,d with
 | .v a,some d=>s.find d=none/\ ∀b,ach K s d a.cells.toList T u b
 |_,_=>False
theorem arS{T:TypeId}{y:Operand}:bS P x u0 ⟨d,.box T y,ty,pos,aft,g⟩ K s u=ana d K s u T (s.sv y):=rfl
theorem amQ{T:TypeId}{cs:List Value}{e:Nat}:ana (some e) K s u T (.v (.agg cs.toArray))=(s.find e=none/\ ∀b,ach K s e cs T u b):=rfl
theorem al8{T:TypeId}{k:IntKind}{n:Int}{e:Nat}:ana (some e) K s u T (.v (.int k n))=(s.find e=none/\ ∀b,ach K s e [.int k n] T u b):=rfl
theorem aec{T:TypeId}{p:Option Addr}{n c:Nat}{e:Nat}:ana (some e) K s u T (.v (.slice p n c))=(s.find e=none/\ ∀b,ach K s e [.slice p n c] T u b):=rfl
theorem aoj{ρ:List (Nat×SV)}{σ:List (Nat×Loc)}{e b:Nat}{cs:List Value}{T:TypeId}:ach K ⟨ρ,σ⟩ e cs T u b=K ⟨(e,.loc e 0)::ρ,(e,⟨b,cs,T⟩)::σ⟩ u:=rfl
def anr(d:Option Tmp)(K:S->World->Prop)(s:S)(u:World)(k off:Nat)(vs:List Value)(l:Option Loc)(e:Option (Bool×Nat)):Prop:=
 match l,e with
 |some l,some (_,n)=>vs.length=n/\off+n<=l.cells.length/\bn vs=true/\K (setLoc s k l (splice l.cells off vs) d) u
 |_,_=>False
def aoz(P:Program)(b:Bool)(u0:World)(T:TypeId)(d:Option Tmp)(K:S->World->Prop)(s:S)(u:World)(y z:SV):Prop:=
 match z with
 | .v a=>
  match y with
  | .loc k off=>anr d K s u k off a.cells.toList (s.find k) (lay P T)
  | .v p=>AtDo b P (fV T p a) u0 u (l9 s d K)
  | .elt sv sz i off=>match bP sv sz i off with
   |some ad=>AtDo b P (fV T (.pointer (some ad)) a) u0 u (l9 s d K)
   |none=>False
  | .unk=>False
 |_=>False
theorem alO{T:TypeId}{y z:Operand}:bS P x u0 ⟨d,.store T y z,ty,pos,aft,g⟩ K s u=aoz P x u0 T d K s u (s.sv y) (s.sv z):=by
 show gd P x u0 T (s.sv y) (s.sv z) d K s u=_;unfold gd aoz anr;cases s.sv z with
 |v a=>
  cases s.sv y with
  |loc k off=>simp only[];cases s.find k<;>cases lay P T<;>rfl
  |_=>rfl
 |_=>rfl
theorem amC{T:TypeId}{k off:Nat}{a:Value}:aoz P x u0 T d K s u (.loc k off) (.v a)=anr d K s u k off a.cells.toList (s.find k) (lay P T):=rfl
theorem aik{ρ:List (Nat×SV)}{σ:List (Nat×Loc)}{k off n b:Nat}{cs vs:List Value}{T:TypeId}{ag:Bool}:
  anr none K ⟨ρ,σ⟩ u k off vs (some ⟨b,cs,T⟩) (some (ag,n))=(vs.length=n/\off+n<=cs.length/\bn vs=true/\K ⟨ρ,(k,⟨b,splice cs off vs,T⟩)::σ⟩ u):=rfl
def qU(b:Bool)(P:Program)(u0:World)(T:TypeId)(sv:Value)(sz:Nat)(i:Int)(off:Nat)(a:Value)(u:World)(K:World->Prop):Prop:=
 match bP sv sz i off with
 |some ad=>AtDo b P (fV T (.pointer (some ad)) a) u0 u K
 |none=>False
theorem al5{T:TypeId}{sv a:Value}{sz off:Nat}{i:Int}:aoz P x u0 T d K s u (.elt sv sz i off) (.v a)=qU x P u0 T sv sz i off a u (l9 s d K):=rfl
def asF(P:Program)(x:Bool)(u0 u:World)(Ke:Value->World->Prop)(e:List (Nat×Value)->Sem Value)(vs:Option (List (Nat×Value))):Prop:=
 match vs with
 |some vs=>AtEff x P (e vs) u0 u Ke
 |none=>False
theorem uh{T:TypeId}{n:Nat}{ps:List (Nat×Operand)}:bS P x u0 ⟨d,.buildSlice T n ps.toArray,ty,pos,aft,g⟩ K s u=
  asF P x u0 u (eD s d K) (fun vs=>tC T n vs.toArray) (jl s ps):=rfl
theorem agB{Ke:Value->World->Prop}{e:List (Nat×Value)->Sem Value}{vs:List (Nat×Value)}:asF P x u0 u Ke e (some vs)=AtEff x P (e vs) u0 u Ke:=rfl
def aqh(P:Program)(x:Bool)(u0 u:World)(Ke:Value->World->Prop)(e:Value->Value->Sem Value)(y z:SV):Prop:=
 match y,z with
 | .v a,.v b=>AtEff x P (e a b) u0 u Ke
 |_,_=>False
theorem wX{T:TypeId}{y z:Operand}:bS P x u0 ⟨d,.makeSlice T y z,ty,pos,aft,g⟩ K s u=aqh P x u0 u (eD s d K) (pV T) (s.sv y) (s.sv z):=rfl
theorem anJ{Ke:Value->World->Prop}{e:Value->Value->Sem Value}{a b:Value}:aqh P x u0 u Ke e (.v a) (.v b)=AtEff x P (e a b) u0 u Ke:=rfl
def asg(P:Program)(x:Bool)(u0 u:World)(Ke:Value->World->Prop)(e:Option Value->Sem Value)(y:Option (Option Value)):Prop:=
 match y with
 |some a=>AtEff x P (e a) u0 u Ke
 |none=>False
theorem abX{T:TypeId}{r:Option Operand}:bS P x u0 ⟨d,.makeMap T r,ty,pos,aft,g⟩ K s u=asg P x u0 u (eD s d K) (xo T) (l_ s r):=rfl
theorem agR{Ke:Value->World->Prop}{e:Option Value->Sem Value}{a:Option Value}:asg P x u0 u Ke e (some a)=AtEff x P (e a) u0 u Ke:=rfl
def arZ(P:Program)(x:Bool)(u0 u:World)(Kw:World->Prop)(e:Value->Value->Value->Sem Unit)(y z t:SV):Prop:=
 match y,z,t with
 | .v a,.v b,.v c=>AtDo x P (e a b c) u0 u Kw
 |_,_,_=>False
theorem afY{T:TypeId}{y z t:Operand}:bS P x u0 ⟨d,.insert T y z t,ty,pos,aft,g⟩ K s u=arZ P x u0 u (l9 s d K) (mX T) (s.sv y) (s.sv z) (s.sv t):=rfl
theorem aq4{Kw:World->Prop}{e:Value->Value->Value->Sem Unit}{a b c:Value}:arZ P x u0 u Kw e (.v a) (.v b) (.v c)=AtDo x P (e a b c) u0 u Kw:=rfl
def alR(P:Program)(u:World)(Kv:Value->Prop)(e:List Value->Sem Value)(vs:Option (List Value)):Prop:=
 match vs with
 |some vs=>AtRead P (e vs) u Kv
 |none=>False
def anm(P:Program)(x:Bool)(u0 u:World)(Ke:Value->World->Prop)(e:List Value->Sem Value)(vs:Option (List Value)):Prop:=
 match vs with
 |some vs=>AtEff x P (e vs) u0 u Ke
 |none=>False
theorem acz{Kv:Value->Prop}{e:List Value->Sem Value}{vs:List Value}:alR P u Kv e (some vs)=AtRead P (e vs) u Kv:=rfl
theorem agS{Ke:Value->World->Prop}{e:List Value->Sem Value}{vs:List Value}:anm P x u0 u Ke e (some vs)=AtEff x P (e vs) u0 u Ke:=rfl
variable {args:List Operand} {tys:Array TypeId}
def al9(P:Program)(Kv:Value->Prop)(e:List Value->Sem Value)(vs:Option (List Value)):Prop:=
 match vs with
 |some vs=>AtPure P (e vs) Kv
 |none=>False
theorem aeg{Kv:Value->Prop}{e:List Value->Sem Value}{vs:List Value}:al9 P Kv e (some vs)=AtPure P (e vs) Kv:=rfl
theorem aq5:bS P x u0 ⟨d,.call ⟨.builtin .len,args.toArray,tys⟩,ty,pos,aft,g⟩ K s u=alR P u (eY s d u K) (fun vs=>sg tys ty vs.toArray) (vals s args):=rfl
theorem aqX:bS P x u0 ⟨d,.call ⟨.builtin .cap,args.toArray,tys⟩,ty,pos,aft,g⟩ K s u=alR P u (eY s d u K) (fun vs=>xR tys ty vs.toArray) (vals s args):=rfl
theorem aqI:bS P x u0 ⟨d,.call ⟨.builtin .min,args.toArray,tys⟩,ty,pos,aft,g⟩ K s u=al9 P (eY s d u K) (fun vs=>wU tys ty vs.toArray) (vals s args):=rfl
theorem aqt:bS P x u0 ⟨d,.call ⟨.builtin .max,args.toArray,tys⟩,ty,pos,aft,g⟩ K s u=al9 P (eY s d u K) (fun vs=>wJ tys ty vs.toArray) (vals s args):=rfl
theorem agU:bS P x u0 ⟨d,.call ⟨.builtin .append,args.toArray,tys⟩,ty,pos,aft,g⟩ K s u=anm P x u0 u (eD s d K) (fun vs=>iS tys ty vs.toArray) (vals s args):=rfl
theorem anf:bS P x u0 ⟨d,.call ⟨.builtin .copy,args.toArray,tys⟩,ty,pos,aft,g⟩ K s u=anm P x u0 u (eD s d K) (fun vs=>lj tys ty vs.toArray) (vals s args):=rfl
theorem ak3:bS P x u0 ⟨d,.call ⟨.builtin .clear,args.toArray,tys⟩,ty,pos,aft,g⟩ K s u=anm P x u0 u (eD s d K) (fun vs=>tH tys ty vs.toArray) (vals s args):=rfl
def aps(P:Program)(x:Bool)(u0:World)(args:List Operand)(d:Option Tmp)(K:S->World->Prop)(s:S)(u:World)(f:SV):Prop:=
 match f with
 | .v (.func (.func g) first captured)=>gM u0 args s u (uQ x P u0 g first.toList captured.toList K d)
 | .v fv=>gM u0 args s u (rF x P u0 fv K d)
 |_=>False
theorem apw{f:Operand}:bS P x u0 ⟨d,.call ⟨.value f,args.toArray,tys⟩,ty,pos,aft,g⟩ K s u=aps P x u0 args d K s u (s.sv f):=by
 show nq P x u0 ⟨.value f,args.toArray,tys⟩ ty d K s u=_;unfold nq aps;simp only[];cases s.sv f with
 |v y=>cases y with
  |func fn first captured=>cases fn<;>rfl
  |_=>rfl
 |_=>rfl
theorem ahA{f:FuncId}{first captured:List Value}:aps P x u0 args d K s u (.v (.func (.func f) first.toArray captured.toArray))=gM u0 args s u (uQ x P u0 f first captured K d):=rfl
theorem amc{f:FuncId}{first captured vs:List Value}:uQ x P u0 f first captured K d vs s u=AtCall x P f (first++vs++captured) u0 u (eD s d K):=rfl
end
theorem sS{ρ:List (Nat×SV)}{σ:List (Nat×Loc)}{t:Nat}:(S.mk ρ σ).sv (.tmp t)=(lk ρ t).getD .unk:=rfl
theorem yI{v:Value}:s.sv (.const v)= .v v:=rfl
theorem aoq{f:Nat}:s.sv (.func f)= .v (.func (.func f) #[] #[]):=rfl
theorem aqn{ρ:List (Nat×SV)}{σ:List (Nat×Loc)}{t:Nat}:(S.mk ρ σ).get t=(lk ρ t).getD .unk:=rfl
theorem ao4{ρ:List (Nat×SV)}{σ:List (Nat×Loc)}{k:Nat}:(S.mk ρ σ).find k=lk σ k:=rfl
theorem nw{ρ:List (Nat×SV)}{σ:List (Nat×Loc)}{d:Nat}{y:SV}:(S.mk ρ σ).put (some d) y=⟨(d,y)::ρ,σ⟩:=rfl
theorem amq{y:SV}:s.put none y=s:=rfl
theorem art{α:Type}{t:Nat}:lk ([]:List (Nat×α)) t=none:=rfl
theorem wY{α:Type}{t:Nat}{y:α}{r:List (Nat×α)}:lk ((t,y)::r) t=some y:=ax
theorem aoB{α:Type}{k t:Nat}{y:α}{r:List (Nat×α)}(h:(k==t)=false):lk ((k,y)::r) t=lk r t:=aj (by simpa using h)
theorem asK{y:Value}:s.val (.v y)=some y:=rfl
theorem akK:vals s []=some []:=rfl
def VsK(a:SV)(r:Option (List Value)):Option (List Value):=
 match a with
 | .v a=>match r with
  |some vs=>some (a::vs)
  |none=>none
 |_=>none
theorem ag2{y:Operand}{r:List Operand}:vals s (y::r)=VsK (s.sv y) (vals s r):=rfl
theorem asn{a:Value}{vs:List Value}:VsK (.v a) (some vs)=some (a::vs):=rfl
theorem ahu:jl s []=some []:=rfl
def PsK(i:Nat)(a:SV)(r:Option (List (Nat×Value))):Option (List (Nat×Value)):=
 match a with
 | .v a=>match r with
  |some vs=>some ((i,a)::vs)
  |none=>none
 |_=>none
theorem acZ{i:Nat}{y:Operand}{r:List (Nat×Operand)}:jl s ((i,y)::r)=PsK i (s.sv y) (jl s r):=rfl
theorem asC{i:Nat}{a:Value}{vs:List (Nat×Value)}:PsK i (.v a) (some vs)=some ((i,a)::vs):=rfl
theorem amx{Kp:List Value->S->World->Prop}:gM u0 [] s u Kp=Kp [] s u:=rfl
def aoZ(u0:World)(k off:Nat)(r:List Operand)(s:S)(u:World)(Kp:List Value->S->World->Prop)(l:Option Loc):Prop:=
 match l with
 | some l=> ∀u',Sub u u'->Fresh u l.b->Fresh u0 l.b->u'.heap[l.b]? =some (.cells l.cells.toArray l.T (0,0))->(∀b',b'≠l.b->Fresh u b'->Fresh u' b')->
   gM u0 r (s.pub k l.b) u' (s6 (.pointer (some ⟨l.b,off,none⟩)) Kp)
 |none=>False
def ao8(u0:World)(r:List Operand)(s:S)(u:World)(Kp:List Value->S->World->Prop)(y:SV):Prop:=
 match y with
 | .v a=>gM u0 r s u (s6 a Kp)
 | .loc k off=>aoZ u0 k off r s u Kp (s.find k)
 |_=>False
theorem aga{y:Operand}{r:List Operand}{Kp:List Value->S->World->Prop}:gM u0 (y::r) s u Kp=ao8 u0 r s u Kp (s.sv y):=by grind [gM,ao8,aoZ]
theorem aqk{r:List Operand}{Kp:List Value->S->World->Prop}{a:Value}:ao8 u0 r s u Kp (.v a)=gM u0 r s u (s6 a Kp):=rfl
theorem aj8{r:List Operand}{Kp:List Value->S->World->Prop}{k off:Nat}:ao8 u0 r s u Kp (.loc k off)=aoZ u0 k off r s u Kp (s.find k):=rfl
theorem agC{r:List Operand}{Kp:List Value->S->World->Prop}{k off b:Nat}{cs:List Value}{T:TypeId}:aoZ u0 k off r s u Kp (some ⟨b,cs,T⟩)=
  ∀u',Sub u u'->Fresh u b->Fresh u0 b->u'.heap[b]? =some (.cells cs.toArray T (0,0))->(∀b',b'≠b->Fresh u b'->Fresh u' b')->gM u0 r (s.pub k b) u' (s6 (.pointer (some ⟨b,off,none⟩)) Kp):=rfl
theorem amd{a:Value}{vs:List Value}{Kp:List Value->S->World->Prop}:s6 a Kp vs s u=Kp (a::vs) s u:=rfl
theorem aqu{ρ:List (Nat×SV)}{σ:List (Nat×Loc)}{k b:Nat}:(S.mk ρ σ).pub k b=⟨adx k b ρ,n_ k σ⟩:=rfl
def bg(k:IntKind)(z:Int)(Kv:Value->Prop):Prop:=Kv (.int k (k.wrap z))
theorem aG{e:Sem Value}{Kv:Value->Prop}{r:Value}(h: ∀w,e.run P w= .ok r w):AtPure P e Kv=Kv r:=by
 apply propext;constructor
 ·rintro⟨r',h',hk⟩
  have:=h' default;rw[h default]at this;cases this;exact hk
 ·intro hk;exact⟨r,h,hk⟩
theorem lz{e:Sem Value}{Kv:Value->Prop}{r:Value}(h: ∀w,e.run P w= .ok r w):AtRead P e u Kv=Kv r:=by
 apply propext;constructor
 ·rintro⟨r',h',hk⟩
  have:=h' u (Sub.refl u);rw[h u]at this;cases this;exact hk
 ·intro hk;exact⟨r,fun w _=>h w,hk⟩
section
variable {k:IntKind} {T:TypeId} {y z:Operand} {a b:Int} {Kv:Value->Prop}
theorem xq:AtPure P (bj .add T y z (.int k a) (.int k b)) Kv=bg k (a+b) Kv:=aG fun w=>by simp[bj,eqGuard,binOp,Op.intArith]
theorem aos:AtPure P (bj .sub T y z (.int k a) (.int k b)) Kv=bg k (a-b) Kv:=aG fun w=>by simp[bj,eqGuard,binOp,Op.intArith]
theorem aoG:AtPure P (bj .mul T y z (.int k a) (.int k b)) Kv=bg k (a*b) Kv:=aG fun w=>by simp[bj,eqGuard,binOp,Op.intArith]
theorem wF:AtPure P (bj .lss T y z (.int k a) (.int k b)) Kv=Kv (.bool (decide (a<b))):=aG fun w=>by simp[bj,eqGuard,binOp,Op.intCmp]
theorem aoR:AtPure P (bj .leq T y z (.int k a) (.int k b)) Kv=Kv (.bool (decide (a<=b))):=aG fun w=>by simp[bj,eqGuard,binOp,Op.intCmp]
theorem aoU:AtPure P (bj .gtr T y z (.int k a) (.int k b)) Kv=Kv (.bool (decide (b<a))):=aG fun w=>by simp[bj,eqGuard,binOp,Op.intCmp]
theorem anc:AtPure P (bj .geq T y z (.int k a) (.int k b)) Kv=Kv (.bool (decide (b<=a))):=aG fun w=>by simp[bj,eqGuard,binOp,Op.intCmp]
theorem apc:AtPure P (bj .eql T y z (.int k a) (.int k b)) Kv=Kv (.bool (a==b)):=aG fun w=>by simp[bj,eqGuard,binOp,Op.intCmp]
theorem aoL:AtPure P (bj .neq T y z (.int k a) (.int k b)) Kv=Kv (.bool (a !=b)):=aG fun w=>by simp[bj,eqGuard,binOp,Op.intCmp]
theorem arI{t:Bool}:AtPure P (iUn .not (.bool t)) Kv=Kv (.bool (!t)):=aG fun w=>by simp[iUn,Op.unary]
theorem dR(h: -9223372036854775808<=a/\a<=9223372036854775807):bg .i64 a Kv=Kv (.int .i64 a):=by unfold bg;rw[IntWalk.i64_in a h]
theorem aaU(h:0<=a/\a<=255):bg .u8 a Kv=Kv (.int .u8 a):=by unfold bg;rw[IntWalk.u8_in a h]
theorem ago(h:0<=a/\a<=65535):bg .u16 a Kv=Kv (.int .u16 a):=by unfold bg;rw[IntWalk.u16_in a h]
theorem agG(h:0<=a/\a<=4294967295):bg .u32 a Kv=Kv (.int .u32 a):=by unfold bg;rw[IntWalk.u32_in a h]
theorem jf(h:0<=a/\a<=18446744073709551615):bg .u64 a Kv=Kv (.int .u64 a):=by unfold bg;rw[IntWalk.u64_in a h]
def ey(P:Program)(T:TypeId):Bool:=
 match P.underlying T with
 |some (.slice _)=>true
 |_=>false
theorem lG(h:ey P T=true): ∃e,P.underlying T=some (.slice e):=by grind [ey]
def ma(P:Program)(T:TypeId):Option IntKind:=
 match P.underlying T with
 |some (.int k)=>some k
 |_=>none
theorem jA{k':IntKind}(h:ma P T=some k'):P.underlying T=some (.int k'):=by grind [ma]
def akP(k:Option IntKind)(P:Program)(src dst:TypeId)(v:Value)(a:Int)(u:World)(Kv:Value->Prop)(ks:Option IntKind):Prop:=
 match ks,k with
 |some _,some k=>bg k a Kv
 |_,_=>AtRead P (dz src dst v) u Kv
theorem ajW{src dst:TypeId}:AtRead P (dz src dst (.int k a)) u Kv=akP (ma P dst) P src dst (.int k a) a u Kv (ma P src):=by
 unfold akP;split
 ·rename_i k1 k' hs hd;exact lz fun w=>by simp[dz,convert,run_underlying (jA hs),run_underlying (jA hd),Conv.intToInt]
 ·rfl
theorem adt{src dst:TypeId}{v:Value}{k' k2:IntKind}:akP (some k') P src dst v a u Kv (some k2)=bg k' a Kv:=rfl
theorem gR{p:Option Addr}{n c:Nat}{ty:TypeId}(h:ey P T=true):AtRead P (sg #[T] ty #[.slice p n c]) u Kv=Kv (.int .i64 n):=by
 obtain⟨e,hs⟩:=lG h;exact lz fun w=>by simp[sg,Builtin.len_,run_underlying hs,goInt]
theorem oz{p:Option Addr}{n c:Nat}{ty:TypeId}(h:ey P T=true):AtRead P (xR #[T] ty #[.slice p n c]) u Kv=Kv (.int .i64 c):=by
 obtain⟨e,hs⟩:=lG h;exact lz fun w=>by simp[xR,Builtin.cap_,run_underlying hs,goInt]
theorem tP{s:ByteArray}{ty:TypeId}(hs:P.underlying T=some .string):AtRead P (sg #[T] ty #[.string s]) u Kv=Kv (.int .i64 s.size):=
 lz fun w=>by simp[sg,Builtin.len_,run_underlying hs,goInt]
theorem anb{tys:Array TypeId}{ty:TypeId}:AtPure P (wU tys ty #[.int k a,.int k b]) Kv=Kv (.int k (if b<a then b else a)):=
 aG fun w=>by simp[wU,Builtin.min_,Builtin.min2]
theorem an9{tys:Array TypeId}{ty:TypeId}:AtPure P (wJ tys ty #[.int k a,.int k b]) Kv=Kv (.int k (if a<b then b else a)):=
 aG fun w=>by simp[wJ,Builtin.max_,Builtin.max2]
theorem amf{c d:Bool}(hs:P.underlying T=some .bool):AtPure P (bj .eql T y z (.bool c) (.bool d)) Kv=Kv (.bool (c==d)):=
 aG fun w=>by simp only[bj,eqGuard,Sem.run_bind,Sem.run_pure,Result.andThen_ok,Bool.not_true,Bool.false_eq_true,if_false,run_eql_bool w T c d hs]
theorem ai7{c d:Bool}(hs:P.underlying T=some .bool):AtPure P (bj .neq T y z (.bool c) (.bool d)) Kv=Kv (.bool (!(c==d))):=
 aG fun w=>by simp only[bj,eqGuard,Sem.run_bind,Sem.run_pure,Result.andThen_ok,Bool.not_true,Bool.false_eq_true,if_false,run_neq_bool w T c d hs]
theorem my{p:Option Addr}{n c:Nat}(h:ey P T=true):AtPure P (bj .eql T y z (.slice p n c) (.slice none 0 0)) Kv=Kv (.bool p.isNone):=by
 obtain⟨e,hs⟩:=lG h;exact aG fun w=>by simp only[bj,eqGuard,Sem.run_bind,Sem.run_pure,Result.andThen_ok,Bool.not_true,Bool.false_eq_true,if_false,binOp,Op.equal,Op.maxDepth,run_equalIn_slice_nil w 9999 T e p n c hs]
theorem mA{p:Option Addr}{n c:Nat}(h:ey P T=true):AtPure P (bj .neq T y z (.slice p n c) (.slice none 0 0)) Kv=Kv (.bool (!p.isNone)):=by
 obtain⟨e,hs⟩:=lG h;exact aG fun w=>by simp only[bj,eqGuard,Sem.run_bind,Sem.run_pure,Result.andThen_ok,Bool.not_true,Bool.false_eq_true,if_false,run_neq_slice_nil w T e p n c hs]
end
end
attribute [go_sem] aeN arn afv o4 aon aru afN tY pH afZ aaC akb agI ud aep pB ug adN adr z6 akg o7 jP agb adG cY alc amI aeK adv aau abe aee adV nM alS yU ae5 aiK anh apa anL aiJ ag_ af9 ag8 agZ wO am8 apH adp aen ar3 ass adJ alw aaN akv alM ze amJ alz ahm aiA asQ yk ab8 abC acm xm ard aeD an4 ael ahB ahx akS aaO arS amQ al8 aec aoj alO amC aik al5 uh agB wX anJ abX agR afY aq4 acz aeg agS aq5 aqX aqI aqt agU anf ak3 apw ahA amc sS yI aoq aqn ao4 nw amq art wY aoB asK akK ag2 asn ahu acZ asC amx aga aqk aj8 agC amd aqu adx jW n_ fJ aeF abV acw wI adL acL acs zn amY alY ite_true splice xq aos aoG wF aoR aoU anc apc aoL arI amf ai7 my mA ajW adt gR oz tP anb an9 bn Value.oneCell' Value.cells List.nil_append List.cons_append List.append_nil List.drop_zero List.drop_succ_cons List.drop_nil List.take_zero List.take_succ_cons List.take_nil List.headD_cons List.length_cons List.length_nil Option.getD_some Option.getD_none Option.map_some Option.isNone_none Option.isNone_some Option.isSome_some Nat.zero_add Nat.add_zero Nat.le_refl cond_true cond_false Bool.true_and Bool.and_true Bool.not_true Bool.not_false and_true true_and eq_self true_implies ge_iff_le
structure Lf2(q:Prop):Prop where
 out:q
theorem vs_{p q:Prop}(k:q)(e:Lf2 q->p:=by intro k;(simp only[go_sem,bI,bc,bw,bm,Nat.reduceBEq,Nat.reduceAdd,Nat.reduceLeDiff,Nat.reduceEqDiff,Int.reduceAdd,Int.reduceBEq,Int.reduceBNe,reduceCtorEq,beq_self_eq_true,Bool.true_beq,Bool.false_beq];repeat ((with_reducible refine ajD ?_);simp only[go_sem,bI,bc,bw,bm,Nat.reduceBEq,Nat.reduceAdd,Nat.reduceLeDiff,Nat.reduceEqDiff,Int.reduceAdd,Int.reduceBEq,Int.reduceBNe,reduceCtorEq,beq_self_eq_true,Bool.true_beq,Bool.false_beq]));exact k.out):p:=e ⟨k⟩
structure GSpan where
 a:Int
 b:Int
deriving DecidableEq
def GSpan.enc(x:GSpan):List Value:=[.int .i32 x.a,.int .i32 x.b]
def GSpan.val(x:GSpan):Value:=.agg #[.int .i32 x.a,.int .i32 x.b]
theorem GSpan.cells(x:GSpan):x.val.cells.toList=x.enc:=rfl
structure GDesc where
 node:UInt8
 inc:UInt16
 age:UInt8
 filter:List GSpan
deriving DecidableEq
theorem amn{x y:GSpan}:(x.a==y.a&&(x.b==y.b))=decide (x=y):=by
 rw[Bool.eq_iff_iff];simp only[Bool.and_eq_true,beq_iff_eq,decide_eq_true_eq];cases x;cases y;simp
attribute [go_sem] amn
theorem ch(x y:UInt8):((x.toNat:Int)==(y.toNat:Int))=decide (x=y):=by
 rw[Bool.eq_iff_iff];simp only[beq_iff_eq,decide_eq_true_eq];rw[<-UInt8.toNat_inj];omega
theorem dW(x y:UInt16):((x.toNat:Int)==(y.toNat:Int))=decide (x=y):=by
 rw[Bool.eq_iff_iff];simp only[beq_iff_eq,decide_eq_true_eq];rw[<-UInt16.toNat_inj];omega
theorem lH(x y:UInt16):((x.toNat:Int) !=(y.toNat:Int))= !decide (x=y):=by rw[<-dW];rfl
theorem xN(x:UInt16):((x.toNat:Int)==0)=decide (x=0):=dW x 0
theorem iN(x y:UInt8):((x.toNat:Int)<(y.toNat:Int))↔x<y:=by rw[UInt8.lt_iff_toNat_lt];omega
theorem asj(x y:UInt8):((x.toNat:Int)<=(y.toNat:Int))↔x<=y:=by rw[UInt8.le_iff_toNat_le];omega
theorem gD(x y:UInt16):((x.toNat:Int)<(y.toNat:Int))↔x<y:=by rw[UInt16.lt_iff_toNat_lt];omega
def okS(s:GSpan):Prop:= -2147483648<=s.a/\s.a<=2147483647/\ -2147483648<=s.b/\s.b<=2147483647
def mO(s:GSpan):GSpan:=if s.b<s.a then ⟨1,0⟩else s
def iF(s:GSpan):Bool:=decide (s.b<s.a)
def fK(x y:GSpan):GSpan:=⟨if x.a<y.a then y.a else x.a,if y.b<x.b then y.b else x.b⟩
def aof(x y:GSpan):Bool:=iF y||(decide (x.a<=y.a)&&decide (y.b<=x.b))
def sLen(s:GSpan):Nat:=if s.b<s.a then 0 else min (s.b-s.a+1).toNat 4294967295
theorem o_(s:GSpan):((mO s).a==1&&((mO s).b==0))=iF s:=by grind [iF,mO]
theorem aaI{x y:GSpan}(hx:okS x)(hy:okS y):okS (fK x y):=by grind [okS,fK]
