import Derived.Test.YtmhmahcdanclnaaGreatNr4
import Derived.Laws.Cover3
set_option linter.unusedSectionVars false
set_option linter.unusedSimpArgs false
set_option linter.unusedVariables false
set_option maxRecDepth 10000
namespace Go.Eng
section
variable {P:Program} {u0 u:World} {Q:Exit->S->World->Prop} {s:S} {K:S->World->Prop}
theorem afx:vc P u0 .skip Q s u=Q .normal s u:=rfl
theorem aqX:vc P u0 .ret Q s u=Q .ret s u:=rfl
theorem afe{id:Nat}:vc P u0 (.exit id) Q s u=Q (.exit id) s u:=rfl
theorem oO{id:Nat}{l:List Oper}:vc P u0 (.region id l.toArray false) Q s u=mG P u0 l (Q .normal) l s u:=rfl
theorem anp{id:Nat}{l:List Oper}:vc P u0 (.region id l.toArray true) Q s u=adV P u0 l.toArray (Q .normal) s u:=rfl
theorem aqU{x y:Code}:vc P u0 (.seq x y) Q s u=vc P u0 x (anA P u0 y Q) s u:=rfl
def kO(c:SV)(s:S)(u:World)(P:Program)(u0:World)(x y:Code)(Q:Exit->S->World->Prop):Prop:=
 match c with
 | .v (.bool t)=>(t=true->vc P u0 x Q s u)/\(t=false->vc P u0 y Q s u)
 |_=>False
theorem afH{c:Operand}{x y:Code}:vc P u0 (.cond c x y) Q s u=kO (s.sv c) s u P u0 x y Q:=rfl
theorem tp{x y:Code}:kO (.v (.bool true)) s u P u0 x y Q=vc P u0 x Q s u:=by simp[kO]
theorem pH{x y:Code}:kO (.v (.bool false)) s u P u0 x y Q=vc P u0 y Q s u:=by simp[kO]
theorem agq{x y:Code}{t:Bool}:kO (.v (.bool (!t))) s u P u0 x y Q=kO (.v (.bool t)) s u P u0 y x Q:=by
 cases t<;>simp[kO]
theorem tQ{x y:Code}{p:Prop}[Decidable p](h1:p->vc P u0 x Q s u)(h2: ¬p->vc P u0 y Q s u):kO (.v (.bool (decide p))) s u P u0 x y Q:=
 ⟨fun h=>h1 (of_decide_eq_true h),fun h=>h2 (of_decide_eq_false h)⟩
theorem qG{x y:Code}{a b:Int}(h1:a=b->vc P u0 x Q s u)(h2:a≠b->vc P u0 y Q s u):kO (.v (.bool (a==b))) s u P u0 x y Q:=
 ⟨fun h=>h1 (by simpa using h),fun h=>h2 (by simpa using h)⟩
theorem aeT{x y:Code}{a b:Int}(h1:a≠b->vc P u0 x Q s u)(h2:a=b->vc P u0 y Q s u):kO (.v (.bool (a !=b))) s u P u0 x y Q:=
 ⟨fun h=>h1 (by simpa using h),fun h=>h2 (by simpa using h)⟩
theorem bL{id:Nat}{x y:Code}:vc P u0 (.block id (.seq x y)) Q s u=vc P u0 (.seq x y) (fD id Q) s u:=rfl
theorem bh{id i:Nat}{l:Array Oper}{d:Bool}:vc P u0 (.block id (.region i l d)) Q s u=vc P u0 (.region i l d) (fD id Q) s u:=by cases d<;>rfl
theorem bC{id:Nat}{c:Operand}{x y:Code}:vc P u0 (.block id (.cond c x y)) Q s u=vc P u0 (.cond c x y) (fD id Q) s u:=rfl
theorem bn{id j:Nat}{x:Code}:vc P u0 (.block id (.block j x)) Q s u=vc P u0 (.block j x) (fD id Q) s u:=rfl
theorem ua{id:Nat}:fD id Q .normal s u=LeK (Q .normal) s u:=rfl
theorem acd{id:Nat}:fD id Q .ret s u=Q .ret s u:=rfl
theorem aiV{K:S->World->Prop}(h:K s u):LeK K s u:=.inl h
theorem zj{y:Code}:anA P u0 y Q .normal s u=vc P u0 y Q s u:=rfl
theorem ajL{y:Code}:anA P u0 y Q .ret s u=Q .ret s u:=rfl
theorem aib{y:Code}{j:Nat}:anA P u0 y Q (.exit j) s u=Q (.exit j) s u:=rfl
theorem t9{id:Nat}:fI id Q .normal s u=Q .normal s u:=rfl
theorem aew{id:Nat}:fI id Q .ret s u=Q .ret s u:=rfl
theorem qp{id j:Nat}:fI id Q (.exit j) s u=bif j==id then Q .normal s u else Q (.exit j) s u:=rfl
theorem xl{γ:Type}{st:γ->S}{F:γ->World->Prop}{μ:γ->Nat}{g:γ}:aff st F μ g Q .normal s u= ∃g',(st g').le s/\F g' u/\μ g'<μ g:=rfl
theorem adF{γ:Type}{st:γ->S}{F:γ->World->Prop}{μ:γ->Nat}{g:γ}{j:Nat}:aff st F μ g Q (.exit j) s u=Q (.exit j) s u:=rfl
theorem aas{rs:List ResultVar}{Post:Value->World->Prop}:af8 P rs Post .normal s u=mB Post (cH P s rs) u:=rfl
theorem ajd{rs:List ResultVar}{Post:Value->World->Prop}:af8 P rs Post .ret s u=mB Post (cH P s rs) u:=rfl
theorem adn:cH P s []=some (.tuple #[]):=rfl
theorem aeH{x:ResultVar}:cH P s [x]=cd P s x:=rfl
def apA(a b:Option Value):Option Value:=
 match a,b with
 |some a,some b=>some (.tuple #[a,b])
 |_,_=>none
def apC(a b c:Option Value):Option Value:=
 match a,b,c with
 |some a,some b,some c=>some (.tuple #[a,b,c])
 |_,_,_=>none
theorem adI{x y:ResultVar}:cH P s [x,y]=apA (cd P s x) (cd P s y):=rfl
theorem xo{x y z:ResultVar}:cH P s [x,y,z]=apC (cd P s x) (cd P s y) (cd P s z):=rfl
theorem ado{a b:Value}:apA (some a) (some b)=some (.tuple #[a,b]):=rfl
theorem aci{a b c:Value}:apC (some a) (some b) (some c)=some (.tuple #[a,b,c]):=rfl
theorem abN{t:Nat}:cd P s (.tmp t)=s.val (s.get t):=rfl
def amW(ag:Bool)(n off:Nat)(l:Option Loc):Option Value:=
 match l with
 |some l=>if (n=1\/ag=true)/\off+n<=l.cells.length then some (ld ag n off l.cells)else none
 |none=>none
def arw(s:S)(x:SV)(l:Option (Bool×Nat)):Option Value:=
 match x,l with
 | .loc k off,some (ag,n)=>amW ag n off (s.find k)
 |_,_=>none
theorem z0{t T:Nat}:cd P s (.cell t T)=arw s (s.get t) (lay P T):=by grind [cd,arw,lay,amW]
theorem alT{k off n:Nat}{ag:Bool}:arw s (.loc k off) (some (ag,n))=amW ag n off (s.find k):=rfl
theorem ai_{off b:Nat}{cs:List Value}{T:TypeId}:amW false 1 off (some ⟨b,cs,T⟩)=if off+1<=cs.length then some ((cs.drop off).headD undef)else none:=by simp[amW,ld]
theorem oM{all:List Oper}:mG P u0 all K [] s u=K s u:=rfl
theorem j5{all:List Oper}{o:Oper}{r:List Oper}:mG P u0 all K (o::r) s u=vcG P false u0 all o (mG P u0 all K r) s u:=rfl
theorem aqJ{x:Bool}{i:Nat}{o:Oper}:XOk m0 x i o s=True:=
 eq_true ⟨fun h=>(by cases h),fun _=>qE,fun h=>(by cases h)⟩
def u7(P:Program)(x:Bool)(u0:World)(all:List Oper)(K:S->World->Prop)(t:OT)(s:S)(u:World)(o:Option Oper):Prop:=
 match o with
 |some o=>vcG P x u0 all o (vcT P u0 all m0 K t) s u
 |none=>False
theorem zq{all:List Oper}{i:Nat}{x:Bool}{t:OT}{o:Option Oper}:(match o with
  |some o=>XOk m0 x i o s/\vcG P x u0 all o (fun s' u'=>XK m0 o s s'/\vcT P u0 all m0 K t s' u') s u
  |none=>False)=u7 P x u0 all K t s u o:=by
 have h: ∀(o:Oper) (s':S),XK m0 o s s'=True:=fun o s'=>eq_true ⟨trivial,trivial⟩
 cases o<;>simp only[aqJ,h,true_and,u7]
theorem alr{all:List Oper}:vcT P u0 all m0 K .done s u=K s u:=rfl
theorem alu{all:List Oper}{i:Nat}{t:OT}:vcT P u0 all m0 K (.fl i t) s u=u7 P false u0 all K t s u (bD all i):=zq
theorem afg{all:List Oper}{i:Nat}{x:Bool}{t:OT}:vcT P u0 all m0 K (.eff i x t .no) s u=u7 P x u0 all K t s u (bD all i):=by
 rw[<-zq (i:=i)];exact and_true _
theorem aiE{ops:Array Oper}{all:List Oper}:vcT P u0 all m0 K (lin ops []) s u=K s u:=rfl
theorem acB{ops:Array Oper}{all:List Oper}{i:Nat}{x:Bool}{r:List (Nat×Bool)}:vcT P u0 all m0 K (lin ops ((i,x)::r)) s u=u7 P x u0 all K (lin ops r) s u (bD all i):=by
 rw[lin];cases x<;>cases lM ops i<;>first|exact afg|exact alu
theorem ad3{all:List Oper}{x:Bool}{t:OT}{o:Oper}:u7 P x u0 all K t s u (some o)=vcG P x u0 all o (vcT P u0 all m0 K t) s u:=rfl
theorem z7{o:Oper}{r:List Oper}:bD (o::r) 0=some o:=rfl
theorem abd{o:Oper}{r:List Oper}{j:Nat}:bD (o::r) (j+1)=bD r j:=rfl
theorem adm{o:Oper}{r:List Oper}:jq (o::r) 0=o.dst:=rfl
theorem acN{o:Oper}{r:List Oper}{j:Nat}:jq (o::r) (j+1)=jq r j:=rfl
def abH(want:Bool)(A B:Prop)(c:SV):Prop:=
 match c with
 | .v (.bool c)=>(c=want->A)/\(c= !want->B)
 | .v (.tuple _)=>B
 |_=>False
def acI(P:Program)(x:Bool)(u0:World)(o:Oper)(K:S->World->Prop)(s:S)(u:World)(want:Bool)(d:Option Nat):Prop:=
 match d with
 |some d=>abH want (bV P x u0 o K s u) (K (s.put o.dst (.v undef)) u) (s.get d)
 |none=>False
section
variable {x:Bool} {all:List Oper} {d:Option Tmp} {op:Op} {ty:TypeId} {pos:String} {aft:Array Edge}
theorem oA:vcG P x u0 all ⟨d,op,ty,pos,aft,none⟩ K s u=bV P x u0 ⟨d,op,ty,pos,aft,none⟩ K s u:=rfl
theorem alz{j:Nat}{b:Bool}:vcG P x u0 all ⟨d,op,ty,pos,aft,some (j,b)⟩ K s u=acI P x u0 ⟨d,op,ty,pos,aft,some (j,b)⟩ K s u b (jq all j):=by grind [vcG,acI,abH,jq]
end
def sY(P:Program)(x:Bool)(u0:World)(o:Oper)(K:S->World->Prop)(s:S)(u:World)(want:Bool)(c:SV):Prop:=
 abH want (bV P x u0 o K s u) (K (s.put o.dst (.v undef)) u) c
section
variable {x:Bool} {o:Oper} {b:Bool}
theorem yZ{e:Nat}:acI P x u0 o K s u b (some e)=sY P x u0 o K s u b (s.get e):=rfl
theorem pQ{c:Bool}(h1:c=b->bV P x u0 o K s u)(h2:c= !b->K (s.put o.dst (.v undef)) u):sY P x u0 o K s u b (.v (.bool c)):=⟨h1,h2⟩
theorem ed{c:Bool}(h:c=b)(h1:bV P x u0 o K s u):sY P x u0 o K s u b (.v (.bool c)):=by subst h;exact⟨fun _=>h1,fun h=>by cases c<;>cases h⟩
theorem gk{c:Bool}(h:c= !b)(h1:K (s.put o.dst (.v undef)) u):sY P x u0 o K s u b (.v (.bool c)):=by subst h;exact⟨(fun h=>by cases b<;>cases h),fun _=>h1⟩
end
section
variable {x:Bool} {d:Option Tmp} {ty:TypeId} {pos:String} {aft:Array Edge} {g:Option (Nat×Bool)}
theorem afp{y:Operand}:bV P x u0 ⟨d,.move y,ty,pos,aft,g⟩ K s u=K (s.put d (s.sv y)) u:=rfl
theorem agp{y:Operand}:bV P x u0 ⟨d,.assign y,ty,pos,aft,g⟩ K s u=K (s.put d (s.sv y)) u:=rfl
def apY(K:S->World->Prop)(s:S)(d:Option Tmp)(u:World)(y z:SV)(c:SV):Prop:=
 match c with
 | .v (.bool t)=>K (s.put d (bif t then y else z)) u
 |_=>False
theorem aoR{c y z:Operand}:bV P x u0 ⟨d,.pick c y z,ty,pos,aft,g⟩ K s u=apY K s d u (s.sv y) (s.sv z) (s.sv c):=rfl
theorem anz{y z:SV}{t:Bool}:apY K s d u y z (.v (.bool t))=K (s.put d (bif t then y else z)) u:=rfl
def uW(K:Value->Prop)(ag:Bool)(n off:Nat)(l:Option Loc):Prop:=
 match l with
 |some l=>(n=1\/ag=true)/\off+n<=l.cells.length/\K (ld ag n off l.cells)
 |none=>False
def afL(K:Value->Prop)(s:S)(u:World)(y:SV)(l:Option (Bool×Nat)):Prop:=
 match l with
 |some (ag,n)=>
  match y with
  | .loc k off=>uW K ag n off (s.find k)
  | .elt sv sz i off=>aeJ u sv sz i ag n off K
  | .v (.pointer (some a))=>ajI u a ag n K
  |_=>False
 |none=>False
theorem aoI{T:TypeId}{y:Operand}:bV P x u0 ⟨d,.load T y,ty,pos,aft,g⟩ K s u=afL (fb s d u K) s u (s.sv y) (lay P T):=rfl
theorem ahb{Kv:Value->Prop}{k off n:Nat}{ag:Bool}:afL Kv s u (.loc k off) (some (ag,n))=uW Kv ag n off (s.find k):=rfl
theorem ah3{Kv:Value->Prop}{sv:Value}{sz off n:Nat}{i:Int}{ag:Bool}:afL Kv s u (.elt sv sz i off) (some (ag,n))=aeJ u sv sz i ag n off Kv:=rfl
theorem ag7{Kv:Value->Prop}{a:Addr}{n:Nat}{ag:Bool}:afL Kv s u (.v (.pointer (some a))) (some (ag,n))=ajI u a ag n Kv:=rfl
theorem ag9{Kv:Value->Prop}{n off b:Nat}{cs:List Value}{T:TypeId}:uW Kv true n off (some ⟨b,cs,T⟩)=(off+n<=cs.length/\Kv (.agg ((cs.drop off).take n).toArray)):=by
 simp[uW,ld]
theorem ahC{Kv:Value->Prop}{off b:Nat}{cs:List Value}{T:TypeId}:uW Kv false 1 off (some ⟨b,cs,T⟩)=(off+1<=cs.length/\Kv ((cs.drop off).headD undef)):=by
 simp[uW,ld]
theorem xc{r:Value}:fb s d u K r=K (s.put d (.v r)) u:=rfl
theorem anB{r:Value}:eD s d K r u=K (s.put d (.v r)) u:=rfl
theorem aoC:mm s d K u=K (s.put d (.v undef)) u:=rfl
def arL(P:Program)(op:BinOp)(T:TypeId)(y z:Operand)(Kv:Value->Prop)(a b:SV):Prop:=
 match a,b with
 | .v a,.v b=>AtPure P (bI op T y z a b) Kv
 |_,_=>False
theorem aev{op:BinOp}{T t2:TypeId}{y z:Operand}:bV P x u0 ⟨d,.binOp op T y z t2,ty,pos,aft,g⟩ K s u=arL P op T y z (fb s d u K) (s.sv y) (s.sv z):=rfl
theorem ad0{op:BinOp}{T:TypeId}{y z:Operand}{Kv:Value->Prop}{a b:Value}:arL P op T y z Kv (.v a) (.v b)=AtPure P (bI op T y z a b) Kv:=rfl
def UnK(P:Program)(op:UnOp)(Kv:Value->Prop)(a:SV):Prop:=
 match a with
 | .v a=>AtPure P (iUn op a) Kv
 |_=>False
theorem ar9{op:UnOp}{T:TypeId}{y:Operand}:bV P x u0 ⟨d,.unOp op T y,ty,pos,aft,g⟩ K s u=UnK P op (fb s d u K) (s.sv y):=rfl
theorem asw{op:UnOp}{Kv:Value->Prop}{a:Value}:UnK P op Kv (.v a)=AtPure P (iUn op a) Kv:=rfl
def apG(P:Program)(x:Bool)(u0:World)(src dst:TypeId)(s:S)(d:Option Tmp)(K:S->World->Prop)(u:World)(a:SV)(same:Bool):Prop:=
 match a with
 | .v a=>bif same then AtEff x P (dp src dst a) u0 u (eD s d K)else AtRead P (dp src dst a) u (fb s d u K)
 |_=>False
attribute [go_sem] Bool.false_and Bool.or_false Bool.false_or
theorem aer{src dst:TypeId}{y:Operand}:bV P x u0 ⟨d,.convert src dst y,ty,pos,aft,g⟩ K s u=apG P x u0 src dst s d K u (s.sv y) (src==dst||(src==9&&dst==52)):=rfl
theorem ai4{src dst:TypeId}{a:Value}:apG P x u0 src dst s d K u (.v a) false=AtRead P (dp src dst a) u (fb s d u K):=rfl
theorem aaN{fn:Fn}{first captured:List Operand}:bV P x u0 ⟨d,.makeFunc fn first.toArray captured.toArray,ty,pos,aft,g⟩ K s u=
  gN u0 (first++captured) s u (aeI K d fn first.length):=rfl
theorem ajz{fn:Fn}{n:Nat}{vs:List Value}:aeI K d fn n vs s u=K (s.put d (.v (.func fn (vs.take n).toArray (vs.drop n).toArray))) u:=rfl
def ami(P:Program)(T:TypeId)(Kv:Value->Prop)(vs:Option (List (Nat×Value))):Prop:=
 match vs with
 |some vs=>AtPure P (lu T vs.toArray) Kv
 |none=>False
theorem akm{T:TypeId}{ps:List (Nat×Operand)}:bV P x u0 ⟨d,.build T ps.toArray,ty,pos,aft,g⟩ K s u=ami P T (fb s d u K) (jy s ps):=rfl
theorem aaV{T:TypeId}{Kv:Value->Prop}{vs:List (Nat×Value)}:ami P T Kv (some vs)=AtPure P (lu T vs.toArray) Kv:=rfl
def ajX(P:Program)(T:TypeId)(Kv:Value->Prop)(a:SV)(l h m:Option (Option Value)):Prop:=
 match a,l,h,m with
 | .v a,some l,some h,some m=>AtPure P (cy T a l h m) Kv
 |_,_,_,_=>False
theorem ai1{T:TypeId}{y:Operand}{lo hi mx:Option Operand}:bV P x u0 ⟨d,.slice T y lo hi mx,ty,pos,aft,g⟩ K s u=
  ajX P T (fb s d u K) (s.sv y) (ml s lo) (ml s hi) (ml s mx):=rfl
theorem akw{T:TypeId}{Kv:Value->Prop}{a:Value}{l h m:Option Value}:ajX P T Kv (.v a) (some l) (some h) (some m)=AtPure P (cy T a l h m) Kv:=rfl
def OvK(a:SV):Option (Option Value):=
 match a with
 | .v a=>some (some a)
 |_=>none
theorem aij:ml s none=some none:=rfl
theorem agD{y:Operand}:ml s (some y)=OvK (s.sv y):=rfl
theorem ar3{a:Value}:OvK (.v a)=some (some a):=rfl
def xO(d:Option Tmp)(K:S->World->Prop)(s:S)(u:World)(y:SV)(e:Option Nat):Prop:=
 match e with
 |some e=>
  match y with
  | .loc k off=>K (s.put d (.loc k (off+e))) u
  | .elt sv sz i off=>K (s.put d (.elt sv sz i (off+e))) u
  | .v (.pointer (some a))=>K (s.put d (.v (.pointer (some (a.add e))))) u
  |_=>False
 |none=>False
theorem yu{T:TypeId}{y:Operand}{f:Nat}:bV P x u0 ⟨d,.fieldAddr T y f,ty,pos,aft,g⟩ K s u=xO d K s u (s.sv y) (aX P T f):=rfl
theorem acr{k off e:Nat}:xO d K s u (.loc k off) (some e)=K (s.put d (.loc k (off+e))) u:=rfl
theorem acj{sv:Value}{sz off e:Nat}{i:Int}:xO d K s u (.elt sv sz i off) (some e)=K (s.put d (.elt sv sz i (off+e))) u:=rfl
theorem acp{a:Addr}{e:Nat}:xO d K s u (.v (.pointer (some a))) (some e)=K (s.put d (.v (.pointer (some (a.add e))))) u:=rfl
def arF(as:Option (Nat×Nat))(d:Option Tmp)(K:S->World->Prop)(s:S)(u:World)(y i:SV)(e:Option Nat):Prop:=
 match e,y,i with
 |some sz,.v (.slice p n c),.v (.int _ i)=>ali p n i (K (s.put d (.elt (.slice p n c) sz i 0)) u)
 |none,.loc k off,.v (.int _ i)=>aj4 d K s u k off i as
 |_,_,_=>False
theorem wR{T:TypeId}{y z:Operand}:bV P x u0 ⟨d,.indexAddr T y z,ty,pos,aft,g⟩ K s u=arF (asz P T) d K s u (s.sv y) (s.sv z) (esz P T):=rfl
theorem aqf{p:Option Addr}{n c sz:Nat}{k:IntKind}{i:Int}{as:Option (Nat×Nat)}:arF as d K s u (.v (.slice p n c)) (.v (.int k i)) (some sz)=ali p n i (K (s.put d (.elt (.slice p n c) sz i 0)) u):=rfl
def ac9:List Value->Nat->Option Value
 |[],_=>none
 |v::_,0=>some v
 |_::r,j+1=>ac9 r j
theorem anh: ∀(l:List Value) (j:Nat),ac9 l j=l[j]?:=by
 intro l
 induction l with
 |nil=>intro j;rfl
 |cons o r ih=>intro j;cases j with
  |zero=>rfl
  |succ j=>simpa[ac9]using ih j
def apM(d:Option Tmp)(K:S->World->Prop)(s:S)(u:World)(r:Option Value):Prop:=
 match r with
 |some r=>K (s.put d (.v r)) u
 |none=>False
def apE(d:Option Tmp)(K:S->World->Prop)(s:S)(u:World)(i:Nat)(y:SV):Prop:=
 match y with
 | .v (.tuple vs)=>match vs.toList[i]? with
  |some r=>K (s.put d (.v r)) u
  |none=>False
 |_=>False
theorem aeh{y:Operand}{i:Nat}:bV P x u0 ⟨d,.extract y i,ty,pos,aft,g⟩ K s u=apE d K s u i (s.sv y):=rfl
theorem ao7{vs:List Value}{i:Nat}:apE d K s u i (.v (.tuple vs.toArray))=apM d K s u (ac9 vs i):=by
 rw[anh];rfl
theorem adb{r:Value}:apM d K s u (some r)=K (s.put d (.v r)) u:=rfl
theorem ah1{v:Value}{r:List Value}:ac9 (v::r) 0=some v:=rfl
theorem agK{v:Value}{r:List Value}{j:Nat}:ac9 (v::r) (j+1)=ac9 r j:=rfl
def abT(K:S->World->Prop)(s:S)(d:Nat)(cs:List Value)(T:TypeId)(u:World)(b:Nat):Prop:=K (addLoc s d b cs T) u
def akr(d:Option Tmp)(K:S->World->Prop)(s:S)(u:World)(T:TypeId)(cs:Option (List Value)):Prop:=
 match cs,d with
 |some cs,some d=>s.find d=none/\ ∀b,abT K s d cs T u b
 |_,_=>False
theorem amO{T:TypeId}:bV P x u0 ⟨d,.alloc T,ty,pos,aft,g⟩ K s u=akr d K s u T (cu P T):=rfl
theorem aaI{T:TypeId}{cs:List Value}{e:Nat}:akr (some e) K s u T (some cs)=(s.find e=none/\ ∀b,abT K s e cs T u b):=rfl
def aoz(d:Option Tmp)(K:S->World->Prop)(s:S)(u:World)(T:TypeId)(y:SV):Prop:=
 match y,d with
 | .v a,some d=>s.find d=none/\ ∀b,abT K s d a.cells.toList T u b
 |_,_=>False
theorem aq3{T:TypeId}{y:Operand}:bV P x u0 ⟨d,.box T y,ty,pos,aft,g⟩ K s u=aoz d K s u T (s.sv y):=rfl
theorem al2{T:TypeId}{cs:List Value}{e:Nat}:aoz (some e) K s u T (.v (.agg cs.toArray))=(s.find e=none/\ ∀b,abT K s e cs T u b):=rfl
theorem aiU{T:TypeId}{k:IntKind}{n:Int}{e:Nat}:aoz (some e) K s u T (.v (.int k n))=(s.find e=none/\ ∀b,abT K s e [.int k n] T u b):=rfl
theorem adD{T:TypeId}{p:Option Addr}{n c:Nat}{e:Nat}:aoz (some e) K s u T (.v (.slice p n c))=(s.find e=none/\ ∀b,abT K s e [.slice p n c] T u b):=rfl
theorem anc{ρ:List (Nat×SV)}{σ:List (Nat×Loc)}{e b:Nat}{cs:List Value}{T:TypeId}:abT K ⟨ρ,σ⟩ e cs T u b=K ⟨(e,.loc e 0)::ρ,(e,⟨b,cs,T⟩)::σ⟩ u:=rfl
def an_(d:Option Tmp)(K:S->World->Prop)(s:S)(u:World)(k off:Nat)(vs:List Value)(l:Option Loc)(e:Option (Bool×Nat)):Prop:=
 match l,e with
 |some l,some (_,n)=>vs.length=n/\off+n<=l.cells.length/\bo vs=true/\K (setLoc s k l (splice l.cells off vs) d) u
 |_,_=>False
def am4(P:Program)(b:Bool)(u0:World)(T:TypeId)(d:Option Tmp)(K:S->World->Prop)(s:S)(u:World)(y z:SV):Prop:=
 match z with
 | .v a=>
  match y with
  | .loc k off=>an_ d K s u k off a.cells.toList (s.find k) (lay P T)
  | .v p=>AtDo b P (fN T p a) u0 u (mm s d K)
  | .elt sv sz i off=>match bU sv sz i off with
   |some ad=>AtDo b P (fN T (.pointer (some ad)) a) u0 u (mm s d K)
   |none=>False
  | .unk=>False
 |_=>False
theorem alI{T:TypeId}{y z:Operand}:bV P x u0 ⟨d,.store T y z,ty,pos,aft,g⟩ K s u=am4 P x u0 T d K s u (s.sv y) (s.sv z):=by
 show gh P x u0 T (s.sv y) (s.sv z) d K s u=_;unfold gh am4 an_;cases s.sv z with
 |v a=>
  cases s.sv y with
  |loc k off=>simp only[];cases s.find k<;>cases lay P T<;>rfl
  |_=>rfl
 |_=>rfl
theorem akY{T:TypeId}{k off:Nat}{a:Value}:am4 P x u0 T d K s u (.loc k off) (.v a)=an_ d K s u k off a.cells.toList (s.find k) (lay P T):=rfl
theorem ag5{ρ:List (Nat×SV)}{σ:List (Nat×Loc)}{k off n b:Nat}{cs vs:List Value}{T:TypeId}{ag:Bool}:
  an_ none K ⟨ρ,σ⟩ u k off vs (some ⟨b,cs,T⟩) (some (ag,n))=(vs.length=n/\off+n<=cs.length/\bo vs=true/\K ⟨ρ,(k,⟨b,splice cs off vs,T⟩)::σ⟩ u):=rfl
def qZ(b:Bool)(P:Program)(u0:World)(T:TypeId)(sv:Value)(sz:Nat)(i:Int)(off:Nat)(a:Value)(u:World)(K:World->Prop):Prop:=
 match bU sv sz i off with
 |some ad=>AtDo b P (fN T (.pointer (some ad)) a) u0 u K
 |none=>False
theorem ak6{T:TypeId}{sv a:Value}{sz off:Nat}{i:Int}:am4 P x u0 T d K s u (.elt sv sz i off) (.v a)=qZ x P u0 T sv sz i off a u (mm s d K):=rfl
def arU(P:Program)(x:Bool)(u0 u:World)(Ke:Value->World->Prop)(e:List (Nat×Value)->Sem Value)(vs:Option (List (Nat×Value))):Prop:=
 match vs with
 |some vs=>AtEff x P (e vs) u0 u Ke
 |none=>False
theorem uv{T:TypeId}{n:Nat}{ps:List (Nat×Operand)}:bV P x u0 ⟨d,.buildSlice T n ps.toArray,ty,pos,aft,g⟩ K s u=
  arU P x u0 u (eD s d K) (fun vs=>sT T n vs.toArray) (jy s ps):=rfl
theorem af2{Ke:Value->World->Prop}{e:List (Nat×Value)->Sem Value}{vs:List (Nat×Value)}:arU P x u0 u Ke e (some vs)=AtEff x P (e vs) u0 u Ke:=rfl
def apJ(P:Program)(x:Bool)(u0 u:World)(Ke:Value->World->Prop)(e:Value->Value->Sem Value)(y z:SV):Prop:=
 match y,z with
 | .v a,.v b=>AtEff x P (e a b) u0 u Ke
 |_,_=>False
theorem x0{T:TypeId}{y z:Operand}:bV P x u0 ⟨d,.makeSlice T y z,ty,pos,aft,g⟩ K s u=apJ P x u0 u (eD s d K) (ql T) (s.sv y) (s.sv z):=rfl
theorem anZ{Ke:Value->World->Prop}{e:Value->Value->Sem Value}{a b:Value}:apJ P x u0 u Ke e (.v a) (.v b)=AtEff x P (e a b) u0 u Ke:=rfl
def ar1(P:Program)(x:Bool)(u0 u:World)(Ke:Value->World->Prop)(e:Option Value->Sem Value)(y:Option (Option Value)):Prop:=
 match y with
 |some a=>AtEff x P (e a) u0 u Ke
 |none=>False
theorem aen{T:TypeId}{r:Option Operand}:bV P x u0 ⟨d,.makeMap T r,ty,pos,aft,g⟩ K s u=ar1 P x u0 u (eD s d K) (wU T) (ml s r):=rfl
theorem agY{Ke:Value->World->Prop}{e:Option Value->Sem Value}{a:Option Value}:ar1 P x u0 u Ke e (some a)=AtEff x P (e a) u0 u Ke:=rfl
def ar_(P:Program)(x:Bool)(u0 u:World)(Kw:World->Prop)(e:Value->Value->Value->Sem Unit)(y z t:SV):Prop:=
 match y,z,t with
 | .v a,.v b,.v c=>AtDo x P (e a b c) u0 u Kw
 |_,_,_=>False
theorem aiA{T:TypeId}{y z t:Operand}:bV P x u0 ⟨d,.insert T y z t,ty,pos,aft,g⟩ K s u=ar_ P x u0 u (mm s d K) (mU T) (s.sv y) (s.sv z) (s.sv t):=rfl
theorem aqo{Kw:World->Prop}{e:Value->Value->Value->Sem Unit}{a b c:Value}:ar_ P x u0 u Kw e (.v a) (.v b) (.v c)=AtDo x P (e a b c) u0 u Kw:=rfl
def alx(P:Program)(u:World)(Kv:Value->Prop)(e:List Value->Sem Value)(vs:Option (List Value)):Prop:=
 match vs with
 |some vs=>AtRead P (e vs) u Kv
 |none=>False
def aos(P:Program)(x:Bool)(u0 u:World)(Ke:Value->World->Prop)(e:List Value->Sem Value)(vs:Option (List Value)):Prop:=
 match vs with
 |some vs=>AtEff x P (e vs) u0 u Ke
 |none=>False
theorem aeE{Kv:Value->Prop}{e:List Value->Sem Value}{vs:List Value}:alx P u Kv e (some vs)=AtRead P (e vs) u Kv:=rfl
theorem afU{Ke:Value->World->Prop}{e:List Value->Sem Value}{vs:List Value}:aos P x u0 u Ke e (some vs)=AtEff x P (e vs) u0 u Ke:=rfl
variable {args:List Operand} {tys:Array TypeId}
def ai0(P:Program)(Kv:Value->Prop)(e:List Value->Sem Value)(vs:Option (List Value)):Prop:=
 match vs with
 |some vs=>AtPure P (e vs) Kv
 |none=>False
theorem aeb{Kv:Value->Prop}{e:List Value->Sem Value}{vs:List Value}:ai0 P Kv e (some vs)=AtPure P (e vs) Kv:=rfl
theorem ap1:bV P x u0 ⟨d,.call ⟨.builtin .len,args.toArray,tys⟩,ty,pos,aft,g⟩ K s u=alx P u (fb s d u K) (fun vs=>tq tys ty vs.toArray) (vals s args):=rfl
theorem ap2:bV P x u0 ⟨d,.call ⟨.builtin .cap,args.toArray,tys⟩,ty,pos,aft,g⟩ K s u=alx P u (fb s d u K) (fun vs=>x_ tys ty vs.toArray) (vals s args):=rfl
theorem aqt:bV P x u0 ⟨d,.call ⟨.builtin .min,args.toArray,tys⟩,ty,pos,aft,g⟩ K s u=ai0 P (fb s d u K) (fun vs=>tH tys ty vs.toArray) (vals s args):=rfl
theorem aqb:bV P x u0 ⟨d,.call ⟨.builtin .max,args.toArray,tys⟩,ty,pos,aft,g⟩ K s u=ai0 P (fb s d u K) (fun vs=>yo tys ty vs.toArray) (vals s args):=rfl
theorem ahR:bV P x u0 ⟨d,.call ⟨.builtin .append,args.toArray,tys⟩,ty,pos,aft,g⟩ K s u=aos P x u0 u (eD s d K) (fun vs=>i_ tys ty vs.toArray) (vals s args):=rfl
theorem aoj:bV P x u0 ⟨d,.call ⟨.builtin .copy,args.toArray,tys⟩,ty,pos,aft,g⟩ K s u=aos P x u0 u (eD s d K) (fun vs=>kS tys ty vs.toArray) (vals s args):=rfl
theorem alH:bV P x u0 ⟨d,.call ⟨.builtin .clear,args.toArray,tys⟩,ty,pos,aft,g⟩ K s u=aos P x u0 u (eD s d K) (fun vs=>r_ tys ty vs.toArray) (vals s args):=rfl
def aoZ(P:Program)(x:Bool)(u0:World)(args:List Operand)(d:Option Tmp)(K:S->World->Prop)(s:S)(u:World)(f:SV):Prop:=
 match f with
 | .v (.func (.func g) first captured)=>gN u0 args s u (uY x P u0 g first.toList captured.toList K d)
 | .v fv=>gN u0 args s u (rh x P u0 fv K d)
 |_=>False
theorem ang{f:Operand}:bV P x u0 ⟨d,.call ⟨.value f,args.toArray,tys⟩,ty,pos,aft,g⟩ K s u=aoZ P x u0 args d K s u (s.sv f):=by
 show mL P x u0 ⟨.value f,args.toArray,tys⟩ ty d K s u=_;unfold mL aoZ;simp only[];cases s.sv f with
 |v y=>cases y with
  |func fn first captured=>cases fn<;>rfl
  |_=>rfl
 |_=>rfl
theorem agZ{f:FuncId}{first captured:List Value}:aoZ P x u0 args d K s u (.v (.func (.func f) first.toArray captured.toArray))=gN u0 args s u (uY x P u0 f first captured K d):=rfl
theorem ald{f:FuncId}{first captured vs:List Value}:uY x P u0 f first captured K d vs s u=AtCall x P f (first++vs++captured) u0 u (eD s d K):=rfl
end
theorem sW{ρ:List (Nat×SV)}{σ:List (Nat×Loc)}{t:Nat}:(S.mk ρ σ).sv (.tmp t)=(lk ρ t).getD .unk:=rfl
theorem aak{v:Value}:s.sv (.const v)= .v v:=rfl
theorem anQ{f:Nat}:s.sv (.func f)= .v (.func (.func f) #[] #[]):=rfl
theorem aqD{ρ:List (Nat×SV)}{σ:List (Nat×Loc)}{t:Nat}:(S.mk ρ σ).get t=(lk ρ t).getD .unk:=rfl
theorem ape{ρ:List (Nat×SV)}{σ:List (Nat×Loc)}{k:Nat}:(S.mk ρ σ).find k=lk σ k:=rfl
theorem ob{ρ:List (Nat×SV)}{σ:List (Nat×Loc)}{d:Nat}{y:SV}:(S.mk ρ σ).put (some d) y=⟨(d,y)::ρ,σ⟩:=rfl
theorem ajw{y:SV}:s.put none y=s:=rfl
theorem aqp{α:Type}{t:Nat}:lk ([]:List (Nat×α)) t=none:=rfl
theorem xv{α:Type}{t:Nat}{y:α}{r:List (Nat×α)}:lk ((t,y)::r) t=some y:=ax
theorem apu{α:Type}{k t:Nat}{y:α}{r:List (Nat×α)}(h:(k==t)=false):lk ((k,y)::r) t=lk r t:=aj (by simpa using h)
theorem asn{y:Value}:s.val (.v y)=some y:=rfl
theorem amo:vals s []=some []:=rfl
def VsK(a:SV)(r:Option (List Value)):Option (List Value):=
 match a with
 | .v a=>match r with
  |some vs=>some (a::vs)
  |none=>none
 |_=>none
theorem ahD{y:Operand}{r:List Operand}:vals s (y::r)=VsK (s.sv y) (vals s r):=rfl
theorem asd{a:Value}{vs:List Value}:VsK (.v a) (some vs)=some (a::vs):=rfl
theorem agu:jy s []=some []:=rfl
def PsK(i:Nat)(a:SV)(r:Option (List (Nat×Value))):Option (List (Nat×Value)):=
 match a with
 | .v a=>match r with
  |some vs=>some ((i,a)::vs)
  |none=>none
 |_=>none
theorem acJ{i:Nat}{y:Operand}{r:List (Nat×Operand)}:jy s ((i,y)::r)=PsK i (s.sv y) (jy s r):=rfl
theorem arS{i:Nat}{a:Value}{vs:List (Nat×Value)}:PsK i (.v a) (some vs)=some ((i,a)::vs):=rfl
theorem ala{Kp:List Value->S->World->Prop}:gN u0 [] s u Kp=Kp [] s u:=rfl
def apw(u0:World)(k off:Nat)(r:List Operand)(s:S)(u:World)(Kp:List Value->S->World->Prop)(l:Option Loc):Prop:=
 match l with
 | some l=> ∀u',Sub u u'->Fresh u l.b->Fresh u0 l.b->u'.heap[l.b]? =some (.cells l.cells.toArray l.T (0,0))->(∀b',b'≠l.b->Fresh u b'->Fresh u' b')->
   gN u0 r (s.pub k l.b) u' (s8 (.pointer (some ⟨l.b,off,none⟩)) Kp)
 |none=>False
def ao6(u0:World)(r:List Operand)(s:S)(u:World)(Kp:List Value->S->World->Prop)(y:SV):Prop:=
 match y with
 | .v a=>gN u0 r s u (s8 a Kp)
 | .loc k off=>apw u0 k off r s u Kp (s.find k)
 |_=>False
theorem ahU{y:Operand}{r:List Operand}{Kp:List Value->S->World->Prop}:gN u0 (y::r) s u Kp=ao6 u0 r s u Kp (s.sv y):=by grind [gN,ao6,apw]
theorem aru{r:List Operand}{Kp:List Value->S->World->Prop}{a:Value}:ao6 u0 r s u Kp (.v a)=gN u0 r s u (s8 a Kp):=rfl
theorem al3{r:List Operand}{Kp:List Value->S->World->Prop}{k off:Nat}:ao6 u0 r s u Kp (.loc k off)=apw u0 k off r s u Kp (s.find k):=rfl
theorem ahp{r:List Operand}{Kp:List Value->S->World->Prop}{k off b:Nat}{cs:List Value}{T:TypeId}:apw u0 k off r s u Kp (some ⟨b,cs,T⟩)=
  ∀u',Sub u u'->Fresh u b->Fresh u0 b->u'.heap[b]? =some (.cells cs.toArray T (0,0))->(∀b',b'≠b->Fresh u b'->Fresh u' b')->gN u0 r (s.pub k b) u' (s8 (.pointer (some ⟨b,off,none⟩)) Kp):=rfl
theorem ajG{a:Value}{vs:List Value}{Kp:List Value->S->World->Prop}:s8 a Kp vs s u=Kp (a::vs) s u:=rfl
theorem aqm{ρ:List (Nat×SV)}{σ:List (Nat×Loc)}{k b:Nat}:(S.mk ρ σ).pub k b=⟨aea k b ρ,oh k σ⟩:=rfl
def bj(k:IntKind)(z:Int)(Kv:Value->Prop):Prop:=Kv (.int k (k.wrap z))
theorem aJ{e:Sem Value}{Kv:Value->Prop}{r:Value}(h: ∀w,e.run P w= .ok r w):AtPure P e Kv=Kv r:=by
 apply propext;constructor
 ·rintro⟨r',h',hk⟩
  have:=h' default;rw[h default]at this;cases this;exact hk
 ·intro hk;exact⟨r,h,hk⟩
theorem lJ{e:Sem Value}{Kv:Value->Prop}{r:Value}(h: ∀w,e.run P w= .ok r w):AtRead P e u Kv=Kv r:=by
 apply propext;constructor
 ·rintro⟨r',h',hk⟩
  have:=h' u (Sub.refl u);rw[h u]at this;cases this;exact hk
 ·intro hk;exact⟨r,fun w _=>h w,hk⟩
section
variable {k:IntKind} {T:TypeId} {y z:Operand} {a b:Int} {Kv:Value->Prop}
theorem wP:AtPure P (bI .add T y z (.int k a) (.int k b)) Kv=bj k (a+b) Kv:=aJ fun w=>by simp[bI,eqGuard,binOp,Op.intArith]
theorem apm:AtPure P (bI .sub T y z (.int k a) (.int k b)) Kv=bj k (a-b) Kv:=aJ fun w=>by simp[bI,eqGuard,binOp,Op.intArith]
theorem anS:AtPure P (bI .mul T y z (.int k a) (.int k b)) Kv=bj k (a*b) Kv:=aJ fun w=>by simp[bI,eqGuard,binOp,Op.intArith]
theorem wV:AtPure P (bI .lss T y z (.int k a) (.int k b)) Kv=Kv (.bool (decide (a<b))):=aJ fun w=>by simp[bI,eqGuard,binOp,Op.intCmp]
theorem anf:AtPure P (bI .leq T y z (.int k a) (.int k b)) Kv=Kv (.bool (decide (a<=b))):=aJ fun w=>by simp[bI,eqGuard,binOp,Op.intCmp]
theorem an2:AtPure P (bI .gtr T y z (.int k a) (.int k b)) Kv=Kv (.bool (decide (b<a))):=aJ fun w=>by simp[bI,eqGuard,binOp,Op.intCmp]
theorem am7:AtPure P (bI .geq T y z (.int k a) (.int k b)) Kv=Kv (.bool (decide (b<=a))):=aJ fun w=>by simp[bI,eqGuard,binOp,Op.intCmp]
theorem aob:AtPure P (bI .eql T y z (.int k a) (.int k b)) Kv=Kv (.bool (a==b)):=aJ fun w=>by simp[bI,eqGuard,binOp,Op.intCmp]
theorem aoO:AtPure P (bI .neq T y z (.int k a) (.int k b)) Kv=Kv (.bool (a !=b)):=aJ fun w=>by simp[bI,eqGuard,binOp,Op.intCmp]
theorem arA{t:Bool}:AtPure P (iUn .not (.bool t)) Kv=Kv (.bool (!t)):=aJ fun w=>by simp[iUn,Op.unary]
theorem dO(h: -9223372036854775808<=a/\a<=9223372036854775807):bj .i64 a Kv=Kv (.int .i64 a):=by unfold bj;rw[IntWalk.i64_in a h]
theorem zw(h:0<=a/\a<=255):bj .u8 a Kv=Kv (.int .u8 a):=by unfold bj;rw[IntWalk.u8_in a h]
theorem ag1(h:0<=a/\a<=65535):bj .u16 a Kv=Kv (.int .u16 a):=by unfold bj;rw[IntWalk.u16_in a h]
theorem ah0(h:0<=a/\a<=4294967295):bj .u32 a Kv=Kv (.int .u32 a):=by unfold bj;rw[IntWalk.u32_in a h]
theorem jk(h:0<=a/\a<=18446744073709551615):bj .u64 a Kv=Kv (.int .u64 a):=by unfold bj;rw[IntWalk.u64_in a h]
def eE(P:Program)(T:TypeId):Bool:=
 match P.underlying T with
 |some (.slice _)=>true
 |_=>false
theorem lS(h:eE P T=true): ∃e,P.underlying T=some (.slice e):=by grind [eE]
def mj(P:Program)(T:TypeId):Option IntKind:=
 match P.underlying T with
 |some (.int k)=>some k
 |_=>none
theorem jv{k':IntKind}(h:mj P T=some k'):P.underlying T=some (.int k'):=by grind [mj]
def ai5(k:Option IntKind)(P:Program)(src dst:TypeId)(v:Value)(a:Int)(u:World)(Kv:Value->Prop)(ks:Option IntKind):Prop:=
 match ks,k with
 |some _,some k=>bj k a Kv
 |_,_=>AtRead P (dp src dst v) u Kv
theorem alf{src dst:TypeId}:AtRead P (dp src dst (.int k a)) u Kv=ai5 (mj P dst) P src dst (.int k a) a u Kv (mj P src):=by
 unfold ai5;split
 ·rename_i k1 k' hs hd;exact lJ fun w=>by simp[dp,convert,run_underlying (jv hs),run_underlying (jv hd),Conv.intToInt]
 ·rfl
theorem adg{src dst:TypeId}{v:Value}{k' k2:IntKind}:ai5 (some k') P src dst v a u Kv (some k2)=bj k' a Kv:=rfl
theorem gO{p:Option Addr}{n c:Nat}{ty:TypeId}(h:eE P T=true):AtRead P (tq #[T] ty #[.slice p n c]) u Kv=Kv (.int .i64 n):=by
 obtain⟨e,hs⟩:=lS h;exact lJ fun w=>by simp[tq,Builtin.len_,run_underlying hs,goInt]
theorem oZ{p:Option Addr}{n c:Nat}{ty:TypeId}(h:eE P T=true):AtRead P (x_ #[T] ty #[.slice p n c]) u Kv=Kv (.int .i64 c):=by
 obtain⟨e,hs⟩:=lS h;exact lJ fun w=>by simp[x_,Builtin.cap_,run_underlying hs,goInt]
theorem tD{s:ByteArray}{ty:TypeId}(hs:P.underlying T=some .string):AtRead P (tq #[T] ty #[.string s]) u Kv=Kv (.int .i64 s.size):=
 lJ fun w=>by simp[tq,Builtin.len_,run_underlying hs,goInt]
theorem apo{tys:Array TypeId}{ty:TypeId}:AtPure P (tH tys ty #[.int k a,.int k b]) Kv=Kv (.int k (if b<a then b else a)):=
 aJ fun w=>by simp[tH,Builtin.min_,Builtin.min2]
theorem aoB{tys:Array TypeId}{ty:TypeId}:AtPure P (yo tys ty #[.int k a,.int k b]) Kv=Kv (.int k (if a<b then b else a)):=
 aJ fun w=>by simp[yo,Builtin.max_,Builtin.max2]
theorem akx{c d:Bool}(hs:P.underlying T=some .bool):AtPure P (bI .neq T y z (.bool c) (.bool d)) Kv=Kv (.bool (!(c==d))):=
 aJ fun w=>by simp only[bI,eqGuard,Sem.run_bind,Sem.run_pure,Result.andThen_ok,Bool.not_true,Bool.false_eq_true,if_false,run_neq_bool w T c d hs]
theorem mq{p:Option Addr}{n c:Nat}(h:eE P T=true):AtPure P (bI .eql T y z (.slice p n c) (.slice none 0 0)) Kv=Kv (.bool p.isNone):=by
 obtain⟨e,hs⟩:=lS h;exact aJ fun w=>by simp only[bI,eqGuard,Sem.run_bind,Sem.run_pure,Result.andThen_ok,Bool.not_true,Bool.false_eq_true,if_false,binOp,Op.equal,Op.maxDepth,run_equalIn_slice_nil w 9999 T e p n c hs]
theorem mC{p:Option Addr}{n c:Nat}(h:eE P T=true):AtPure P (bI .neq T y z (.slice p n c) (.slice none 0 0)) Kv=Kv (.bool (!p.isNone)):=by
 obtain⟨e,hs⟩:=lS h;exact aJ fun w=>by simp only[bI,eqGuard,Sem.run_bind,Sem.run_pure,Result.andThen_ok,Bool.not_true,Bool.false_eq_true,if_false,run_neq_slice_nil w T e p n c hs]
end
end
attribute [go_sem] afx aqX afe oO anp aqU afH tp pH agq zj ajL aib t9 aew qp ua acd adF aas ajd oM j5 aiE acB cM alr alu afg ad3 z7 abd adm acN oA alz yZ afp agp aoR anz aoI ahb ah3 ag7 ag9 ahC xc anB aoC aev ad0 ar9 asw aer ai4 aaN ajz akm aaV ai1 akw aij agD ar3 yu acr acj acp wR aqf aeh ao7 adb ah1 agK amO aaI aq3 al2 aiU adD anc alI akY ag5 ak6 uv af2 x0 anZ aen agY aiA aqo aeE aeb afU ap1 ap2 aqt aqb ahR aoj alH ang agZ ald sW aak anQ aqD ape ob ajw aqp xv apu asn amo ahD asd agu acJ arS ala ahU aru al3 ahp ajG aqm aea kj oh fL adn aeH adI xo ado aci abN z0 alT ai_ ite_true splice wP apm anS wV anf an2 am7 aob aoO arA akx mq mC alf adg gO oZ tD apo aoB bo Value.oneCell' Value.cells List.nil_append List.cons_append List.append_nil List.drop_zero List.drop_succ_cons List.drop_nil List.take_zero List.take_succ_cons List.take_nil List.headD_cons List.length_cons List.length_nil Option.getD_some Option.getD_none Option.map_some Option.isNone_none Option.isNone_some Option.isSome_some Nat.zero_add Nat.add_zero Nat.le_refl cond_true cond_false Bool.true_and Bool.and_true Bool.not_true Bool.not_false and_true true_and eq_self true_implies ge_iff_le
structure Lf2(q:Prop):Prop where
 out:q
theorem vs_{p q:Prop}(k:q)(e:Lf2 q->p:=by intro k;(simp only[go_sem,bL,bh,bC,bn,Nat.reduceBEq,Nat.reduceAdd,Nat.reduceLeDiff,Nat.reduceEqDiff,Int.reduceAdd,Int.reduceBEq,Int.reduceBNe,reduceCtorEq,beq_self_eq_true,Bool.true_beq,Bool.false_beq];repeat ((with_reducible refine aiV ?_);simp only[go_sem,bL,bh,bC,bn,Nat.reduceBEq,Nat.reduceAdd,Nat.reduceLeDiff,Nat.reduceEqDiff,Int.reduceAdd,Int.reduceBEq,Int.reduceBNe,reduceCtorEq,beq_self_eq_true,Bool.true_beq,Bool.false_beq]));exact k.out):p:=e ⟨k⟩
structure GSpan where
 a:Int
 b:Int
deriving DecidableEq
def GSpan.enc(x:GSpan):List Value:=[.int .i32 x.a,.int .i32 x.b]
def GSpan.val(x:GSpan):Value:=.agg #[.int .i32 x.a,.int .i32 x.b]
theorem GSpan.cells(x:GSpan):x.val.cells.toList=x.enc:=rfl
structure GDesc where
 node:UInt8
 inc:UInt16
 age:UInt8
 filter:List GSpan
deriving DecidableEq
theorem akD{x y:GSpan}:(x.a==y.a&&(x.b==y.b))=decide (x=y):=by
 rw[Bool.eq_iff_iff];simp only[Bool.and_eq_true,beq_iff_eq,decide_eq_true_eq];cases x;cases y;simp
attribute [go_sem] akD
theorem cE(x y:UInt8):((x.toNat:Int)==(y.toNat:Int))=decide (x=y):=by
 rw[Bool.eq_iff_iff];simp only[beq_iff_eq,decide_eq_true_eq];rw[<-UInt8.toNat_inj];omega
theorem eV(x y:UInt16):((x.toNat:Int)==(y.toNat:Int))=decide (x=y):=by
 rw[Bool.eq_iff_iff];simp only[beq_iff_eq,decide_eq_true_eq];rw[<-UInt16.toNat_inj];omega
theorem xR(x y:UInt16):((x.toNat:Int) !=(y.toNat:Int))= !decide (x=y):=by rw[<-eV];rfl
theorem yj(x:UInt16):((x.toNat:Int)==0)=decide (x=0):=eV x 0
theorem iP(x y:UInt8):((x.toNat:Int)<(y.toNat:Int))↔x<y:=by rw[UInt8.lt_iff_toNat_lt];omega
theorem arM(x y:UInt8):((x.toNat:Int)<=(y.toNat:Int))↔x<=y:=by rw[UInt8.le_iff_toNat_le];omega
theorem gB(x y:UInt16):((x.toNat:Int)<(y.toNat:Int))↔x<y:=by rw[UInt16.lt_iff_toNat_lt];omega
def okS(s:GSpan):Prop:= -2147483648<=s.a/\s.a<=2147483647/\ -2147483648<=s.b/\s.b<=2147483647
def m8(s:GSpan):GSpan:=if s.b<s.a then ⟨1,0⟩else s
def gJ(s:GSpan):Bool:=decide (s.b<s.a)
def fj(x y:GSpan):GSpan:=⟨if x.a<y.a then y.a else x.a,if y.b<x.b then y.b else x.b⟩
def aj1(x y:GSpan):Bool:=gJ y||(decide (x.a<=y.a)&&decide (y.b<=x.b))
def sLen(s:GSpan):Nat:=if s.b<s.a then 0 else min (s.b-s.a+1).toNat 4294967295
theorem pz(s:GSpan):((m8 s).a==1&&((m8 s).b==0))=gJ s:=by grind [gJ,m8]
theorem zE{x y:GSpan}(hx:okS x)(hy:okS y):okS (fj x y):=by grind [okS,fj]
