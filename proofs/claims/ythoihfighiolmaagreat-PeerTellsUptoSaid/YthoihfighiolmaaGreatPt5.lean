import Derived.Test.YthoihfighiolmaaGreatPt4
import Derived.Laws.Cover3
set_option linter.unusedSectionVars false
set_option linter.unusedSimpArgs false
set_option linter.unusedVariables false
namespace Go.Eng
section
variable {P:Program} {u0 u:World} {Q:Exit->S->World->Prop} {s:S} {K:S->World->Prop}
theorem abw:vc P u0 .skip Q s u=Q .normal s u:=rfl
theorem alU:vc P u0 .ret Q s u=Q .ret s u:=rfl
theorem abB{id:Nat}:vc P u0 (.exit id) Q s u=Q (.exit id) s u:=rfl
theorem mO{id:Nat}{l:List Oper}:vc P u0 (.region id l.toArray false) Q s u=kH P u0 l (Q .normal) l s u:=rfl
theorem ais{id:Nat}{l:List Oper}:vc P u0 (.region id l.toArray true) Q s u=yh P u0 l.toArray (Q .normal) s u:=rfl
theorem al9{x y:Code}:vc P u0 (.seq x y) Q s u=vc P u0 x (aiR P u0 y Q) s u:=rfl
def jG(c:SV)(s:S)(u:World)(P:Program)(u0:World)(x y:Code)(Q:Exit->S->World->Prop):Prop:=
 match c with
 | .v (.bool t)=>(t=true->vc P u0 x Q s u)/\(t=false->vc P u0 y Q s u)
 |_=>False
theorem aba{c:Operand}{x y:Code}:vc P u0 (.cond c x y) Q s u=jG (s.sv c) s u P u0 x y Q:=rfl
theorem oy{x y:Code}:jG (.v (.bool true)) s u P u0 x y Q=vc P u0 x Q s u:=by simp[jG]
theorem ny{x y:Code}:jG (.v (.bool false)) s u P u0 x y Q=vc P u0 y Q s u:=by simp[jG]
theorem ab_{x y:Code}{t:Bool}:jG (.v (.bool (!t))) s u P u0 x y Q=jG (.v (.bool t)) s u P u0 y x Q:=by
 cases t<;>simp[jG]
theorem xR{x y:Code}{p:Prop}[Decidable p](h1:p->vc P u0 x Q s u)(h2: ¬p->vc P u0 y Q s u):jG (.v (.bool (decide p))) s u P u0 x y Q:=
 ⟨fun h=>h1 (of_decide_eq_true h),fun h=>h2 (of_decide_eq_false h)⟩
theorem od{x y:Code}{a b:Int}(h1:a=b->vc P u0 x Q s u)(h2:a≠b->vc P u0 y Q s u):jG (.v (.bool (a==b))) s u P u0 x y Q:=
 ⟨fun h=>h1 (by simpa using h),fun h=>h2 (by simpa using h)⟩
theorem abm{x y:Code}{a b:Int}(h1:a≠b->vc P u0 x Q s u)(h2:a=b->vc P u0 y Q s u):jG (.v (.bool (a !=b))) s u P u0 x y Q:=
 ⟨fun h=>h1 (by simpa using h),fun h=>h2 (by simpa using h)⟩
theorem cJ{id:Nat}{x y:Code}:vc P u0 (.block id (.seq x y)) Q s u=vc P u0 (.seq x y) (fh id Q) s u:=rfl
theorem bO{id i:Nat}{l:Array Oper}{d:Bool}:vc P u0 (.block id (.region i l d)) Q s u=vc P u0 (.region i l d) (fh id Q) s u:=by cases d<;>rfl
theorem cq{id:Nat}{c:Operand}{x y:Code}:vc P u0 (.block id (.cond c x y)) Q s u=vc P u0 (.cond c x y) (fh id Q) s u:=rfl
theorem bX{id j:Nat}{x:Code}:vc P u0 (.block id (.block j x)) Q s u=vc P u0 (.block j x) (fh id Q) s u:=rfl
theorem qP{id:Nat}:fh id Q .normal s u=LeK (Q .normal) s u:=rfl
theorem aay{id:Nat}:fh id Q .ret s u=Q .ret s u:=rfl
theorem afA{K:S->World->Prop}(h:K s u):LeK K s u:=.inl h
theorem yb{y:Code}:aiR P u0 y Q .normal s u=vc P u0 y Q s u:=rfl
theorem agI{y:Code}:aiR P u0 y Q .ret s u=Q .ret s u:=rfl
theorem adl{y:Code}{j:Nat}:aiR P u0 y Q (.exit j) s u=Q (.exit j) s u:=rfl
theorem qK{id:Nat}:fi id Q .normal s u=Q .normal s u:=rfl
theorem zF{id:Nat}:fi id Q .ret s u=Q .ret s u:=rfl
theorem nO{id j:Nat}:fi id Q (.exit j) s u=bif j==id then Q .normal s u else Q (.exit j) s u:=rfl
theorem u6{γ:Type}{st:γ->S}{F:γ->World->Prop}{μ:γ->Nat}{g:γ}:abd st F μ g Q .normal s u= ∃g',(st g').le s/\F g' u/\μ g'<μ g:=rfl
theorem aa2{γ:Type}{st:γ->S}{F:γ->World->Prop}{μ:γ->Nat}{g:γ}{j:Nat}:abd st F μ g Q (.exit j) s u=Q (.exit j) s u:=rfl
theorem wj{rs:List ResultVar}{Post:Value->World->Prop}:ab9 P rs Post .normal s u=kC Post (cL P s rs) u:=rfl
theorem agD{rs:List ResultVar}{Post:Value->World->Prop}:ab9 P rs Post .ret s u=kC Post (cL P s rs) u:=rfl
theorem aaB:cL P s []=some (.tuple #[]):=rfl
theorem aa4{x:ResultVar}:cL P s [x]=bW P s x:=rfl
def akO(a b:Option Value):Option Value:=
 match a,b with
 |some a,some b=>some (.tuple #[a,b])
 |_,_=>none
def akI(a b c:Option Value):Option Value:=
 match a,b,c with
 |some a,some b,some c=>some (.tuple #[a,b,c])
 |_,_,_=>none
theorem zD{x y:ResultVar}:cL P s [x,y]=akO (bW P s x) (bW P s y):=rfl
theorem t9{x y z:ResultVar}:cL P s [x,y,z]=akI (bW P s x) (bW P s y) (bW P s z):=rfl
theorem y7{a b:Value}:akO (some a) (some b)=some (.tuple #[a,b]):=rfl
theorem aaZ{a b c:Value}:akI (some a) (some b) (some c)=some (.tuple #[a,b,c]):=rfl
theorem y0{t:Nat}:bW P s (.tmp t)=s.val (s.get t):=rfl
def ahU(ag:Bool)(n off:Nat)(l:Option Loc):Option Value:=
 match l with
 |some l=>if (n=1\/ag=true)/\off+n<=l.cells.length then some (ld ag n off l.cells)else none
 |none=>none
def al3(s:S)(x:SV)(l:Option (Bool×Nat)):Option Value:=
 match x,l with
 | .loc k off,some (ag,n)=>ahU ag n off (s.find k)
 |_,_=>none
theorem vT{t T:Nat}:bW P s (.cell t T)=al3 s (s.get t) (lay P T):=by grind [bW,al3,lay,ahU]
theorem agF{k off n:Nat}{ag:Bool}:al3 s (.loc k off) (some (ag,n))=ahU ag n off (s.find k):=rfl
theorem ahX{off b:Nat}{cs:List Value}{T:TypeId}:ahU false 1 off (some ⟨b,cs,T⟩)=if off+1<=cs.length then some ((cs.drop off).headD undef)else none:=by simp[ahU,ld]
theorem mj{all:List Oper}:kH P u0 all K [] s u=K s u:=rfl
theorem iZ{all:List Oper}{o:Oper}{r:List Oper}:kH P u0 all K (o::r) s u=vcG P false u0 all o (kH P u0 all K r) s u:=rfl
theorem alI{x:Bool}{i:Nat}{o:Oper}:XOk m0 x i o s=True:=
 eq_true ⟨fun h=>(by cases h),fun _=>oh,fun h=>(by cases h)⟩
def rN(P:Program)(x:Bool)(u0:World)(all:List Oper)(K:S->World->Prop)(t:OT)(s:S)(u:World)(o:Option Oper):Prop:=
 match o with
 |some o=>vcG P x u0 all o (vcT P u0 all m0 K t) s u
 |none=>False
theorem vB{all:List Oper}{i:Nat}{x:Bool}{t:OT}{o:Option Oper}:(match o with
  |some o=>XOk m0 x i o s/\vcG P x u0 all o (fun s' u'=>XK m0 o s s'/\vcT P u0 all m0 K t s' u') s u
  |none=>False)=rN P x u0 all K t s u o:=by
 have h: ∀(o:Oper) (s':S),XK m0 o s s'=True:=fun o s'=>eq_true ⟨trivial,trivial⟩
 cases o<;>simp only[alI,h,true_and,rN]
theorem aeO{all:List Oper}:vcT P u0 all m0 K .done s u=K s u:=rfl
theorem afm{all:List Oper}{i:Nat}{t:OT}:vcT P u0 all m0 K (.fl i t) s u=rN P false u0 all K t s u (bx all i):=vB
theorem abK{all:List Oper}{i:Nat}{x:Bool}{t:OT}:vcT P u0 all m0 K (.eff i x t .no) s u=rN P x u0 all K t s u (bx all i):=by
 rw[<-vB (i:=i)];exact and_true _
theorem aef{ops:Array Oper}{all:List Oper}:vcT P u0 all m0 K (lin ops []) s u=K s u:=rfl
theorem aaQ{ops:Array Oper}{all:List Oper}{i:Nat}{x:Bool}{r:List (Nat×Bool)}:vcT P u0 all m0 K (lin ops ((i,x)::r)) s u=rN P x u0 all K (lin ops r) s u (bx all i):=by
 rw[lin];cases x<;>cases j3 ops i<;>first|exact abK|exact afm
theorem aaM{all:List Oper}{x:Bool}{t:OT}{o:Oper}:rN P x u0 all K t s u (some o)=vcG P x u0 all o (vcT P u0 all m0 K t) s u:=rfl
theorem xm{o:Oper}{r:List Oper}:bx (o::r) 0=some o:=rfl
theorem vi{o:Oper}{r:List Oper}{j:Nat}:bx (o::r) (j+1)=bx r j:=rfl
theorem yi{o:Oper}{r:List Oper}:im (o::r) 0=o.dst:=rfl
theorem zx{o:Oper}{r:List Oper}{j:Nat}:im (o::r) (j+1)=im r j:=rfl
def aax(want:Bool)(A B:Prop)(c:SV):Prop:=
 match c with
 | .v (.bool c)=>(c=want->A)/\(c= !want->B)
 | .v (.tuple _)=>B
 |_=>False
def aal(P:Program)(x:Bool)(u0:World)(o:Oper)(K:S->World->Prop)(s:S)(u:World)(want:Bool)(d:Option Nat):Prop:=
 match d with
 |some d=>aax want (cj P x u0 o K s u) (K (s.put o.dst (.v undef)) u) (s.get d)
 |none=>False
section
variable {x:Bool} {all:List Oper} {d:Option Tmp} {op:Op} {ty:TypeId} {pos:String} {aft:Array Edge}
theorem lY:vcG P x u0 all ⟨d,op,ty,pos,aft,none⟩ K s u=cj P x u0 ⟨d,op,ty,pos,aft,none⟩ K s u:=rfl
theorem afn{j:Nat}{b:Bool}:vcG P x u0 all ⟨d,op,ty,pos,aft,some (j,b)⟩ K s u=aal P x u0 ⟨d,op,ty,pos,aft,some (j,b)⟩ K s u b (im all j):=by grind [vcG,aal,aax,im]
end
def oH(P:Program)(x:Bool)(u0:World)(o:Oper)(K:S->World->Prop)(s:S)(u:World)(want:Bool)(c:SV):Prop:=
 aax want (cj P x u0 o K s u) (K (s.put o.dst (.v undef)) u) c
section
variable {x:Bool} {o:Oper} {b:Bool}
theorem wm{e:Nat}:aal P x u0 o K s u b (some e)=oH P x u0 o K s u b (s.get e):=rfl
theorem xu{c:Bool}(h1:c=b->cj P x u0 o K s u)(h2:c= !b->K (s.put o.dst (.v undef)) u):oH P x u0 o K s u b (.v (.bool c)):=⟨h1,h2⟩
theorem mS{c:Bool}(h:c=b)(h1:cj P x u0 o K s u):oH P x u0 o K s u b (.v (.bool c)):=by subst h;exact⟨fun _=>h1,fun h=>by cases c<;>cases h⟩
theorem oL{c:Bool}(h:c= !b)(h1:K (s.put o.dst (.v undef)) u):oH P x u0 o K s u b (.v (.bool c)):=by subst h;exact⟨(fun h=>by cases b<;>cases h),fun _=>h1⟩
end
section
variable {x:Bool} {d:Option Tmp} {ty:TypeId} {pos:String} {aft:Array Edge} {g:Option (Nat×Bool)}
theorem abC{y:Operand}:cj P x u0 ⟨d,.move y,ty,pos,aft,g⟩ K s u=K (s.put d (s.sv y)) u:=rfl
theorem acW{y:Operand}:cj P x u0 ⟨d,.assign y,ty,pos,aft,g⟩ K s u=K (s.put d (s.sv y)) u:=rfl
def akM(K:S->World->Prop)(s:S)(d:Option Tmp)(u:World)(y z:SV)(c:SV):Prop:=
 match c with
 | .v (.bool t)=>K (s.put d (bif t then y else z)) u
 |_=>False
theorem ah6{c y z:Operand}:cj P x u0 ⟨d,.pick c y z,ty,pos,aft,g⟩ K s u=akM K s d u (s.sv y) (s.sv z) (s.sv c):=rfl
theorem aiL{y z:SV}{t:Bool}:akM K s d u y z (.v (.bool t))=K (s.put d (bif t then y else z)) u:=rfl
def rF(K:Value->Prop)(ag:Bool)(n off:Nat)(l:Option Loc):Prop:=
 match l with
 |some l=>(n=1\/ag=true)/\off+n<=l.cells.length/\K (ld ag n off l.cells)
 |none=>False
def abO(K:Value->Prop)(s:S)(u:World)(y:SV)(l:Option (Bool×Nat)):Prop:=
 match l with
 |some (ag,n)=>
  match y with
  | .loc k off=>rF K ag n off (s.find k)
  | .elt sv sz i off=>abq u sv sz i ag n off K
  | .v (.pointer (some a))=>aeM u a ag n K
  |_=>False
 |none=>False
theorem ajL{T:TypeId}{y:Operand}:cj P x u0 ⟨d,.load T y,ty,pos,aft,g⟩ K s u=abO (eZ s d u K) s u (s.sv y) (lay P T):=rfl
theorem aee{Kv:Value->Prop}{k off n:Nat}{ag:Bool}:abO Kv s u (.loc k off) (some (ag,n))=rF Kv ag n off (s.find k):=rfl
theorem acO{Kv:Value->Prop}{sv:Value}{sz off n:Nat}{i:Int}{ag:Bool}:abO Kv s u (.elt sv sz i off) (some (ag,n))=abq u sv sz i ag n off Kv:=rfl
theorem ael{Kv:Value->Prop}{a:Addr}{n:Nat}{ag:Bool}:abO Kv s u (.v (.pointer (some a))) (some (ag,n))=aeM u a ag n Kv:=rfl
theorem adS{Kv:Value->Prop}{n off b:Nat}{cs:List Value}{T:TypeId}:rF Kv true n off (some ⟨b,cs,T⟩)=(off+n<=cs.length/\Kv (.agg ((cs.drop off).take n).toArray)):=by
 simp[rF,ld]
theorem adp{Kv:Value->Prop}{off b:Nat}{cs:List Value}{T:TypeId}:rF Kv false 1 off (some ⟨b,cs,T⟩)=(off+1<=cs.length/\Kv ((cs.drop off).headD undef)):=by
 simp[rF,ld]
theorem tD{r:Value}:eZ s d u K r=K (s.put d (.v r)) u:=rfl
theorem aij{r:Value}:ey s d K r u=K (s.put d (.v r)) u:=rfl
theorem aiV:lh s d K u=K (s.put d (.v undef)) u:=rfl
def amn(P:Program)(op:BinOp)(T:TypeId)(y z:Operand)(Kv:Value->Prop)(a b:SV):Prop:=
 match a,b with
 | .v a,.v b=>AtPure P (bm op T y z a b) Kv
 |_,_=>False
theorem yG{op:BinOp}{T t2:TypeId}{y z:Operand}:cj P x u0 ⟨d,.binOp op T y z t2,ty,pos,aft,g⟩ K s u=amn P op T y z (eZ s d u K) (s.sv y) (s.sv z):=rfl
theorem aar{op:BinOp}{T:TypeId}{y z:Operand}{Kv:Value->Prop}{a b:Value}:amn P op T y z Kv (.v a) (.v b)=AtPure P (bm op T y z a b) Kv:=rfl
def UnK(P:Program)(op:UnOp)(Kv:Value->Prop)(a:SV):Prop:=
 match a with
 | .v a=>AtPure P (iUn op a) Kv
 |_=>False
theorem amv{op:UnOp}{T:TypeId}{y:Operand}:cj P x u0 ⟨d,.unOp op T y,ty,pos,aft,g⟩ K s u=UnK P op (eZ s d u K) (s.sv y):=rfl
theorem am4{op:UnOp}{Kv:Value->Prop}{a:Value}:UnK P op Kv (.v a)=AtPure P (iUn op a) Kv:=rfl
def akD(P:Program)(x:Bool)(u0:World)(src dst:TypeId)(s:S)(d:Option Tmp)(K:S->World->Prop)(u:World)(a:SV)(same:Bool):Prop:=
 match a with
 | .v a=>bif same then AtEff x P (dO src dst a) u0 u (ey s d K)else AtRead P (dO src dst a) u (eZ s d u K)
 |_=>False
attribute [go_sem] Bool.false_and Bool.or_false Bool.false_or
theorem zg{src dst:TypeId}{y:Operand}:cj P x u0 ⟨d,.convert src dst y,ty,pos,aft,g⟩ K s u=akD P x u0 src dst s d K u (s.sv y) (src==dst||(src==9&&dst==52)):=rfl
theorem ahw{src dst:TypeId}{a:Value}:akD P x u0 src dst s d K u (.v a) false=AtRead P (dO src dst a) u (eZ s d u K):=rfl
theorem xn{fn:Fn}{first captured:List Operand}:cj P x u0 ⟨d,.makeFunc fn first.toArray captured.toArray,ty,pos,aft,g⟩ K s u=
  f_ u0 (first++captured) s u (abc K d fn first.length):=rfl
theorem afD{fn:Fn}{n:Nat}{vs:List Value}:abc K d fn n vs s u=K (s.put d (.v (.func fn (vs.take n).toArray (vs.drop n).toArray))) u:=rfl
def agt(P:Program)(T:TypeId)(Kv:Value->Prop)(vs:Option (List (Nat×Value))):Prop:=
 match vs with
 |some vs=>AtPure P (jC T vs.toArray) Kv
 |none=>False
theorem agJ{T:TypeId}{ps:List (Nat×Operand)}:cj P x u0 ⟨d,.build T ps.toArray,ty,pos,aft,g⟩ K s u=agt P T (eZ s d u K) (ik s ps):=rfl
theorem vm{T:TypeId}{Kv:Value->Prop}{vs:List (Nat×Value)}:agt P T Kv (some vs)=AtPure P (jC T vs.toArray) Kv:=rfl
def ah0(P:Program)(T:TypeId)(Kv:Value->Prop)(a:SV)(l h m:Option (Option Value)):Prop:=
 match a,l,h,m with
 | .v a,some l,some h,some m=>AtPure P (cD T a l h m) Kv
 |_,_,_,_=>False
theorem agf{T:TypeId}{y:Operand}{lo hi mx:Option Operand}:cj P x u0 ⟨d,.slice T y lo hi mx,ty,pos,aft,g⟩ K s u=
  ah0 P T (eZ s d u K) (s.sv y) (ky s lo) (ky s hi) (ky s mx):=rfl
theorem afb{T:TypeId}{Kv:Value->Prop}{a:Value}{l h m:Option Value}:ah0 P T Kv (.v a) (some l) (some h) (some m)=AtPure P (cD T a l h m) Kv:=rfl
def OvK(a:SV):Option (Option Value):=
 match a with
 | .v a=>some (some a)
 |_=>none
theorem aen:ky s none=some none:=rfl
theorem adH{y:Operand}:ky s (some y)=OvK (s.sv y):=rfl
theorem am0{a:Value}:OvK (.v a)=some (some a):=rfl
def uS(d:Option Tmp)(K:S->World->Prop)(s:S)(u:World)(y:SV)(e:Option Nat):Prop:=
 match e with
 |some e=>
  match y with
  | .loc k off=>K (s.put d (.loc k (off+e))) u
  | .elt sv sz i off=>K (s.put d (.elt sv sz i (off+e))) u
  | .v (.pointer (some a))=>K (s.put d (.v (.pointer (some (a.add e))))) u
  |_=>False
 |none=>False
theorem uL{T:TypeId}{y:Operand}{f:Nat}:cj P x u0 ⟨d,.fieldAddr T y f,ty,pos,aft,g⟩ K s u=uS d K s u (s.sv y) (bg P T f):=rfl
theorem z7{k off e:Nat}:uS d K s u (.loc k off) (some e)=K (s.put d (.loc k (off+e))) u:=rfl
theorem yO{sv:Value}{sz off e:Nat}{i:Int}:uS d K s u (.elt sv sz i off) (some e)=K (s.put d (.elt sv sz i (off+e))) u:=rfl
theorem yM{a:Addr}{e:Nat}:uS d K s u (.v (.pointer (some a))) (some e)=K (s.put d (.v (.pointer (some (a.add e))))) u:=rfl
def amO(as:Option (Nat×Nat))(d:Option Tmp)(K:S->World->Prop)(s:S)(u:World)(y i:SV)(e:Option Nat):Prop:=
 match e,y,i with
 |some sz,.v (.slice p n c),.v (.int _ i)=>aeL p n i (K (s.put d (.elt (.slice p n c) sz i 0)) u)
 |none,.loc k off,.v (.int _ i)=>ag0 d K s u k off i as
 |_,_,_=>False
theorem tz{T:TypeId}{y z:Operand}:cj P x u0 ⟨d,.indexAddr T y z,ty,pos,aft,g⟩ K s u=amO (asz P T) d K s u (s.sv y) (s.sv z) (esz P T):=rfl
theorem alV{p:Option Addr}{n c sz:Nat}{k:IntKind}{i:Int}{as:Option (Nat×Nat)}:amO as d K s u (.v (.slice p n c)) (.v (.int k i)) (some sz)=aeL p n i (K (s.put d (.elt (.slice p n c) sz i 0)) u):=rfl
def aaj:List Value->Nat->Option Value
 |[],_=>none
 |v::_,0=>some v
 |_::r,j+1=>aaj r j
theorem aik: ∀(l:List Value) (j:Nat),aaj l j=l[j]?:=by
 intro l
 induction l with
 |nil=>intro j;rfl
 |cons o r ih=>intro j;cases j with
  |zero=>rfl
  |succ j=>simpa[aaj]using ih j
def akA(d:Option Tmp)(K:S->World->Prop)(s:S)(u:World)(r:Option Value):Prop:=
 match r with
 |some r=>K (s.put d (.v r)) u
 |none=>False
def akQ(d:Option Tmp)(K:S->World->Prop)(s:S)(u:World)(i:Nat)(y:SV):Prop:=
 match y with
 | .v (.tuple vs)=>match vs.toList[i]? with
  |some r=>K (s.put d (.v r)) u
  |none=>False
 |_=>False
theorem aac{y:Operand}{i:Nat}:cj P x u0 ⟨d,.extract y i,ty,pos,aft,g⟩ K s u=akQ d K s u i (s.sv y):=rfl
theorem ajA{vs:List Value}{i:Nat}:akQ d K s u i (.v (.tuple vs.toArray))=akA d K s u (aaj vs i):=by
 rw[aik];rfl
theorem zQ{r:Value}:akA d K s u (some r)=K (s.put d (.v r)) u:=rfl
theorem aeo{v:Value}{r:List Value}:aaj (v::r) 0=some v:=rfl
theorem acB{v:Value}{r:List Value}{j:Nat}:aaj (v::r) (j+1)=aaj r j:=rfl
def y6(K:S->World->Prop)(s:S)(d:Nat)(cs:List Value)(T:TypeId)(u:World)(b:Nat):Prop:=K (addLoc s d b cs T) u
def afr(d:Option Tmp)(K:S->World->Prop)(s:S)(u:World)(T:TypeId)(cs:Option (List Value)):Prop:=
 match cs,d with
 |some cs,some d=>s.find d=none/\ ∀b,y6 K s d cs T u b
 |_,_=>False
theorem agR{T:TypeId}:cj P x u0 ⟨d,.alloc T,ty,pos,aft,g⟩ K s u=afr d K s u T (dK P T):=rfl
theorem xA{T:TypeId}{cs:List Value}{e:Nat}:afr (some e) K s u T (some cs)=(s.find e=none/\ ∀b,y6 K s e cs T u b):=rfl
def ai0(d:Option Tmp)(K:S->World->Prop)(s:S)(u:World)(T:TypeId)(y:SV):Prop:=
 match y,d with
 | .v a,some d=>s.find d=none/\ ∀b,y6 K s d a.cells.toList T u b
 |_,_=>False
theorem alo{T:TypeId}{y:Operand}:cj P x u0 ⟨d,.box T y,ty,pos,aft,g⟩ K s u=ai0 d K s u T (s.sv y):=rfl
theorem agj{T:TypeId}{cs:List Value}{e:Nat}:ai0 (some e) K s u T (.v (.agg cs.toArray))=(s.find e=none/\ ∀b,y6 K s e cs T u b):=rfl
theorem ahq{T:TypeId}{k:IntKind}{n:Int}{e:Nat}:ai0 (some e) K s u T (.v (.int k n))=(s.find e=none/\ ∀b,y6 K s e [.int k n] T u b):=rfl
theorem zT{T:TypeId}{p:Option Addr}{n c:Nat}{e:Nat}:ai0 (some e) K s u T (.v (.slice p n c))=(s.find e=none/\ ∀b,y6 K s e [.slice p n c] T u b):=rfl
theorem aim{ρ:List (Nat×SV)}{σ:List (Nat×Loc)}{e b:Nat}{cs:List Value}{T:TypeId}:y6 K ⟨ρ,σ⟩ e cs T u b=K ⟨(e,.loc e 0)::ρ,(e,⟨b,cs,T⟩)::σ⟩ u:=rfl
def ajc(d:Option Tmp)(K:S->World->Prop)(s:S)(u:World)(k off:Nat)(vs:List Value)(l:Option Loc)(e:Option (Bool×Nat)):Prop:=
 match l,e with
 |some l,some (_,n)=>vs.length=n/\off+n<=l.cells.length/\bF vs=true/\K (setLoc s k l (splice l.cells off vs) d) u
 |_,_=>False
def aiy(P:Program)(b:Bool)(u0:World)(T:TypeId)(d:Option Tmp)(K:S->World->Prop)(s:S)(u:World)(y z:SV):Prop:=
 match z with
 | .v a=>
  match y with
  | .loc k off=>ajc d K s u k off a.cells.toList (s.find k) (lay P T)
  | .v p=>AtDo b P (fG T p a) u0 u (lh s d K)
  | .elt sv sz i off=>match bT sv sz i off with
   |some ad=>AtDo b P (fG T (.pointer (some ad)) a) u0 u (lh s d K)
   |none=>False
  | .unk=>False
 |_=>False
theorem ahG{T:TypeId}{y z:Operand}:cj P x u0 ⟨d,.store T y z,ty,pos,aft,g⟩ K s u=aiy P x u0 T d K s u (s.sv y) (s.sv z):=by
 show fN P x u0 T (s.sv y) (s.sv z) d K s u=_;unfold fN aiy ajc;cases s.sv z with
 |v a=>
  cases s.sv y with
  |loc k off=>simp only[];cases s.find k<;>cases lay P T<;>rfl
  |_=>rfl
 |_=>rfl
theorem afV{T:TypeId}{k off:Nat}{a:Value}:aiy P x u0 T d K s u (.loc k off) (.v a)=ajc d K s u k off a.cells.toList (s.find k) (lay P T):=rfl
theorem adB{ρ:List (Nat×SV)}{σ:List (Nat×Loc)}{k off n b:Nat}{cs vs:List Value}{T:TypeId}{ag:Bool}:
  ajc none K ⟨ρ,σ⟩ u k off vs (some ⟨b,cs,T⟩) (some (ag,n))=(vs.length=n/\off+n<=cs.length/\bF vs=true/\K ⟨ρ,(k,⟨b,splice cs off vs,T⟩)::σ⟩ u):=rfl
def oR(b:Bool)(P:Program)(u0:World)(T:TypeId)(sv:Value)(sz:Nat)(i:Int)(off:Nat)(a:Value)(u:World)(K:World->Prop):Prop:=
 match bT sv sz i off with
 |some ad=>AtDo b P (fG T (.pointer (some ad)) a) u0 u K
 |none=>False
theorem afU{T:TypeId}{sv a:Value}{sz off:Nat}{i:Int}:aiy P x u0 T d K s u (.elt sv sz i off) (.v a)=oR x P u0 T sv sz i off a u (lh s d K):=rfl
def ani(P:Program)(x:Bool)(u0 u:World)(Ke:Value->World->Prop)(e:List (Nat×Value)->Sem Value)(vs:Option (List (Nat×Value))):Prop:=
 match vs with
 |some vs=>AtEff x P (e vs) u0 u Ke
 |none=>False
theorem qJ{T:TypeId}{n:Nat}{ps:List (Nat×Operand)}:cj P x u0 ⟨d,.buildSlice T n ps.toArray,ty,pos,aft,g⟩ K s u=
  ani P x u0 u (ey s d K) (fun vs=>ox T n vs.toArray) (ik s ps):=rfl
theorem acy{Ke:Value->World->Prop}{e:List (Nat×Value)->Sem Value}{vs:List (Nat×Value)}:ani P x u0 u Ke e (some vs)=AtEff x P (e vs) u0 u Ke:=rfl
def akG(P:Program)(x:Bool)(u0 u:World)(Ke:Value->World->Prop)(e:Value->Value->Sem Value)(y z:SV):Prop:=
 match y,z with
 | .v a,.v b=>AtEff x P (e a b) u0 u Ke
 |_,_=>False
theorem uO{T:TypeId}{y z:Operand}:cj P x u0 ⟨d,.makeSlice T y z,ty,pos,aft,g⟩ K s u=akG P x u0 u (ey s d K) (nJ T) (s.sv y) (s.sv z):=rfl
theorem aiI{Ke:Value->World->Prop}{e:Value->Value->Sem Value}{a b:Value}:akG P x u0 u Ke e (.v a) (.v b)=AtEff x P (e a b) u0 u Ke:=rfl
def anf(P:Program)(x:Bool)(u0 u:World)(Ke:Value->World->Prop)(e:Option Value->Sem Value)(y:Option (Option Value)):Prop:=
 match y with
 |some a=>AtEff x P (e a) u0 u Ke
 |none=>False
theorem yI{T:TypeId}{r:Option Operand}:cj P x u0 ⟨d,.makeMap T r,ty,pos,aft,g⟩ K s u=anf P x u0 u (ey s d K) (xM T) (ky s r):=rfl
theorem aeh{Ke:Value->World->Prop}{e:Option Value->Sem Value}{a:Option Value}:anf P x u0 u Ke e (some a)=AtEff x P (e a) u0 u Ke:=rfl
def anc(P:Program)(x:Bool)(u0 u:World)(Kw:World->Prop)(e:Value->Value->Value->Sem Unit)(y z t:SV):Prop:=
 match y,z,t with
 | .v a,.v b,.v c=>AtDo x P (e a b c) u0 u Kw
 |_,_,_=>False
theorem adU{T:TypeId}{y z t:Operand}:cj P x u0 ⟨d,.insert T y z t,ty,pos,aft,g⟩ K s u=anc P x u0 u (lh s d K) (qD T) (s.sv y) (s.sv z) (s.sv t):=rfl
theorem alQ{Kw:World->Prop}{e:Value->Value->Value->Sem Unit}{a b c:Value}:anc P x u0 u Kw e (.v a) (.v b) (.v c)=AtDo x P (e a b c) u0 u Kw:=rfl
def ahV(P:Program)(u:World)(Kv:Value->Prop)(e:List Value->Sem Value)(vs:Option (List Value)):Prop:=
 match vs with
 |some vs=>AtRead P (e vs) u Kv
 |none=>False
def ajh(P:Program)(x:Bool)(u0 u:World)(Ke:Value->World->Prop)(e:List Value->Sem Value)(vs:Option (List Value)):Prop:=
 match vs with
 |some vs=>AtEff x P (e vs) u0 u Ke
 |none=>False
theorem y4{Kv:Value->Prop}{e:List Value->Sem Value}{vs:List Value}:ahV P u Kv e (some vs)=AtRead P (e vs) u Kv:=rfl
theorem acb{Ke:Value->World->Prop}{e:List Value->Sem Value}{vs:List Value}:ajh P x u0 u Ke e (some vs)=AtEff x P (e vs) u0 u Ke:=rfl
variable {args:List Operand} {tys:Array TypeId}
def afP(P:Program)(Kv:Value->Prop)(e:List Value->Sem Value)(vs:Option (List Value)):Prop:=
 match vs with
 |some vs=>AtPure P (e vs) Kv
 |none=>False
theorem z_{Kv:Value->Prop}{e:List Value->Sem Value}{vs:List Value}:afP P Kv e (some vs)=AtPure P (e vs) Kv:=rfl
theorem ald:cj P x u0 ⟨d,.call ⟨.builtin .len,args.toArray,tys⟩,ty,pos,aft,g⟩ K s u=ahV P u (eZ s d u K) (fun vs=>oY tys ty vs.toArray) (vals s args):=rfl
theorem alW:cj P x u0 ⟨d,.call ⟨.builtin .cap,args.toArray,tys⟩,ty,pos,aft,g⟩ K s u=ahV P u (eZ s d u K) (fun vs=>t_ tys ty vs.toArray) (vals s args):=rfl
theorem ali:cj P x u0 ⟨d,.call ⟨.builtin .min,args.toArray,tys⟩,ty,pos,aft,g⟩ K s u=afP P (eZ s d u K) (fun vs=>uk tys ty vs.toArray) (vals s args):=rfl
theorem alN:cj P x u0 ⟨d,.call ⟨.builtin .max,args.toArray,tys⟩,ty,pos,aft,g⟩ K s u=afP P (eZ s d u K) (fun vs=>tp tys ty vs.toArray) (vals s args):=rfl
theorem adt:cj P x u0 ⟨d,.call ⟨.builtin .append,args.toArray,tys⟩,ty,pos,aft,g⟩ K s u=ajh P x u0 u (ey s d K) (fun vs=>iW tys ty vs.toArray) (vals s args):=rfl
theorem aiF:cj P x u0 ⟨d,.call ⟨.builtin .copy,args.toArray,tys⟩,ty,pos,aft,g⟩ K s u=ajh P x u0 u (ey s d K) (fun vs=>jF tys ty vs.toArray) (vals s args):=rfl
theorem ahp:cj P x u0 ⟨d,.call ⟨.builtin .clear,args.toArray,tys⟩,ty,pos,aft,g⟩ K s u=ajh P x u0 u (ey s d K) (fun vs=>t0 tys ty vs.toArray) (vals s args):=rfl
def ah5(P:Program)(x:Bool)(u0:World)(args:List Operand)(d:Option Tmp)(K:S->World->Prop)(s:S)(u:World)(f:SV):Prop:=
 match f with
 | .v (.func (.func g) first captured)=>f_ u0 args s u (rz x P u0 g first.toList captured.toList K d)
 | .v fv=>f_ u0 args s u (pd x P u0 fv K d)
 |_=>False
theorem ai6{f:Operand}:cj P x u0 ⟨d,.call ⟨.value f,args.toArray,tys⟩,ty,pos,aft,g⟩ K s u=ah5 P x u0 args d K s u (s.sv f):=by
 show lu P x u0 ⟨.value f,args.toArray,tys⟩ ty d K s u=_;unfold lu ah5;simp only[];cases s.sv f with
 |v y=>cases y with
  |func fn first captured=>cases fn<;>rfl
  |_=>rfl
 |_=>rfl
theorem acI{f:FuncId}{first captured:List Value}:ah5 P x u0 args d K s u (.v (.func (.func f) first.toArray captured.toArray))=f_ u0 args s u (rz x P u0 f first captured K d):=rfl
theorem ahZ{f:FuncId}{first captured vs:List Value}:rz x P u0 f first captured K d vs s u=AtCall x P f (first++vs++captured) u0 u (ey s d K):=rfl
end
theorem pU{ρ:List (Nat×SV)}{σ:List (Nat×Loc)}{t:Nat}:(S.mk ρ σ).sv (.tmp t)=(lk ρ t).getD .unk:=rfl
theorem vC{v:Value}:s.sv (.const v)= .v v:=rfl
theorem aie{f:Nat}:s.sv (.func f)= .v (.func (.func f) #[] #[]):=rfl
theorem amb{ρ:List (Nat×SV)}{σ:List (Nat×Loc)}{t:Nat}:(S.mk ρ σ).get t=(lk ρ t).getD .unk:=rfl
theorem ajO{ρ:List (Nat×SV)}{σ:List (Nat×Loc)}{k:Nat}:(S.mk ρ σ).find k=lk σ k:=rfl
theorem lO{ρ:List (Nat×SV)}{σ:List (Nat×Loc)}{d:Nat}{y:SV}:(S.mk ρ σ).put (some d) y=⟨(d,y)::ρ,σ⟩:=rfl
theorem ahD{y:SV}:s.put none y=s:=rfl
theorem alb{α:Type}{t:Nat}:lk ([]:List (Nat×α)) t=none:=rfl
theorem t8{α:Type}{t:Nat}{y:α}{r:List (Nat×α)}:lk ((t,y)::r) t=some y:=au
theorem ajg{α:Type}{k t:Nat}{y:α}{r:List (Nat×α)}(h:(k==t)=false):lk ((k,y)::r) t=lk r t:=aj (by simpa using h)
theorem amF{y:Value}:s.val (.v y)=some y:=rfl
theorem aeN:vals s []=some []:=rfl
def VsK(a:SV)(r:Option (List Value)):Option (List Value):=
 match a with
 | .v a=>match r with
  |some vs=>some (a::vs)
  |none=>none
 |_=>none
theorem ad7{y:Operand}{r:List Operand}:vals s (y::r)=VsK (s.sv y) (vals s r):=rfl
theorem ang{a:Value}{vs:List Value}:VsK (.v a) (some vs)=some (a::vs):=rfl
theorem ad6:ik s []=some []:=rfl
def PsK(i:Nat)(a:SV)(r:Option (List (Nat×Value))):Option (List (Nat×Value)):=
 match a with
 | .v a=>match r with
  |some vs=>some ((i,a)::vs)
  |none=>none
 |_=>none
theorem zY{i:Nat}{y:Operand}{r:List (Nat×Operand)}:ik s ((i,y)::r)=PsK i (s.sv y) (ik s r):=rfl
theorem ams{i:Nat}{a:Value}{vs:List (Nat×Value)}:PsK i (.v a) (some vs)=some ((i,a)::vs):=rfl
theorem ahE{Kp:List Value->S->World->Prop}:f_ u0 [] s u Kp=Kp [] s u:=rfl
def ajU(u0:World)(k off:Nat)(r:List Operand)(s:S)(u:World)(Kp:List Value->S->World->Prop)(l:Option Loc):Prop:=
 match l with
 | some l=> ∀u',Sub u u'->Fresh u l.b->Fresh u0 l.b->u'.heap[l.b]? =some (.cells l.cells.toArray l.T (0,0))->(∀b',b'≠l.b->Fresh u b'->Fresh u' b')->
   f_ u0 r (s.pub k l.b) u' (pP (.pointer (some ⟨l.b,off,none⟩)) Kp)
 |none=>False
def akn(u0:World)(r:List Operand)(s:S)(u:World)(Kp:List Value->S->World->Prop)(y:SV):Prop:=
 match y with
 | .v a=>f_ u0 r s u (pP a Kp)
 | .loc k off=>ajU u0 k off r s u Kp (s.find k)
 |_=>False
theorem adM{y:Operand}{r:List Operand}{Kp:List Value->S->World->Prop}:f_ u0 (y::r) s u Kp=akn u0 r s u Kp (s.sv y):=by grind [f_,akn,ajU]
theorem alg{r:List Operand}{Kp:List Value->S->World->Prop}{a:Value}:akn u0 r s u Kp (.v a)=f_ u0 r s u (pP a Kp):=rfl
theorem agm{r:List Operand}{Kp:List Value->S->World->Prop}{k off:Nat}:akn u0 r s u Kp (.loc k off)=ajU u0 k off r s u Kp (s.find k):=rfl
theorem acp{r:List Operand}{Kp:List Value->S->World->Prop}{k off b:Nat}{cs:List Value}{T:TypeId}:ajU u0 k off r s u Kp (some ⟨b,cs,T⟩)=
  ∀u',Sub u u'->Fresh u b->Fresh u0 b->u'.heap[b]? =some (.cells cs.toArray T (0,0))->(∀b',b'≠b->Fresh u b'->Fresh u' b')->f_ u0 r (s.pub k b) u' (pP (.pointer (some ⟨b,off,none⟩)) Kp):=rfl
theorem afe{a:Value}{vs:List Value}{Kp:List Value->S->World->Prop}:pP a Kp vs s u=Kp (a::vs) s u:=rfl
theorem alw{ρ:List (Nat×SV)}{σ:List (Nat×Loc)}{k b:Nat}:(S.mk ρ σ).pub k b=⟨zw k b ρ,lV k σ⟩:=rfl
def bq(k:IntKind)(z:Int)(Kv:Value->Prop):Prop:=Kv (.int k (k.wrap z))
theorem aA{e:Sem Value}{Kv:Value->Prop}{r:Value}(h: ∀w,e.run P w= .ok r w):AtPure P e Kv=Kv r:=by
 apply propext;constructor
 ·rintro⟨r',h',hk⟩
  have:=h' default;rw[h default]at this;cases this;exact hk
 ·intro hk;exact⟨r,h,hk⟩
theorem mE{e:Sem Value}{Kv:Value->Prop}{r:Value}(h: ∀w,e.run P w= .ok r w):AtRead P e u Kv=Kv r:=by
 apply propext;constructor
 ·rintro⟨r',h',hk⟩
  have:=h' u (Sub.refl u);rw[h u]at this;cases this;exact hk
 ·intro hk;exact⟨r,fun w _=>h w,hk⟩
section
variable {k:IntKind} {T:TypeId} {y z:Operand} {a b:Int} {Kv:Value->Prop}
theorem um:AtPure P (bm .add T y z (.int k a) (.int k b)) Kv=bq k (a+b) Kv:=aA fun w=>by simp[bm,eqGuard,binOp,Op.intArith]
theorem aix:AtPure P (bm .sub T y z (.int k a) (.int k b)) Kv=bq k (a-b) Kv:=aA fun w=>by simp[bm,eqGuard,binOp,Op.intArith]
theorem akc:AtPure P (bm .mul T y z (.int k a) (.int k b)) Kv=bq k (a*b) Kv:=aA fun w=>by simp[bm,eqGuard,binOp,Op.intArith]
theorem uF:AtPure P (bm .lss T y z (.int k a) (.int k b)) Kv=Kv (.bool (decide (a<b))):=aA fun w=>by simp[bm,eqGuard,binOp,Op.intCmp]
theorem akd:AtPure P (bm .leq T y z (.int k a) (.int k b)) Kv=Kv (.bool (decide (a<=b))):=aA fun w=>by simp[bm,eqGuard,binOp,Op.intCmp]
theorem ajm:AtPure P (bm .gtr T y z (.int k a) (.int k b)) Kv=Kv (.bool (decide (b<a))):=aA fun w=>by simp[bm,eqGuard,binOp,Op.intCmp]
theorem ajY:AtPure P (bm .geq T y z (.int k a) (.int k b)) Kv=Kv (.bool (decide (b<=a))):=aA fun w=>by simp[bm,eqGuard,binOp,Op.intCmp]
theorem ajC:AtPure P (bm .eql T y z (.int k a) (.int k b)) Kv=Kv (.bool (a==b)):=aA fun w=>by simp[bm,eqGuard,binOp,Op.intCmp]
theorem aiT:AtPure P (bm .neq T y z (.int k a) (.int k b)) Kv=Kv (.bool (a !=b)):=aA fun w=>by simp[bm,eqGuard,binOp,Op.intCmp]
theorem amd{t:Bool}:AtPure P (iUn .not (.bool t)) Kv=Kv (.bool (!t)):=aA fun w=>by simp[iUn,Op.unary]
theorem dQ(h: -9223372036854775808<=a/\a<=9223372036854775807):bq .i64 a Kv=Kv (.int .i64 a):=by unfold bq;rw[IntWalk.i64_in a h]
theorem ahc(h:0<=a/\a<=255):bq .u8 a Kv=Kv (.int .u8 a):=by unfold bq;rw[IntWalk.u8_in a h]
theorem aec(h:0<=a/\a<=65535):bq .u16 a Kv=Kv (.int .u16 a):=by unfold bq;rw[IntWalk.u16_in a h]
theorem acF(h:0<=a/\a<=4294967295):bq .u32 a Kv=Kv (.int .u32 a):=by unfold bq;rw[IntWalk.u32_in a h]
theorem mz(h:0<=a/\a<=18446744073709551615):bq .u64 a Kv=Kv (.int .u64 a):=by unfold bq;rw[IntWalk.u64_in a h]
def eu(P:Program)(T:TypeId):Bool:=
 match P.underlying T with
 |some (.slice _)=>true
 |_=>false
theorem ku(h:eu P T=true): ∃e,P.underlying T=some (.slice e):=by grind [eu]
def lP(P:Program)(T:TypeId):Option IntKind:=
 match P.underlying T with
 |some (.int k)=>some k
 |_=>none
theorem mP{k':IntKind}(h:lP P T=some k'):P.underlying T=some (.int k'):=by grind [lP]
def anr(k:Option IntKind)(P:Program)(src dst:TypeId)(v:Value)(a:Int)(u:World)(Kv:Value->Prop)(ks:Option IntKind):Prop:=
 match ks,k with
 |some _,some k=>bq k a Kv
 |_,_=>AtRead P (dO src dst v) u Kv
theorem aaP{src dst:TypeId}{v:Value}{k' k2:IntKind}:anr (some k') P src dst v a u Kv (some k2)=bq k' a Kv:=rfl
theorem gl{p:Option Addr}{n c:Nat}{ty:TypeId}(h:eu P T=true):AtRead P (oY #[T] ty #[.slice p n c]) u Kv=Kv (.int .i64 n):=by
 obtain⟨e,hs⟩:=ku h;exact mE fun w=>by simp[oY,Builtin.len_,run_underlying hs,goInt]
theorem mH{p:Option Addr}{n c:Nat}{ty:TypeId}(h:eu P T=true):AtRead P (t_ #[T] ty #[.slice p n c]) u Kv=Kv (.int .i64 c):=by
 obtain⟨e,hs⟩:=ku h;exact mE fun w=>by simp[t_,Builtin.cap_,run_underlying hs,goInt]
theorem qt{s:ByteArray}{ty:TypeId}(hs:P.underlying T=some .string):AtRead P (oY #[T] ty #[.string s]) u Kv=Kv (.int .i64 s.size):=
 mE fun w=>by simp[oY,Builtin.len_,run_underlying hs,goInt]
theorem aiK{tys:Array TypeId}{ty:TypeId}:AtPure P (uk tys ty #[.int k a,.int k b]) Kv=Kv (.int k (if b<a then b else a)):=
 aA fun w=>by simp[uk,Builtin.min_,Builtin.min2]
theorem akr{tys:Array TypeId}{ty:TypeId}:AtPure P (tp tys ty #[.int k a,.int k b]) Kv=Kv (.int k (if a<b then b else a)):=
 aA fun w=>by simp[tp,Builtin.max_,Builtin.max2]
theorem agN{c d:Bool}(hs:P.underlying T=some .bool):AtPure P (bm .eql T y z (.bool c) (.bool d)) Kv=Kv (.bool (c==d)):=
 aA fun w=>by simp only[bm,eqGuard,Sem.run_bind,Sem.run_pure,Result.andThen_ok,Bool.not_true,Bool.false_eq_true,if_false,run_eql_bool w T c d hs]
theorem aeK{c d:Bool}(hs:P.underlying T=some .bool):AtPure P (bm .neq T y z (.bool c) (.bool d)) Kv=Kv (.bool (!(c==d))):=
 aA fun w=>by simp only[bm,eqGuard,Sem.run_bind,Sem.run_pure,Result.andThen_ok,Bool.not_true,Bool.false_eq_true,if_false,run_neq_bool w T c d hs]
theorem kF{p:Option Addr}{n c:Nat}(h:eu P T=true):AtPure P (bm .eql T y z (.slice p n c) (.slice none 0 0)) Kv=Kv (.bool p.isNone):=by
 obtain⟨e,hs⟩:=ku h;exact aA fun w=>by simp only[bm,eqGuard,Sem.run_bind,Sem.run_pure,Result.andThen_ok,Bool.not_true,Bool.false_eq_true,if_false,binOp,Op.equal,Op.maxDepth,run_equalIn_slice_nil w 9999 T e p n c hs]
theorem kE{p:Option Addr}{n c:Nat}(h:eu P T=true):AtPure P (bm .neq T y z (.slice p n c) (.slice none 0 0)) Kv=Kv (.bool (!p.isNone)):=by
 obtain⟨e,hs⟩:=ku h;exact aA fun w=>by simp only[bm,eqGuard,Sem.run_bind,Sem.run_pure,Result.andThen_ok,Bool.not_true,Bool.false_eq_true,if_false,run_neq_slice_nil w T e p n c hs]
end
end
attribute [go_sem] abw alU abB mO ais al9 aba oy ny ab_ yb agI adl qK zF nO qP aay aa2 wj agD mj iZ aef aaQ cV aeO afm abK aaM xm vi yi zx lY afn wm abC acW ah6 aiL ajL aee acO ael adS adp tD aij aiV yG aar amv am4 zg ahw xn afD agJ vm agf afb aen adH am0 uL z7 yO yM tz alV aac ajA zQ aeo acB agR xA alo agj ahq zT aim ahG afV adB afU qJ acy uO aiI yI aeh adU alQ y4 z_ acb ald alW ali alN adt aiF ahp ai6 acI ahZ pU vC aie amb ajO lO ahD alb t8 ajg amF aeN ad7 ang ad6 zY ams ahE adM alg agm acp afe alw zw jb lV ft aaB aa4 zD t9 y7 aaZ y0 vT agF ahX ite_true splice um aix akc uF akd ajm ajY ajC aiT amd agN aeK kF kE aaP gl mH qt aiK akr bF Value.oneCell' Value.cells List.nil_append List.cons_append List.append_nil List.drop_zero List.drop_succ_cons List.drop_nil List.take_zero List.take_succ_cons List.take_nil List.headD_cons List.length_cons List.length_nil Option.getD_some Option.getD_none Option.map_some Option.isNone_none Option.isNone_some Option.isSome_some Nat.zero_add Nat.add_zero Nat.le_refl cond_true cond_false Bool.true_and Bool.and_true Bool.not_true Bool.not_false and_true true_and eq_self true_implies ge_iff_le
structure Lf2(q:Prop):Prop where
 out:q
theorem vs_{p q:Prop}(k:q)(e:Lf2 q->p:=by intro k;(simp only[go_sem,cJ,bO,cq,bX,Nat.reduceBEq,Nat.reduceAdd,Nat.reduceLeDiff,Nat.reduceEqDiff,Int.reduceAdd,Int.reduceBEq,Int.reduceBNe,reduceCtorEq,beq_self_eq_true,Bool.true_beq,Bool.false_beq];repeat ((with_reducible refine afA ?_);simp only[go_sem,cJ,bO,cq,bX,Nat.reduceBEq,Nat.reduceAdd,Nat.reduceLeDiff,Nat.reduceEqDiff,Int.reduceAdd,Int.reduceBEq,Int.reduceBNe,reduceCtorEq,beq_self_eq_true,Bool.true_beq,Bool.false_beq]));exact k.out):p:=e ⟨k⟩
