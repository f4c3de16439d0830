import Derived.Test.YtmhmahcdanclnaaGreatNb4
import Derived.Laws.Cover3
set_option linter.unusedSectionVars false
set_option linter.unusedSimpArgs false
set_option linter.unusedVariables false
set_option maxRecDepth 10000
namespace Go.Eng
section
variable {P:Program} {u0 u:World} {Q:Exit->S->World->Prop} {s:S} {K:S->World->Prop}
theorem ae3:vc P u0 .skip Q s u=Q .normal s u:=rfl
theorem aqI:vc P u0 .ret Q s u=Q .ret s u:=rfl
theorem aeX{id:Nat}:vc P u0 (.exit id) Q s u=Q (.exit id) s u:=rfl
theorem oV{id:Nat}{l:List Oper}:vc P u0 (.region id l.toArray false) Q s u=mj P u0 l (Q .normal) l s u:=rfl
theorem amN{id:Nat}{l:List Oper}:vc P u0 (.region id l.toArray true) Q s u=ab8 P u0 l.toArray (Q .normal) s u:=rfl
theorem aqQ{x y:Code}:vc P u0 (.seq x y) Q s u=vc P u0 x (ane P u0 y Q) s u:=rfl
def kM(c:SV)(s:S)(u:World)(P:Program)(u0:World)(x y:Code)(Q:Exit->S->World->Prop):Prop:=
 match c with
 | .v (.bool t)=>(t=true->vc P u0 x Q s u)/\(t=false->vc P u0 y Q s u)
 |_=>False
theorem aeY{c:Operand}{x y:Code}:vc P u0 (.cond c x y) Q s u=kM (s.sv c) s u P u0 x y Q:=rfl
theorem tH{x y:Code}:kM (.v (.bool true)) s u P u0 x y Q=vc P u0 x Q s u:=by simp[kM]
theorem pW{x y:Code}:kM (.v (.bool false)) s u P u0 x y Q=vc P u0 y Q s u:=by simp[kM]
theorem ahO{x y:Code}{t:Bool}:kM (.v (.bool (!t))) s u P u0 x y Q=kM (.v (.bool t)) s u P u0 y x Q:=by
 cases t<;>simp[kM]
theorem qS{x y:Code}{p:Prop}[Decidable p](h1:p->vc P u0 x Q s u)(h2: ¬p->vc P u0 y Q s u):kM (.v (.bool (decide p))) s u P u0 x y Q:=
 ⟨fun h=>h1 (of_decide_eq_true h),fun h=>h2 (of_decide_eq_false h)⟩
theorem ql{x y:Code}{a b:Int}(h1:a=b->vc P u0 x Q s u)(h2:a≠b->vc P u0 y Q s u):kM (.v (.bool (a==b))) s u P u0 x y Q:=
 ⟨fun h=>h1 (by simpa using h),fun h=>h2 (by simpa using h)⟩
theorem aeP{x y:Code}{a b:Int}(h1:a≠b->vc P u0 x Q s u)(h2:a=b->vc P u0 y Q s u):kM (.v (.bool (a !=b))) s u P u0 x y Q:=
 ⟨fun h=>h1 (by simpa using h),fun h=>h2 (by simpa using h)⟩
theorem bD{id:Nat}{x y:Code}:vc P u0 (.block id (.seq x y)) Q s u=vc P u0 (.seq x y) (fB id Q) s u:=rfl
theorem bc{id i:Nat}{l:Array Oper}{d:Bool}:vc P u0 (.block id (.region i l d)) Q s u=vc P u0 (.region i l d) (fB id Q) s u:=by cases d<;>rfl
theorem bw{id:Nat}{c:Operand}{x y:Code}:vc P u0 (.block id (.cond c x y)) Q s u=vc P u0 (.cond c x y) (fB id Q) s u:=rfl
theorem bk{id j:Nat}{x:Code}:vc P u0 (.block id (.block j x)) Q s u=vc P u0 (.block j x) (fB id Q) s u:=rfl
theorem tZ{id:Nat}:fB id Q .normal s u=LeK (Q .normal) s u:=rfl
theorem abk{id:Nat}:fB id Q .ret s u=Q .ret s u:=rfl
theorem akd{K:S->World->Prop}(h:K s u):LeK K s u:=.inl h
theorem aai{y:Code}:ane P u0 y Q .normal s u=vc P u0 y Q s u:=rfl
theorem aiz{y:Code}:ane P u0 y Q .ret s u=Q .ret s u:=rfl
theorem ahE{y:Code}{j:Nat}:ane P u0 y Q (.exit j) s u=Q (.exit j) s u:=rfl
theorem t8{id:Nat}:fu id Q .normal s u=Q .normal s u:=rfl
theorem aei{id:Nat}:fu id Q .ret s u=Q .ret s u:=rfl
theorem pf{id j:Nat}:fu id Q (.exit j) s u=bif j==id then Q .normal s u else Q (.exit j) s u:=rfl
theorem wx{γ:Type}{st:γ->S}{F:γ->World->Prop}{μ:γ->Nat}{g:γ}:aeI st F μ g Q .normal s u= ∃g',(st g').le s/\F g' u/\μ g'<μ g:=rfl
theorem aci{γ:Type}{st:γ->S}{F:γ->World->Prop}{μ:γ->Nat}{g:γ}{j:Nat}:aeI st F μ g Q (.exit j) s u=Q (.exit j) s u:=rfl
theorem aad{rs:List ResultVar}{Post:Value->World->Prop}:aih P rs Post .normal s u=mh Post (cG P s rs) u:=rfl
theorem akw{rs:List ResultVar}{Post:Value->World->Prop}:aih P rs Post .ret s u=mh Post (cG P s rs) u:=rfl
theorem adL:cG P s []=some (.tuple #[]):=rfl
theorem acS{x:ResultVar}:cG P s [x]=bV P s x:=rfl
def apg(a b:Option Value):Option Value:=
 match a,b with
 |some a,some b=>some (.tuple #[a,b])
 |_,_=>none
def apx(a b c:Option Value):Option Value:=
 match a,b,c with
 |some a,some b,some c=>some (.tuple #[a,b,c])
 |_,_,_=>none
theorem acI{x y:ResultVar}:cG P s [x,y]=apg (bV P s x) (bV P s y):=rfl
theorem wO{x y z:ResultVar}:cG P s [x,y,z]=apx (bV P s x) (bV P s y) (bV P s z):=rfl
theorem acz{a b:Value}:apg (some a) (some b)=some (.tuple #[a,b]):=rfl
theorem abd{a b c:Value}:apx (some a) (some b) (some c)=some (.tuple #[a,b,c]):=rfl
theorem abZ{t:Nat}:bV P s (.tmp t)=s.val (s.get t):=rfl
def ams(ag:Bool)(n off:Nat)(l:Option Loc):Option Value:=
 match l with
 |some l=>if (n=1\/ag=true)/\off+n<=l.cells.length then some (ld ag n off l.cells)else none
 |none=>none
def aqu(s:S)(x:SV)(l:Option (Bool×Nat)):Option Value:=
 match x,l with
 | .loc k off,some (ag,n)=>ams ag n off (s.find k)
 |_,_=>none
theorem zS{t T:Nat}:bV P s (.cell t T)=aqu s (s.get t) (lay P T):=by grind [bV,aqu,lay,ams]
theorem aiU{k off n:Nat}{ag:Bool}:aqu s (.loc k off) (some (ag,n))=ams ag n off (s.find k):=rfl
theorem ai5{off b:Nat}{cs:List Value}{T:TypeId}:ams false 1 off (some ⟨b,cs,T⟩)=if off+1<=cs.length then some ((cs.drop off).headD undef)else none:=by simp[ams,ld]
theorem oU{all:List Oper}:mj P u0 all K [] s u=K s u:=rfl
theorem jR{all:List Oper}{o:Oper}{r:List Oper}:mj P u0 all K (o::r) s u=vcG P false u0 all o (mj P u0 all K r) s u:=rfl
theorem aqO{x:Bool}{i:Nat}{o:Oper}:XOk m0 x i o s=True:=
 eq_true ⟨fun h=>(by cases h),fun _=>qp,fun h=>(by cases h)⟩
def wh(P:Program)(x:Bool)(u0:World)(all:List Oper)(K:S->World->Prop)(t:OT)(s:S)(u:World)(o:Option Oper):Prop:=
 match o with
 |some o=>vcG P x u0 all o (vcT P u0 all m0 K t) s u
 |none=>False
theorem aaa{all:List Oper}{i:Nat}{x:Bool}{t:OT}{o:Option Oper}:(match o with
  |some o=>XOk m0 x i o s/\vcG P x u0 all o (fun s' u'=>XK m0 o s s'/\vcT P u0 all m0 K t s' u') s u
  |none=>False)=wh P x u0 all K t s u o:=by
 have h: ∀(o:Oper) (s':S),XK m0 o s s'=True:=fun o s'=>eq_true ⟨trivial,trivial⟩
 cases o<;>simp only[aqO,h,true_and,wh]
theorem aj9{all:List Oper}:vcT P u0 all m0 K .done s u=K s u:=rfl
theorem aiF{all:List Oper}{i:Nat}{t:OT}:vcT P u0 all m0 K (.fl i t) s u=wh P false u0 all K t s u (bx all i):=aaa
theorem aeV{all:List Oper}{i:Nat}{x:Bool}{t:OT}:vcT P u0 all m0 K (.eff i x t .no) s u=wh P x u0 all K t s u (bx all i):=by
 rw[<-aaa (i:=i)];exact and_true _
theorem ahm{ops:Array Oper}{all:List Oper}:vcT P u0 all m0 K (lin ops []) s u=K s u:=rfl
theorem aed{ops:Array Oper}{all:List Oper}{i:Nat}{x:Bool}{r:List (Nat×Bool)}:vcT P u0 all m0 K (lin ops ((i,x)::r)) s u=wh P x u0 all K (lin ops r) s u (bx all i):=by
 rw[lin];cases x<;>cases lH ops i<;>first|exact aeV|exact aiF
theorem adv{all:List Oper}{x:Bool}{t:OT}{o:Oper}:wh P x u0 all K t s u (some o)=vcG P x u0 all o (vcT P u0 all m0 K t) s u:=rfl
theorem zE{o:Oper}{r:List Oper}:bx (o::r) 0=some o:=rfl
theorem aaI{o:Oper}{r:List Oper}{j:Nat}:bx (o::r) (j+1)=bx r j:=rfl
theorem adE{o:Oper}{r:List Oper}:jf (o::r) 0=o.dst:=rfl
theorem abc{o:Oper}{r:List Oper}{j:Nat}:jf (o::r) (j+1)=jf r j:=rfl
def abG(want:Bool)(A B:Prop)(c:SV):Prop:=
 match c with
 | .v (.bool c)=>(c=want->A)/\(c= !want->B)
 | .v (.tuple _)=>B
 |_=>False
def adZ(P:Program)(x:Bool)(u0:World)(o:Oper)(K:S->World->Prop)(s:S)(u:World)(want:Bool)(d:Option Nat):Prop:=
 match d with
 |some d=>abG want (bO P x u0 o K s u) (K (s.put o.dst (.v undef)) u) (s.get d)
 |none=>False
section
variable {x:Bool} {all:List Oper} {d:Option Tmp} {op:Op} {ty:TypeId} {pos:String} {aft:Array Edge}
theorem nt:vcG P x u0 all ⟨d,op,ty,pos,aft,none⟩ K s u=bO P x u0 ⟨d,op,ty,pos,aft,none⟩ K s u:=rfl
theorem akk{j:Nat}{b:Bool}:vcG P x u0 all ⟨d,op,ty,pos,aft,some (j,b)⟩ K s u=adZ P x u0 ⟨d,op,ty,pos,aft,some (j,b)⟩ K s u b (jf all j):=by grind [vcG,adZ,abG,jf]
end
def q_(P:Program)(x:Bool)(u0:World)(o:Oper)(K:S->World->Prop)(s:S)(u:World)(want:Bool)(c:SV):Prop:=
 abG want (bO P x u0 o K s u) (K (s.put o.dst (.v undef)) u) c
section
variable {x:Bool} {o:Oper} {b:Bool}
theorem aa2{e:Nat}:adZ P x u0 o K s u b (some e)=q_ P x u0 o K s u b (s.get e):=rfl
theorem pg{c:Bool}(h1:c=b->bO P x u0 o K s u)(h2:c= !b->K (s.put o.dst (.v undef)) u):q_ P x u0 o K s u b (.v (.bool c)):=⟨h1,h2⟩
theorem eg{c:Bool}(h:c=b)(h1:bO P x u0 o K s u):q_ P x u0 o K s u b (.v (.bool c)):=by subst h;exact⟨fun _=>h1,fun h=>by cases c<;>cases h⟩
theorem gj{c:Bool}(h:c= !b)(h1:K (s.put o.dst (.v undef)) u):q_ P x u0 o K s u b (.v (.bool c)):=by subst h;exact⟨(fun h=>by cases b<;>cases h),fun _=>h1⟩
end
section
variable {x:Bool} {d:Option Tmp} {ty:TypeId} {pos:String} {aft:Array Edge} {g:Option (Nat×Bool)}
theorem afh{y:Operand}:bO P x u0 ⟨d,.move y,ty,pos,aft,g⟩ K s u=K (s.put d (s.sv y)) u:=rfl
theorem afX{y:Operand}:bO P x u0 ⟨d,.assign y,ty,pos,aft,g⟩ K s u=K (s.put d (s.sv y)) u:=rfl
def apu(K:S->World->Prop)(s:S)(d:Option Tmp)(u:World)(y z:SV)(c:SV):Prop:=
 match c with
 | .v (.bool t)=>K (s.put d (bif t then y else z)) u
 |_=>False
theorem ao0{c y z:Operand}:bO P x u0 ⟨d,.pick c y z,ty,pos,aft,g⟩ K s u=apu K s d u (s.sv y) (s.sv z) (s.sv c):=rfl
theorem ani{y z:SV}{t:Bool}:apu K s d u y z (.v (.bool t))=K (s.put d (bif t then y else z)) u:=rfl
def uR(K:Value->Prop)(ag:Bool)(n off:Nat)(l:Option Loc):Prop:=
 match l with
 |some l=>(n=1\/ag=true)/\off+n<=l.cells.length/\K (ld ag n off l.cells)
 |none=>False
def afz(K:Value->Prop)(s:S)(u:World)(y:SV)(l:Option (Bool×Nat)):Prop:=
 match l with
 |some (ag,n)=>
  match y with
  | .loc k off=>uR K ag n off (s.find k)
  | .elt sv sz i off=>afu u sv sz i ag n off K
  | .v (.pointer (some a))=>ai3 u a ag n K
  |_=>False
 |none=>False
theorem amQ{T:TypeId}{y:Operand}:bO P x u0 ⟨d,.load T y,ty,pos,aft,g⟩ K s u=afz (eV s d u K) s u (s.sv y) (lay P T):=rfl
theorem ahy{Kv:Value->Prop}{k off n:Nat}{ag:Bool}:afz Kv s u (.loc k off) (some (ag,n))=uR Kv ag n off (s.find k):=rfl
theorem ag4{Kv:Value->Prop}{sv:Value}{sz off n:Nat}{i:Int}{ag:Bool}:afz Kv s u (.elt sv sz i off) (some (ag,n))=afu u sv sz i ag n off Kv:=rfl
theorem ag2{Kv:Value->Prop}{a:Addr}{n:Nat}{ag:Bool}:afz Kv s u (.v (.pointer (some a))) (some (ag,n))=ai3 u a ag n Kv:=rfl
theorem af2{Kv:Value->Prop}{n off b:Nat}{cs:List Value}{T:TypeId}:uR Kv true n off (some ⟨b,cs,T⟩)=(off+n<=cs.length/\Kv (.agg ((cs.drop off).take n).toArray)):=by
 simp[uR,ld]
theorem ahs{Kv:Value->Prop}{off b:Nat}{cs:List Value}{T:TypeId}:uR Kv false 1 off (some ⟨b,cs,T⟩)=(off+1<=cs.length/\Kv ((cs.drop off).headD undef)):=by
 simp[uR,ld]
theorem wT{r:Value}:eV s d u K r=K (s.put d (.v r)) u:=rfl
theorem apa{r:Value}:eD s d K r u=K (s.put d (.v r)) u:=rfl
theorem anX:lW s d K u=K (s.put d (.v undef)) u:=rfl
def arL(P:Program)(op:BinOp)(T:TypeId)(y z:Operand)(Kv:Value->Prop)(a b:SV):Prop:=
 match a,b with
 | .v a,.v b=>AtPure P (bp op T y z a b) Kv
 |_,_=>False
theorem acf{op:BinOp}{T t2:TypeId}{y z:Operand}:bO P x u0 ⟨d,.binOp op T y z t2,ty,pos,aft,g⟩ K s u=arL P op T y z (eV s d u K) (s.sv y) (s.sv z):=rfl
theorem ad1{op:BinOp}{T:TypeId}{y z:Operand}{Kv:Value->Prop}{a b:Value}:arL P op T y z Kv (.v a) (.v b)=AtPure P (bp op T y z a b) Kv:=rfl
def UnK(P:Program)(op:UnOp)(Kv:Value->Prop)(a:SV):Prop:=
 match a with
 | .v a=>AtPure P (iUn op a) Kv
 |_=>False
theorem arW{op:UnOp}{T:TypeId}{y:Operand}:bO P x u0 ⟨d,.unOp op T y,ty,pos,aft,g⟩ K s u=UnK P op (eV s d u K) (s.sv y):=rfl
theorem arw{op:UnOp}{Kv:Value->Prop}{a:Value}:UnK P op Kv (.v a)=AtPure P (iUn op a) Kv:=rfl
def aps(P:Program)(x:Bool)(u0:World)(src dst:TypeId)(s:S)(d:Option Tmp)(K:S->World->Prop)(u:World)(a:SV)(same:Bool):Prop:=
 match a with
 | .v a=>bif same then AtEff x P (dp src dst a) u0 u (eD s d K)else AtRead P (dp src dst a) u (eV s d u K)
 |_=>False
attribute [go_sem] Bool.false_and Bool.or_false Bool.false_or
theorem abO{src dst:TypeId}{y:Operand}:bO P x u0 ⟨d,.convert src dst y,ty,pos,aft,g⟩ K s u=aps P x u0 src dst s d K u (s.sv y) (src==dst||(src==9&&dst==52)):=rfl
theorem ajf{src dst:TypeId}{a:Value}:aps P x u0 src dst s d K u (.v a) false=AtRead P (dp src dst a) u (eV s d u K):=rfl
theorem yg{fn:Fn}{first captured:List Operand}:bO P x u0 ⟨d,.makeFunc fn first.toArray captured.toArray,ty,pos,aft,g⟩ K s u=
  gI u0 (first++captured) s u (afn K d fn first.length):=rfl
theorem ajX{fn:Fn}{n:Nat}{vs:List Value}:afn K d fn n vs s u=K (s.put d (.v (.func fn (vs.take n).toArray (vs.drop n).toArray))) u:=rfl
def ai9(P:Program)(T:TypeId)(Kv:Value->Prop)(vs:Option (List (Nat×Value))):Prop:=
 match vs with
 |some vs=>AtPure P (j8 T vs.toArray) Kv
 |none=>False
theorem alo{T:TypeId}{ps:List (Nat×Operand)}:bO P x u0 ⟨d,.build T ps.toArray,ty,pos,aft,g⟩ K s u=ai9 P T (eV s d u K) (ja s ps):=rfl
theorem yw{T:TypeId}{Kv:Value->Prop}{vs:List (Nat×Value)}:ai9 P T Kv (some vs)=AtPure P (j8 T vs.toArray) Kv:=rfl
def ajc(P:Program)(T:TypeId)(Kv:Value->Prop)(a:SV)(l h m:Option (Option Value)):Prop:=
 match a,l,h,m with
 | .v a,some l,some h,some m=>AtPure P (cw T a l h m) Kv
 |_,_,_,_=>False
theorem alE{T:TypeId}{y:Operand}{lo hi mx:Option Operand}:bO P x u0 ⟨d,.slice T y lo hi mx,ty,pos,aft,g⟩ K s u=
  ajc P T (eV s d u K) (s.sv y) (lX s lo) (lX s hi) (lX s mx):=rfl
theorem aly{T:TypeId}{Kv:Value->Prop}{a:Value}{l h m:Option Value}:ajc P T Kv (.v a) (some l) (some h) (some m)=AtPure P (cw T a l h m) Kv:=rfl
def OvK(a:SV):Option (Option Value):=
 match a with
 | .v a=>some (some a)
 |_=>none
theorem ahN:lX s none=some none:=rfl
theorem ah0{y:Operand}:lX s (some y)=OvK (s.sv y):=rfl
theorem asj{a:Value}:OvK (.v a)=some (some a):=rfl
def xy(d:Option Tmp)(K:S->World->Prop)(s:S)(u:World)(y:SV)(e:Option Nat):Prop:=
 match e with
 |some e=>
  match y with
  | .loc k off=>K (s.put d (.loc k (off+e))) u
  | .elt sv sz i off=>K (s.put d (.elt sv sz i (off+e))) u
  | .v (.pointer (some a))=>K (s.put d (.v (.pointer (some (a.add e))))) u
  |_=>False
 |none=>False
theorem xT{T:TypeId}{y:Operand}{f:Nat}:bO P x u0 ⟨d,.fieldAddr T y f,ty,pos,aft,g⟩ K s u=xy d K s u (s.sv y) (aU P T f):=rfl
theorem aec{k off e:Nat}:xy d K s u (.loc k off) (some e)=K (s.put d (.loc k (off+e))) u:=rfl
theorem acK{sv:Value}{sz off e:Nat}{i:Int}:xy d K s u (.elt sv sz i off) (some e)=K (s.put d (.elt sv sz i (off+e))) u:=rfl
theorem abL{a:Addr}{e:Nat}:xy d K s u (.v (.pointer (some a))) (some e)=K (s.put d (.v (.pointer (some (a.add e))))) u:=rfl
def arZ(as:Option (Nat×Nat))(d:Option Tmp)(K:S->World->Prop)(s:S)(u:World)(y i:SV)(e:Option Nat):Prop:=
 match e,y,i with
 |some sz,.v (.slice p n c),.v (.int _ i)=>aiY p n i (K (s.put d (.elt (.slice p n c) sz i 0)) u)
 |none,.loc k off,.v (.int _ i)=>ajB d K s u k off i as
 |_,_,_=>False
theorem wB{T:TypeId}{y z:Operand}:bO P x u0 ⟨d,.indexAddr T y z,ty,pos,aft,g⟩ K s u=arZ (asz P T) d K s u (s.sv y) (s.sv z) (esz P T):=rfl
theorem aqe{p:Option Addr}{n c sz:Nat}{k:IntKind}{i:Int}{as:Option (Nat×Nat)}:arZ as d K s u (.v (.slice p n c)) (.v (.int k i)) (some sz)=aiY p n i (K (s.put d (.elt (.slice p n c) sz i 0)) u):=rfl
def abA:List Value->Nat->Option Value
 |[],_=>none
 |v::_,0=>some v
 |_::r,j+1=>abA r j
theorem aoY: ∀(l:List Value) (j:Nat),abA l j=l[j]?:=by
 intro l
 induction l with
 |nil=>intro j;rfl
 |cons o r ih=>intro j;cases j with
  |zero=>rfl
  |succ j=>simpa[abA]using ih j
def apm(d:Option Tmp)(K:S->World->Prop)(s:S)(u:World)(r:Option Value):Prop:=
 match r with
 |some r=>K (s.put d (.v r)) u
 |none=>False
def apq(d:Option Tmp)(K:S->World->Prop)(s:S)(u:World)(i:Nat)(y:SV):Prop:=
 match y with
 | .v (.tuple vs)=>match vs.toList[i]? with
  |some r=>K (s.put d (.v r)) u
  |none=>False
 |_=>False
theorem ac5{y:Operand}{i:Nat}:bO P x u0 ⟨d,.extract y i,ty,pos,aft,g⟩ K s u=apq d K s u i (s.sv y):=rfl
theorem ao_{vs:List Value}{i:Nat}:apq d K s u i (.v (.tuple vs.toArray))=apm d K s u (abA vs i):=by
 rw[aoY];rfl
theorem acg{r:Value}:apm d K s u (some r)=K (s.put d (.v r)) u:=rfl
theorem afQ{v:Value}{r:List Value}:abA (v::r) 0=some v:=rfl
theorem agz{v:Value}{r:List Value}{j:Nat}:abA (v::r) (j+1)=abA r j:=rfl
def abC(K:S->World->Prop)(s:S)(d:Nat)(cs:List Value)(T:TypeId)(u:World)(b:Nat):Prop:=K (addLoc s d b cs T) u
def akf(d:Option Tmp)(K:S->World->Prop)(s:S)(u:World)(T:TypeId)(cs:Option (List Value)):Prop:=
 match cs,d with
 |some cs,some d=>s.find d=none/\ ∀b,abC K s d cs T u b
 |_,_=>False
theorem aiO{T:TypeId}:bO P x u0 ⟨d,.alloc T,ty,pos,aft,g⟩ K s u=akf d K s u T (cm P T):=rfl
theorem aag{T:TypeId}{cs:List Value}{e:Nat}:akf (some e) K s u T (some cs)=(s.find e=none/\ ∀b,abC K s e cs T u b):=rfl
def ano(d:Option Tmp)(K:S->World->Prop)(s:S)(u:World)(T:TypeId)(y:SV):Prop:=
 match y,d with
 | .v a,some d=>s.find d=none/\ ∀b,abC K s d a.cells.toList T u b
 |_,_=>False
theorem apL{T:TypeId}{y:Operand}:bO P x u0 ⟨d,.box T y,ty,pos,aft,g⟩ K s u=ano d K s u T (s.sv y):=rfl
theorem al8{T:TypeId}{cs:List Value}{e:Nat}:ano (some e) K s u T (.v (.agg cs.toArray))=(s.find e=none/\ ∀b,abC K s e cs T u b):=rfl
theorem akU{T:TypeId}{k:IntKind}{n:Int}{e:Nat}:ano (some e) K s u T (.v (.int k n))=(s.find e=none/\ ∀b,abC K s e [.int k n] T u b):=rfl
theorem abv{T:TypeId}{p:Option Addr}{n c:Nat}{e:Nat}:ano (some e) K s u T (.v (.slice p n c))=(s.find e=none/\ ∀b,abC K s e [.slice p n c] T u b):=rfl
theorem ao7{ρ:List (Nat×SV)}{σ:List (Nat×Loc)}{e b:Nat}{cs:List Value}{T:TypeId}:abC K ⟨ρ,σ⟩ e cs T u b=K ⟨(e,.loc e 0)::ρ,(e,⟨b,cs,T⟩)::σ⟩ u:=rfl
def anU(d:Option Tmp)(K:S->World->Prop)(s:S)(u:World)(k off:Nat)(vs:List Value)(l:Option Loc)(e:Option (Bool×Nat)):Prop:=
 match l,e with
 |some l,some (_,n)=>vs.length=n/\off+n<=l.cells.length/\bl vs=true/\K (setLoc s k l (splice l.cells off vs) d) u
 |_,_=>False
def amA(P:Program)(b:Bool)(u0:World)(T:TypeId)(d:Option Tmp)(K:S->World->Prop)(s:S)(u:World)(y z:SV):Prop:=
 match z with
 | .v a=>
  match y with
  | .loc k off=>anU d K s u k off a.cells.toList (s.find k) (lay P T)
  | .v p=>AtDo b P (fN T p a) u0 u (lW s d K)
  | .elt sv sz i off=>match bM sv sz i off with
   |some ad=>AtDo b P (fN T (.pointer (some ad)) a) u0 u (lW s d K)
   |none=>False
  | .unk=>False
 |_=>False
theorem ajW{T:TypeId}{y z:Operand}:bO P x u0 ⟨d,.store T y z,ty,pos,aft,g⟩ K s u=amA P x u0 T d K s u (s.sv y) (s.sv z):=by
 show gg P x u0 T (s.sv y) (s.sv z) d K s u=_;unfold gg amA anU;cases s.sv z with
 |v a=>
  cases s.sv y with
  |loc k off=>simp only[];cases s.find k<;>cases lay P T<;>rfl
  |_=>rfl
 |_=>rfl
theorem akO{T:TypeId}{k off:Nat}{a:Value}:amA P x u0 T d K s u (.loc k off) (.v a)=anU d K s u k off a.cells.toList (s.find k) (lay P T):=rfl
theorem afG{ρ:List (Nat×SV)}{σ:List (Nat×Loc)}{k off n b:Nat}{cs vs:List Value}{T:TypeId}{ag:Bool}:
  anU none K ⟨ρ,σ⟩ u k off vs (some ⟨b,cs,T⟩) (some (ag,n))=(vs.length=n/\off+n<=cs.length/\bl vs=true/\K ⟨ρ,(k,⟨b,splice cs off vs,T⟩)::σ⟩ u):=rfl
def rN(b:Bool)(P:Program)(u0:World)(T:TypeId)(sv:Value)(sz:Nat)(i:Int)(off:Nat)(a:Value)(u:World)(K:World->Prop):Prop:=
 match bM sv sz i off with
 |some ad=>AtDo b P (fN T (.pointer (some ad)) a) u0 u K
 |none=>False
theorem ai4{T:TypeId}{sv a:Value}{sz off:Nat}{i:Int}:amA P x u0 T d K s u (.elt sv sz i off) (.v a)=rN x P u0 T sv sz i off a u (lW s d K):=rfl
def arz(P:Program)(x:Bool)(u0 u:World)(Ke:Value->World->Prop)(e:List (Nat×Value)->Sem Value)(vs:Option (List (Nat×Value))):Prop:=
 match vs with
 |some vs=>AtEff x P (e vs) u0 u Ke
 |none=>False
theorem tV{T:TypeId}{n:Nat}{ps:List (Nat×Operand)}:bO P x u0 ⟨d,.buildSlice T n ps.toArray,ty,pos,aft,g⟩ K s u=
  arz P x u0 u (eD s d K) (fun vs=>sj T n vs.toArray) (ja s ps):=rfl
theorem agF{Ke:Value->World->Prop}{e:List (Nat×Value)->Sem Value}{vs:List (Nat×Value)}:arz P x u0 u Ke e (some vs)=AtEff x P (e vs) u0 u Ke:=rfl
def apv(P:Program)(x:Bool)(u0 u:World)(Ke:Value->World->Prop)(e:Value->Value->Sem Value)(y z:SV):Prop:=
 match y,z with
 | .v a,.v b=>AtEff x P (e a b) u0 u Ke
 |_,_=>False
theorem xn{T:TypeId}{y z:Operand}:bO P x u0 ⟨d,.makeSlice T y z,ty,pos,aft,g⟩ K s u=apv P x u0 u (eD s d K) (pq T) (s.sv y) (s.sv z):=rfl
theorem aoo{Ke:Value->World->Prop}{e:Value->Value->Sem Value}{a b:Value}:apv P x u0 u Ke e (.v a) (.v b)=AtEff x P (e a b) u0 u Ke:=rfl
def ar2(P:Program)(x:Bool)(u0 u:World)(Ke:Value->World->Prop)(e:Option Value->Sem Value)(y:Option (Option Value)):Prop:=
 match y with
 |some a=>AtEff x P (e a) u0 u Ke
 |none=>False
theorem acs{T:TypeId}{r:Option Operand}:bO P x u0 ⟨d,.makeMap T r,ty,pos,aft,g⟩ K s u=ar2 P x u0 u (eD s d K) (wU T) (lX s r):=rfl
theorem afD{Ke:Value->World->Prop}{e:Option Value->Sem Value}{a:Option Value}:ar2 P x u0 u Ke e (some a)=AtEff x P (e a) u0 u Ke:=rfl
def arl(P:Program)(x:Bool)(u0 u:World)(Kw:World->Prop)(e:Value->Value->Value->Sem Unit)(y z t:SV):Prop:=
 match y,z,t with
 | .v a,.v b,.v c=>AtDo x P (e a b c) u0 u Kw
 |_,_,_=>False
theorem ahp{T:TypeId}{y z t:Operand}:bO P x u0 ⟨d,.insert T y z t,ty,pos,aft,g⟩ K s u=arl P x u0 u (lW s d K) (mO T) (s.sv y) (s.sv z) (s.sv t):=rfl
theorem aqa{Kw:World->Prop}{e:Value->Value->Value->Sem Unit}{a b c:Value}:arl P x u0 u Kw e (.v a) (.v b) (.v c)=AtDo x P (e a b c) u0 u Kw:=rfl
def amg(P:Program)(u:World)(Kv:Value->Prop)(e:List Value->Sem Value)(vs:Option (List Value)):Prop:=
 match vs with
 |some vs=>AtRead P (e vs) u Kv
 |none=>False
def an4(P:Program)(x:Bool)(u0 u:World)(Ke:Value->World->Prop)(e:List Value->Sem Value)(vs:Option (List Value)):Prop:=
 match vs with
 |some vs=>AtEff x P (e vs) u0 u Ke
 |none=>False
theorem acB{Kv:Value->Prop}{e:List Value->Sem Value}{vs:List Value}:amg P u Kv e (some vs)=AtRead P (e vs) u Kv:=rfl
theorem agt{Ke:Value->World->Prop}{e:List Value->Sem Value}{vs:List Value}:an4 P x u0 u Ke e (some vs)=AtEff x P (e vs) u0 u Ke:=rfl
variable {args:List Operand} {tys:Array TypeId}
def aiX(P:Program)(Kv:Value->Prop)(e:List Value->Sem Value)(vs:Option (List Value)):Prop:=
 match vs with
 |some vs=>AtPure P (e vs) Kv
 |none=>False
theorem acV{Kv:Value->Prop}{e:List Value->Sem Value}{vs:List Value}:aiX P Kv e (some vs)=AtPure P (e vs) Kv:=rfl
theorem aqB:bO P x u0 ⟨d,.call ⟨.builtin .len,args.toArray,tys⟩,ty,pos,aft,g⟩ K s u=amg P u (eV s d u K) (fun vs=>rE tys ty vs.toArray) (vals s args):=rfl
theorem aqE:bO P x u0 ⟨d,.call ⟨.builtin .cap,args.toArray,tys⟩,ty,pos,aft,g⟩ K s u=amg P u (eV s d u K) (fun vs=>wR tys ty vs.toArray) (vals s args):=rfl
theorem arc:bO P x u0 ⟨d,.call ⟨.builtin .min,args.toArray,tys⟩,ty,pos,aft,g⟩ K s u=aiX P (eV s d u K) (fun vs=>wS tys ty vs.toArray) (vals s args):=rfl
theorem aqV:bO P x u0 ⟨d,.call ⟨.builtin .max,args.toArray,tys⟩,ty,pos,aft,g⟩ K s u=aiX P (eV s d u K) (fun vs=>wJ tys ty vs.toArray) (vals s args):=rfl
theorem ahg:bO P x u0 ⟨d,.call ⟨.builtin .append,args.toArray,tys⟩,ty,pos,aft,g⟩ K s u=an4 P x u0 u (eD s d K) (fun vs=>iY tys ty vs.toArray) (vals s args):=rfl
theorem aow:bO P x u0 ⟨d,.call ⟨.builtin .copy,args.toArray,tys⟩,ty,pos,aft,g⟩ K s u=an4 P x u0 u (eD s d K) (fun vs=>kX tys ty vs.toArray) (vals s args):=rfl
theorem ai0:bO P x u0 ⟨d,.call ⟨.builtin .clear,args.toArray,tys⟩,ty,pos,aft,g⟩ K s u=an4 P x u0 u (eD s d K) (fun vs=>sX tys ty vs.toArray) (vals s args):=rfl
def aoi(P:Program)(x:Bool)(u0:World)(args:List Operand)(d:Option Tmp)(K:S->World->Prop)(s:S)(u:World)(f:SV):Prop:=
 match f with
 | .v (.func (.func g) first captured)=>gI u0 args s u (uG x P u0 g first.toList captured.toList K d)
 | .v fv=>gI u0 args s u (qX x P u0 fv K d)
 |_=>False
theorem anF{f:Operand}:bO P x u0 ⟨d,.call ⟨.value f,args.toArray,tys⟩,ty,pos,aft,g⟩ K s u=aoi P x u0 args d K s u (s.sv f):=by
 show mA P x u0 ⟨.value f,args.toArray,tys⟩ ty d K s u=_;unfold mA aoi;simp only[];cases s.sv f with
 |v y=>cases y with
  |func fn first captured=>cases fn<;>rfl
  |_=>rfl
 |_=>rfl
theorem ahz{f:FuncId}{first captured:List Value}:aoi P x u0 args d K s u (.v (.func (.func f) first.toArray captured.toArray))=gI u0 args s u (uG x P u0 f first captured K d):=rfl
theorem ai8{f:FuncId}{first captured vs:List Value}:uG x P u0 f first captured K d vs s u=AtCall x P f (first++vs++captured) u0 u (eD s d K):=rfl
end
theorem ry{ρ:List (Nat×SV)}{σ:List (Nat×Loc)}{t:Nat}:(S.mk ρ σ).sv (.tmp t)=(lk ρ t).getD .unk:=rfl
theorem zk{v:Value}:s.sv (.const v)= .v v:=rfl
theorem aoz{f:Nat}:s.sv (.func f)= .v (.func (.func f) #[] #[]):=rfl
theorem aqj{ρ:List (Nat×SV)}{σ:List (Nat×Loc)}{t:Nat}:(S.mk ρ σ).get t=(lk ρ t).getD .unk:=rfl
theorem aoe{ρ:List (Nat×SV)}{σ:List (Nat×Loc)}{k:Nat}:(S.mk ρ σ).find k=lk σ k:=rfl
theorem nF{ρ:List (Nat×SV)}{σ:List (Nat×Loc)}{d:Nat}{y:SV}:(S.mk ρ σ).put (some d) y=⟨(d,y)::ρ,σ⟩:=rfl
theorem aiN{y:SV}:s.put none y=s:=rfl
theorem aq1{α:Type}{t:Nat}:lk ([]:List (Nat×α)) t=none:=rfl
theorem xm{α:Type}{t:Nat}{y:α}{r:List (Nat×α)}:lk ((t,y)::r) t=some y:=aw
theorem anZ{α:Type}{k t:Nat}{y:α}{r:List (Nat×α)}(h:(k==t)=false):lk ((k,y)::r) t=lk r t:=aj (by simpa using h)
theorem asi{y:Value}:s.val (.v y)=some y:=rfl
theorem alQ:vals s []=some []:=rfl
def VsK(a:SV)(r:Option (List Value)):Option (List Value):=
 match a with
 | .v a=>match r with
  |some vs=>some (a::vs)
  |none=>none
 |_=>none
theorem af9{y:Operand}{r:List Operand}:vals s (y::r)=VsK (s.sv y) (vals s r):=rfl
theorem asa{a:Value}{vs:List Value}:VsK (.v a) (some vs)=some (a::vs):=rfl
theorem agc:ja s []=some []:=rfl
def PsK(i:Nat)(a:SV)(r:Option (List (Nat×Value))):Option (List (Nat×Value)):=
 match a with
 | .v a=>match r with
  |some vs=>some ((i,a)::vs)
  |none=>none
 |_=>none
theorem adS{i:Nat}{y:Operand}{r:List (Nat×Operand)}:ja s ((i,y)::r)=PsK i (s.sv y) (ja s r):=rfl
theorem ar4{i:Nat}{a:Value}{vs:List (Nat×Value)}:PsK i (.v a) (some vs)=some ((i,a)::vs):=rfl
theorem aiy{Kp:List Value->S->World->Prop}:gI u0 [] s u Kp=Kp [] s u:=rfl
def aoB(u0:World)(k off:Nat)(r:List Operand)(s:S)(u:World)(Kp:List Value->S->World->Prop)(l:Option Loc):Prop:=
 match l with
 | some l=> ∀u',Sub u u'->Fresh u l.b->Fresh u0 l.b->u'.heap[l.b]? =some (.cells l.cells.toArray l.T (0,0))->(∀b',b'≠l.b->Fresh u b'->Fresh u' b')->
   gI u0 r (s.pub k l.b) u' (s8 (.pointer (some ⟨l.b,off,none⟩)) Kp)
 |none=>False
def aof(u0:World)(r:List Operand)(s:S)(u:World)(Kp:List Value->S->World->Prop)(y:SV):Prop:=
 match y with
 | .v a=>gI u0 r s u (s8 a Kp)
 | .loc k off=>aoB u0 k off r s u Kp (s.find k)
 |_=>False
theorem agh{y:Operand}{r:List Operand}{Kp:List Value->S->World->Prop}:gI u0 (y::r) s u Kp=aof u0 r s u Kp (s.sv y):=by grind [gI,aof,aoB]
theorem aq7{r:List Operand}{Kp:List Value->S->World->Prop}{a:Value}:aof u0 r s u Kp (.v a)=gI u0 r s u (s8 a Kp):=rfl
theorem akV{r:List Operand}{Kp:List Value->S->World->Prop}{k off:Nat}:aof u0 r s u Kp (.loc k off)=aoB u0 k off r s u Kp (s.find k):=rfl
theorem aho{r:List Operand}{Kp:List Value->S->World->Prop}{k off b:Nat}{cs:List Value}{T:TypeId}:aoB u0 k off r s u Kp (some ⟨b,cs,T⟩)=
  ∀u',Sub u u'->Fresh u b->Fresh u0 b->u'.heap[b]? =some (.cells cs.toArray T (0,0))->(∀b',b'≠b->Fresh u b'->Fresh u' b')->gI u0 r (s.pub k b) u' (s8 (.pointer (some ⟨b,off,none⟩)) Kp):=rfl
theorem air{a:Value}{vs:List Value}{Kp:List Value->S->World->Prop}:s8 a Kp vs s u=Kp (a::vs) s u:=rfl
theorem arb{ρ:List (Nat×SV)}{σ:List (Nat×Loc)}{k b:Nat}:(S.mk ρ σ).pub k b=⟨acn k b ρ,ni k σ⟩:=rfl
def bh(k:IntKind)(z:Int)(Kv:Value->Prop):Prop:=Kv (.int k (k.wrap z))
theorem aH{e:Sem Value}{Kv:Value->Prop}{r:Value}(h: ∀w,e.run P w= .ok r w):AtPure P e Kv=Kv r:=by
 apply propext;constructor
 ·rintro⟨r',h',hk⟩
  have:=h' default;rw[h default]at this;cases this;exact hk
 ·intro hk;exact⟨r,h,hk⟩
theorem lM{e:Sem Value}{Kv:Value->Prop}{r:Value}(h: ∀w,e.run P w= .ok r w):AtRead P e u Kv=Kv r:=by
 apply propext;constructor
 ·rintro⟨r',h',hk⟩
  have:=h' u (Sub.refl u);rw[h u]at this;cases this;exact hk
 ·intro hk;exact⟨r,fun w _=>h w,hk⟩
section
variable {k:IntKind} {T:TypeId} {y z:Operand} {a b:Int} {Kv:Value->Prop}
theorem xo:AtPure P (bp .add T y z (.int k a) (.int k b)) Kv=bh k (a+b) Kv:=aH fun w=>by simp[bp,eqGuard,binOp,Op.intArith]
theorem anR:AtPure P (bp .sub T y z (.int k a) (.int k b)) Kv=bh k (a-b) Kv:=aH fun w=>by simp[bp,eqGuard,binOp,Op.intArith]
theorem anQ:AtPure P (bp .mul T y z (.int k a) (.int k b)) Kv=bh k (a*b) Kv:=aH fun w=>by simp[bp,eqGuard,binOp,Op.intArith]
theorem wI:AtPure P (bp .lss T y z (.int k a) (.int k b)) Kv=Kv (.bool (decide (a<b))):=aH fun w=>by simp[bp,eqGuard,binOp,Op.intCmp]
theorem anB:AtPure P (bp .leq T y z (.int k a) (.int k b)) Kv=Kv (.bool (decide (a<=b))):=aH fun w=>by simp[bp,eqGuard,binOp,Op.intCmp]
theorem amM:AtPure P (bp .gtr T y z (.int k a) (.int k b)) Kv=Kv (.bool (decide (b<a))):=aH fun w=>by simp[bp,eqGuard,binOp,Op.intCmp]
theorem anO:AtPure P (bp .geq T y z (.int k a) (.int k b)) Kv=Kv (.bool (decide (b<=a))):=aH fun w=>by simp[bp,eqGuard,binOp,Op.intCmp]
theorem anD:AtPure P (bp .eql T y z (.int k a) (.int k b)) Kv=Kv (.bool (a==b)):=aH fun w=>by simp[bp,eqGuard,binOp,Op.intCmp]
theorem anV:AtPure P (bp .neq T y z (.int k a) (.int k b)) Kv=Kv (.bool (a !=b)):=aH fun w=>by simp[bp,eqGuard,binOp,Op.intCmp]
theorem aq2{t:Bool}:AtPure P (iUn .not (.bool t)) Kv=Kv (.bool (!t)):=aH fun w=>by simp[iUn,Op.unary]
theorem dI(h: -9223372036854775808<=a/\a<=9223372036854775807):bh .i64 a Kv=Kv (.int .i64 a):=by unfold bh;rw[IntWalk.i64_in a h]
theorem z9(h:0<=a/\a<=255):bh .u8 a Kv=Kv (.int .u8 a):=by unfold bh;rw[IntWalk.u8_in a h]
theorem agP(h:0<=a/\a<=65535):bh .u16 a Kv=Kv (.int .u16 a):=by unfold bh;rw[IntWalk.u16_in a h]
theorem ahw(h:0<=a/\a<=4294967295):bh .u32 a Kv=Kv (.int .u32 a):=by unfold bh;rw[IntWalk.u32_in a h]
theorem jn(h:0<=a/\a<=18446744073709551615):bh .u64 a Kv=Kv (.int .u64 a):=by unfold bh;rw[IntWalk.u64_in a h]
def ek(P:Program)(T:TypeId):Bool:=
 match P.underlying T with
 |some (.slice _)=>true
 |_=>false
theorem lV(h:ek P T=true): ∃e,P.underlying T=some (.slice e):=by grind [ek]
def lZ(P:Program)(T:TypeId):Option IntKind:=
 match P.underlying T with
 |some (.int k)=>some k
 |_=>none
theorem jl{k':IntKind}(h:lZ P T=some k'):P.underlying T=some (.int k'):=by grind [lZ]
def aiu(k:Option IntKind)(P:Program)(src dst:TypeId)(v:Value)(a:Int)(u:World)(Kv:Value->Prop)(ks:Option IntKind):Prop:=
 match ks,k with
 |some _,some k=>bh k a Kv
 |_,_=>AtRead P (dp src dst v) u Kv
theorem ajl{src dst:TypeId}:AtRead P (dp src dst (.int k a)) u Kv=aiu (lZ P dst) P src dst (.int k a) a u Kv (lZ P src):=by
 unfold aiu;split
 ·rename_i k1 k' hs hd;exact lM fun w=>by simp[dp,convert,run_underlying (jl hs),run_underlying (jl hd),Conv.intToInt]
 ·rfl
theorem acJ{src dst:TypeId}{v:Value}{k' k2:IntKind}:aiu (some k') P src dst v a u Kv (some k2)=bh k' a Kv:=rfl
theorem gV{p:Option Addr}{n c:Nat}{ty:TypeId}(h:ek P T=true):AtRead P (rE #[T] ty #[.slice p n c]) u Kv=Kv (.int .i64 n):=by
 obtain⟨e,hs⟩:=lV h;exact lM fun w=>by simp[rE,Builtin.len_,run_underlying hs,goInt]
theorem oX{p:Option Addr}{n c:Nat}{ty:TypeId}(h:ek P T=true):AtRead P (wR #[T] ty #[.slice p n c]) u Kv=Kv (.int .i64 c):=by
 obtain⟨e,hs⟩:=lV h;exact lM fun w=>by simp[wR,Builtin.cap_,run_underlying hs,goInt]
theorem tf{s:ByteArray}{ty:TypeId}(hs:P.underlying T=some .string):AtRead P (rE #[T] ty #[.string s]) u Kv=Kv (.int .i64 s.size):=
 lM fun w=>by simp[rE,Builtin.len_,run_underlying hs,goInt]
theorem am1{tys:Array TypeId}{ty:TypeId}:AtPure P (wS tys ty #[.int k a,.int k b]) Kv=Kv (.int k (if b<a then b else a)):=
 aH fun w=>by simp[wS,Builtin.min_,Builtin.min2]
theorem ans{tys:Array TypeId}{ty:TypeId}:AtPure P (wJ tys ty #[.int k a,.int k b]) Kv=Kv (.int k (if a<b then b else a)):=
 aH fun w=>by simp[wJ,Builtin.max_,Builtin.max2]
theorem alX{c d:Bool}(hs:P.underlying T=some .bool):AtPure P (bp .eql T y z (.bool c) (.bool d)) Kv=Kv (.bool (c==d)):=
 aH fun w=>by simp only[bp,eqGuard,Sem.run_bind,Sem.run_pure,Result.andThen_ok,Bool.not_true,Bool.false_eq_true,if_false,run_eql_bool w T c d hs]
theorem aj3{c d:Bool}(hs:P.underlying T=some .bool):AtPure P (bp .neq T y z (.bool c) (.bool d)) Kv=Kv (.bool (!(c==d))):=
 aH fun w=>by simp only[bp,eqGuard,Sem.run_bind,Sem.run_pure,Result.andThen_ok,Bool.not_true,Bool.false_eq_true,if_false,run_neq_bool w T c d hs]
theorem mc{p:Option Addr}{n c:Nat}(h:ek P T=true):AtPure P (bp .eql T y z (.slice p n c) (.slice none 0 0)) Kv=Kv (.bool p.isNone):=by
 obtain⟨e,hs⟩:=lV h;exact aH fun w=>by simp only[bp,eqGuard,Sem.run_bind,Sem.run_pure,Result.andThen_ok,Bool.not_true,Bool.false_eq_true,if_false,binOp,Op.equal,Op.maxDepth,run_equalIn_slice_nil w 9999 T e p n c hs]
theorem l6{p:Option Addr}{n c:Nat}(h:ek P T=true):AtPure P (bp .neq T y z (.slice p n c) (.slice none 0 0)) Kv=Kv (.bool (!p.isNone)):=by
 obtain⟨e,hs⟩:=lV h;exact aH fun w=>by simp only[bp,eqGuard,Sem.run_bind,Sem.run_pure,Result.andThen_ok,Bool.not_true,Bool.false_eq_true,if_false,run_neq_slice_nil w T e p n c hs]
end
end
attribute [go_sem] ae3 aqI aeX oV amN aqQ aeY tH pW ahO aai aiz ahE t8 aei pf tZ abk aci aad akw oU jR ahm aed cL aj9 aiF aeV adv zE aaI adE abc nt akk aa2 afh afX ao0 ani amQ ahy ag4 ag2 af2 ahs wT apa anX acf ad1 arW arw abO ajf yg ajX alo yw alE aly ahN ah0 asj xT aec acK abL wB aqe ac5 ao_ acg afQ agz aiO aag apL al8 akU abv ao7 ajW akO afG ai4 tV agF xn aoo acs afD ahp aqa acB acV agt aqB aqE arc aqV ahg aow ai0 anF ahz ai8 ry zk aoz aqj aoe nF aiN aq1 xm anZ asi alQ af9 asa agc adS ar4 aiy agh aq7 akV aho air arb acn jT ni fM adL acS acI wO acz abd abZ zS aiU ai5 ite_true splice xo anR anQ wI anB amM anO anD anV aq2 alX aj3 mc l6 ajl acJ gV oX tf am1 ans bl Value.oneCell' Value.cells List.nil_append List.cons_append List.append_nil List.drop_zero List.drop_succ_cons List.drop_nil List.take_zero List.take_succ_cons List.take_nil List.headD_cons List.length_cons List.length_nil Option.getD_some Option.getD_none Option.map_some Option.isNone_none Option.isNone_some Option.isSome_some Nat.zero_add Nat.add_zero Nat.le_refl cond_true cond_false Bool.true_and Bool.and_true Bool.not_true Bool.not_false and_true true_and eq_self true_implies ge_iff_le
structure Lf2(q:Prop):Prop where
 out:q
theorem vs_{p q:Prop}(k:q)(e:Lf2 q->p:=by intro k;(simp only[go_sem,bD,bc,bw,bk,Nat.reduceBEq,Nat.reduceAdd,Nat.reduceLeDiff,Nat.reduceEqDiff,Int.reduceAdd,Int.reduceBEq,Int.reduceBNe,reduceCtorEq,beq_self_eq_true,Bool.true_beq,Bool.false_beq];repeat ((with_reducible refine akd ?_);simp only[go_sem,bD,bc,bw,bk,Nat.reduceBEq,Nat.reduceAdd,Nat.reduceLeDiff,Nat.reduceEqDiff,Int.reduceAdd,Int.reduceBEq,Int.reduceBNe,reduceCtorEq,beq_self_eq_true,Bool.true_beq,Bool.false_beq]));exact k.out):p:=e ⟨k⟩
structure GSpan where
 a:Int
 b:Int
deriving DecidableEq
def GSpan.enc(x:GSpan):List Value:=[.int .i32 x.a,.int .i32 x.b]
def GSpan.val(x:GSpan):Value:=.agg #[.int .i32 x.a,.int .i32 x.b]
theorem GSpan.cells(x:GSpan):x.val.cells.toList=x.enc:=rfl
structure GDesc where
 node:UInt8
 inc:UInt16
 age:UInt8
 filter:List GSpan
deriving DecidableEq
theorem ajq{x y:GSpan}:(x.a==y.a&&(x.b==y.b))=decide (x=y):=by
 rw[Bool.eq_iff_iff];simp only[Bool.and_eq_true,beq_iff_eq,decide_eq_true_eq];cases x;cases y;simp
attribute [go_sem] ajq
theorem bW(x y:UInt8):((x.toNat:Int)==(y.toNat:Int))=decide (x=y):=by
 rw[Bool.eq_iff_iff];simp only[beq_iff_eq,decide_eq_true_eq];rw[<-UInt8.toNat_inj];omega
theorem dQ(x y:UInt16):((x.toNat:Int)==(y.toNat:Int))=decide (x=y):=by
 rw[Bool.eq_iff_iff];simp only[beq_iff_eq,decide_eq_true_eq];rw[<-UInt16.toNat_inj];omega
theorem wM(x y:UInt16):((x.toNat:Int) !=(y.toNat:Int))= !decide (x=y):=by rw[<-dQ];rfl
theorem qt(x:UInt16):((x.toNat:Int)==0)=decide (x=0):=dQ x 0
theorem iQ(x y:UInt8):((x.toNat:Int)<(y.toNat:Int))↔x<y:=by rw[UInt8.lt_iff_toNat_lt];omega
theorem ar8(x y:UInt8):((x.toNat:Int)<=(y.toNat:Int))↔x<=y:=by rw[UInt8.le_iff_toNat_le];omega
theorem fQ(x y:UInt16):((x.toNat:Int)<(y.toNat:Int))↔x<y:=by rw[UInt16.lt_iff_toNat_lt];omega
def okS(s:GSpan):Prop:= -2147483648<=s.a/\s.a<=2147483647/\ -2147483648<=s.b/\s.b<=2147483647
def mP(s:GSpan):GSpan:=if s.b<s.a then ⟨1,0⟩else s
def gZ(s:GSpan):Bool:=decide (s.b<s.a)
def fL(x y:GSpan):GSpan:=⟨if x.a<y.a then y.a else x.a,if y.b<x.b then y.b else x.b⟩
def anm(x y:GSpan):Bool:=gZ y||(decide (x.a<=y.a)&&decide (y.b<=x.b))
def sLen(s:GSpan):Nat:=if s.b<s.a then 0 else min (s.b-s.a+1).toNat 4294967295
theorem o3(s:GSpan):((mP s).a==1&&((mP s).b==0))=gZ s:=by grind [gZ,mP]
theorem aae{x y:GSpan}(hx:okS x)(hy:okS y):okS (fL x y):=by grind [okS,fL]
