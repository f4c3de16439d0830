import Derived.Test.YthoihfighiolmaaGreatPt26
set_option linter.unusedSectionVars false
set_option linter.unusedSimpArgs false
set_option linter.unusedVariables false
set_option maxRecDepth 10000
namespace Go.Eng
section
variable {l:List GDesc} {self:UInt8} {x:GDesc} {room:Int}
end
end Go.Eng
namespace Go.Proofs.YthoihfighiolmaaGreat
open Go.Eng
attribute [local go_sem] GSpan.val GSpan.enc PD.val PD.enc
structure VL(u:World)(me:UInt8)(N:Nat)(g:Option Addr×Nat×Nat)(l:List PD):Prop where
 dl:DL u g.1 g.2.1 g.2.2 l
 vw:Vw me (ds l)
 len:g.2.1<=N
 small: ∀d∈ds l,d.filter.length<=8
theorem put_mem{l:List GDesc}{x:GDesc}{self:UInt8}{room:Int}: ∀d∈(bH l x self room).1,d∈l\/d=x:=by grind [bH,List.mem_or_eq_of_mem_set,wU]
end Go.Proofs.YthoihfighiolmaaGreat
namespace Go.Eng
structure GW where
 some:Bool
 node:UInt8
 left:UInt8
 sent:List GDesc
deriving DecidableEq
structure PW where
 some:Bool
 node:UInt8
 left:UInt8
 p:Option Addr
 n:Nat
 c:Nat
 l:List PD
def PW.enc(w:PW):List Value:=[.bool w.some,.int .u8 w.node.toNat,.int .u8 w.left.toNat,.slice w.p w.n w.c]
def PW.val(w:PW):Value:=.agg #[.bool w.some,.int .u8 w.node.toNat,.int .u8 w.left.toNat,.slice w.p w.n w.c]
def PW.g(w:PW):GW:=⟨w.some,w.node,w.left,ds w.l⟩
def u1(x:UInt8):UInt8:=if x=0 then 1 else x
theorem aaU(i:UInt8):(if (i.toNat:Int)<1 then 1 else (i.toNat:Int))=((u1 i).toNat:Int):=by
 unfold u1
 by_cases h:i=0
 ·subst h;simp
 ·rw[if_neg h,if_neg];have:i.toNat≠0:=fun e=>h (UInt8.toNat_inj.1 (by simpa using e))
  omega
def wZero:GW:=⟨false,0,0,[]⟩
def wStart(node left:UInt8)(sent:List GDesc):GW:=⟨true,node,u1 left,sent⟩
def cI(w:GW):GW×UInt8×Bool:=if w.some=true then (if w.left<=1 then (wZero,w.node,true)else (⟨true,w.node,w.left-1,w.sent⟩,0,false))else (wZero,0,false)
def du(w:GW)(frm:UInt8):GW×List GDesc×Bool:=if w.some=true/\w.node=frm then (wZero,w.sent,true)else (w,[],false)
def dy(self:UInt8)(room:Int):List GDesc->List GDesc->List GDesc
 |v,[]=>v
 |v,d::r=>dy self room (bH v d self room).1 r
def dJ(l:List GDesc)(d:GDesc)(self:UInt8)(room:Int):List GDesc:=
 if (bH l d self room).2=true then (bH l d self room).1
 else if d.node=self\/d.inc=0\/cd l d.node≠none then l
 else match m3 l with
  |none=>l
  |some i=>match l[i]? with
   |some o=>(bH (aD l o.node) d self l.length).1
   |none=>l
end Go.Eng
namespace Go.Proofs.YthoihfighiolmaaGreat
open Go.Eng
attribute [local go_sem] GSpan.val GSpan.enc PD.val PD.enc PW.val PW.enc
structure WL(u:World)(w:PW):Prop where
 dl:DL u w.p w.n w.c w.l
 len:w.n<=100
 small: ∀x∈w.l,x.n<=8
theorem adj(self:UInt8)(room:Int): ∀(r:List GDesc) (v:List GDesc) (d:GDesc),dy self room v (r++[d])=(bH (dy self room v r) d self room).1:=by
 intro r
 induction r with
 |nil=>intro v d;rfl
 |cons x r ih=>intro v d;simp only[List.cons_append,dy];exact ih _ d
theorem find_neg{L:List GDesc}{node:UInt8}:fb L node<0↔cd L node=none:=by grind [fb,cd]
