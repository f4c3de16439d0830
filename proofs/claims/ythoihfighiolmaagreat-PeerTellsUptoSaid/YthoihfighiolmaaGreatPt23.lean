import Derived.Test.YthoihfighiolmaaGreatPt22
set_option linter.unusedSectionVars false
set_option linter.unusedSimpArgs false
set_option linter.unusedVariables false
set_option maxRecDepth 10000
namespace Go.Eng
theorem uy{u us u':World}{d:DV}{v:Value}(h:HV us d noB v)(h1:Sub u us)(h2:Sub us u'):aiC u u' (plR d) v:=
 ⟨noB,us,⟨[(0,.v v)],[]⟩,⟨⟨h1,h1⟩,h2,fun t=>by
  show HS us noB ((lk [(0,.d d)] t).getD .unk) ((lk [(0,.v v)] t).getD .unk)
  by_cases e:0=t
  ·subst e;exact⟨v,rfl,h⟩
  ·rw[aj e];trivial,fun k=>rfl,(fun id r hr=>by cases hr),fun id _=>rfl,fun id hi=>absurd hi (Nat.not_lt_zero _),Nat.le_refl _,(fun i j ri rj b _ hi=>by cases hi)⟩,rfl⟩
theorem jM{us:World}: ∀(l:List GSpan) (V:List (List Value)),HVss us (l.map aP) V↔V=l.map GSpan.enc
 |[],V=>Iff.rfl
 | x::l,V=>by
  constructor
  ·rintro⟨v,V',rfl,⟨a,_,rfl,⟨rfl,_⟩,b,_,rfl,⟨rfl,_⟩,rfl⟩,h⟩
   rw[(jM l V').1 h];rfl
  ·rintro rfl
   exact⟨_,_,rfl,⟨_,_,rfl,⟨rfl,rfl⟩,_,_,rfl,⟨rfl,rfl⟩,rfl⟩,(jM l _).2 rfl⟩
theorem ad1(l:List GSpan):bl (l.map GSpan.enc):=by intro y hy;obtain⟨x,_,rfl⟩:=List.mem_map.1 hy;rfl
theorem lZ{us:World}{l:List GSpan}{β:Nat->PB}{w:Value}(h:HV us (.fz 2 (l.map aP)) β w): ∃p c,w= .slice p l.length c/\Sl us 2 p l.length c (l.map GSpan.enc):=by
 obtain⟨p,n,c,V,rfl,h1,_,h2⟩:=h;obtain rfl:=(jM l V).1 h2;obtain rfl:l.length=n:=by simpa using h1.len
 exact⟨p,c,rfl,h1⟩
theorem Con.to2{P:Program}{f:FuncId}{vs:List Value}{u:World}{d:DV}{Post:Value->World->Prop}(h:Con P f vs u Post)(hp: ∀r u',Post r u'->HV u' d noB r):Con P f vs u (fun v u'=> ∃r,r=plR d/\aiC u u' r v):=by
 refine⟨h.1,fun w hw=>(h.2 w hw).mono ?_⟩
 rintro e w' ⟨r,u',rfl,h3,h4,h5⟩
 exact⟨r,u',rfl,h3,h4,_,rfl,uy (hp _ _ h5) h4 (Sub.refl _)⟩
end Go.Eng
namespace Go.Proofs.YthoihfighiolmaaGreat.V
open Go.Eng
attribute [local go_sem] aP plR
abbrev fzS(l:List GSpan):DV:=.fz 2 (l.map aP)
theorem vh(dom f:List GSpan)(n1:dom.length<=1000000000)(n2:f.length<=1000000000):Con2 Tryz.prog 83 [fzS dom,fzS f] (· =plR (.v (.bool (bB dom f)))):=by
 rintro u vs ⟨v1,_,rfl,h1,v2,_,rfl,h2,rfl⟩
 obtain⟨p,c,rfl,s1⟩:=lZ h1;obtain⟨q,k,rfl,s2⟩:=lZ h2;exact(yz dom f p q c k u s1 s2 n1 n2).to2 fun r u' h=>⟨h,rfl⟩
theorem o6(f g:List GSpan)(n1:f.length<=1000000000)(n2:g.length<=1000000000):Con2 Tryz.prog 178 [fzS f,fzS g] (· =plR (fzS (bV f g))):=by
 rintro u vs ⟨v1,_,rfl,h1,v2,_,rfl,h2,rfl⟩
 obtain⟨p,c,rfl,s1⟩:=lZ h1;obtain⟨q,k,rfl,s2⟩:=lZ h2;refine(adW f g p q c k u s1 s2 n1 n2).to2 ?_
 rintro r u' ⟨p',c',rfl,h⟩
 exact⟨_,_,_,_,rfl,h,ad1 _,(jM _ _).2 rfl⟩
theorem m_(f g:List GSpan):(bV f g).length<=f.length:=by
 unfold bV;split
 ·simp;omega
 ·simp
def aS(dom f:List GSpan):List GSpan×Int:=if f.length=0 then ([],0)else if f.length=dom.length then (bV dom f,0)else ([],50)
theorem vR(dom f:List GSpan)(n1:dom.length<=1000000000)(n2:f.length<=1000000000):Con2 Tryz.prog 92 [fzS dom,fzS f] (· =plR (.tup [fzS (aS dom f).1,.v (.int .i64 (aS dom f).2)])):=by
 refine en_ Tryz.func92 [.tmp 4,.tmp 5] (g2_ ?_);refine g2_ ?_;refine aq (fun h=>?_) (fun h=>?_)
 ·have e:aS dom f=([],0):=by unfold aS;rw[if_pos (by omega)]
  rw[e];refine g2_ ?_;exact⟨_,rfl,aa [] ws_⟩
 ·refine g2_ ?_;refine cu (fun h2=>?_) (fun h2=>?_)
  ·have e:aS dom f=([],50):=by unfold aS;rw[if_neg (by omega),if_neg (by omega)]
   rw[e];refine g2_ ?_;exact⟨_,rfl,aa [] ws_⟩
  ·have e:aS dom f=(bV dom f,0):=by unfold aS;rw[if_neg (by omega),if_pos (by omega)]
   rw[e];refine g2_ ?_;refine ce_ (o6 dom f n1 n2) (g2_ ?_);exact⟨_,rfl,aa [] ws_⟩
theorem iw(f:List GSpan)(n1:f.length<=5000000):Con2 Tryz.prog 77 [fzS f] (· =plR (fzS f)):=by
 have h:Con2 Tryz.prog 77 [fzS f] (· =⟨.rf 0 0 f.length,[(0,.arr 138 2 (f.map aP) false)],1⟩):=by
  refine en_ Tryz.func77 [.tmp 2] (g2_ ?_);refine g2_ ?_;exact⟨_,rfl,aa [(0,.to 0)] ws_⟩
 refine h.emb ?_ rfl;exact ws_
end Go.Proofs.YthoihfighiolmaaGreat.V
namespace Go.Eng
end Go.Eng
namespace Go.Proofs.YthoihfighiolmaaGreat.V
open Go.Eng
attribute [local go_sem] plR bb
def ans(T:Nat):Op->Op
 | .binOp b _ x y _=>.binOp b T x y T
 | .buildSlice _ n p=>.buildSlice T n p
 | .call ⟨c,a,_⟩=>.call ⟨c,a,#[T,T]⟩
 |o=>o
def clo(T:Nat):Code->Code
 | .region i ops d=>.region i (ops.map fun o=>{ o with op:=ans T o.op,type:=bif o.type==40 then T else o.type }) d
 | .seq a b=>.seq (clo T a) (clo T b)
 | .cond c a b=>.cond c (clo T a) (clo T b)
 |c=>c
theorem jY{f e sz bytes T:Nat}{fn:Func}(hf:Tryz.prog.funcs[f]? =some fn)(hB:fn.body=Tryz.f149.body.map (clo T))(hh:cW Tryz.prog f=true)(hn:fn.ntmps=8)(hr:fn.results.toList=[.tmp 2])(hT:dt Tryz.prog T=some (e,sz,bytes))(hb:bytes<=99)(l:List (List DV))(hl:l.length<=5000000):Con2 Tryz.prog f [.fz sz l] (· =bb e sz l):=by
 replace hB:fn.body=some (clo T _):=hB;simp only[clo,ans,List.map_toArray,List.map_cons,List.map_nil,Nat.reduceBEq,cond_true,cond_false]at hB;have hS:eu Tryz.prog T=true:=by grind [eu,dt]
 refine tX Ty.mixed hf hB hh (by rw[hn];rfl) (by rw[hn];rfl) _ hr ?_
 clear hB
 by_cases h0:l=[]
 ·subst h0;refine gf_ (c2_ hT hS) ?_;refine⟨fun h=>h.elim,fun t=>?_⟩
  cases t with
  |true=>
   refine g2_ ?_;exact⟨_,rfl,aa [(0,.nil sz)] ws_⟩
  |false=>
   refine gf_ (c2_ hT hS) ?_;exact⟨_,rfl,aa [(0,.to 0)] ws_⟩
 ·have h1:0<l.length:=List.length_pos_iff.2 h0;have h2:l.length*bytes<=5000000*99:=Nat.mul_le_mul hl hb;refine gf_ (c2_ hT hS) ?_;refine⟨fun _=>⟨by omega,by omega,_,rfl,aa [(0,.to 0)] ws_⟩,fun h=>by omega⟩
theorem qb{f e sz:Nat}{l:List (List DV)}(h:Con2 Tryz.prog f [.fz sz l] (· =bb e sz l)):Con2 Tryz.prog f [.fz sz l] (· =plR (.fz sz l)):=h.emb ws_ rfl
theorem fS(l:List (List DV))(hl:l.length<=5000000):Con2 Tryz.prog 109 [.fz 3 l] (· =bb 111 3 l):=jY (T:=39) Tryz.func109 (by kernel_rfl) (by kernel_rfl) rfl rfl Ty.elOf39 (by decide) l hl
theorem fw(l:List (List DV))(hl:l.length<=5000000):Con2 Tryz.prog 109 [.fz 3 l] (· =plR (.fz 3 l)):=qb (fS l hl)
theorem nG(l:List (List DV))(hl:l.length<=5000000):Con2 Tryz.prog 149 [.fz 3 l] (· =bb 57 3 l):=jY (T:=40) Tryz.func149 (by kernel_rfl) (by kernel_rfl) rfl rfl Ty.elOf40 (by decide) l hl
theorem oB(l:List (List DV))(hl:l.length<=5000000):Con2 Tryz.prog 149 [.fz 3 l] (· =plR (.fz 3 l)):=qb (nG l hl)
theorem uC(l:List (List DV))(hl:l.length<=5000000):Con2 Tryz.prog 150 [.fz 3 l] (· =bb 104 3 l):=jY (T:=41) Tryz.func150 (by kernel_rfl) (by kernel_rfl) rfl rfl Ty.elOf41 (by decide) l hl
theorem vF(l:List (List DV))(hl:l.length<=5000000):Con2 Tryz.prog 151 [.fz 5 l] (· =bb 201 5 l):=jY (T:=47) Tryz.func151 (by kernel_rfl) (by kernel_rfl) rfl rfl Ty.elOf47 (by decide) l hl
theorem zo(l:List (List DV))(hl:l.length<=5000000):Con2 Tryz.prog 151 [.fz 5 l] (· =plR (.fz 5 l)):=qb (vF l hl)
end Go.Proofs.YthoihfighiolmaaGreat.V
namespace Go.Eng
theorem GSpan.ones(xs:List GSpan):bl (xs.map GSpan.enc):=by intro y hy;obtain⟨x,_,rfl⟩:=List.mem_map.1 hy;rfl
structure PD where
 d:GDesc
 p:Option Addr
 n:Nat
 c:Nat
def PD.enc(x:PD):List Value:=[.int .u8 x.d.node.toNat,.int .u16 x.d.inc.toNat,.int .u8 x.d.age.toNat,.slice x.p x.n x.c]
def PD.val(x:PD):Value:=.agg #[.int .u8 x.d.node.toNat,.int .u16 x.d.inc.toNat,.int .u8 x.d.age.toNat,.slice x.p x.n x.c]
theorem PD.cells(x:PD):x.val.cells.toList=x.enc:=rfl
theorem PD.ones(xs:List PD):bl (xs.map PD.enc):=by intro y hy;obtain⟨x,_,rfl⟩:=List.mem_map.1 hy;rfl
def Fl(u:World)(x:PD):Prop:=Sl u 2 x.p x.n x.c (x.d.filter.map GSpan.enc)
def Fo(u0 u:World)(TS:TypeId)(x:PD):Prop:=Own u0 u TS 2 x.p x.n x.c (x.d.filter.map GSpan.enc)
theorem Fo.fl{u0 u:World}{TS:TypeId}{x:PD}(h:Fo u0 u TS x):Fl u x:=Own.sl h
theorem Fl.len{u:World}{x:PD}(h:Fl u x):x.d.filter.length=x.n:=by simpa using Sl.len h
structure DL(u:World)(p:Option Addr)(n c:Nat)(l:List PD):Prop where
 sl:Sl u 4 p n c (l.map PD.enc)
 fl: ∀x∈l,Fl u x
structure DSo(u0 u:World)(TD:TypeId)(p:Option Addr)(n c:Nat)(l:List PD):Prop where
 own:Own u0 u TD 4 p n c (l.map PD.enc)
 fl: ∀x∈l,Fl u x
structure DO(u0 u:World)(TD TS:TypeId)(p:Option Addr)(n c:Nat)(l:List PD):Prop where
 own:Own u0 u TD 4 p n c (l.map PD.enc)
 fl: ∀x∈l,Fo u0 u TS x
 ne: ∀x∈l, ∀a b,x.p=some a->p=some b->a.block≠b.block
section
variable {u0 u u':World} {TD TS:TypeId} {p:Option Addr} {n c:Nat} {l:List PD}
theorem DO.ds(h:DO u0 u TD TS p n c l):DSo u0 u TD p n c l:=⟨h.own,fun x hx=>(h.fl x hx).fl⟩
theorem DSo.dl(h:DSo u0 u TD p n c l):DL u p n c l:=⟨h.own.sl,h.fl⟩
theorem DO.dl(h:DO u0 u TD TS p n c l):DL u p n c l:=h.ds.dl
theorem DL.len(h:DL u p n c l):l.length=n:=by simpa using h.sl.len
theorem DSo.len(h:DSo u0 u TD p n c l):l.length=n:=by simpa using h.own.len
theorem DO.len(h:DO u0 u TD TS p n c l):l.length=n:=by simpa using h.own.len
theorem DL.at_{k:Nat}{x:PD}(h:DL u p n c l)(hx:l[k]? =some x):Fl u x:=h.fl x (List.mem_of_getElem? hx)
end
abbrev ds(l:List PD):List GDesc:=l.map PD.d
