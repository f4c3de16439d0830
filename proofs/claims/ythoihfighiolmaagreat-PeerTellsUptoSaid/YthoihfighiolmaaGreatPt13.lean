import Derived.Test.YthoihfighiolmaaGreatPt12
set_option linter.unusedSectionVars false
set_option linter.unusedSimpArgs false
set_option linter.unusedVariables false
namespace Go.Eng
def mpE(es:List (UInt8×Nat)):List (UInt8×Value):=es.map fun p=>(p.1,.func (.func p.2) #[] #[])
def lkF(es:List (UInt8×Nat))(k:UInt8):Option Nat:=(mAt (mpE es) k).bind fun i=>(es[i]?).map (·.2)
theorem ai2(es:List (UInt8×Nat))(k:UInt8):ac2 (mpE es) k=(lkF es k).map fun f=>.func (.func f) #[] #[]:=by
 unfold ac2 lkF;cases mAt (mpE es) k with
 |none=>rfl
 |some i=>
  simp only[Option.bind_some,mpE,List.getElem?_map];cases es[i]? <;>rfl
inductive DV where
 |v (x:Value)
 |fz (sz:Nat) (l:List (List DV))
 |rf (id off len:Nat)
 |e0
 |pt (id off:Nat)
 |fp (cs:List DV)
 |mp (es:List (UInt8×Nat))
 |fn (f:FuncId) (first captured:List DV)
 |agg (cs:List DV)
 |tup (vs:List DV)
 |mr (id:Nat)
 |cz (sz:Nat) (l:List (List DV))
 |pe (id i off:Nat)
inductive PB where
 |no
 |arr (p:Option Addr) (c sz:Nat)
 |var (b:Nat)
 |map (r:Nat)
def plain:Value->Bool
 | .bool _=>true
 | .int _ _=>true
 | .string _=>true
 | .nilFunc=>true
 | .nilIface=>true
 | .pointer none=>true
 | .map none=>true
 | .slice none 0 0=>true
 |_=>false
theorem acL{x:Value}(h:plain x=true):x.oneCell'=true:=by
 unfold plain at h;split at h<;>first|rfl|(cases h)
def noB:Nat->PB:=fun _=>.no
mutual
def HV (us:World):DV->(Nat->PB)->Value->Prop
 | .v x,_,w=>w=x/\plain x=true
 | .fz sz l,_,w=> ∃p n c V,w= .slice p n c/\Sl us sz p n c V/\bl V/\HVss us l V
 | .rf id off len,β,w=> ∃p c sz q,β id= .arr p c sz/\w= .slice q len (c-off)/\off+len<=c/\(c≠off->q=p.map (·.add (off*sz)))/\(c≠0->p.isSome=true)
 | .e0,_,w=> ∃p,w= .slice p 0 0
 | .pt id off,β,w=> ∃b,β id= .var b/\w= .pointer (some ⟨b,off,none⟩)
 | .fp cs,_,w=> ∃a V,w= .pointer (some a)/\CellsAt us a V/\HVs us cs noB V
 | .mp es,_,w=> ∃r,w= .map (some r)/\MapIs us kv8 r (mpE es)
 | .fn f first cap,β,w=> ∃A B:List Value,w= .func (.func f) A.toArray B.toArray/\HVs us first β A/\HVs us cap β B
 | .agg cs,β,w=> ∃V:List Value,w= .agg V.toArray/\HVs us cs β V
 | .tup vs,β,w=> ∃V:List Value,w= .tuple V.toArray/\HVs us vs β V
 | .mr id,β,w=> ∃r,β id= .map r/\w= .map (some r)
 | .cz sz l,_,w=> ∃p V,w= .slice p l.length l.length/\Sl us sz p l.length l.length V/\bl V/\HVss us l V
 | .pe id i off,β,w=> ∃p c sz,β id= .arr (some p) c sz/\w= .pointer (some (p.add (i*sz+off)))
termination_by structural d=>d
def HVs (us:World):List DV->(Nat->PB)->List Value->Prop
 |[],_,V=>V=[]
 |d::r,β,V=> ∃v V',V=v::V'/\HV us d β v/\HVs us r β V'
termination_by structural d=>d
def HVss (us:World):List (List DV)->List (List Value)->Prop
 |[],V=>V=[]
 |d::r,V=> ∃v V',V=v::V'/\HVs us d noB v/\HVss us r V'
termination_by structural d=>d
end
def BLe(β β':Nat->PB):Prop:= ∀id,β id≠ .no->β' id=β id
theorem BLe.refl(β:Nat->PB):BLe β β:=fun _ _=>rfl
theorem BLe.trans{a b c:Nat->PB}(h:BLe a b)(h':BLe b c):BLe a c:=fun id hn=>by
 have h1:=h id hn;rw[h' id (by rw[h1];exact hn),h1]
theorem yQ(β:Nat->PB):BLe noB β:=fun _ h=>absurd rfl h
mutual
theorem HV.mono {us us':World} (hs:Sub us us'):(d:DV)->(β β':Nat->PB)->BLe β β'->(w:Value)->HV us d β w->HV us' d β' w
 | .v x,_,_,_,w,h=>h
 | .fz sz l,_,_,_,w,⟨p,n,c,V,h1,h2,h3,h4⟩=>⟨p,n,c,V,h1,h2.mono hs,h3,HVss.mono hs l V h4⟩
 | .rf id off len,β,β',hb,w,⟨p,c,sz,q,h1,h2⟩=>⟨p,c,sz,q,by rw[hb id (by rw[h1];intro h;cases h),h1],h2⟩
 | .e0,_,_,_,w,h=>h
 | .pt id off,β,β',hb,w,⟨b,h1,h2⟩=>⟨b,by rw[hb id (by rw[h1];intro h;cases h),h1],h2⟩
 | .fp cs,_,_,_,w,⟨a,V,h1,h2,h3⟩=>⟨a,V,h1,(fun j v hj=>hs.cell (h2 j v hj)),HVs.mono hs cs noB noB (BLe.refl _) V h3⟩
 | .mp es,β,β',hb,w,⟨r,h1,h2⟩=>⟨r,h1,h2.mono hs⟩
 | .fn f first cap,β,β',hb,w,⟨A,B,h1,h2,h3⟩=>⟨A,B,h1,HVs.mono hs first β β' hb A h2,HVs.mono hs cap β β' hb B h3⟩
 | .agg cs,β,β',hb,w,⟨V,h1,h2⟩=>⟨V,h1,HVs.mono hs cs β β' hb V h2⟩
 | .tup vs,β,β',hb,w,⟨V,h1,h2⟩=>⟨V,h1,HVs.mono hs vs β β' hb V h2⟩
 | .mr id,β,β',hb,w,⟨r,h1,h2⟩=>⟨r,by rw[hb id (by rw[h1];intro h;cases h),h1],h2⟩
 | .cz sz l,_,_,_,w,⟨p,V,h1,h2,h3,h4⟩=>⟨p,V,h1,h2.mono hs,h3,HVss.mono hs l V h4⟩
 | .pe id i off,β,β',hb,w,⟨p,c,sz,h1,h2⟩=>⟨p,c,sz,by rw[hb id (by rw[h1];intro h;cases h),h1],h2⟩
termination_by structural d=>d
theorem HVs.mono {us us':World} (hs:Sub us us'):(d:List DV)->(β β':Nat->PB)->BLe β β'->(V:List Value)->HVs us d β V->HVs us' d β' V
 |[],_,_,_,V,h=>h
 |d::r,β,β',hb,V,⟨v,V',h1,h2,h3⟩=>⟨v,V',h1,HV.mono hs d β β' hb v h2,HVs.mono hs r β β' hb V' h3⟩
termination_by structural d=>d
theorem HVss.mono {us us':World} (hs:Sub us us'):(d:List (List DV))->(V:List (List Value))->HVss us d V->HVss us' d V
 |[],V,h=>h
 |d::r,V,⟨v,V',h1,h2,h3⟩=>⟨v,V',h1,HVs.mono hs d noB noB (BLe.refl _) v h2,HVss.mono hs r V' h3⟩
termination_by structural d=>d
end
section
variable {us:World} {β:Nat->PB}
theorem HVs.length: ∀{cs:List DV} {V:List Value},HVs us cs β V->V.length=cs.length
 |[],V,h=>by cases h;rfl
 |d::r,V,⟨v,V',h1,h2,h3⟩=>by subst h1;simp[HVs.length h3]
theorem HVs.get: ∀{cs:List DV} {V:List Value},HVs us cs β V-> ∀{j:Nat} {d:DV},cs[j]? =some d-> ∃v,V[j]? =some v/\HV us d β v
 |[],V,h,j,d,hj=>by simp at hj
 |d::r,V,⟨v,V',h1,h2,h3⟩,0,d',hj=>by simp at hj;subst hj;exact⟨v,by simp[h1],h2⟩
 |d::r,V,⟨v,V',h1,h2,h3⟩,j+1,d',hj=>by
  obtain⟨v',h4,h5⟩:=HVs.get h3 (j:=j) (d:=d') (by simpa using hj)
  exact⟨v',by simpa[h1]using h4,h5⟩
theorem HVs.take: ∀{cs:List DV} {V:List Value} (n:Nat),HVs us cs β V->HVs us (cs.take n) β (V.take n)
 |_,_,0,_=>by simp only[List.take_zero];rfl
 |[],V,n+1,h=>by cases h;rfl
 |d::r,V,n+1,⟨v,V',h1,h2,h3⟩=>⟨v,V'.take n,by simp[h1],h2,HVs.take n h3⟩
theorem HVs.drop: ∀{cs:List DV} {V:List Value} (n:Nat),HVs us cs β V->HVs us (cs.drop n) β (V.drop n)
 |_,_,0,h=>h
 |[],V,n+1,h=>by cases h;rfl
 |d::r,V,n+1,⟨v,V',h1,h2,h3⟩=>by subst h1;simpa using HVs.drop n h3
theorem HVs.append: ∀{cs ds:List DV} {V W:List Value},HVs us cs β V->HVs us ds β W->HVs us (cs++ds) β (V++W)
 |[],ds,V,W,h,h'=>by cases h;exact h'
 |d::r,ds,V,W,⟨v,V',h1,h2,h3⟩,h'=>⟨v,V'++W,by simp[h1],h2,HVs.append h3 h'⟩
theorem HVs.nil:HVs us [] β []:=rfl
theorem HVs.one{d:DV}{v:Value}(h:HV us d β v):HVs us [d] β [v]:=⟨v,[],rfl,h,rfl⟩
theorem HVss.length: ∀{l:List (List DV)} {V:List (List Value)},HVss us l V->V.length=l.length
 |[],V,h=>by cases h;rfl
 |d::r,V,⟨v,V',h1,h2,h3⟩=>by subst h1;simp[HVss.length h3]
theorem HVss.get: ∀{l:List (List DV)} {V:List (List Value)},HVss us l V-> ∀{j:Nat} {cs:List DV},l[j]? =some cs-> ∃vs,V[j]? =some vs/\HVs us cs noB vs
 |[],V,h,j,d,hj=>by simp at hj
 |d::r,V,⟨v,V',h1,h2,h3⟩,0,d',hj=>by simp at hj;subst hj;exact⟨v,by simp[h1],h2⟩
 |d::r,V,⟨v,V',h1,h2,h3⟩,j+1,d',hj=>by
  obtain⟨v',h4,h5⟩:=HVss.get h3 (j:=j) (cs:=d') (by simpa using hj)
  exact⟨v',by simpa[h1]using h4,h5⟩
theorem HVss.take: ∀{l:List (List DV)} {V:List (List Value)} (n:Nat),HVss us l V->HVss us (l.take n) (V.take n)
 |_,_,0,_=>by simp only[List.take_zero];rfl
 |[],V,n+1,h=>by cases h;rfl
 |d::r,V,n+1,⟨v,V',h1,h2,h3⟩=>⟨v,V'.take n,by simp[h1],h2,HVss.take n h3⟩
theorem HVss.drop: ∀{l:List (List DV)} {V:List (List Value)} (n:Nat),HVss us l V->HVss us (l.drop n) (V.drop n)
 |_,_,0,h=>h
 |[],V,n+1,h=>by cases h;rfl
 |d::r,V,n+1,⟨v,V',h1,h2,h3⟩=>by subst h1;simpa using HVss.drop n h3
theorem HVss.append: ∀{l m:List (List DV)} {V W:List (List Value)},HVss us l V->HVss us m W->HVss us (l++m) (V++W)
 |[],m,V,W,h,h'=>by cases h;exact h'
 |d::r,m,V,W,⟨v,V',h1,h2,h3⟩,h'=>⟨v,V'++W,by simp[h1],h2,HVss.append h3 h'⟩
theorem HVss.nil:HVss us [] []:=rfl
theorem HVss.set: ∀{l:List (List DV)} {V:List (List Value)} (i:Nat) {cs:List DV} {vs:List Value},HVss us l V->HVs us cs noB vs->HVss us (l.set i cs) (V.set i vs)
 |[],V,i,_,_,h,_=>by cases h;rfl
 |d::r,V,0,cs,vs,⟨v,V',h1,h2,h3⟩,h'=>⟨vs,V',by simp[h1],h',h3⟩
 |d::r,V,i+1,cs,vs,⟨v,V',h1,h2,h3⟩,h'=>⟨v,V'.set i vs,by simp[h1],h2,HVss.set i h3 h'⟩
theorem HVss.replicate{cs:List DV}{vs:List Value}(h:HVs us cs noB vs): ∀(n:Nat),HVss us (List.replicate n cs) (List.replicate n vs)
 |0=>rfl
 |n+1=>⟨vs,List.replicate n vs,by simp[List.replicate_succ],h,HVss.replicate h n⟩
def HVssB(us:World)(β:Nat->PB):List (List DV)->List (List Value)->Prop
 |[],V=>V=[]
 |d::r,V=> ∃v V',V=v::V'/\HVs us d β v/\HVssB us β r V'
theorem HVssB.mono{us':World}{β':Nat->PB}(hs:Sub us us')(hb:BLe β β'): ∀(l:List (List DV)) (V:List (List Value)),HVssB us β l V->HVssB us' β' l V
 |[],V,h=>h
 |d::r,V,⟨v,V',h1,h2,h3⟩=>⟨v,V',h1,HVs.mono hs d β β' hb v h2,HVssB.mono hs hb r V' h3⟩
theorem HVssB.get: ∀{l:List (List DV)} {V:List (List Value)},HVssB us β l V-> ∀{j:Nat} {cs:List DV},l[j]? =some cs-> ∃vs,V[j]? =some vs/\HVs us cs β vs
 |[],V,h,j,d,hj=>by simp at hj
 |d::r,V,⟨v,V',h1,h2,h3⟩,0,d',hj=>by simp at hj;subst hj;exact⟨v,by simp[h1],h2⟩
 |d::r,V,⟨v,V',h1,h2,h3⟩,j+1,d',hj=>by
  obtain⟨v',h4,h5⟩:=HVssB.get h3 (j:=j) (cs:=d') (by simpa using hj)
  exact⟨v',by simpa[h1]using h4,h5⟩
theorem HVssB.append: ∀{l m:List (List DV)} {V W:List (List Value)},HVssB us β l V->HVssB us β m W->HVssB us β (l++m) (V++W)
 |[],m,V,W,h,h'=>by cases h;exact h'
 |d::r,m,V,W,⟨v,V',h1,h2,h3⟩,h'=>⟨v,V'++W,by simp[h1],h2,HVssB.append h3 h'⟩
theorem HVssB.set: ∀{l:List (List DV)} {V:List (List Value)} (i:Nat) {cs:List DV} {vs:List Value},HVssB us β l V->HVs us cs β vs->HVssB us β (l.set i cs) (V.set i vs)
 |[],V,i,_,_,h,_=>by cases h;rfl
 |d::r,V,0,cs,vs,⟨v,V',h1,h2,h3⟩,h'=>⟨vs,V',by simp[h1],h',h3⟩
 |d::r,V,i+1,cs,vs,⟨v,V',h1,h2,h3⟩,h'=>⟨v,V'.set i vs,by simp[h1],h2,HVssB.set i h3 h'⟩
theorem HVs.any{d:List DV}{v:List Value}(h:HVs us d noB v):HVs us d β v:=HVs.mono (Sub.refl us) d noB β (yQ β) v h
theorem HVssB.of: ∀{l:List (List DV)} {V:List (List Value)},HVss us l V->HVssB us β l V
 |[],V,h=>h
 |d::r,V,⟨v,V',h1,h2,h3⟩=>⟨v,V',h1,h2.any,HVssB.of h3⟩
def spliceD(cs:List DV)(off:Nat)(vs:List DV):List DV:=cs.take off++vs++cs.drop (off+vs.length)
theorem HVs.splice{cs ds:List DV}{V W:List Value}(off:Nat)(h:HVs us cs β V)(h':HVs us ds β W):HVs us (spliceD cs off ds) β (Eng.splice V off W):=by
 unfold spliceD Eng.splice;rw[h'.length];exact((h.take off).append h').append (h.drop _)
def cellsD:DV->List DV
 | .agg cs=>cs
 |d=>[d]
def oneD:DV->Bool
 | .agg _=>false
 | .tup _=>false
 |_=>true
def onesD:List DV->Bool
 |[]=>true
 |d::r=>oneD d&&onesD r
theorem HV.one{d:DV}{v:Value}(h:HV us d β v)(hd:oneD d=true):v.oneCell'=true/\v.cells.toList=[v]:=by
 cases d<;>first|(cases hd)|skip
 ·obtain⟨rfl,h2⟩:=h;refine⟨acL h2,?_⟩;unfold plain at h2;split at h2<;>first|rfl|cases h2
 ·obtain⟨p,n,c,V,rfl,_⟩:=h;exact⟨rfl,rfl⟩
 ·obtain⟨p,c,sz,q,_,rfl,_⟩:=h;exact⟨rfl,rfl⟩
 ·obtain⟨p,rfl⟩:=h;exact⟨rfl,rfl⟩
 ·obtain⟨b,_,rfl⟩:=h;exact⟨rfl,rfl⟩
 ·obtain⟨a,V,rfl,_⟩:=h;exact⟨rfl,rfl⟩
 ·obtain⟨r,rfl,_⟩:=h;exact⟨rfl,rfl⟩
 ·obtain⟨A,B,rfl,_⟩:=h;exact⟨rfl,rfl⟩
 ·obtain⟨r,_,rfl⟩:=h;exact⟨rfl,rfl⟩
 ·obtain⟨p,V,rfl,_⟩:=h;exact⟨rfl,rfl⟩
 ·obtain⟨p,c,sz,_,rfl⟩:=h;exact⟨rfl,rfl⟩
theorem HVs.ones: ∀{cs:List DV} {V:List Value},HVs us cs β V->onesD cs=true->bF V=true
 |[],V,h,_=>by cases h;rfl
 |d::r,V,⟨v,V',h1,h2,h3⟩,h=>by
  simp only[onesD,Bool.and_eq_true]at h;subst h1;simp only[bF,(h2.one h.1).1,HVs.ones h3 h.2,Bool.and_self]
theorem HV.cells{d:DV}{v:Value}(h:HV us d β v)(hd:onesD (cellsD d)=true):HVs us (cellsD d) β v.cells.toList/\bF v.cells.toList=true:=by
 by_cases ha: ∃cs,d= .agg cs
 ·obtain⟨cs,rfl⟩:=ha;obtain⟨V,rfl,h1⟩:=h;have:(Value.agg V.toArray).cells.toList=V:=rfl;rw[this];exact⟨h1,h1.ones hd⟩
 ·have hc:cellsD d=[d]:=by cases d<;>first|rfl|exact absurd ⟨_,rfl⟩ ha
  rw[hc]at hd ⊢;simp only[onesD,Bool.and_true]at hd;have h1:=h.one hd;rw[h1.2];exact⟨HVs.one h,by simp[bF,h1.1]⟩
def ldD(ag:Bool)(n off:Nat)(cs:List DV):Option DV:=
 bif (n==1||ag)&&decide (off+n<=cs.length)then some (bif ag then .agg ((cs.drop off).take n)else (cs.drop off).headD .e0)else none
theorem agV{ag:Bool}{n off:Nat}{cs:List DV}{d:DV}(h:ldD ag n off cs=some d):(n=1\/ag=true)/\off+n<=cs.length/\d=(bif ag then .agg ((cs.drop off).take n)else (cs.drop off).headD .e0):=by grind [ldD]
theorem HVs.ld{cs:List DV}{V:List Value}{ag:Bool}{n off:Nat}{d:DV}(h:HVs us cs β V)(hd:ldD ag n off cs=some d):
  (n=1\/ag=true)/\off+n<=V.length/\HV us d β (ld ag n off V):=by
 obtain⟨h1,h2,rfl⟩:=agV hd;rw[h.length];refine⟨h1,h2,?_⟩;cases ag with
 |true=>exact⟨_,rfl,(h.drop off).take n⟩
 | false=>
  simp at h1;subst h1;have h3:=h.drop off;have hl:=h3.length;unfold Eng.ld;simp only[cond_false];cases hc:cs.drop off with
  |nil=>
   have:(cs.drop off).length=0:=by rw[hc];rfl
   simp at this;omega
  |cons d r=>
   rw[hc]at h3;obtain⟨v,V',e,h4,h5⟩:=h3;rw[e];exact h4
end
inductive DSV where
 |unk
 |d (x:DV)
 |loc (k off:Nat)
 |elt (x:DV) (sz i off:Nat)
structure ek where
 cs:List DV
 T:TypeId
inductive Row where
 |arr (e sz:Nat) (l:List (List DV)) (ro:Bool)
 |var (T:TypeId) (cs:List DV)
 |nst (e sz:Nat) (l:List (List DV))
 |mpr (es:List (Value×DV))
structure DS where
 ρ:List (Nat×DSV)
 σ:List (Nat×ek)
 H:List (Nat×Row)
 nx:Nat
 nb:Nat
def DS.get(ds:DS)(t:Nat):DSV:=(lk ds.ρ t).getD .unk
def DS.find(ds:DS)(k:Nat):Option ek:=lk ds.σ k
def DS.put(ds:DS)(d:Option Nat)(x:DSV):DS:=
 match d with
 |some d=>⟨(d,x)::ds.ρ,ds.σ,ds.H,ds.nx,ds.nb⟩
 |none=>ds
def gJ(x:Value):DSV:=bif plain x then .d (.v x)else .unk
def DS.sv(ds:DS):Operand->DSV
 | .tmp t=>ds.get t
 | .const x=>gJ x
 | .global _=>.unk
 | .func f=>.d (.fn f [] [])
def HS(us:World)(β:Nat->PB):DSV->SV->Prop
 | .unk,_=>True
 | .d x,y=> ∃w,y= .v w/\HV us x β w
 | .loc k off,y=>y= .loc k off
 | .elt x sz i off,y=> ∃w,y= .elt w sz (i:Nat) off/\HV us x β w
def bz:PB->Row->Option Nat
 | .arr p c _,.arr _ _ _ ro=>bif ro||c==0 then none else p.map (·.block)
 | .var b,.var .. =>some b
 | .arr p c _,.nst .. =>bif c==0 then none else p.map (·.block)
 | .map r,.mpr _=>some r
 |_,_=>none
theorem aN{p:Option Addr}{c sz e sz':Nat}{l:List (List DV)}(h:c≠0):bz (.arr p c sz) (.arr e sz' l false)=p.map (·.block):=by
 have:(c==0)=false:=by simpa using h
 simp[bz,this]
theorem gF{p:Option Addr}{c sz e sz':Nat}{l:List (List DV)}(h:c=0):bz (.arr p c sz) (.arr e sz' l false)=none:=by
 subst h;rfl
theorem eg{p:Option Addr}{c sz e sz':Nat}{l:List (List DV)}(h:c≠0):bz (.arr p c sz) (.nst e sz' l)=p.map (·.block):=by
 have:(c==0)=false:=by simpa using h
 simp[bz,this]
theorem gp{p:Option Addr}{c sz e sz':Nat}{l:List (List DV)}(h:c=0):bz (.arr p c sz) (.nst e sz' l)=none:=by
 subst h;rfl
def RowOk(u0 u us:World)(β:Nat->PB)(pb:PB):Row->Prop
  | .arr e sz l ro=> ∃p c,pb= .arr p c sz/\l.length<=c/\
      (bif ro then (∃V,Sl us sz p l.length c V/\bl V/\HVss us l V)
       else ((c=0/\l=[])\/(c≠0/\ ∃V,Own u0 u e sz p l.length c V/\dk us p/\bl V/\HVss us l V)))
  | .var T cs=> ∃b V,pb= .var b/\u.heap[b]? =some (.cells (List.toArray V) T (0,0))/\Fresh u0 b/\Fresh us b/\HVs us cs β V/\bF V=true
  | .nst e sz l=> ∃p c,pb= .arr p c sz/\l.length<=c/\((c=0/\l=[])\/(c≠0/\ ∃V,Own u0 u e sz p l.length c V/\dk us p/\bl V/\HVssB us β l V))
  | .mpr es=> ∃r clock ents,pb= .map r/\u.heap[r]? =some (.map (List.toArray ents) clock)/\Fresh u0 r/\Fresh us r/\ents.map (·.key)=es.map (·.1)/\HVs us (es.map (·.2)) β (ents.map (·.val))/\ents.map (·.born)=List.range ents.length/\clock=ents.length
abbrev Bse:=(Nat->PB)×World
structure Rel(u0:World)(β0:Bse)(β:Nat->PB)(us:World)(ds:DS)(s:S)(u:World):Prop where
 base:Sub u0 us/\Sub β0.2 us
 sub:Sub us u
 slot: ∀t,HS us β (ds.get t) (s.get t)
 loc: ∀k,match ds.find k with
  |none=>s.find k=none
  |some l=> ∃l',s.find k=some l'/\l'.T=l.T/\HVs us l.cs β l'.cells/\bF l'.cells=true
 row: ∀id r,lk ds.H id=some r->id<ds.nx/\RowOk u0 u us β (β id) r
 nos: ∀id,ds.nx<=id->β id= .no
 fix: ∀id,id<ds.nb->β id=β0.1 id
 nbx:ds.nb<=ds.nx
 dist: ∀i j ri rj b,i≠j->lk ds.H i=some ri->lk ds.H j=some rj->bz (β i) ri=some b->bz (β j) rj≠some b
def LiftR(u0:World)(β0:Bse)(K:DS->Prop)(s:S)(u:World):Prop:= ∃β us ds,Rel u0 β0 β us ds s u/\K ds
theorem HS.mono{us us':World}{β β':Nat->PB}(hs:Sub us us')(hb:BLe β β'){x:DSV}{y:SV}(h:HS us β x y):HS us' β' x y:=by
 cases x with
 |unk=>trivial
 |d x=>obtain⟨w,h1,h2⟩:=h;exact⟨w,h1,HV.mono hs x β β' hb w h2⟩
 |loc k off=>exact h
 |elt x sz i off=>obtain⟨w,h1,h2⟩:=h;exact⟨w,h1,HV.mono hs x β β' hb w h2⟩
theorem Sl.zero(u:World)(sz:Nat)(p:Option Addr):Sl u sz p 0 0 []:=
 ⟨rfl,Nat.le_refl _,by simp,fun _=>⟨rfl,rfl⟩,fun a ha=>⟨fun h=>absurd h (Nat.lt_irrefl 0),by simp⟩⟩
theorem Own.none_iff{u0 u:World}{e sz n c:Nat}{p:Option Addr}{xs:List (List Value)}(h:Own u0 u e sz p n c xs)(hc:c≠0): ∃g cur,p=some ⟨g,0,none⟩/\u.heap[g]? =some (.cells cur e (0,0))/\Fresh u0 g:=by
 rcases h.at_ with ⟨_,_,h1⟩|⟨g,cur,h1,h2,_,_,_,_,h3⟩
 ·exact absurd h1 hc
 ·exact⟨g,cur,h1,h2,h3⟩
section
variable {u0 u us u' us':World} {β0:Bse} {β β':Nat->PB} {ds:DS} {s:S}
theorem RowOk.step{pb:PB}{r:Row}(h:RowOk u0 u us β pb r)(hs:Sub u u')(hus:Sub us us')(hb:BLe β β')(hf: ∀b,bz pb r=some b->Fresh us' b):RowOk u0 u' us' β' pb r:=by
 cases r with
 | arr e sz l ro=>
  obtain⟨p,c,rfl,hc,h⟩:=h;refine⟨p,c,rfl,hc,?_⟩;cases ro with
  |true=>
   obtain⟨V,h1,h2,h3⟩:=h;exact⟨V,h1.mono hus,h2,HVss.mono hus l V h3⟩
  | false=>
   rcases h with h|⟨h0,V,h1,h2,h3,h4⟩
   ·exact .inl h
   ·refine .inr ⟨h0,V,h1.mono hs,fun a ha=>hf _ ?_,h3,HVss.mono hus l V h4⟩
    rw[aN h0,ha];rfl
 |var T cs=>
  obtain⟨b,V,rfl,h1,h2,h3,h4,h5⟩:=h;exact⟨b,V,rfl,hs _ _ h1 ax,h2,hf _ rfl,HVs.mono hus cs β β' hb V h4,h5⟩
 | nst e sz l=>
  obtain⟨p,c,rfl,hc,h⟩:=h;refine⟨p,c,rfl,hc,?_⟩;rcases h with h|⟨h0,V,h1,h2,h3,h4⟩
  ·exact .inl h
  ·refine .inr ⟨h0,V,h1.mono hs,fun a ha=>hf _ ?_,h3,HVssB.mono hus hb l V h4⟩
   rw[eg h0,ha];rfl
 |mpr es=>
  obtain⟨r,clock,ents,rfl,h1,h2,h3,h4,h5,h6⟩:=h;exact⟨r,clock,ents,rfl,hs _ _ h1 cM,h2,hf _ rfl,h4,HVs.mono hus _ β β' hb _ h5,h6⟩
theorem RowOk.fresh{pb:PB}{r:Row}(h:RowOk u0 u us β pb r){b:Nat}(hl:bz pb r=some b):Fresh us b/\ ¬Fresh u b:=by
 cases r with
 | arr e sz l ro=>
  obtain⟨p,c,rfl,hc,h⟩:=h;cases ro with
  |true=>simp[bz]at hl
  |false=>
   rcases h with ⟨h,_⟩|⟨h0,V,h1,h2,h3,h4⟩
   ·rw[gF h]at hl;cases hl
   ·rw[aN h0]at hl;obtain⟨a,ha,rfl⟩:=Option.map_eq_some_iff.1 hl;exact⟨h2 a ha,h1.known ha⟩
 |var T cs=>
  obtain⟨b,V,rfl,h1,h2,h3,h4,h5⟩:=h;simp[bz]at hl;subst hl;exact⟨h3,fun hf=>ax (hf _ h1)⟩
 |nst e sz l=>
  obtain⟨p,c,rfl,hc,h⟩:=h;rcases h with ⟨h,_⟩|⟨h0,V,h1,h2,h3,h4⟩
  ·rw[gp h]at hl;cases hl
  ·rw[eg h0]at hl;obtain⟨a,ha,rfl⟩:=Option.map_eq_some_iff.1 hl;exact⟨h2 a ha,h1.known ha⟩
 |mpr es=>
  obtain⟨r,clock,ents,rfl,h1,h2,h3,h4⟩:=h;simp[bz]at hl;subst hl;exact⟨h3,fun hf=>cM (hf _ h1)⟩
theorem RowOk.fresh0{pb:PB}{r:Row}(h:RowOk u0 u us β pb r){b:Nat}(hl:bz pb r=some b):Fresh u0 b:=by
 cases r with
 | arr e sz l ro=>
  obtain⟨p,c,rfl,hc,h⟩:=h;cases ro with
  |true=>simp[bz]at hl
  |false=>
   rcases h with ⟨h,_⟩|⟨h0,V,h1,h2,h3,h4⟩
   ·rw[gF h]at hl;cases hl
   ·rw[aN h0]at hl;obtain⟨a,ha,rfl⟩:=Option.map_eq_some_iff.1 hl;exact h1.fresh a ha
 |var T cs=>
  obtain⟨b,V,rfl,h1,h2,h3,h4,h5⟩:=h;simp[bz]at hl;subst hl;exact h2
 |nst e sz l=>
  obtain⟨p,c,rfl,hc,h⟩:=h;rcases h with ⟨h,_⟩|⟨h0,V,h1,h2,h3,h4⟩
  ·rw[gp h]at hl;cases hl
  ·rw[eg h0]at hl;obtain⟨a,ha,rfl⟩:=Option.map_eq_some_iff.1 hl;exact h1.fresh a ha
 |mpr es=>
  obtain⟨r,clock,ents,rfl,h1,h2,h3,h4⟩:=h;simp[bz]at hl;subst hl;exact h2
theorem RowOk.write{pb:PB}{r:Row}(h:RowOk u0 u us β pb r){p:Option Addr}(hx:SubX p u u')(hb:BLe β β')(hne: ∀a b,p=some a->bz pb r=some b->b≠a.block):RowOk u0 u' us β' pb r:=by
 cases r with
 | arr e sz l ro=>
  obtain⟨q,c,rfl,hc,h⟩:=h;refine⟨q,c,rfl,hc,?_⟩;cases ro with
  |true=>exact h
  | false=>
   rcases h with h|⟨h0,V,h1,h2⟩
   ·exact .inl h
   ·refine .inr ⟨h0,V,h1.subX hx (fun a b ha hb=>hne b _ hb ?_),h2⟩
    rw[aN h0,ha];rfl
 |var T cs=>
  obtain⟨b,V,rfl,h1,h2,h3,h4,h5⟩:=h;exact⟨b,V,rfl,hx _ _ (fun a ha=>hne a b ha rfl) h1 ax,h2,h3,HVs.mono (Sub.refl us) cs β β' hb V h4,h5⟩
 | nst e sz l=>
  obtain⟨q,c,rfl,hc,h⟩:=h;refine⟨q,c,rfl,hc,?_⟩;rcases h with h|⟨h0,V,h1,h2,h3,h4⟩
  ·exact .inl h
  ·refine .inr ⟨h0,V,h1.subX hx (fun a b ha hb=>hne b _ hb ?_),h2,h3,HVssB.mono (Sub.refl us) hb l V h4⟩
   rw[eg h0,ha];rfl
 |mpr es=>
  obtain⟨r,clock,ents,rfl,h1,h2,h3,h4,h5,h6⟩:=h;exact⟨r,clock,ents,rfl,hx _ _ (fun a ha=>hne a r ha rfl) h1 cM,h2,h3,h4,HVs.mono (Sub.refl us) _ β β' hb _ h5,h6⟩
theorem DS.get_put(ds:DS)(d:Option Nat)(x:DSV)(t:Nat):(ds.put d x).get t=if d=some t then x else ds.get t:=by
 cases d with
 |none=>simp[DS.put]
 |some d=>
  by_cases h:d=t
  ·subst h;simp[DS.put,DS.get,au]
  ·simp[DS.put,DS.get,aj h,h]
theorem S.get_put'(s:S)(d:Option Nat)(x:SV)(t:Nat):(s.put d x).get t=if d=some t then x else s.get t:=by
 cases d with
 |none=>simp[S.put]
 |some d=>
  by_cases h:d=t
  ·subst h;simp[S.get_put_eq]
  ·simp[S.get_put_ne h,h]
theorem DS.find_put(ds:DS)(d:Option Nat)(x:DSV)(k:Nat):(ds.put d x).find k=ds.find k:=by cases d<;>rfl
theorem DS.H_put(ds:DS)(d:Option Nat)(x:DSV):(ds.put d x).H=ds.H:=by cases d<;>rfl
theorem DS.nx_put(ds:DS)(d:Option Nat)(x:DSV):(ds.put d x).nx=ds.nx:=by cases d<;>rfl
theorem DS.nb_put(ds:DS)(d:Option Nat)(x:DSV):(ds.put d x).nb=ds.nb:=by cases d<;>rfl
theorem Rel.put(h:Rel u0 β0 β us ds s u){x:DSV}{y:SV}(d:Option Nat)(hxy:HS us β x y):Rel u0 β0 β us (ds.put d x) (s.put d y) u:=by
 refine⟨h.base,h.sub,fun t=>?_,fun k=>?_,fun id r hr=>?_,fun id hi=>?_,fun id hi=>?_,?_,fun i j ri rj b hij hi hj=>?_⟩
 ·rw[DS.get_put,S.get_put'];split
  ·exact hxy
  ·exact h.slot t
 ·have:=h.loc k;rw[DS.find_put,S.find_put];exact this
 ·rw[DS.H_put]at hr;rw[DS.nx_put];exact h.row id r hr
 ·rw[DS.nx_put]at hi;exact h.nos id hi
 ·rw[DS.nb_put]at hi;exact h.fix id hi
 ·rw[DS.nx_put,DS.nb_put];exact h.nbx
 ·rw[DS.H_put]at hi hj;exact h.dist i j ri rj b hij hi hj
theorem Rel.put_d(h:Rel u0 β0 β us ds s u){x:DV}{w:Value}(d:Option Nat)(hxy:HV us x β w):Rel u0 β0 β us (ds.put d (.d x)) (s.put d (.v w)) u:=h.put d ⟨w,rfl,hxy⟩
theorem Rel.sv(h:Rel u0 β0 β us ds s u)(y:Operand):HS us β (ds.sv y) (s.sv y):=by
 cases y with
 |tmp t=>exact h.slot t
 |const x=>
  show HS us β (gJ x) (.v x);unfold gJ;cases hp:plain x with
  |true=>exact⟨x,rfl,rfl,hp⟩
  |false=>trivial
 |global g=>trivial
 |func f=>exact⟨_,rfl,[],[],rfl,rfl,rfl⟩
theorem Rel.sv_d(h:Rel u0 β0 β us ds s u){y:Operand}{x:DV}(hy:ds.sv y= .d x): ∃w,s.sv y= .v w/\HV us x β w:=by
 have:=h.sv y;rw[hy]at this;exact this
theorem Rel.sv_loc(h:Rel u0 β0 β us ds s u){y:Operand}{k off:Nat}(hy:ds.sv y= .loc k off):s.sv y= .loc k off:=by
 have:=h.sv y;rw[hy]at this;exact this
theorem Rel.sv_elt(h:Rel u0 β0 β us ds s u){y:Operand}{x:DV}{sz i off:Nat}(hy:ds.sv y= .elt x sz i off): ∃w,s.sv y= .elt w sz (i:Nat) off/\HV us x β w:=by
 have:=h.sv y;rw[hy]at this;exact this
theorem Rel.mono(h:Rel u0 β0 β us ds s u)(hs:Sub u u'):Rel u0 β0 β us ds s u':=
 ⟨h.base,h.sub.trans hs,h.slot,h.loc,fun id r hr=>⟨(h.row id r hr).1,(h.row id r hr).2.step hs (Sub.refl us) (BLe.refl β) (fun b hb=>((h.row id r hr).2.fresh hb).1)⟩,h.nos,h.fix,h.nbx,h.dist⟩
def upd(β:Nat->PB)(id:Nat)(pb:PB):Nat->PB:=fun j=>if j=id then pb else β j
theorem ei(β:Nat->PB)(id:Nat)(pb:PB):upd β id pb id=pb:=by simp[upd]
theorem eO{β:Nat->PB}{id j:Nat}{pb:PB}(h:j≠id):upd β id pb j=β j:=by simp[upd,h]
theorem mB{β:Nat->PB}{id:Nat}{pb:PB}(h:β id= .no):BLe β (upd β id pb):=fun j hj=>by
 by_cases e:j=id
 ·subst e;exact absurd h hj
 ·exact eO e
theorem Rel.grow(h:Rel u0 β0 β us ds s u)(hus:Sub us us')(hsub:Sub us' u')(hb:BLe β β'){H:List (Nat×Row)}{nx:Nat}(hnx:ds.nx<=nx)
  (hrow: ∀id r,lk H id=some r->id<nx/\RowOk u0 u' us' β' (β' id) r) (hnos: ∀id,nx<=id->β' id= .no) (hfix: ∀id,id<ds.nb->β' id=β id)
  (hdist: ∀i j ri rj b,i≠j->lk H i=some ri->lk H j=some rj->bz (β' i) ri=some b->bz (β' j) rj≠some b):
  Rel u0 β0 β' us' ⟨ds.ρ,ds.σ,H,nx,ds.nb⟩ s u':=by
 refine⟨⟨h.base.1.trans hus,h.base.2.trans hus⟩,hsub,fun t=>(h.slot t).mono hus hb,fun k=>?_,hrow,hnos,fun id hi=>(hfix id hi).trans (h.fix id hi),Nat.le_trans h.nbx hnx,hdist⟩
 have:=h.loc k;show match ds.find k with|none=>_|some l=>_
 cases hf:ds.find k with
 |none=>rw[hf]at this;exact this
 |some l=>
  rw[hf]at this;obtain⟨l',h1,h2,h3,h4⟩:=this;exact⟨l',h1,h2,HVs.mono hus l.cs β β' hb _ h3,h4⟩
theorem Rel.new(h:Rel u0 β0 β us ds s u)(hs:Sub u u')(pb:PB)(r:Row)(hr:RowOk u0 u' us (upd β ds.nx pb) pb r)(hf: ∀b,bz pb r=some b->Fresh u b):
  Rel u0 β0 (upd β ds.nx pb) us ⟨ds.ρ,ds.σ,(ds.nx,r)::ds.H,ds.nx+1,ds.nb⟩ s u':=by
 have hb:BLe β (upd β ds.nx pb):=mB (h.nos _ (Nat.le_refl _));have hne: ∀i ri,lk ds.H i=some ri->i≠ds.nx:=fun i ri hi=>Nat.ne_of_lt (h.row i ri hi).1
 have hlk: ∀i ri,lk ((ds.nx,r)::ds.H) i=some ri->(i=ds.nx/\ri=r)\/(i≠ds.nx/\lk ds.H i=some ri):=by
  intro i ri hi
  by_cases e:ds.nx=i
  ·subst e;rw[au]at hi;cases hi;exact .inl ⟨rfl,rfl⟩
  ·rw[aj e]at hi;exact .inr ⟨fun h=>e h.symm,hi⟩
 refine h.grow (Sub.refl us) (h.sub.trans hs) hb (by omega) (fun i ri hi=>?_) (fun i hi=>?_) (fun i hi=>eO (by have:=h.nbx;omega)) (fun i j ri rj b hij hi hj hbi=>?_)
 ·rcases hlk i ri hi with ⟨rfl,rfl⟩|⟨e,h1⟩
  ·rw[ei];exact⟨by omega,hr⟩
  ·rw[eO e];exact⟨by have:=(h.row i ri h1).1;omega,(h.row i ri h1).2.step hs (Sub.refl us) hb (fun b hb=>((h.row i ri h1).2.fresh hb).1)⟩
 ·rw[eO (by omega)];exact h.nos i (by omega)
 ·rcases hlk i ri hi with ⟨rfl,rfl⟩|⟨e,h1⟩<;>rcases hlk j rj hj with ⟨rfl,rfl⟩|⟨e',h2⟩
  ·exact absurd rfl hij
  ·rw[ei]at hbi;rw[eO e'];intro hbj;exact((h.row j rj h2).2.fresh hbj).2 (hf b hbi)
  ·rw[ei];rw[eO e]at hbi;intro hbj;exact((h.row i ri h1).2.fresh hbi).2 (hf b hbj)
  ·rw[eO e]at hbi;rw[eO e'];exact h.dist i j ri rj b hij h1 h2 hbi
def setH(id:Nat)(r:Row):List (Nat×Row)->List (Nat×Row)
 |[]=>[]
 |(i,q)::l=>bif i==id then (id,r)::l else (i,q)::setH id r l
def dropH(id:Nat):List (Nat×Row)->List (Nat×Row)
 |[]=>[]
 |(i,q)::l=>bif i==id then dropH id l else (i,q)::dropH id l
theorem abR{id:Nat}{r q:Row}: ∀{l:List (Nat×Row)},lk l id=some q-> ∀j,lk (setH id r l) j=if j=id then some r else lk l j:=by
 intro l
 induction l with
 |nil=>intro h;cases h
 | cons p l ih=>
  obtain⟨i,q'⟩:=p;intro h j
  by_cases e:i=id
  ·subst e;simp only[setH,beq_self_eq_true,cond_true]
   by_cases ej:j=i
   ·subst ej;simp[au]
   ·rw[aj (fun h=>ej h.symm),if_neg ej,aj (fun h=>ej h.symm)]
  ·have hb:(i==id)=false:=by simpa using e
   simp only[setH,hb,cond_false];rw[aj e]at h
   by_cases ej:i=j
   ·subst ej;rw[au,au,if_neg e]
   ·rw[aj ej,aj ej];exact ih h j
theorem qz{id:Nat}: ∀{l:List (Nat×Row)} (j:Nat),lk (dropH id l) j=if j=id then none else lk l j:=by
 intro l
 induction l with
 |nil=>intro j;simp[dropH,lk]
 | cons p l ih=>
  obtain⟨i,q⟩:=p;intro j
  by_cases e:i=id
  ·subst e;simp only[dropH,beq_self_eq_true,cond_true,ih]
   by_cases ej:j=i
   ·simp[ej]
   ·simp only[ej,if_false];rw[aj (fun h=>ej h.symm)]
  ·have hb:(i==id)=false:=by simpa using e
   simp only[dropH,hb,cond_false]
   by_cases ej:i=j
   ·subst ej;simp[au,e]
   ·rw[aj ej,aj ej,ih]
theorem Rel.set(h:Rel u0 β0 β us ds s u){id:Nat}{q r:Row}(hq:lk ds.H id=some q){p:Option Addr}(hx:SubX p u u')(hp: ∀a,p=some a->bz (β id) q=some a.block)
  (hr:RowOk u0 u' us β (β id) r) (hl:bz (β id) r=bz (β id) q):Rel u0 β0 β us ⟨ds.ρ,ds.σ,setH id r ds.H,ds.nx,ds.nb⟩ s u':=by
 have hlk:=abR (r:=r) hq;have hsub:Sub us u':=hx.sub h.sub (fun a ha=>((h.row id q hq).2.fresh (hp a ha)).1)
 refine h.grow (Sub.refl us) hsub (BLe.refl β) (Nat.le_refl _) (fun i ri hi=>?_) h.nos (fun _ _=>rfl) (fun i j ri rj b hij hi hj hbi hbj=>?_)
 ·rw[hlk]at hi;split at hi
  ·rename_i e;subst e;cases hi;exact⟨(h.row i q hq).1,hr⟩
  ·rename_i e;refine⟨(h.row i ri hi).1,(h.row i ri hi).2.write hx (BLe.refl β) (fun a b ha hb hba=>?_)⟩
   subst hba;exact h.dist i id ri q _ e hi hq hb (hp a ha)
 ·rw[hlk]at hi hj;split at hi
  ·rename_i e;subst e;cases hi;rw[if_neg (fun h=>hij h.symm)]at hj
   rw[hl]at hbi;exact h.dist i j q rj b hij hq hj hbi hbj
  ·split at hj
   ·rename_i e1 e2;subst e2;cases hj;rw[hl]at hbj;exact h.dist i j ri q b hij hi hq hbi hbj
   ·exact h.dist i j ri rj b hij hi hj hbi hbj
theorem Rel.turn(h:Rel u0 β0 β us ds s u){id:Nat}{q:Row}(hq:lk ds.H id=some q){p:Option Addr}(hx:SubX p u u')(hp: ∀a,p=some a->bz (β id) q=some a.block)
  (pb:PB) (r:Row) (hr:RowOk u0 u' us (upd β ds.nx pb) pb r) (hl: ∀b,bz pb r=some b->bz (β id) q=some b\/Fresh u b):
  Rel u0 β0 (upd β ds.nx pb) us ⟨ds.ρ,ds.σ,(ds.nx,r)::dropH id ds.H,ds.nx+1,ds.nb⟩ s u':=by
 have hb:BLe β (upd β ds.nx pb):=mB (h.nos _ (Nat.le_refl _));have hsub:Sub us u':=hx.sub h.sub (fun a ha=>((h.row id q hq).2.fresh (hp a ha)).1)
 have hlk: ∀i ri,lk ((ds.nx,r)::dropH id ds.H) i=some ri->(i=ds.nx/\ri=r)\/(i≠ds.nx/\i≠id/\lk ds.H i=some ri):=by
  intro i ri hi
  by_cases e:ds.nx=i
  ·subst e;rw[au]at hi;cases hi;exact .inl ⟨rfl,rfl⟩
  ·rw[aj e,qz]at hi;split at hi
   ·cases hi
   ·rename_i e';exact .inr ⟨fun h=>e h.symm,e',hi⟩
 refine h.grow (Sub.refl us) hsub hb (by omega) (fun i ri hi=>?_) (fun i hi=>?_) (fun i hi=>eO (by have:=h.nbx;omega)) (fun i j ri rj b hij hi hj hbi=>?_)
 ·rcases hlk i ri hi with ⟨rfl,rfl⟩|⟨e,e',h1⟩
  ·rw[ei];exact⟨by omega,hr⟩
  ·rw[eO e];refine⟨by have:=(h.row i ri h1).1;omega,(h.row i ri h1).2.write hx hb (fun a b ha hb hba=>?_)⟩
   subst hba;exact h.dist i id ri q _ e' h1 hq hb (hp a ha)
 ·rw[eO (by omega)];exact h.nos i (by omega)
 ·have key: ∀k rk,lk ds.H k=some rk->k≠id->bz (β k) rk=some b->bz pb r=some b->False:=by
   intro k rk hk hki hbk hbr;rcases hl b hbr with h3|h3
   ·exact h.dist k id rk q b hki hk hq hbk h3
   ·exact((h.row k rk hk).2.fresh hbk).2 h3
  rcases hlk i ri hi with ⟨rfl,rfl⟩|⟨e,e2,h1⟩<;>rcases hlk j rj hj with ⟨rfl,rfl⟩|⟨e',e3,h2⟩
  ·exact absurd rfl hij
  ·rw[ei]at hbi;rw[eO e'];intro hbj;exact key j rj h2 e3 hbj hbi
  ·rw[ei];rw[eO e]at hbi;intro hbj;exact key i ri h1 e2 hbi hbj
  ·rw[eO e]at hbi;rw[eO e'];exact h.dist i j ri rj b hij h1 h2 hbi
end
def OptK{α:Type}(o:Option α)(K:α->Prop):Prop:=
 match o with
 |some x=>K x
 |none=>False
theorem ew{α:Type}{o:Option α}{K:α->Prop}(h:OptK o K): ∃x,o=some x/\K x:=by
 cases o with
 |none=>exact h.elim
 |some x=>exact⟨x,rfl,h⟩
def undefD:DV:=.tup []
def consV:Option Value->Option (List Value)->Option (List Value)
 |some v,some vs=>some (v::vs)
 |_,_=>none
mutual
def ec:DV->Option Value
 | .v x=>some x
 | .agg cs=>(gV cs).map fun vs=>.agg vs.toArray
 |_=>none
termination_by structural d=>d
def gV:List DV->Option (List Value)
 |[]=>some []
 |d::r=>consV (ec d) (gV r)
termination_by structural d=>d
end
mutual
theorem gb {us:World}:(d:DV)->(β:Nat->PB)->(w x:Value)->HV us d β w->ec d=some x->w=x
 | .v _,_,w,x,⟨h,_⟩,h2=>by simp only[ec,Option.some.injEq]at h2;rw[h,h2]
 | .agg cs,β,w,x,⟨V,h1,h2⟩,h3=>by
  simp only[ec]at h3
  cases hv:gV cs with
  |none=>simp[hv]at h3
  |some vs=>
   simp[hv]at h3
   rw[h1, <-h3,qi cs β V vs h2 hv]
 | .fz ..,_,_,_,_,h=>by simp[ec]at h
 | .rf ..,_,_,_,_,h=>by simp[ec]at h
 | .e0,_,_,_,_,h=>by simp[ec]at h
 | .pt ..,_,_,_,_,h=>by simp[ec]at h
 | .fp ..,_,_,_,_,h=>by simp[ec]at h
 | .mp ..,_,_,_,_,h=>by simp[ec]at h
 | .fn ..,_,_,_,_,h=>by simp[ec]at h
 | .tup ..,_,_,_,_,h=>by simp[ec]at h
 | .mr ..,_,_,_,_,h=>by simp[ec]at h
 | .cz ..,_,_,_,_,h=>by simp[ec]at h
 | .pe ..,_,_,_,_,h=>by simp[ec]at h
termination_by structural d=>d
theorem qi {us:World}:(d:List DV)->(β:Nat->PB)->(V vs:List Value)->HVs us d β V->gV d=some vs->V=vs
 |[],_,V,vs,h,h2=>by simp only[gV,Option.some.injEq]at h2;rw[<-h2];exact h
 | d::r,β,V,vs,⟨v,V',h1,h2,h3⟩,h4=>by
  simp only[gV]at h4
  cases ha:ec d with
  |none=>rw[ha]at h4;cases hb:gV r<;>rw[hb]at h4<;>cases h4
  | some a=>
   cases hb:gV r with
   |none=>rw[ha,hb]at h4;cases h4
   |some b=>
    rw[ha,hb]at h4
    cases h4
    rw[h1,gb d β v a h2 ha,qi r β V' b h3 hb]
termination_by structural d=>d
end
theorem al5{x:Value}:ec (.v x)=some x:=rfl
theorem afa{cs:List DV}:ec (.agg cs)=(gV cs).map fun vs=>.agg vs.toArray:=rfl
theorem adQ:gV []=some []:=rfl
theorem y_{d:DV}{r:List DV}:gV (d::r)=consV (ec d) (gV r):=rfl
theorem aiB{id off len:Nat}:ec (.rf id off len)=none:=rfl
theorem akb{sz:Nat}{l:List (List DV)}:ec (.fz sz l)=none:=rfl
def AtPK(K:DV->Prop)(r:Value):Prop:=plain r=true/\K (.v r)
def AtP(P:Program)(e:Sem Value)(K:DV->Prop):Prop:=AtPure P e (AtPK K)
def PutD(ds:DS)(d:Option Tmp)(K:DS->Prop)(r:DV):Prop:=K (ds.put d (.d r))
def PutS(ds:DS)(d:Option Tmp)(K:DS->Prop)(r:DSV):Prop:=K (ds.put d r)
def elemsD(H:List (Nat×Row))(sz:Nat):DV->Option (List (List DV))
 | .fz sz' l=>bif sz'==sz then some l else none
 | .rf id off len=>
  match lk H id with
  |some (.arr _ sz' l _)=>bif sz'==sz&&decide (off+len<=l.length)then some ((l.drop off).take len)else none
  |_=>none
 | .e0=>some []
 | .v (.slice none 0 0)=>some []
 |_=>none
def lenD:DV->Option Nat
 | .fz _ l=>some l.length
 | .rf _ _ len=>some len
 | .e0=>some 0
 | .v (.slice none 0 0)=>some 0
 |_=>none
def eltD(H:List (Nat×Row))(sz i:Nat):DV->Option (List DV)
 | .fz sz' l=>bif sz'==sz then l[i]? else none
 | .rf id off len=>
  match lk H id with
  |some (.arr _ sz' l _)=>bif sz'==sz then l[off+i]? else none
  |some (.nst _ sz' l)=>bif sz'==sz then l[off+i]? else none
  |_=>none
 |_=>none
def xw(H:List (Nat×Row))(id:Nat):Option (List DV):=
 match lk H id with
 |some (.var _ cs)=>some cs
 |_=>none
def ldsD(ag:Bool)(n off:Nat):Option (List DV)->Option DV
 |some cs=>ldD ag n off cs
 |none=>none
def locCs:Option ek->Option (List DV)
 |some l=>some l.cs
 |none=>none
def loadD(ds:DS)(ag:Bool)(n:Nat):DSV->Option DV
 | .loc k off=>ldsD ag n off (locCs (ds.find k))
 | .elt x sz i off=>ldsD ag n off (eltD ds.H sz i x)
 | .d (.fp cs)=>ldD ag n 0 cs
 | .d (.pt id off)=>ldsD ag n off (xw ds.H id)
 |_=>none
def vcLoad2(ds:DS)(d:Option Tmp)(K:DS->Prop)(y:DSV)(l:Option (Bool×Nat)):Prop:=
 match l with
 |some (ag,n)=>OptK (loadD ds ag n y) (PutD ds d K)
 |none=>False
def fieldD(e:Nat):DSV->Option DSV
 | .loc k off=>some (.loc k (off+e))
 | .elt x sz i off=>some (.elt x sz i (off+e))
 | .d (.fp cs)=>bif decide (e<=cs.length)then some (.d (.fp (cs.drop e)))else none
 | .d (.pt id off)=>some (.d (.pt id (off+e)))
 |_=>none
def vcField2(ds:DS)(d:Option Tmp)(K:DS->Prop)(y:DSV)(e:Option Nat):Prop:=
 match e with
 |some e=>OptK (fieldD e y) (PutS ds d K)
 |none=>False
def fvalD(y:DSV)(e:Option (Nat×Bool×Nat)):Option DV:=
 match y,e with
 | .d (.agg cs),some (off,ag,n)=>ldD ag n off cs
 |_,_=>none
def IdxN(ds:DS)(d:Option Tmp)(K:DS->Prop)(x:DV)(sz:Nat)(i:Int)(n:Nat):Prop:=0<n/\0<=i/\i<(n:Int)/\K (ds.put d (.elt x sz i.toNat 0))
def IdxA2(ds:DS)(d:Option Tmp)(K:DS->Prop)(k off:Nat)(i:Int):Option (Nat×Nat)->Prop
 |some (len,sz)=>(0<=i/\i<(len:Int))/\K (ds.put d (.loc k (off+i.toNat*sz)))
 |none=>False
def vcIdx2(ds:DS)(d:Option Tmp)(K:DS->Prop)(y i:DSV)(as:Option (Nat×Nat))(e:Option Nat):Prop:=
 match e,y,i with
 |some sz,.d x,.d (.v (.int _ i))=>OptK (lenD x) (IdxN ds d K x sz i)
 |none,.loc k off,.d (.v (.int _ i))=>IdxA2 ds d K k off i as
 |_,_,_=>False
def ovC:DSV->Option (Option Value)
 | .d (.v x)=>some (some x)
 |_=>none
def ovD(ds:DS):Option Operand->Option (Option Value)
 |none=>some none
 |some y=>ovC (ds.sv y)
def intO(z:Int):Option Value->Option Int
 |none=>some z
 |some (.int _ i)=>some i
 |_=>none
def cutR(id off lo hi sz:Nat):Option Row->Option DV
 |some (.arr _ sz' _ _)=>bif sz'==sz then some (.rf id (off+lo) (hi-lo))else none
 |some (.nst _ sz' _)=>bif sz'==sz then some (.rf id (off+lo) (hi-lo))else none
 |_=>none
def cutD(H:List (Nat×Row))(sz lo hi:Nat):DV->Option DV
 | .fz sz' l=>bif sz'==sz then some (.fz sz ((l.drop lo).take (hi-lo)))else none
 | .rf id off len=>cutR id off lo hi sz (lk H id)
 | .e0=>bif hi==0&&lo==0 then some .e0 else none
 |_=>none
def dW(P:Program)(T:TypeId):Option (List (Nat×Nat)):=
 match P.underlying T with
 |some (.struct fs)=>fs.toList.mapM fun f=>(P.info? f.type).map fun i=>(f.offset,i.size)
 |some (.array n e)=>(P.info? e).map fun i=>(List.range n).map fun k=>(k*i.size,i.size)
 |_=>none
def plAt:List (Nat×Nat)->Nat->Option (Nat×Nat)
 |[],_=>none
 |x::_,0=>some x
 |_::r,i+1=>plAt r i
def kD(pl:List (Nat×Nat)):List (Nat×DV)->List DV->Option (List DV)
 |[],cs=>some cs
 |(i,d)::r,cs=>
  match plAt pl i with
  |some (off,n)=>bif (cellsD d).length==n&&onesD (cellsD d)&&decide (off+n<=cs.length)then kD pl r (spliceD cs off (cellsD d))else none
  |none=>none
def cX(P:Program)(T:TypeId):Option (List DV):=
 match dK P T with
 |some vs=>bif vs.all plain then some (vs.map .v)else none
 |none=>none
def buildD(pl:Option (List (Nat×Nat)))(z:Option (List DV))(ps:Option (List (Nat×DV))):Option DV:=
 match pl,z,ps with
 |some pl,some z,some ps=>(kD pl ps z).map .agg
 |_,_,_=>none
def consD:DSV->Option (List DV)->Option (List DV)
 | .d x,some r=>some (x::r)
 |_,_=>none
def dvs(ds:DS):List Operand->Option (List DV)
 |[]=>some []
 |y::r=>consD (ds.sv y) (dvs ds r)
def pconsD(i:Nat):DSV->Option (List (Nat×DV))->Option (List (Nat×DV))
 | .d x,some r=>some ((i,x)::r)
 |_,_=>none
def pdvs(ds:DS):List (Nat×Operand)->Option (List (Nat×DV))
 |[]=>some []
 |(i,y)::r=>pconsD i (ds.sv y) (pdvs ds r)
def pubSVD(k id:Nat):DSV->DSV
 | .loc k' off=>bif k'==k then .d (.pt id off)else .loc k' off
 |x=>x
def pubRD(k id:Nat):List (Nat×DSV)->List (Nat×DSV)
 |[]=>[]
 |(t,x)::r=>(t,pubSVD k id x)::pubRD k id r
def dropKD(k:Nat):List (Nat×ek)->List (Nat×ek)
 |[]=>[]
 |(k',l)::r=>bif k'==k then dropKD k r else (k',l)::dropKD k r
def DS.pub(ds:DS)(k:Nat)(l:ek):DS:=⟨pubRD k ds.nx ds.ρ,dropKD k ds.σ,(ds.nx,.var l.T l.cs)::ds.H,ds.nx+1,ds.nb⟩
def consP(x:DV):Option (List DV×DS)->Option (List DV×DS)
 |some (r,ds)=>some (x::r,ds)
 |none=>none
def pubsD:List Operand->DS->Option (List DV×DS)
 |[],ds=>some ([],ds)
 | y::r,ds=>
  match ds.sv y with
  | .d x=>consP x (pubsD r ds)
  | .loc k off=>
   match ds.find k with
   |some l=>consP (.pt ds.nx off) (pubsD r (ds.pub k l))
   |none=>none
  |_=>none
def setRo:Row->Row
 | .arr e sz l _=>.arr e sz l true
 |r=>r
def roH(id:Nat):List (Nat×Row)->List (Nat×Row)
 |[]=>[]
 |(i,r)::l=>(i,bif i==id then setRo r else r)::roH id l
def roHs:List Nat->List (Nat×Row)->List (Nat×Row)
 |[],H=>H
 |i::r,H=>roHs r (roH i H)
def DS.ros(ds:DS)(l:List Nat):DS:=⟨ds.ρ,ds.σ,roHs l ds.H,ds.nx,ds.nb⟩
def idC:DV->List Nat
 | .rf id _ _=>[id]
 |_=>[]
def idCs:Option (List DV)->List Nat
 |some cs=>cs.flatMap idC
 |none=>[]
mutual
def idsD (H:List (Nat×Row)):DV->List Nat
 | .rf id _ _=>[id]
 | .pt id _=>idCs (xw H id)
 | .fn _ a b=>idsDs H a++idsDs H b
 | .agg cs=>idsDs H cs
 | .tup cs=>idsDs H cs
 |_=>[]
termination_by structural d=>d
def idsDs (H:List (Nat×Row)):List DV->List Nat
 |[]=>[]
 |d::r=>idsD H d++idsDs H r
termination_by structural d=>d
end
def rfD(off len:Nat):Option Row->Option DV
 |some (.arr _ sz l _)=>bif decide (off+len<=l.length)then some (.fz sz ((l.drop off).take len))else none
 |_=>none
def embC:Option DV->Option (List DV)->Option (List DV)
 |some d,some r=>some (d::r)
 |_,_=>none
def embF(f:FuncId):Option (List DV)->Option (List DV)->Option DV
 |some a,some b=>some (.fn f a b)
 |_,_=>none
def embV(H:List (Nat×Row)):DV->Option DV
 | .v x=>some (.v x)
 | .fz sz l=>some (.fz sz l)
 | .e0=>some .e0
 | .fp cs=>some (.fp cs)
 | .rf id off len=>rfD off len (lk H id)
 |_=>none
def embVs(H:List (Nat×Row)):List DV->Option (List DV)
 |[]=>some []
 |d::r=>embC (embV H d) (embVs H r)
def ptD(off:Nat):Option (List DV)->Option DV
 |some cs=>bif decide (off<=cs.length)then some (.fp (cs.drop off))else none
 |none=>none
def embVo(H:List (Nat×Row)):Option (List DV)->Option (List DV)
 |some cs=>embVs H cs
 |none=>none
mutual
def embD (H:List (Nat×Row)):DV->Option DV
 | .v x=>some (.v x)
 | .fz sz l=>some (.fz sz l)
 | .e0=>some .e0
 | .fp cs=>some (.fp cs)
 | .rf id off len=>rfD off len (lk H id)
 | .pt id off=>ptD off (embVo H (xw H id))
 | .fn f a b=>embF f (embDs H a) (embDs H b)
 | .agg cs=>(embDs H cs).map .agg
 | .tup cs=>(embDs H cs).map .tup
 | .mp es=>some (.mp es)
 | .mr _=>none
 | .cz sz l=>some (.cz sz l)
 | .pe .. =>none
termination_by structural d=>d
def embDs (H:List (Nat×Row)):List DV->Option (List DV)
 |[]=>some []
 |d::r=>embC (embD H d) (embDs H r)
termination_by structural d=>d
end
def embPs(H:List (Nat×Row)):List (Nat×DV)->Option (List (List DV))
 |[]=>some []
 |(_,d)::r=>
  match embD H d,embPs H r with
  |some d',some r'=>some (cellsD d'::r')
  |_,_=>none
def idsPs(H:List (Nat×Row)):List (Nat×DV)->List Nat
 |[]=>[]
 |(_,d)::r=>idsD H d++idsPs H r
mutual
def fP:DV->Bool
 | .pt _ _=>false
 | .mr _=>false
 | .pe _ _ _=>false
 | .fn _ a b=>noPts a&&noPts b
 | .agg cs=>noPts cs
 | .tup cs=>noPts cs
 |_=>true
termination_by structural d=>d
def noPts:List DV->Bool
 |[]=>true
 |d::r=>fP d&&noPts r
termination_by structural d=>d
end
def CallS(P:Program)(x:Bool)(f:FuncId)(args:List DV)(ds:DS)(K:DV->DS->Prop):Prop:=
 ∀u0 β0 β us s u vs,Rel u0 β0 β us ds s u->HVs us args β vs->AtCall x P f vs u0 u fun r u'=> ∃β' us' ds' d,Rel u0 β0 β' us' ds' s u'/\HV us' d β' r/\K d ds'
def dt(P:Program)(T:TypeId):Option (Nat×Nat×Nat):=
 match P.underlying T with
 |some (.slice e)=>match P.info? e with
  |some i=>bif cU P T e i.size i.bytes then some (e,i.size,i.bytes)else none
  |none=>none
 |_=>none
def baseD(H:List (Nat×Row))(e sz:Nat):DV->Option (Option Nat×List (List DV))
 | .e0=>some (none,[])
 | .v (.slice none 0 0)=>some (none,[])
 | .rf id 0 len=>
  match lk H id with
  |some (.arr e' sz' l false)=>bif e'==e&&sz'==sz&&l.length==len then some (some id,l)else none
  |_=>none
 |_=>none
def dropO(id:Option Nat)(H:List (Nat×Row)):List (Nat×Row):=
 match id with
 |some id=>dropH id H
 |none=>H
def AppB(x:Bool)(ds:DS)(d:Option Tmp)(K:DS->Prop)(e sz bytes:Nat)(xs:List (List DV))(b:Option Nat×List (List DV)):Prop:=
 (x=false\/b.1=none)/\(b.2.length+xs.length)*bytes<=140737488355328/\b.2.length+xs.length<=9223372036854775807/\
   K ((⟨ds.ρ,ds.σ,(ds.nx,.arr e sz (b.2++xs) false)::dropO b.1 ds.H,ds.nx+1,ds.nb⟩:DS).put d (.d (.rf ds.nx 0 (b.2.length+xs.length))))
def ElNR(sz off len:Nat):Option Row->Option (List (List DV))
 |some (.nst _ sz' l)=>bif sz'==sz&&off==0&&l.length==len then some l else none
 |_=>none
def pX(H:List (Nat×Row))(sz:Nat):DV->Option (List (List DV))
 | .rf id off len=>ElNR sz off len (lk H id)
 |_=>none
def BaNR(e sz id len:Nat):Option Row->Option (Option Nat×List (List DV))
 |some (.nst e' sz' l)=>bif e'==e&&sz'==sz&&l.length==len then some (some id,l)else none
 |some (.arr e' sz' l false)=>bif e'==e&&sz'==sz&&l.length==len then some (some id,l)else none
 |_=>none
def kI(H:List (Nat×Row))(e sz:Nat):DV->Option (Option Nat×List (List DV))
 | .e0=>some (none,[])
 | .v (.slice none 0 0)=>some (none,[])
 | .rf id 0 len=>BaNR e sz id len (lk H id)
 |_=>none
def AppC(x:Bool)(ds:DS)(d:Option Tmp)(K:DS->Prop)(e sz bytes:Nat)(xs:List (List DV))(b:Option Nat×List (List DV)):Prop:=
 (x=false\/b.1=none)/\(b.2.length+xs.length)*bytes<=140737488355328/\b.2.length+xs.length<=9223372036854775807/\
   K ((⟨ds.ρ,ds.σ,(ds.nx,.nst e sz (b.2++xs))::dropO b.1 ds.H,ds.nx+1,ds.nb⟩:DS).put d (.d (.rf ds.nx 0 (b.2.length+xs.length))))
def AppY(x:Bool)(ds:DS)(d:Option Tmp)(K:DS->Prop)(e sz bytes:Nat)(s:DV)(xs:List (List DV)):Prop:=OptK (kI ds.H e sz s) (AppC x ds d K e sz bytes xs)
def AppZ(x:Bool)(ds:DS)(d:Option Tmp)(K:DS->Prop)(e sz bytes:Nat)(s:DV)(xs:List (List DV)):Option (Option Nat×List (List DV))->Prop
 |some b=>AppB x ds d K e sz bytes xs b
 |none=>AppY x ds d K e sz bytes s xs
def AppX(x:Bool)(ds:DS)(d:Option Tmp)(K:DS->Prop)(e sz bytes:Nat)(s:DV)(xs:List (List DV)):Prop:=AppZ x ds d K e sz bytes s xs (baseD ds.H e sz s)
def AppW(x:Bool)(ds:DS)(d:Option Tmp)(K:DS->Prop)(e sz bytes:Nat)(s xx:DV):Option (List (List DV))->Prop
 |some xs=>AppX x ds d K e sz bytes s xs
 |none=>OptK (pX ds.H sz xx) (AppY x ds d K e sz bytes s)
def vcApp2(x:Bool)(ds:DS)(d:Option Tmp)(K:DS->Prop)(s xx:DV):Option (Nat×Nat×Nat)->Prop
 |some (e,sz,bytes)=>AppW x ds d K e sz bytes s xx (elemsD ds.H sz xx)
 |none=>False
def copyL(off:Nat)(l xs:List (List DV)):List (List DV):=l.take off++xs++l.drop (off+xs.length)
def CopyR(x:Bool)(ds:DS)(d:Option Tmp)(K:DS->Prop)(e sz:Nat)(id off len:Nat)(xs:List (List DV)):Option Row->Prop
  | some (.arr e' sz' l false)=>x=false/\e'=e/\sz'=sz/\off+len<=l.length/\len≠0/\
            K ((⟨ds.ρ,ds.σ,setH id (.arr e sz (copyL off l (xs.take len)) false) ds.H,ds.nx,ds.nb⟩:DS).put d (.d (.v (.int .i64 (Nat.min xs.length len)))))
  |_=>False
def CopyX(x:Bool)(ds:DS)(d:Option Tmp)(K:DS->Prop)(e sz:Nat)(s:DV)(xs:List (List DV)):Prop:=
 match s with
 | .rf id off len=>CopyR x ds d K e sz id off len xs (lk ds.H id)
 |_=>False
def vcCopy2(x:Bool)(ds:DS)(d:Option Tmp)(K:DS->Prop)(s xx:DV):Option (Nat×Nat×Nat)->Prop
 |some (e,sz,bytes)=>OptK (elemsD ds.H sz xx) (CopyX x ds d K e sz s)
 |none=>False
def afQ(P:Program)(e:TypeId):Bool:=match dK P e with
 |some z=>bF z
 |none=>false
def ClrR(P :Program)(x:Bool)(ds:DS)(d:Option Tmp)(K:DS->Prop)(e sz:Nat)(id off len:Nat):Option Row->Prop
  | some (.arr e' sz' l false)=>x=false/\e'=e/\sz'=sz/\off+len=l.length/\len≠0/\afQ P e=true/\
            K ((⟨ds.ρ,ds.σ,setH id (.arr e sz (l.take off) false) ds.H,ds.nx,ds.nb⟩:DS).put d (.d (.tup [])))
  |_=>False
def ClrX(P:Program)(x:Bool)(ds:DS)(d:Option Tmp)(K:DS->Prop)(e sz:Nat)(s:DV):Prop:=
 match s with
 | .rf id off len=>ClrR P x ds d K e sz id off len (lk ds.H id)
 |_=>False
def vcClr2(P:Program)(x:Bool)(ds:DS)(d:Option Tmp)(K:DS->Prop)(s:DV):Option (Nat×Nat×Nat)->Prop
 |some (e,sz,bytes)=>ClrX P x ds d K e sz s
 |none=>False
def litOk:Nat->List (Nat×DV)->Bool
 |_,[]=>true
 |k,(i,d)::r=>i==k&&fP d&&litOk (k+1) r
def LitL(ds:DS)(d:Option Tmp)(K:DS->Prop)(n e sz:Nat)(ps:List (Nat×DV))(l:List (List DV)):Prop:=
 litOk 0 ps=true/\n=ps.length/\n*sz<=16777216/\(∀y∈l,y.length=sz/\onesD y=true)/\
   K ((⟨ds.ρ,ds.σ,(ds.nx,.arr e sz l false)::roHs (idsPs ds.H ps) ds.H,ds.nx+1,ds.nb⟩:DS).put d (.d (.rf ds.nx 0 n)))
def LitM(ds:DS)(d:Option Tmp)(K:DS->Prop)(n e sz:Nat)(ps:List (Nat×DV)):Prop:=
 litOk 0 ps=true/\n=ps.length/\n*sz<=16777216/\(∀y∈ps.map (fun p=>cellsD p.2),y.length=sz/\onesD y=true)/\
   K ((⟨ds.ρ,ds.σ,(ds.nx,.nst e sz (ps.map fun p=>cellsD p.2))::ds.H,ds.nx+1,ds.nb⟩:DS).put d (.d (.rf ds.nx 0 n)))
def LitE(ds:DS)(d:Option Tmp)(K:DS->Prop)(n e sz:Nat)(ps:List (Nat×DV)):Option (List (List DV))->Prop
 |some l=>LitL ds d K n e sz ps l
 |none=>LitM ds d K n e sz ps
def af9(ds:DS)(d:Option Tmp)(K:DS->Prop)(n e sz:Nat)(ps:List (Nat×DV))(b:Bool):Prop:=
 bif b then K (ds.put d (.d .e0))else LitE ds d K n e sz ps (embPs ds.H ps)
def vcLit2(ds:DS)(d:Option Tmp)(K:DS->Prop)(n:Nat):Option (Nat×Nat×Nat)->Option (List (Nat×DV))->Prop
 |some (e,sz,_),some ps=>af9 ds d K n e sz ps (n==0&&ps.isEmpty)
 |_,_=>False
def vcMake2(ds:DS)(d:Option Tmp)(K:DS->Prop)(y z:DSV):Option (Nat×Nat×Nat)->Option (List DV)->Prop
 | some (e,sz,bytes),some zs=>
  match y,z with
  | .d (.v (.int _ l)),.d (.v (.int _ c))=>0<=l/\l<=c/\c.toNat*bytes<=140737488355328/\c<=9223372036854775807/\
   K ((⟨ds.ρ,ds.σ,(ds.nx,.arr e sz (List.replicate l.toNat zs) false)::ds.H,ds.nx+1,ds.nb⟩:DS).put d (.d (.rf ds.nx 0 l.toNat)))
  |_,_=>False
 |_,_=>False
def setLD(ds:DS)(k:Nat)(l:ek)(cs:List DV):DS:=⟨ds.ρ,(k,⟨cs,l.T⟩)::ds.σ,ds.H,ds.nx,ds.nb⟩
def StoV(ds:DS)(d:Option Tmp)(K:DS->Prop)(k off n:Nat)(vs:List DV)(l:ek):Prop:=off+n<=l.cs.length/\K ((setLD ds k l (spliceD l.cs off vs)).put d (.d undefD))
def StoP(b:Bool)(ds:DS)(d:Option Tmp)(K:DS->Prop)(id off n:Nat)(vs:List DV):Option Row->Prop
 |some (.var T cs)=>b=false/\off+n<=cs.length/\K ((⟨ds.ρ,ds.σ,setH id (.var T (spliceD cs off vs)) ds.H,ds.nx,ds.nb⟩:DS).put d (.d undefD))
 |_=>False
def StoE2(ds:DS)(d:Option Tmp)(K:DS->Prop)(id e sz i off n:Nat)(l:List (List DV))(ids:List Nat)(cs:List DV)(a':DV):Prop:=
  onesD (cellsD a')=true/\(cellsD a').length=n/\
          K ((⟨ds.ρ,ds.σ,setH id (.arr e sz (l.set i (spliceD cs off (cellsD a'))) false) (roHs ids ds.H),ds.nx,ds.nb⟩:DS).put d (.d undefD))
def StoN(ds:DS)(d:Option Tmp)(K:DS->Prop)(id e sz i off n:Nat)(l:List (List DV))(a:DV)(cs:List DV):Prop:=
 K ((⟨ds.ρ,ds.σ,setH id (.nst e sz (l.set i (spliceD cs off (cellsD a)))) ds.H,ds.nx,ds.nb⟩:DS).put d (.d undefD))
def StoF(ds:DS)(d:Option Tmp)(K:DS->Prop)(id e sz i off n:Nat)(l:List (List DV))(a:DV)(cs:List DV):Option DV->Prop
 |some a'=>StoE2 ds d K id e sz i off n l (idsD ds.H a) cs a'
 |none=>StoN ds d K id e sz i off n l a cs
def StoE1(ds:DS)(d:Option Tmp)(K:DS->Prop)(id e sz i off n:Nat)(l:List (List DV))(a:DV)(cs:List DV):Prop:=StoF ds d K id e sz i off n l a cs (embD ds.H a)
def StoE(b:Bool)(ds:DS)(d:Option Tmp)(K:DS->Prop)(id i sz off n:Nat)(a:DV):Option Row->Prop
 |some (.arr e sz' l false)=>b=false/\sz'=sz/\off+n<=sz/\fP a=true/\(idsD ds.H a).contains id=false/\OptK (l[i]?) (StoE1 ds d K id e sz i off n l a)
 |some (.nst e sz' l)=>b=false/\sz'=sz/\off+n<=sz/\OptK (l[i]?) (StoN ds d K id e sz i off n l a)
 |_=>False
def StoY(b:Bool)(ds:DS)(d:Option Tmp)(K:DS->Prop)(n:Nat)(a:DV):DSV->Prop
 | .loc k off=>OptK (ds.find k) (StoV ds d K k off n (cellsD a))
 | .d (.pt id off)=>StoP b ds d K id off n (cellsD a) (lk ds.H id)
 | .elt (.rf id roff len) sz i off=>StoE b ds d K id (roff+i) sz off n a (lk ds.H id)
 |_=>False
def vcStore2(b:Bool)(ds:DS)(d:Option Tmp)(K:DS->Prop)(y:DSV)(a:DV):Option (Bool×Nat)->Prop
 |some (_,n)=>(cellsD a).length=n/\onesD (cellsD a)=true/\StoY b ds d K n a y
 |none=>False
def nilK(op:BinOp)(K:DV->Prop)(t:Bool):Prop:=
 match op with
 | .eql=>K (.v (.bool t))
 | .neq=>K (.v (.bool !t))
 |_=>False
def NilN(op:BinOp)(K:DV->Prop)(n:Nat):Prop:=(0<n->nilK op K false)/\(n=0-> ∀t,nilK op K t)
def vcNil(P:Program)(op:BinOp)(T:TypeId)(a b:DV)(K:DV->Prop):Prop:=
 match b with
 | .v (.slice none 0 0)=>eu P T=true/\OptK (lenD a) (NilN op K)
 | .v .nilFunc=>match a with
  | .fn .. =>(match P.underlying T with|some (.func ..)=>True|_=>False)/\nilK op K false
  |_=>False
 | .v (.pointer none)=>match a with
  | .pt .. =>(match P.underlying T with|some (.pointer _)=>True|_=>False)/\nilK op K false
  | .fp .. =>(match P.underlying T with|some (.pointer _)=>True|_=>False)/\nilK op K false
  |_=>False
 |_=>False
def vcBin2(P:Program)(op:BinOp)(T:TypeId)(y z:Operand)(K:DV->Prop)(a b:DV):Option Value->Option Value->Prop
 |some x,some w=>AtP P (bm op T y z x w) K
 |_,_=>vcNil P op T a b K
def vcBinS(P:Program)(op:BinOp)(T:TypeId)(y z:Operand)(K:DV->Prop)(a b:DSV):Prop:=
 match a,b with
 | .d a,.d b=>vcBin2 P op T y z K a b (ec a) (ec b)
 |_,_=>False
def aQ(b:UInt8):List DV:=[.v (.int .u8 b.toNat)]
def ConvM(P:Program)(x:Bool)(src:TypeId)(ds:DS)(d:Option Tmp)(K:DS->Prop)(id len:Nat):Option Row->Prop
  | some (.arr e 1 l false)=>x=false/\l.length=len/\0<len/\P.underlying src=some (.slice e)/\P.underlying e=some (.int .u8)/\
            K ((⟨ds.ρ,ds.σ,setH id (.arr e 1 l true) ds.H,ds.nx,ds.nb⟩:DS).put d (.d (.rf id 0 len)))
  |_=>False
def aia(P:Program)(T:TypeId):Bool:=
 match P.underlying T with
 |some (.slice e)=>(match P.underlying e with|some (.int .u8)=>true|_=>false)
 |_=>false
def tU(P:Program)(src dst:TypeId)(ds:DS)(d:Option Tmp)(K:DS->Prop)(l:List (List DV)):Prop:=
 aia P src=true/\P.underlying dst=some .string/\ ∃bs:List UInt8,l=bs.map aQ/\K (ds.put d (.d (.v (.string (n5 bs)))))
def ve(P:Program)(x:Bool)(src dst:TypeId)(ds:DS)(d:Option Tmp)(K:DS->Prop)(a:DV)(b:Bool):Prop:=
  bif b then (match a with
        | .rf id 0 len=>ConvM P x src ds d K id len (lk ds.H id)
        |_=>False)
  else OptK (elemsD ds.H 1 a) (tU P src dst ds d K)
def ConvV(P:Program)(x:Bool)(src dst:TypeId)(ds:DS)(d:Option Tmp)(K:DS->Prop)(a:DV):Option Value->Prop
 |some v=>AtP P (dO src dst v) (PutD ds d K)
 |none=>ve P x src dst ds d K a (src==dst)
def vcConv2(P:Program)(x:Bool)(src dst:TypeId)(ds:DS)(d:Option Tmp)(K:DS->Prop)(a:DSV):Prop:=
 match a with
 | .d a=>ConvV P x src dst ds d K a (ec a)
 |_=>False
def CutM(ds:DS)(d:Option Tmp)(K:DS->Prop)(a:DV)(sz:Nat)(l h:Int)(hs:Bool):Option Value->Prop
 |none=>OptK (cutD ds.H sz l.toNat h.toNat a) (PutD ds d K)
 |some (.int _ m)=>m=l/\m=h/\hs=true/\K (ds.put d (.d .e0))
 |_=>False
def CutH(ds:DS)(d:Option Tmp)(K:DS->Prop)(a:DV)(sz:Nat)(hs:Bool)(mx:Option Value)(n:Nat)(l h:Int):Prop:=(0<=l/\l<=h/\h<=n)/\CutM ds d K a sz l h hs mx
def CutL(ds:DS)(d:Option Tmp)(K:DS->Prop)(a:DV)(sz:Nat)(hi mx:Option Value)(n:Nat)(l:Int):Prop:=OptK (intO n hi) (CutH ds d K a sz hi.isSome mx n l)
def CutN(ds:DS)(d:Option Tmp)(K:DS->Prop)(a:DV)(sz:Nat)(lo hi mx:Option Value)(n:Nat):Prop:=OptK (intO 0 lo) (CutL ds d K a sz hi mx n)
def CutE(ds:DS)(d:Option Tmp)(K:DS->Prop)(a:DV)(lo hi mx:Option Value)(e:Nat×Nat×Nat):Prop:=OptK (lenD a) (CutN ds d K a e.2.1 lo hi mx)
def vcCut2(P:Program)(T:TypeId)(ds:DS)(d:Option Tmp)(K:DS->Prop)(a:DV)(lo hi mx:Option Value):Option Value->Prop
 |some v=>mx=none/\AtP P (cD T v lo hi none) (PutD ds d K)
 |none=>OptK (dt P T) (CutE ds d K a lo hi mx)
def vcNilC(ds:DS)(d:Option Tmp)(K:DS->Prop)(y:DSV):Prop:=
 match y with
 | .loc k off=>K (ds.put d (.loc k off))
 | .elt x sz i off=>K (ds.put d (.elt x sz i off))
 | .d (.pt id off)=>K (ds.put d (.d (.pt id off)))
 | .d (.fp cs)=>K (ds.put d (.d (.fp cs)))
 |_=>False
def vcPick2(ds:DS)(d:Option Tmp)(K:DS->Prop)(y z:DSV)(c:DSV):Prop:=
 match c with
 | .d (.v (.bool t))=>K (ds.put d (bif t then y else z))
 |_=>False
def UnV(P:Program)(op:UnOp)(K:DV->Prop)(v:Value):Prop:=AtP P (iUn op v) K
def vcUn2(P:Program)(op:UnOp)(K:DV->Prop)(a:DSV):Prop:=
 match a with
 | .d a=>OptK (ec a) (UnV P op K)
 |_=>False
def FnK2(d:Option Tmp)(K:DS->Prop)(n:Nat)(f:FuncId)(q:List DV×DS):Prop:=K (q.2.put d (.d (.fn f (q.1.take n) (q.1.drop n))))
def vcFn2(ds:DS)(d:Option Tmp)(K:DS->Prop)(n:Nat)(vs:Option (List DV×DS)):Fn->Prop
 | .func f=>OptK vs (FnK2 d K n f)
 |_=>False
def IndW(P:Program)(T:TypeId)(K:DV->Prop)(v w:Value):Prop:=AtP P (jh T v w) K
def IndV(P:Program)(T:TypeId)(K:DV->Prop)(i:DV)(v:Value):Prop:=OptK (ec i) (IndW P T K v)
def ajB(P:Program)(T:TypeId):Option (Nat×Bool×Nat):=
 match P.underlying T with
 |some (.array len e)=>(lay P e).map fun p=>(len,p.1,p.2)
 |_=>none
def AggI(K:DV->Prop)(cs:List DV)(i:Int):Option (Nat×Bool×Nat)->Prop
 |some (len,ag,n)=>(0<=i/\i<(len:Int))/\OptK (ldsD ag n (i.toNat*n) (some cs)) K
 |none=>False
def vcIndex2(P:Program)(T:TypeId)(K:DV->Prop)(a i:DSV):Prop:=
 match a,i with
 | .d (.agg cs),.d (.v (.int _ i))=>AggI K cs i (ajB P T)
 | .d a,.d i=>OptK (ec a) (IndV P T K i)
 |_,_=>False
structure akx(P:Program)(T:TypeId):Prop where
 ex: ∃kt et,P.underlying T=some (.map kt et)/\P.underlying kt=some (.int .u8)/\ ∀w,(zeroValue et).run P w= .ok .nilFunc w
def lkD:Option Nat->DV
 |some f=>.fn f [] []
 |none=>.v .nilFunc
def LkK(P:Program)(T:TypeId)(K:DV->Prop)(es:List (UInt8×Nat))(n:Int):Prop:=akx P T/\ ∃k:UInt8,n=(k.toNat:Int)/\K (.tup [lkD (lkF es k),.v (.bool (lkF es k).isSome)])
def LkU(P:Program)(T:TypeId)(K:DV->Prop)(es:List (UInt8×Nat)):Value->Prop
 | .int .u8 n=>LkK P T K es n
 |_=>False
def wX(P:Program)(T:TypeId)(ok:Bool)(K:DV->Prop)(a b:DSV):Prop:=
 match ok,a,b with
 |true,.d (.mp es),.d (.v v)=>LkU P T K es v
 |_,_,_=>False
def tupD(i:Nat):DSV->Option DV
 | .d (.tup vs)=>vs[i]?
 |_=>none
def addLD(ds:DS)(d:Nat)(cs:List DV)(T:TypeId):DS:=⟨(d,.loc d 0)::ds.ρ,(d,⟨cs,T⟩)::ds.σ,ds.H,ds.nx,ds.nb⟩
def NewC(ds:DS)(K:DS->Prop)(T:TypeId)(d:Nat)(cs:List DV):Prop:=onesD cs=true/\K (addLD ds d cs T)
def vcNew2(ds:DS)(K:DS->Prop)(T:TypeId)(cs:Option (List DV)):Option Tmp->Prop
 |some d=>ds.find d=none/\OptK cs (NewC ds K T d)
 |none=>False
def vcStoreS(x:Bool)(ds:DS)(d:Option Tmp)(K:DS->Prop)(y:DSV)(a:DSV)(l:Option (Bool×Nat)):Prop:=
 match a with
 | .d a=>vcStore2 x ds d K y a l
 |_=>False
def vcCutS(P:Program)(T:TypeId)(ds:DS)(d:Option Tmp)(K:DS->Prop)(a:DSV)(lo hi mx:Option (Option Value)):Prop:=
 match a,lo,hi,mx with
 | .d a,some lo,some hi,some mx=>vcCut2 P T ds d K a lo hi mx (ec a)
 |_,_,_,_=>False
def boxD:DSV->Option (List DV)
 | .d a=>some (cellsD a)
 |_=>none
def zeroE(P:Program):Option (Nat×Nat×Nat)->Option (List DV)
 |some (e,_,_)=>cX P e
 |none=>none
def vcLen2(P:Program)(K:DV->Prop)(a:DV)(T:TypeId):Option Nat->Prop
 |some n=>eu P T=true/\K (.v (.int .i64 n))
 |none=>match ec a with
  |some (.string s)=>P.underlying T=some .string/\K (.v (.int .i64 s.size))
  |_=>False
def vcCap2(P:Program)(K:DV->Prop)(T:TypeId):Option Nat->Prop
 |some n=>eu P T=true/\ ∀c:Nat,n<=c->K (.v (.int .i64 c))
 |none=>False
def one2(K:DV->TypeId->Prop):Option (List DV)->List TypeId->Prop
 |some [a],[T]=>K a T
 |_,_=>False
def two2(K:DV->DV->TypeId->TypeId->Prop):Option (List DV)->List TypeId->Prop
 |some [a,b],[T,T2]=>K a b T T2
 |_,_=>False
def valsO:Option (List DV)->Option (List Value)
 |some l=>gV l
 |none=>none
def CallD(d:Option Tmp)(K:DS->Prop)(r:DV)(ds2:DS):Prop:=K (ds2.put d (.d r))
def vcFun2(P:Program)(x:Bool)(d:Option Tmp)(K:DS->Prop)(f:DSV):Option (List DV×DS)->Prop
 |some (vs,ds')=>match f with
  | .d (.fn g first cap)=>CallS P x g (first++vs++cap) ds' (CallD d K)
  |_=>False
 |none=>False
def LenA(P:Program)(K:DV->Prop)(a:DV)(T:TypeId):Prop:=vcLen2 P K a T (lenD a)
def CapA(P:Program)(K:DV->Prop)(a:DV)(T:TypeId):Prop:=vcCap2 P K T (lenD a)
def MinV(P:Program)(K:DV->Prop)(ts:Array TypeId)(ty:TypeId)(vs:List Value):Prop:=AtP P (uk ts ty vs.toArray) K
def MaxV(P:Program)(K:DV->Prop)(ts:Array TypeId)(ty:TypeId)(vs:List Value):Prop:=AtP P (tp ts ty vs.toArray) K
def AppA(P:Program)(x:Bool)(ds:DS)(d:Option Tmp)(K:DS->Prop)(a b:DV)(T T2:TypeId):Prop:=T2=T/\vcApp2 x ds d K a b (dt P T)
def CopA(P:Program)(x:Bool)(ds:DS)(d:Option Tmp)(K:DS->Prop)(a b:DV)(T T2:TypeId):Prop:=T2=T/\vcCopy2 x ds d K a b (dt P T)
def ClrA(P:Program)(x:Bool)(ds:DS)(d:Option Tmp)(K:DS->Prop)(a:DV)(T:TypeId):Prop:=vcClr2 P x ds d K a (dt P T)
def vcCallM(P:Program)(x:Bool)(as:List Operand)(ts:Array TypeId)(ty:TypeId)(d:Option Tmp)(K:DS->Prop)(ds:DS):Callee->Prop
 | .builtin .len=>one2 (LenA P (PutD ds d K)) (dvs ds as) ts.toList
 | .builtin .cap=>one2 (CapA P (PutD ds d K)) (dvs ds as) ts.toList
 | .builtin .min=>OptK (valsO (dvs ds as)) (MinV P (PutD ds d K) ts ty)
 | .builtin .max=>OptK (valsO (dvs ds as)) (MaxV P (PutD ds d K) ts ty)
 | .builtin .append=>two2 (AppA P x ds d K) (dvs ds as) ts.toList
 | .builtin .copy=>two2 (CopA P x ds d K) (dvs ds as) ts.toList
 | .builtin .clear=>one2 (ClrA P x ds d K) (dvs ds as) ts.toList
 | .value f=>vcFun2 P x d K (ds.sv f) (pubsD as ds)
 |_=>False
def VcSem(P:Program)(x:Bool)(o:Oper)(K:DS->Prop)(ds:DS):Prop:=
 ∀u0 β0 β us s u,Rel u0 β0 β us ds s u->cj P x u0 o (LiftR u0 β0 K) s u
def LkS(P:Program)(x:Bool)(o:Oper)(K:DS->Prop)(ds:DS)(T:TypeId)(ok:Bool):DSV->DSV->Prop
 | .d (.mr _),_=>VcSem P x o K ds
 |a,b=>wX P T ok (PutD ds o.dst K) a b
def vcOpM(P:Program)(x:Bool)(o:Oper)(K:DS->Prop)(ds:DS):Op->Prop
 | .move y=>K (ds.put o.dst (ds.sv y))
 | .assign y=>K (ds.put o.dst (ds.sv y))
 | .pick c y z=>vcPick2 ds o.dst K (ds.sv y) (ds.sv z) (ds.sv c)
 | .load T y=>vcLoad2 ds o.dst K (ds.sv y) (lay P T)
 | .nilCheck y=>vcNilC ds o.dst K (ds.sv y)
 | .binOp op T y z _=>vcBinS P op T y z (PutD ds o.dst K) (ds.sv y) (ds.sv z)
 | .unOp op _ y=>vcUn2 P op (PutD ds o.dst K) (ds.sv y)
 | .convert src dst y=>vcConv2 P x src dst ds o.dst K (ds.sv y)
 | .makeFunc fn first captured=>vcFn2 ds o.dst K first.size (pubsD (first.toList++captured.toList) ds) fn
 | .build T ps=>OptK (buildD (dW P T) (cX P T) (pdvs ds ps.toList)) (PutD ds o.dst K)
 | .slice T y lo hi mx=>vcCutS P T ds o.dst K (ds.sv y) (ovD ds lo) (ovD ds hi) (ovD ds mx)
 | .fieldAddr T y f=>vcField2 ds o.dst K (ds.sv y) (bg P T f)
 | .field T y f=>OptK (fvalD (ds.sv y) (afK P T f)) (PutD ds o.dst K)
 | .indexAddr T y i=>vcIdx2 ds o.dst K (ds.sv y) (ds.sv i) (asz P T) (esz P T)
 | .index T y i=>vcIndex2 P T (PutD ds o.dst K) (ds.sv y) (ds.sv i)
 | .lookup T y z ok=>LkS P x o K ds T ok (ds.sv y) (ds.sv z)
 | .makeMap .. =>VcSem P x o K ds
 | .mapUpdate .. =>VcSem P x o K ds
 | .insert .. =>VcSem P x o K ds
 | .mapEntry .. =>VcSem P x o K ds
 | .entryStore .. =>VcSem P x o K ds
 | .extract y i=>OptK (tupD i (ds.sv y)) (PutD ds o.dst K)
 | .alloc T=>vcNew2 ds K T (cX P T) o.dst
 | .box T y=>vcNew2 ds K T (boxD (ds.sv y)) o.dst
 | .store T y z=>vcStoreS x ds o.dst K (ds.sv y) (ds.sv z) (lay P T)
 | .buildSlice T n ps=>vcLit2 ds o.dst K n (dt P T) (pdvs ds ps.toList)
 | .makeSlice T l c=>vcMake2 ds o.dst K (ds.sv l) (ds.sv c) (dt P T) (zeroE P (dt P T))
 | .call c=>vcCallM P x c.args.toList c.argTypes o.type o.dst K ds c.callee
 |_=>False
def ir(P:Program)(x:Bool)(o:Oper)(K:DS->Prop)(ds:DS):Prop:=vcOpM P x o K ds o.op
section
variable {P:Program} {u0 u us:World} {β0:Bse} {β:Nat->PB} {ds:DS} {s:S}
theorem RowOk.sl{e sz:Nat}{l:List (List DV)}{ro:Bool}{pb:PB}(hsub:Sub us u)(h:RowOk u0 u us β pb (.arr e sz l ro)): ∃p c V,pb= .arr p c sz/\l.length<=c/\Sl u sz p l.length c V/\bl V/\HVss us l V:=by
 obtain⟨p,c,rfl,hc,h⟩:=h;cases ro with
 |true=>obtain⟨V,h1,h2,h3⟩:=h;exact⟨p,c,V,rfl,hc,h1.mono hsub,h2,h3⟩
 |false=>
  rcases h with ⟨rfl,rfl⟩|⟨h0,V,h1,h2,h3,h4⟩
  ·exact⟨p,0,[],rfl,hc,Sl.zero u sz p,(fun y hy=>by cases hy),rfl⟩
  ·exact⟨p,c,V,rfl,hc,h1.sl,h3,h4⟩
theorem RowOk.slN{e sz:Nat}{l:List (List DV)}{pb:PB}(h:RowOk u0 u us β pb (.nst e sz l)): ∃p c V,pb= .arr p c sz/\l.length<=c/\Sl u sz p l.length c V/\bl V/\HVssB us β l V:=by
 obtain⟨p,c,h1,h2,h3⟩:=h;rcases h3 with ⟨rfl,rfl⟩|⟨_,V,h4,_,h6,h7⟩
 ·exact⟨p,0,[],h1,h2,Sl.zero u sz p,(fun y hy=>by cases hy),rfl⟩
 ·exact⟨p,c,V,h1,h2,h4.sl,h6,h7⟩
theorem abi{u:World}{sz n c:Nat}{p q:Option Addr}{V:List (List Value)}{off len:Nat}(h:Sl u sz p n c V)(hl:off+len<=n)(hq:c≠off->q=p.map (·.add (off*sz))):
  Sl u sz q len (c-off) ((V.drop off).take len):=by
 have hcap:=h.cap
 by_cases hc:c=off
 ·subst hc;have h0:len=0:=by omega
  subst h0;rw[Nat.sub_self,List.take_zero];exact Sl.zero u sz q
 ·have h1:=(h.drop (l:=off) (by omega)).take (k:=len) (by omega)
  rw[hq hc];unfold fo at h1;rw[if_neg hc]at h1;exact h1
theorem ahs{H:List (Nat×Row)}{sz:Nat}{y:Value}{l:List (List DV)}(h:elemsD H sz (.v y)=some l):y= .slice none 0 0/\l=[]:=by grind [elemsD]
theorem uI{y:Value}{n:Nat}(h:lenD (.v y)=some n):y= .slice none 0 0/\n=0:=by grind [lenD]
theorem gW(h:Rel u0 β0 β us ds s u){sz:Nat}{x:DV}{w:Value}{l:List (List DV)}(hx:HV us x β w)(he:elemsD ds.H sz x=some l):
  ∃p n c V,w= .slice p n c/\n=l.length/\Sl u sz p n c V/\bl V/\HVss us l V:=by
 cases x with
 | fz sz' m=>
  simp only[elemsD]at he;cases hb:(sz'==sz)with
  |false=>rw[hb]at he;cases he
  |true=>
   rw[hb]at he;simp at hb he;subst hb;subst he;obtain⟨p,n,c,V,h1,h2,h3,h4⟩:=hx;exact⟨p,n,c,V,h1,by rw[<-h4.length,h2.len],h2.mono h.sub,h3,h4⟩
 | rf id off len=>
  obtain⟨p,c,sz',q,hb,rfl,hle,hq,hsm⟩:=hx;simp only[elemsD]at he;split at he
  ·rename_i e sz2 m ro hm;cases hbb:(sz2==sz&&decide (off+len<=m.length))with
   |false=>rw[hbb]at he;cases he
   |true=>
    rw[hbb]at he;simp only[Bool.and_eq_true,beq_iff_eq,decide_eq_true_eq]at hbb;simp only[cond_true,Option.some.injEq]at he;obtain⟨rfl,hlen⟩:=hbb;subst he;obtain⟨p',c',V,h1,h2,h3,h4,h5⟩:=(h.row id _ hm).2.sl h.sub;rw[hb]at h1;cases h1;refine⟨q,len,c-off,(V.drop off).take len,rfl,by simp;omega,abi h3 hlen hq,fun y hy=>h4 y (List.mem_of_mem_drop (List.mem_of_mem_take hy)),(h5.drop off).take len⟩
  ·cases he
 |e0=>
  simp only[elemsD,Option.some.injEq]at he;subst he;obtain⟨p,rfl⟩:=hx;exact⟨p,0,0,[],rfl,rfl,Sl.zero u sz p,(fun y hy=>by cases hy),rfl⟩
 |v y=>
  obtain⟨rfl,hp⟩:=hx;obtain⟨rfl,rfl⟩:=ahs he;exact⟨none,0,0,[],rfl,rfl,Sl.zero u sz none,(fun y hy=>by cases hy),rfl⟩
 |_=>simp[elemsD]at he
theorem ij{x:DV}{w:Value}{n:Nat}(hx:HV us x β w)(hl:lenD x=some n): ∃p c,w= .slice p n c/\(0<n->p.isSome=true):=by
 cases x with
 |fz sz l=>
  obtain⟨p,m,c,V,rfl,h2,h3,h4⟩:=hx;simp only[lenD,Option.some.injEq]at hl;have:m=n:=by rw[<-hl, <-h4.length,h2.len]
  subst this;exact⟨p,c,rfl,fun h=>h2.some_ h⟩
 |rf id off len=>
  obtain⟨p,c,sz,q,hb,rfl,hle,hq,hsm⟩:=hx;simp only[lenD,Option.some.injEq]at hl;subst hl;refine⟨q,_,rfl,fun h=>?_⟩
  rw[hq (by omega),Option.isSome_map]
  exact hsm (by omega)
 |e0=>
  obtain⟨p,rfl⟩:=hx;simp only[lenD,Option.some.injEq]at hl;subst hl;exact⟨p,0,rfl,fun h=>by omega⟩
 |v y=>
  obtain⟨rfl,hp⟩:=hx;obtain⟨rfl,rfl⟩:=uI hl;exact⟨none,0,rfl,fun h=>by omega⟩
 |_=>simp[lenD]at hl
theorem adV(h:Rel u0 β0 β us ds s u){sz i:Nat}{x:DV}{w:Value}{cs:List DV}(hx:HV us x β w)(he:eltD ds.H sz i x=some cs): ∃V,afC u w sz (i:Nat) V/\HVs us cs β V:=by
 cases x with
 | fz sz' m=>
  simp only[eltD]at he;cases hb:(sz'==sz)with
  |false=>rw[hb]at he;cases he
  |true=>
   rw[hb]at he;simp at hb he;subst hb;obtain⟨p,n,c,V,rfl,h2,h3,h4⟩:=hx;obtain⟨vs,h5,h6⟩:=h4.get he;exact⟨vs,(h2.mono h.sub).elt h5,h6.any⟩
 | rf id off len=>
  obtain⟨p,c,sz',q,hb,rfl,hle,hq,hsm⟩:=hx;simp only[eltD]at he;split at he
  ·rename_i e sz2 m ro hm;cases hbb:(sz2==sz)with
   |false=>rw[hbb]at he;cases he
   |true=>
    rw[hbb]at he;simp at hbb he;subst hbb;obtain⟨p',c',V,h1,h2,h3,h4,h5⟩:=(h.row id _ hm).2.sl h.sub;rw[hb]at h1;cases h1;obtain⟨vs,h6,h7⟩:=h5.get he;have hlt:off+i<m.length:=by rcases Nat.lt_or_ge (off+i) m.length with h|h;exact h;simp[List.getElem?_eq_none h]at he
    obtain⟨a,n',c',e1,e2,e3⟩:=h3.elt h6;cases e1;refine⟨vs,⟨a.add (off*_),len,_,by rw[hq (by omega)];rfl,e2,fun j v hj=>?_⟩,h7.any⟩
    have:=e3 j v hj;simp only[Int.toNat_natCast]at this ⊢;rw[Addr.add_add,Addr.add_add];rw[Addr.add_add]at this;rw[<-this]
    congr 2
    rw[Nat.add_mul];omega
  ·rename_i e sz2 m hm;cases hbb:(sz2==sz)with
   |false=>rw[hbb]at he;cases he
   |true=>
    rw[hbb]at he;simp at hbb he;subst hbb;obtain⟨p',c',V,h1,h2,h3,h4,h5⟩:=(h.row id _ hm).2.slN;rw[hb]at h1;cases h1;obtain⟨vs,h6,h7⟩:=h5.get he;have hlt:off+i<m.length:=by rcases Nat.lt_or_ge (off+i) m.length with h|h;exact h;simp[List.getElem?_eq_none h]at he
    obtain⟨a,n',c',e1,e2,e3⟩:=h3.elt h6;cases e1;refine⟨vs,⟨a.add (off*_),len,_,by rw[hq (by omega)];rfl,e2,fun j v hj=>?_⟩,h7⟩
    have:=e3 j v hj;simp only[Int.toNat_natCast]at this ⊢;rw[Addr.add_add,Addr.add_add];rw[Addr.add_add]at this;rw[<-this]
    congr 2
    rw[Nat.add_mul];omega
  ·cases he
 |_=>simp[eltD]at he
theorem jr{ag:Bool}{n off:Nat}{o:Option (List DV)}{d:DV}(h:ldsD ag n off o=some d): ∃cs,o=some cs/\ldD ag n off cs=some d:=by
 cases o with
 |none=>cases h
 |some cs=>exact⟨cs,rfl,h⟩
theorem r_(h:Rel u0 β0 β us ds s u){id:Nat}{cs:List DV}(hv:xw ds.H id=some cs): ∃T b V,lk ds.H id=some (.var T cs)/\β id= .var b/\u.heap[b]? =some (.cells (List.toArray V) T (0,0))/\HVs us cs β V/\bF V=true:=by
 unfold xw at hv;split at hv
 ·rename_i T cs' hl;cases hv;obtain⟨b,V,h1,h2,h3,h4,h5,h6⟩:=(h.row id _ hl).2;exact⟨T,b,V,hl,h1,h2,h5,h6⟩
 ·cases hv
theorem uH{u:World}{b off n T:Nat}{V:List Value}(h:u.heap[b]? =some (.cells V.toArray T (0,0))):CellsAt u ⟨b,off,none⟩ ((V.drop off).take n):=by
 intro j v hj;rw[List.getElem?_take]at hj;split at hj
 ·rw[List.getElem?_drop]at hj;rw[Addr.add_lit];exact fm h (by simpa using hj)
 ·cases hj
theorem sE{ag:Bool}{n off:Nat}{V:List Value}(hn:n=1\/ag=true):ld ag n 0 ((V.drop off).take n)=ld ag n off V:=by
 unfold Eng.ld;cases ag with
 |true=>simp[List.take_take]
 |false=>
  simp at hn;subst hn;simp only[cond_false,List.drop_zero];cases V.drop off<;>rfl
theorem aah(h:Rel u0 β0 β us ds s u){T n:Nat}{ag:Bool}(hl:lay P T=some (ag,n)){y:DSV}{sy:SV}(hy:HS us β y sy)(hyl: ∀k off,y= .loc k off->sy= .loc k off){r:DV}(hr:loadD ds ag n y=some r)
  {K:Value->Prop} (hK: ∀w,HV us r β w->K w):mu P T sy K s u:=by
 unfold mu;rw[hl];simp only;cases y with
 |unk=>simp[loadD]at hr
 | loc k off=>
  have:=hyl k off rfl;subst this;simp only[loadD]at hr;obtain⟨cs,h1,h2⟩:=jr hr;have hloc:=h.loc k;cases hf:ds.find k with
  |none=>rw[hf]at h1;cases h1
  |some l=>
   rw[hf]at h1 hloc;cases h1;obtain⟨l',h3,h4,h5,h6⟩:=hloc;obtain⟨h7,h8,h9⟩:=h5.ld h2;simp only[h3];exact⟨h7,h8,hK _ h9⟩
 |elt x sz i off=>
  obtain⟨w,rfl,hw⟩:=hy;simp only[loadD]at hr;obtain⟨cs,h1,h2⟩:=jr hr;obtain⟨V,h3,h4⟩:=adV h hw h1;obtain⟨h7,h8,h9⟩:=h4.ld h2;exact⟨V,h3,h7,h8,hK _ h9⟩
 | d x=>
  obtain⟨w,rfl,hw⟩:=hy;cases x with
  | fp cs=>
   obtain⟨a,V,rfl,h3,h4⟩:=hw;simp only[loadD]at hr;obtain⟨h7,h8,h9⟩:=(h4.any (β:=β)).ld hr;have hln:=h4.length;refine⟨(V.drop 0).take n,fun j v hj=>?_,by simp;omega,h7,?_⟩
   ·rw[List.drop_zero,List.getElem?_take]at hj;split at hj
    ·exact h.sub.cell (h3 j v hj)
    ·cases hj
   ·rw[sE h7];exact hK _ h9
  |pt id off=>
   obtain⟨b,hb,rfl⟩:=hw;simp only[loadD]at hr;obtain⟨cs,h1,h2⟩:=jr hr;obtain⟨T',b',V,h3,h4,h5,h6,h7⟩:=r_ h h1;rw[hb]at h4;cases h4;obtain⟨h7,h8,h9⟩:=h6.ld h2;exact⟨(V.drop off).take n,uH h5,by simp;omega,h7,by rw[sE h7];exact hK _ h9⟩
  |_=>simp[loadD]at hr
theorem x7(h:Rel u0 β0 β us ds s u){T f e:Nat}(hf:bg P T f=some e){y r:DSV}{sy:SV}(hy:HS us β y sy)(hr:fieldD e y=some r){d:Option Tmp}{K:DS->Prop}(hK:K (ds.put d r)):
  ke P T f sy d (LiftR u0 β0 K) s u:=by
 unfold ke;rw[hf];simp only;cases y with
 |unk=>simp[fieldD]at hr
 |loc k off=>
  simp only[fieldD,Option.some.injEq]at hr;subst hr;have:sy= .loc k off:=hy;subst this;exact⟨β,us,_,h.put d (x:=.loc k (off+e)) rfl,hK⟩
 |elt x sz i off=>
  simp only[fieldD,Option.some.injEq]at hr;subst hr;obtain⟨w,rfl,hw⟩:=hy;exact⟨β,us,_,h.put d (x:=.elt x sz i (off+e)) ⟨w,rfl,hw⟩,hK⟩
 | d x=>
  obtain⟨w,rfl,hw⟩:=hy;cases x with
  | fp cs=>
   simp only[fieldD]at hr;cases hb:decide (e<=cs.length)with
   |false=>rw[hb]at hr;cases hr
   |true=>
    rw[hb]at hr;simp at hb hr;subst hr;obtain⟨a,V,rfl,h3,h4⟩:=hw;refine⟨β,us,_,h.put_d d (x:=.fp (cs.drop e)) ⟨a.add e,V.drop e,rfl,fun j v hj=>?_,h4.drop e⟩,hK⟩
    rw[Addr.add_add];exact h3 _ _ (by simpa using hj)
  |pt id off=>
   simp only[fieldD,Option.some.injEq]at hr;subst hr;obtain⟨b,hb,rfl⟩:=hw;refine⟨β,us,_,h.put_d d (x:=.pt id (off+e)) ⟨b,hb,?_⟩,hK⟩;rw[Addr.add_lit]
  |_=>simp[fieldD]at hr
theorem aap{y:DSV}{sy:SV}(hy:HS us β y sy){P:Program}{T f:Nat}{r:DV}(hr:fvalD y (afK P T f)=some r):
  ∃V:List Value,sy= .v (.agg V.toArray)/\ ∃off ag n,afK P T f=some (off,ag,n)/\(n=1\/ag=true)/\off+n<=V.length/\HV us r β (ld ag n off V):=by
 unfold fvalD at hr;split at hr
 ·rename_i cs off ag n hf;obtain⟨w,rfl,V,rfl,hw⟩:=hy;obtain⟨h7,h8,h9⟩:=hw.ld hr;exact⟨V,rfl,off,ag,n,hf,h7,h8,h9⟩
 ·cases hr
theorem acE(h:Rel u0 β0 β us ds s u){T:Nat}{y i:DSV}{sy si:SV}(hy:HS us β y sy)(hi:HS us β i si){d:Option Tmp}{K:DS->Prop}(hv:vcIdx2 ds d K y i (asz P T) (esz P T)):
  ry P T sy si d (LiftR u0 β0 K) s u:=by
 unfold vcIdx2 at hv;unfold ry;split at hv
 ·rename_i sz x k j he;obtain⟨w,rfl,hw⟩:=hy;obtain⟨w',rfl,hw',_⟩:=hi;subst hw';obtain⟨n,hn,h0,h1,h2,hK⟩:=ew hv;obtain⟨p,c,rfl,hp⟩:=ij hw hn;rw[he];simp only;refine⟨⟨hp h0,h1,h2⟩,β,us,_,h.put d (x:=.elt x sz j.toNat 0) ⟨_,?_,hw⟩,hK⟩;rw[Int.toNat_of_nonneg h1]
 ·rename_i k off kk j he;have hy:sy= .loc k off:=hy;obtain⟨w',rfl,hw',_⟩:=hi;subst hw';subst hy;rw[he];simp only;unfold IdxA2 at hv;unfold ag0;split at hv
  ·rename_i len sz ha;rw[ha];exact⟨hv.1,β,us,_,h.put d (x:=.loc k (off+j.toNat*sz)) rfl,hv.2⟩
  ·exact hv.elim
 ·exact hv.elim
end
theorem jS{z l:Int}{o:Option Value}(h:intO z o=some l):(o=none/\l=z)\/ ∃k,o=some (.int k l):=by
 unfold intO at h;split at h
 ·cases h;exact .inl ⟨rfl,rfl⟩
 ·cases h;exact .inr ⟨_,rfl⟩
 ·cases h
theorem gk{P:Program}{T e sz bytes:Nat}(h:dt P T=some (e,sz,bytes)):cU P T e sz bytes=true:=by grind [dt,cU]
theorem ajx{P:Program}{T e sz bytes n c:Nat}(hT:cU P T e sz bytes=true){p:Option Addr}{lo hi:Option Value}{l h:Int}(hl:intO 0 lo=some l)(hh:intO n hi=some h)(h1:0<=l)(h2:l<=h)(h3:h<=n)(hc:n<=c)(w:World):
  (cD T (.slice p n c) lo hi none).run P w= .ok (.slice (fo p c l.toNat sz) (h.toNat-l.toNat) (c-l.toNat)) w:=by
 obtain⟨ht,hsz,info,z,hi',rfl,rfl,hz,hzs⟩:=bC hT;have a1:(0:Int)<=h/\h<=(c:Int):=by omega
 have a2:(h.toNat:Int)=h:=Int.toNat_of_nonneg a1.1
 rcases jS hl with ⟨rfl,rfl⟩|⟨k,rfl⟩<;>rcases jS hh with ⟨rfl,rfl⟩|⟨k2,rfl⟩<;>
  simp[cD,Instr.sliceAt,Instr.slice,Instr.sliceBounds,Instr.sliceBound,run_underlying ht,asIntOf,sizeOf,typeInfo,hi',fo,a1,h1,h2,a2]
theorem afM{P:Program}{T e sz bytes n c:Nat}(hT:cU P T e sz bytes=true){p:Option Addr}{lo:Option Value}{l:Int}{k2 k3:IntKind}(hl:intO 0 lo=some l)(h1:0<=l)(h3:l<=n)(hc:n<=c)(w:World):
  (cD T (.slice p n c) lo (some (.int k2 l)) (some (.int k3 l))).run P w= .ok (.slice p 0 0) w:=by
 obtain⟨ht,hsz,info,z,hi',rfl,rfl,hz,hzs⟩:=bC hT;have a1:(0:Int)<=l/\l<=(c:Int):=by omega
 have a2:(l.toNat:Int)=l:=Int.toNat_of_nonneg h1
 rcases jS hl with ⟨rfl,rfl⟩|⟨k,rfl⟩<;>
  simp[cD,Instr.sliceAt,Instr.slice,Instr.sliceBounds,Instr.sliceBound,run_underlying ht,asIntOf,sizeOf,typeInfo,hi',fo,a1,h1,a2]
section
variable {P:Program} {u0 u us:World} {β0:Bse} {β:Nat->PB} {ds:DS} {s:S}
theorem nL{p:Option Addr}(a b:Nat):(p.map (·.add a)).map (·.add b)=p.map (·.add (a+b)):=by
 cases p with
 |none=>rfl
 |some x=>simp[Addr.add_add]
theorem yW(h:Rel u0 β0 β us ds s u){sz lo hi n:Nat}{x r:DV}{w:Value}(hx:HV us x β w)(hn:lenD x=some n)(h1:lo<=hi)(h2:hi<=n)(hr:cutD ds.H sz lo hi x=some r):
  ∃p c,w= .slice p n c/\n<=c/\HV us r β (.slice (fo p c lo sz) (hi-lo) (c-lo)):=by
 cases x with
 | fz sz' l=>
  obtain⟨p,m,c,V,rfl,h3,h4,h5⟩:=hx;simp only[lenD,Option.some.injEq]at hn;have:m=n:=by rw[<-hn, <-h5.length,h3.len]
  subst this;simp only[cutD]at hr;cases hb:(sz'==sz)with
  |false=>rw[hb]at hr;cases hr
  |true=>
   rw[hb]at hr;simp only[cond_true,Option.some.injEq,beq_iff_eq]at hr hb;subst hr;subst hb;refine⟨p,c,rfl,h3.cap,_,_,_,_,rfl,?_,fun y hy=>h4 y (List.mem_of_mem_drop (List.mem_of_mem_take hy)),(h5.drop lo).take _⟩
   have:=(h3.drop (l:=lo) (by omega)).take (k:=hi-lo) (by omega)
   exact this
 | rf id off len=>
  obtain⟨p,c,sz',q,hb,rfl,hle,hq,hsm⟩:=hx;simp only[lenD,Option.some.injEq]at hn;subst hn;simp only[cutD,cutR]at hr;split at hr
  ·rename_i e sz2 m ro hm;cases hbb:(sz2==sz)with
   |false=>rw[hbb]at hr;cases hr
   |true=>
    rw[hbb]at hr;simp only[cond_true,Option.some.injEq,beq_iff_eq]at hr hbb;subst hr;subst hbb;obtain⟨p',c',V,g1,_⟩:=(h.row id _ hm).2.sl h.sub;rw[hb]at g1;cases g1;refine⟨q,c-off,rfl,by omega,p,c,sz',fo q (c-off) lo sz',hb,?_,by omega,fun hne=>?_,hsm⟩
    ·rw[Nat.sub_sub]
    ·unfold fo;rw[if_neg (by omega),hq (by omega),nL,Nat.add_mul]
  ·rename_i e sz2 m hm;cases hbb:(sz2==sz)with
   |false=>rw[hbb]at hr;cases hr
   |true=>
    rw[hbb]at hr;simp only[cond_true,Option.some.injEq,beq_iff_eq]at hr hbb;subst hr;subst hbb;obtain⟨p',c',V,g1,_⟩:=(h.row id _ hm).2.slN;rw[hb]at g1;cases g1;refine⟨q,c-off,rfl,by omega,p,c,sz',fo q (c-off) lo sz',hb,?_,by omega,fun hne=>?_,hsm⟩
    ·rw[Nat.sub_sub]
    ·unfold fo;rw[if_neg (by omega),hq (by omega),nL,Nat.add_mul]
  ·cases hr
 |e0=>
  simp only[lenD,Option.some.injEq]at hn;subst hn;obtain⟨p,rfl⟩:=hx;have e1:hi=0:=by omega
  have e2:lo=0:=by omega
  subst e1;subst e2;simp[cutD]at hr;subst hr;exact⟨p,0,rfl,Nat.le_refl _,_,rfl⟩
 |v y=>
  obtain⟨rfl,rfl⟩:=uI hn;simp[cutD]at hr
 |_=>simp[lenD]at hn
theorem eW(h:Rel u0 β0 β us ds s u): ∀{l:List Operand} {vs:List DV},dvs ds l=some vs-> ∃ws,vals s l=some ws/\HVs us vs β ws
 |[],vs,hv=>by
  simp only[dvs,Option.some.injEq]at hv;subst hv;exact⟨[],rfl,rfl⟩
 | y::r,vs,hv=>by
  simp only[dvs]at hv;cases hy:ds.sv y with
  | d x=>
   cases hr:dvs ds r with
   |none=>rw[hy,hr]at hv;cases hv
   |some rs=>
    rw[hy,hr]at hv;cases hv;obtain⟨w,h1,h2⟩:=h.sv_d hy;obtain⟨ws,h3,h4⟩:=eW h hr;exact⟨w::ws,by simp[vals,h1,h3],w,ws,rfl,h2,h4⟩
  |_=>rw[hy]at hv;cases hv
theorem lB(h:Rel u0 β0 β us ds s u): ∀{l:List (Nat×Operand)} {vs:List (Nat×DV)},pdvs ds l=some vs-> ∃ws,ik s l=some ws/\vs.map (·.1)=ws.map (·.1)/\HVs us (vs.map (·.2)) β (ws.map (·.2))
 |[],vs,hv=>by
  simp only[pdvs,Option.some.injEq]at hv;subst hv;exact⟨[],rfl,rfl,rfl⟩
 | (i,y)::r,vs,hv=>by
  simp only[pdvs]at hv;cases hy:ds.sv y with
  | d x=>
   cases hr:pdvs ds r with
   |none=>rw[hy,hr]at hv;cases hv
   |some rs=>
    rw[hy,hr]at hv;cases hv;obtain⟨w,h1,h2⟩:=h.sv_d hy;obtain⟨ws,h3,h4,h5⟩:=lB h hr;exact⟨(i,w)::ws,by simp[ik,h1,h3],by simp[h4],w,ws.map (·.2),rfl,h2,h5⟩
  |_=>rw[hy]at hv;cases hv
theorem aeB{k id t:Nat}: ∀(l:List (Nat×DSV)),lk (pubRD k id l) t=(lk l t).map (pubSVD k id):=by
 intro l
 induction l with
 |nil=>rfl
 |cons p r ih=>
  obtain⟨t',x⟩:=p
  by_cases h:t'=t
  ·subst h;simp[pubRD,au]
  ·simp[pubRD,aj h,ih]
theorem aeq{k j:Nat}: ∀(l:List (Nat×ek)),lk (dropKD k l) j=if j=k then none else lk l j:=by
 intro l
 induction l with
 |nil=>simp[dropKD,lk]
 | cons p r ih=>
  obtain⟨k',x⟩:=p
  by_cases h:k'=k
  ·subst h;simp only[dropKD,beq_self_eq_true,cond_true,ih]
   by_cases hj:j=k'
   ·simp[hj]
   ·simp only[hj,if_false];rw[aj (fun e=>hj e.symm)]
  ·have hb:(k'==k)=false:=by simpa using h
   simp only[dropKD,hb,cond_false]
   by_cases hj:k'=j
   ·subst hj;simp[au,h]
   ·rw[aj hj,aj hj,ih]
theorem Rel.pub(h:Rel u0 β0 β us ds s u){k:Nat}{l:ek}(hk:ds.find k=some l){l':Loc}(hl':s.find k=some l'){u':World}(hs:Sub u u')(hf:Fresh u l'.b)(hf0:Fresh u0 l'.b)
  (hb:u'.heap[l'.b]? =some (.cells l'.cells.toArray l'.T (0,0))):Rel u0 β0 (upd β ds.nx (.var l'.b)) us (ds.pub k l) (s.pub k l'.b) u':=by
 have hloc:=h.loc k;rw[hk]at hloc;obtain⟨l2,h1,h2,h3,h4⟩:=hloc;rw[hl']at h1;cases h1;have hble:BLe β (upd β ds.nx (.var l'.b)):=mB (h.nos _ (Nat.le_refl _));have hn:=h.new (r:=.var l.T l.cs) hs (.var l'.b) ⟨l'.b,l'.cells,rfl,by rw[<-h2];exact hb,hf0,Fresh.anti h.sub hf,HVs.mono (Sub.refl us) _ _ _ hble _ h3,h4⟩ (fun b hb'=>by cases hb';exact hf)
 refine⟨hn.base,hn.sub,fun t=>?_,fun k'=>?_,hn.row,hn.nos,hn.fix,hn.nbx,hn.dist⟩
 ·have h5:=hn.slot t;show HS us _ ((lk (pubRD k ds.nx ds.ρ) t).getD .unk) _;rw[aeB,S.get_pub];have h6:HS us (upd β ds.nx (.var l'.b)) ((lk ds.ρ t).getD .unk) (s.get t):=h5;cases hlk:lk ds.ρ t with
  |none=>trivial
  | some x=>
   rw[hlk]at h6;simp only[Option.map_some,Option.getD_some]at h6 ⊢;cases x with
   |unk=>trivial
   |d x=>obtain⟨w,e,hw⟩:=h6;rw[e];exact⟨w,rfl,hw⟩
   |elt x sz i off=>obtain⟨w,e,hw⟩:=h6;rw[e];exact⟨w,rfl,hw⟩
   | loc k' off=>
    have e:s.get t= .loc k' off:=h6;rw[e]
    by_cases hkk:k'=k
    ·subst hkk;simp only[pubSVD,jb,beq_self_eq_true,cond_true];exact⟨_,rfl,l'.b,ei _ _ _,rfl⟩
    ·have hb:(k'==k)=false:=by simpa using hkk
     simp only[pubSVD,jb,hb,cond_false];exact rfl
 ·have h5:=hn.loc k';have e1:(ds.pub k l).find k'=if k'=k then none else ds.find k':=aeq ds.σ
  rw[e1,S.find_pub]
  by_cases hkk:k'=k
  ·simp[hkk]
  ·rw[if_neg hkk,if_neg hkk];exact h5
theorem np: ∀(l:List Operand) (ds:DS) (s:S) (β:Nat->PB) (u:World) (vs:List DV) (ds':DS) (K:List Value->S->World->Prop),pubsD l ds=some (vs,ds')->Rel u0 β0 β us ds s u->
  (∀s' u' β' ws,Rel u0 β0 β' us ds' s' u'->BLe β β'->HVs us vs β' ws->K ws s' u')->f_ u0 l s u K:=by
 intro l
 induction l with
 |nil=>
  intro ds s β u vs ds' K hv h hK;simp only[pubsD,Option.some.injEq,Prod.mk.injEq]at hv;obtain⟨rfl,rfl⟩:=hv;exact hK s u β [] h (BLe.refl _) rfl
 | cons y r ih=>
  intro ds s β u vs ds' K hv h hK;simp only[pubsD]at hv;simp only[f_];split at hv
  ·rename_i x hy;cases hr:pubsD r ds with
   |none=>rw[hr]at hv;cases hv
   |some q=>
    obtain⟨rs,dr⟩:=q;rw[hr]at hv;cases hv;obtain⟨w,h1,h2⟩:=h.sv_d hy;rw[h1];exact ih ds s β u rs ds' _ hr h (fun s' u' β' ws h3 h4 h5=>hK s' u' β' (w::ws) h3 h4 ⟨w,ws,rfl,HV.mono (Sub.refl us) _ _ _ h4 _ h2,h5⟩)
  ·rename_i k off hy;split at hv
   ·rename_i l hl;cases hr:pubsD r (ds.pub k l)with
    |none=>rw[hr]at hv;cases hv
    |some q=>
     obtain⟨rs,dr⟩:=q;rw[hr]at hv;cases hv;have hloc:=h.loc k;rw[hl]at hloc;obtain⟨l',h1,h2,h3,h4⟩:=hloc;rw[h.sv_loc hy];simp only[h1];intro u' hs hf hf0 hb _;have hp:=h.pub hl h1 hs hf hf0 hb;refine ih _ _ _ _ rs ds' _ hr hp (fun s' u2 β' ws h3 h4 h5=>?_)
     have hble:BLe β (upd β ds.nx (.var l'.b)):=mB (h.nos _ (Nat.le_refl _));refine hK s' u2 β' (_::ws) h3 (hble.trans h4) ⟨_,ws,rfl,⟨l'.b,?_,rfl⟩,h5⟩;rw[h4 _ (by rw[ei];intro h;cases h),ei]
   ·cases hv
  ·cases hv
end
section
variable {P:Program} {u0 u us:World} {β0:Bse} {β:Nat->PB} {ds:DS} {s:S}
theorem aeX(off:Nat)(v:Value)(cells:Array Value)(hfit:off+v.cells.toList.length<=cells.size):
  (v.cells.zipIdx.foldl (fun cs (x:Value×Nat)=>match x with|(c,j)=>cs.setIfInBounds (off+j) c) cells)=(splice cells.toList off v.cells.toList).toArray:=by
 have hfold:=rJ v.cells.toList off 0 cells (by simpa using hfit)
 simp only[Nat.add_zero]at hfold;unfold Eng.splice;rw[<-hfold, <-Array.foldl_toList,Array.toList_zipIdx]
theorem aiW{f g:Nat->Option (Nat×Nat)}(hfg: ∀i x,f i=some x->g i=some x): ∀(ws:List (Nat×Value)) (cells r:Array Value),Instr.fill f cells ws=some r->Instr.fill g cells ws=some r:=by
 intro ws
 induction ws with
 |nil=>intro cells r h;exact h
 | cons a b ih=>
  obtain⟨i,v⟩:=a;intro cells r h;simp only[Instr.fill]at h ⊢;cases hf:f i with
  |none=>rw[hf]at h;cases h
  |some q=>
   rw[hf]at h;rw[hfg i q hf];obtain⟨off,n⟩:=q;simp only at h ⊢;split at h
   ·cases h
   ·rename_i hc;rw[if_neg hc];exact ih _ _ h
theorem abF: ∀(pl:List (Nat×Nat)) (i:Nat),plAt pl i=pl[i]?
 |[],i=>by simp[plAt]
 |x::r,0=>rfl
 |x::r,i+1=>by simpa[plAt]using abF r i
theorem yA(pl:List (Nat×Nat)): ∀(ps:List (Nat×DV)) (ws:List (Nat×Value)) (cs:List DV) (V:List Value) (cs':List DV),ps.map (·.1)=ws.map (·.1)->HVs us (ps.map (·.2)) β (ws.map (·.2))->HVs us cs β V->
  kD pl ps cs=some cs'-> ∃V',Instr.fill (fun i=>pl[i]?) V.toArray ws=some (List.toArray V')/\HVs us cs' β V':=by
 intro ps
 induction ps with
 | nil=>
  intro ws cs V cs' h1 h2 h3 h4;cases ws with
  |nil=>
   simp only[kD,Option.some.injEq]at h4;subst h4;exact⟨V,rfl,h3⟩
  |cons a b=>simp at h1
 | cons p r ih=>
  intro ws cs V cs' h1 h2 h3 h4;obtain⟨i,d⟩:=p;cases ws with
  |nil=>simp at h1
  | cons a b=>
   obtain⟨j,w⟩:=a;simp only[List.map_cons,List.cons.injEq]at h1;obtain⟨e,h1⟩:=h1;subst e;obtain⟨v,V',e,g1,g2⟩:=h2;simp only[List.map_cons,List.cons.injEq]at e;obtain⟨rfl,rfl⟩:=e;simp only[kD,abF]at h4;cases hp:pl[i]? with
   |none=>simp[hp]at h4
   | some q=>
    obtain⟨off,n⟩:=q;rw[hp]at h4;simp only at h4;cases hb:((cellsD d).length==n&&onesD (cellsD d)&&decide (off+n<=cs.length))with
    |false=>rw[hb]at h4;cases h4
    |true=>
     rw[hb]at h4;simp only[cond_true]at h4;simp only[Bool.and_eq_true,beq_iff_eq,decide_eq_true_eq]at hb;obtain⟨⟨b1,b2⟩,b3⟩:=hb;obtain⟨c1,c2⟩:=g1.cells b2;have hlen:=c1.length;have hVl:=h3.length;have hsz:w.cells.size=n:=by rw[<-b1, <-hlen];simp
     simp only[Instr.fill,hp];rw[if_neg (by simp only[hsz,bne_self_eq_false,ne_eq,not_true_eq_false,decide_false,Bool.false_or,decide_eq_true_eq,List.size_toArray];omega)]
     rw[aeX off w V.toArray (by simp[hsz];omega)]
     exact ih b _ _ cs' h1 g2 (h3.splice off c1) h4
theorem kO{T:Nat}{z:List DV}(h:cX P T=some z): ∃vs,dK P T=some vs/\z=vs.map .v/\vs.all plain=true:=by grind [cX]
theorem HVs.plain: ∀{vs:List Value},vs.all plain=true->HVs us (vs.map .v) β vs
 |[],_=>rfl
 |v::r,h=>by
  simp only[List.all_cons,Bool.and_eq_true]at h;exact⟨v,r,rfl,⟨rfl,h.1⟩,HVs.plain h.2⟩
theorem aa9: ∀(vs:List Value),onesD (vs.map .v)=true
 |[]=>rfl
 |v::r=>by simp only[List.map_cons,onesD,oneD,aa9 r,Bool.and_self]
theorem vO{T:Nat}{ps:List (Nat×DV)}{ws:List (Nat×Value)}(h1:ps.map (·.1)=ws.map (·.1))(h2:HVs us (ps.map (·.2)) β (ws.map (·.2))){r:DV}(hr:buildD (dW P T) (cX P T) (some ps)=some r)
  {K:Value->Prop} (hK: ∀w,HV us r β w->K w):AtPure P (jC T ws.toArray) K:=by
 cases hp:dW P T with
 |none=>rw[hp]at hr;cases hr
 | some pl=>
  cases hz:cX P T with
  |none=>rw[hp,hz]at hr;cases hr
  | some z=>
   rw[hp,hz]at hr;simp only[buildD]at hr;cases hf:kD pl ps z with
   |none=>rw[hf]at hr;cases hr
   | some cs'=>
    rw[hf]at hr;simp only[Option.map_some,Option.some.injEq]at hr;subst hr;obtain⟨vs,hz1,rfl,hz2⟩:=kO hz;obtain⟨V',hfill,hV'⟩:=yA pl ps ws _ vs cs' h1 h2 (HVs.plain hz2) hf
    have hb:P.built T ws.toArray.toList=some V'.toArray:=by
     unfold Program.built;simp only[dK]at hz1;cases hi:P.info? T with
     |none=>rw[hi]at hz1;cases hz1
     | some it=>
      rw[hi]at hz1;cases hzz:it.zero with
      |none=>simp[hzz]at hz1
      | some zz=>
       simp only[hzz,Option.map_some,Option.some.injEq]at hz1;have hzc:zz.cells=vs.toArray:=by rw[<-hz1]
       unfold dW at hp;split at hp
       ·rename_i fs hu;simp only[hu,hzz,hp];rw[hzc];simpa using hfill
       ·rename_i n e hu;cases he:P.info? e with
        |none=>rw[he]at hp;cases hp
        | some ie=>
         rw[he]at hp;simp only[Option.map_some,Option.some.injEq]at hp;simp only[hu,hzz,he];rw[hzc];refine aiW (fun i x hx=>?_) _ _ _ hfill
         rw[<-hp,List.getElem?_map]at hx;cases hr:(List.range n)[i]? with
         |none=>rw[hr]at hx;cases hx
         |some k=>
          rw[hr]at hx;obtain⟨hlt,e⟩:=List.getElem?_eq_some_iff.1 hr;simp at e;subst e;simpa using hx
       ·cases hp
    exact⟨_,fun w=>run_build w T ws.toArray _ hb,hK _ ⟨V',rfl,hV'⟩⟩
theorem om{id j:Nat}: ∀{H:List (Nat×Row)},lk (roH id H) j=(lk H j).map fun r=>bif j==id then setRo r else r:=by
 intro H
 induction H with
 |nil=>rfl
 |cons p l ih=>
  obtain⟨i,r⟩:=p
  by_cases e:i=j
  ·subst e;simp[roH,au]
  ·simp only[roH];rw[aj e,aj e,ih]
theorem nA{pb:PB}{r:Row}{b:Nat}(h:bz pb (setRo r)=some b):bz pb r=some b:=by
 cases r with
 |arr e sz l ro=>cases pb<;>simp[setRo,bz]at h
 |var T cs=>exact h
 |nst e sz l=>exact h
 |mpr es=>exact h
def Stays(us:World)(H:List (Nat×Row))(β:Nat->PB)(id:Nat):Prop:= ∀e sz l ro,lk H id=some (.arr e sz l ro)-> ∃p c V,β id= .arr p c sz/\l.length<=c/\Sl us sz p l.length c V/\bl V/\HVss us l V
theorem Rel.ro1(h:Rel u0 β0 β us ds s u)(id:Nat): ∃us',Sub us us'/\Rel u0 β0 β us' ⟨ds.ρ,ds.σ,roH id ds.H,ds.nx,ds.nb⟩ s u/\Stays us' ds.H β id:=by
 have trans: ∀us',Sub us us'->Sub us' u->(∀r,lk ds.H id=some r->RowOk u0 u us' β (β id) (setRo r))->(∀i ri b,i≠id->lk ds.H i=some ri->bz (β i) ri=some b->Fresh us' b)->Rel u0 β0 β us' ⟨ds.ρ,ds.σ,roH id ds.H,ds.nx,ds.nb⟩ s u:=by
  intro us' h1 h2 h3 h4;refine h.grow h1 h2 (BLe.refl β) (Nat.le_refl _) (fun i r hi=>?_) h.nos (fun _ _=>rfl) (fun i j ri rj b hij hi hj hbi hbj=>?_)
  ·rw[om]at hi;cases hl:lk ds.H i with
   |none=>rw[hl]at hi;cases hi
   | some q=>
    rw[hl]at hi;simp only[Option.map_some,Option.some.injEq]at hi;refine⟨(h.row i q hl).1,?_⟩
    by_cases e:i=id
    ·subst e;simp only[beq_self_eq_true,cond_true]at hi;subst hi;exact h3 q hl
    ·have:(i==id)=false:=by simpa using e
     rw[this]at hi;simp only[cond_false]at hi;subst hi;exact(h.row i q hl).2.step (Sub.refl u) h1 (BLe.refl β) (fun b hb=>h4 i q b e hl hb)
  ·rw [om]at hi hj;cases hl:lk ds.H i with
   |none=>rw[hl]at hi;cases hi
   | some q=>
    cases hl':lk ds.H j with
    |none=>rw[hl']at hj;cases hj
    | some q'=>
     rw[hl]at hi;rw[hl']at hj;simp only[Option.map_some,Option.some.injEq]at hi hj
     have g1:bz (β i) q=some b:=by
      rw[<-hi]at hbi;cases hc:(i==id)<;>rw[hc]at hbi
      ·exact hbi
      ·exact nA hbi
     have g2:bz (β j) q'=some b:=by
      rw[<-hj]at hbj;cases hc:(j==id)<;>rw[hc]at hbj
      ·exact hbj
      ·exact nA hbj
     exact h.dist i j q q' b hij hl hl' g1 g2
 cases hl:lk ds.H id with
 |none=>exact⟨us,Sub.refl us,trans us (Sub.refl us) h.sub (fun r hr=>by rw[hl]at hr;cases hr) (fun i ri b _ hi hb=>((h.row i ri hi).2.fresh hb).1),fun e sz l ro hr=>by rw[hl]at hr;cases hr⟩
 | some r=>
  have hok:=(h.row id r hl).2;cases r with
  |var T cs=>exact⟨us,Sub.refl us,trans us (Sub.refl us) h.sub (fun r hr=>by rw[hl]at hr;cases hr;exact hok) (fun i ri b _ hi hb=>((h.row i ri hi).2.fresh hb).1),fun e sz l ro hr=>by rw[hl]at hr;cases hr⟩
  |mpr es0=>exact⟨us,Sub.refl us,trans us (Sub.refl us) h.sub (fun r hr=>by rw[hl]at hr;cases hr;exact hok) (fun i ri b _ hi hb=>((h.row i ri hi).2.fresh hb).1),fun e sz l ro hr=>by rw[hl]at hr;cases hr⟩
  |nst e0 sz0 l0=>exact⟨us,Sub.refl us,trans us (Sub.refl us) h.sub (fun r hr=>by rw[hl]at hr;cases hr;exact hok) (fun i ri b _ hi hb=>((h.row i ri hi).2.fresh hb).1),fun e sz l ro hr=>by rw[hl]at hr;cases hr⟩
  | arr e sz l ro=>
   obtain⟨p,c,hpb,hc,hrest⟩:=hok;cases ro with
   | true=>
    obtain⟨V,h1,h2,h3⟩:=hrest
    exact⟨us,Sub.refl us,trans us (Sub.refl us) h.sub (fun r hr=>by rw[hl]at hr;cases hr;exact⟨p,c,hpb,hc,V,h1,h2,h3⟩) (fun i ri b _ hi hb=>((h.row i ri hi).2.fresh hb).1),
     fun e' sz' l' ro' hr=>by rw[hl]at hr;cases hr;exact⟨p,c,V,hpb,hc,h1,h2,h3⟩⟩
   | false=>
    rcases hrest with ⟨rfl,rfl⟩|⟨h0,V,h1,h2,h3,h4⟩
    ·exact⟨us,Sub.refl us,trans us (Sub.refl us) h.sub (fun r hr=>by rw[hl]at hr;cases hr;exact⟨p,0,hpb,hc,[],Sl.zero us sz p,(fun y hy=>by cases hy),rfl⟩) (fun i ri b _ hi hb=>((h.row i ri hi).2.fresh hb).1),
      fun e' sz' l' ro' hr=>by rw[hl]at hr;cases hr;exact⟨p,0,[],hpb,hc,Sl.zero us sz p,(fun y hy=>by cases hy),rfl⟩⟩
    ·obtain⟨g,cur,rfl,hg,hg0⟩:=h1.none_iff h0;have hfg:Fresh us g:=h2 _ rfl;have hs1:Sub us (learn us g (.cells cur e (0,0))):=dR hfg;have hs2:Sub (learn us g (.cells cur e (0,0))) u:=j5 h.sub hg
     have hown:Own u0 (learn us g (.cells cur e (0,0))) e sz (some ⟨g,0,none⟩) l.length c V:=by
      refine⟨h1.len,h1.each,?_⟩;rcases h1.at_ with ⟨h,_⟩|⟨g',cur',k1,k2,k3⟩
      ·cases h
      ·cases k1;rw[hg]at k2;cases k2;exact .inr ⟨g,cur,rfl,bL _ _ _,k3⟩
     have hsl:=hown.sl;have hvs:=HVss.mono hs1 l V h4;refine⟨_,hs1,trans _ hs1 hs2 (fun r hr=>by rw[hl]at hr;cases hr;exact⟨_,c,hpb,hc,V,hsl,h3,hvs⟩) (fun i ri b hne hi hb=>?_),fun e' sz' l' ro' hr=>by rw[hl]at hr;cases hr;exact⟨_,c,V,hpb,hc,hsl,h3,hvs⟩⟩
     refine cP (fun e=>?_) ((h.row i ri hi).2.fresh hb).1
     subst e;exact h.dist i id ri _ _ hne hi hl hb (by rw[hpb,aN h0];rfl)
theorem Stays.mono{us us':World}{H H':List (Nat×Row)}(hs:Sub us us'){id:Nat}(h:Stays us H β id)(hH: ∀e sz l ro,lk H' id=some (.arr e sz l ro)-> ∃ro',lk H id=some (.arr e sz l ro')):Stays us' H' β id:=by
 intro e sz l ro hl;obtain⟨ro',hl'⟩:=hH e sz l ro hl;obtain⟨p,c,V,h1,h2,h3,h4,h5⟩:=h e sz l ro' hl';exact⟨p,c,V,h1,h2,h3.mono hs,h4,HVss.mono hs l V h5⟩
theorem adY{id j e sz:Nat}{l:List (List DV)}{ro:Bool}{H:List (Nat×Row)}(h:lk H j=some (.arr e sz l ro)): ∃ro',lk (roH id H) j=some (.arr e sz l ro'):=by
 rw[om,h];cases hc:(j==id)
 ·exact⟨ro,rfl⟩
 ·exact⟨true,rfl⟩
theorem Rel.ros: ∀(l:List Nat) {us:World} {ds:DS},Rel u0 β0 β us ds s u-> ∃us',Sub us us'/\Rel u0 β0 β us' (ds.ros l) s u/\ ∀id∈l,Stays us' ds.H β id
 |[],us,ds,h=>⟨us,Sub.refl us,h,fun id hi=>by cases hi⟩
 |i::r,us,ds,h=>by
  obtain⟨us1,h1,h2,h3⟩:=h.ro1 i;obtain⟨us2,h4,h5,h6⟩:=Rel.ros r h2;refine⟨us2,h1.trans h4,h5,fun id hi=>?_⟩
  rcases List.mem_cons.1 hi with rfl|hi
  ·exact h3.mono h4 (fun e sz l ro hl=>⟨ro,hl⟩)
  ·exact(h6 id hi).mono (Sub.refl _) (fun e sz l ro hl=>adY hl)
theorem Rel.stays(h:Rel u0 β0 β us ds s u)(id:Nat):Stays u ds.H β id:=by
 intro e sz l ro hl;obtain⟨p,c,V,h1,h2,h3,h4,h5⟩:=(h.row id _ hl).2.sl h.sub;exact⟨p,c,V,h1,h2,h3,h4,HVss.mono h.sub l V h5⟩
end
section
variable {P:Program} {u0 u us u' us':World} {β0:Bse} {β:Nat->PB} {ds:DS} {s:S} {H:List (Nat×Row)}
def aaG(us ws:World)(H:List (Nat×Row))(β:Nat->PB):Prop:= ∀id cs,xw H id=some cs-> ∃b V,β id= .var b/\CellsAt ws ⟨b,0,none⟩ V/\HVs us cs β V
theorem pr{ws:World}{id off len:Nat}{d':DV}{v:Value}(hst:Stays ws H β id)(h:HV us (.rf id off len) β v)(he:rfD off len (lk H id)=some d'):HV ws d' noB v:=by
 obtain⟨p,c,sz,q,hb,rfl,hle,hq,hsm⟩:=h;unfold rfD at he;split at he
 ·rename_i e sz' l ro hl;cases hbb:decide (off+len<=l.length)with
  |false=>rw[hbb]at he;cases he
  |true=>
   rw[hbb]at he;simp only[cond_true,Option.some.injEq,decide_eq_true_eq]at he hbb;subst he;obtain⟨p',c',V,h1,h2,h3,h4,h5⟩:=hst _ _ _ _ hl;rw[hb]at h1;cases h1;exact⟨q,len,c-off,_,rfl,abi h3 hbb hq,fun y hy=>h4 y (List.mem_of_mem_drop (List.mem_of_mem_take hy)),(h5.drop off).take len⟩
 ·cases he
theorem sF{o:Option DV}{r:Option (List DV)}{l:List DV}(h:embC o r=some l): ∃d m,o=some d/\r=some m/\l=d::m:=by
 cases o with
 |none=>cases r<;>cases h
 |some d=>cases r with
  |none=>cases h
  |some m=>cases h;exact⟨d,m,rfl,rfl,rfl⟩
theorem yK{ws:World}(hus:Sub us ws){d d':DV}{v:Value}(hst: ∀id∈idC d,Stays ws H β id)(h:HV us d β v)(he:embV H d=some d'):HV ws d' noB v:=by
 cases d with
 |v x=>simp only[embV,Option.some.injEq]at he;subst he;exact h
 |fz sz l=>simp only[embV,Option.some.injEq]at he;subst he;exact HV.mono hus (.fz sz l) β β (BLe.refl β) v h
 |e0=>simp only[embV,Option.some.injEq]at he;subst he;exact h
 |fp cs=>simp only[embV,Option.some.injEq]at he;subst he;exact HV.mono hus (.fp cs) β β (BLe.refl β) v h
 |rf id off len=>exact pr (hst id (by simp[idC])) h he
 |_=>simp[embV]at he
theorem nn{ws:World}(hus:Sub us ws): ∀{cs cs':List DV} {V:List Value},(∀id∈cs.flatMap idC,Stays ws H β id)->HVs us cs β V->embVs H cs=some cs'->HVs ws cs' noB V
 |[],cs',V,_,h,he=>by simp only[embVs,Option.some.injEq]at he;subst he;exact h
 | d::r,cs',V,hst,⟨v,V',h1,h2,h3⟩,he=>by
  obtain⟨a,m,e1,e2,e3⟩:=sF he;subst e3
  exact⟨v,V',h1,yK hus (fun id hi=>hst id (by simp only[List.flatMap_cons,List.mem_append];exact .inl hi)) h2 e1,
   nn hus (fun id hi=>hst id (by simp only[List.flatMap_cons,List.mem_append];exact .inr hi)) h3 e2⟩
theorem ac6{f:FuncId}{a b:Option (List DV)}{d:DV}(h:embF f a b=some d): ∃x y,a=some x/\b=some y/\d= .fn f x y:=by
 cases a with
 |none=>cases b<;>cases h
 |some x=>cases b with
  |none=>cases h
  |some y=>cases h;exact⟨x,y,rfl,rfl,rfl⟩
mutual
theorem fB {ws:World} (hus:Sub us ws):(d:DV)->(d':DV)->(v:Value)->(∀id∈idsD H d,Stays ws H β id)->(fP d=true\/aaG us ws H β)->HV us d β v->embD H d=some d'->HV ws d' noB v
 | .v x,d',v,_,_,h,he=>by simp only[embD,Option.some.injEq]at he;subst he;exact h
 | .fz sz l,d',v,_,_,h,he=>by simp only[embD,Option.some.injEq]at he;subst he;exact HV.mono hus (.fz sz l) β β (BLe.refl β) v h
 | .e0,d',v,_,_,h,he=>by simp only[embD,Option.some.injEq]at he;subst he;exact h
 | .fp cs,d',v,_,_,h,he=>by simp only[embD,Option.some.injEq]at he;subst he;exact HV.mono hus (.fp cs) β β (BLe.refl β) v h
 | .rf id off len,d',v,hst,_,h,he=>pr (hst id (by simp[idsD])) h he
 | .pt id off,d',v,hst,hp,h,he=>by
  have hv:=hp.resolve_left (by simp[fP])
  obtain⟨b,hb,rfl⟩:=h
  simp only[embD]at he
  cases hx:xw H id with
  |none=>rw[hx]at he;cases he
  | some cs=>
   rw[hx]at he
   simp only[embVo]at he
   cases hy:embVs H cs with
   |none=>rw[hy]at he;cases he
   | some cs'=>
    rw[hy]at he
    simp only[ptD]at he
    cases hbb:decide (off<=cs'.length)with
    |false=>rw[hbb]at he;cases he
    |true=>
     rw[hbb]at he
     simp only[cond_true,Option.some.injEq,decide_eq_true_eq]at he hbb
     subst he
     obtain⟨b',V,h1,h2,h3⟩:=hv id cs hx
     rw[hb]at h1
     cases h1
     have h4:=nn hus (fun i hi=>hst i (by simp only[idsD,hx,idCs];exact hi)) h3 hy
     refine⟨_,V.drop off,rfl,fun j w hj=>?_,h4.drop off⟩
     have:=h2 (off+j) w (by simpa using hj)
     rw[Addr.add_lit]at this⊢
     simpa[Nat.zero_add]using this
 | .fn f a b,d',v,hst,hp,h,he=>by
  obtain⟨A,B,rfl,h1,h2⟩:=h
  obtain⟨x,y,e1,e2,rfl⟩:=ac6 he
  exact⟨A,B,rfl,d7 hus a x A (fun i hi=>hst i (by simp only[idsD,List.mem_append];exact .inl hi)) (hp.imp (fun h=>by simp only[fP,Bool.and_eq_true]at h;exact h.1) id) h1 e1,
   d7 hus b y B (fun i hi=>hst i (by simp only[idsD,List.mem_append];exact .inr hi)) (hp.imp (fun h=>by simp only[fP,Bool.and_eq_true]at h;exact h.2) id) h2 e2⟩
 | .agg cs,d',v,hst,hp,h,he=>by
  obtain⟨V,rfl,h1⟩:=h
  simp only[embD]at he
  obtain⟨cs',e,rfl⟩:=Option.map_eq_some_iff.1 he
  exact⟨V,rfl,d7 hus cs cs' V (fun i hi=>hst i (by simp only[idsD];exact hi)) (hp.imp (fun h=>by simpa only[fP]using h) id) h1 e⟩
 | .tup cs,d',v,hst,hp,h,he=>by
  obtain⟨V,rfl,h1⟩:=h
  simp only[embD]at he
  obtain⟨cs',e,rfl⟩:=Option.map_eq_some_iff.1 he
  exact⟨V,rfl,d7 hus cs cs' V (fun i hi=>hst i (by simp only[idsD];exact hi)) (hp.imp (fun h=>by simpa only[fP]using h) id) h1 e⟩
 | .mp _,d',v,_,_,⟨r,h1,h2⟩,he=>by simp only[embD,Option.some.injEq]at he;subst he;exact⟨r,h1,h2.mono hus⟩
 | .mr _,d',v,_,_,_,he=>by simp[embD]at he
 | .cz sz l,d',v,_,_,⟨p,V,h1,h2,h3,h4⟩,he=>by simp only[embD,Option.some.injEq]at he;subst he;exact⟨p,V,h1,h2.mono hus,h3,HVss.mono hus l V h4⟩
 | .pe ..,d',v,_,_,_,he=>by simp[embD]at he
termination_by structural d=>d
theorem d7 {ws:World} (hus:Sub us ws):(d:List DV)->(d':List DV)->(v:List Value)->(∀id∈idsDs H d,Stays ws H β id)->(noPts d=true\/aaG us ws H β)->HVs us d β v->embDs H d=some d'->HVs ws d' noB v
 |[],d',V,_,_,h,he=>by simp only[embDs,Option.some.injEq]at he;subst he;exact h
 | d::r,d',V,hst,hp,⟨v,V',h1,h2,h3⟩,he=>by
  obtain⟨a,m,e1,e2,e3⟩:=sF he
  subst e3
  exact⟨v,V',h1,fB hus d a v (fun id hi=>hst id (by simp only[idsDs,List.mem_append];exact .inl hi)) (hp.imp (fun h=>by simp only[noPts,Bool.and_eq_true]at h;exact h.1) id) h2 e1,
   d7 hus r m V' (fun id hi=>hst id (by simp only[idsDs,List.mem_append];exact .inr hi)) (hp.imp (fun h=>by simp only[noPts,Bool.and_eq_true]at h;exact h.2) id) h3 e2⟩
termination_by structural d=>d
end
theorem Rel.vars(h:Rel u0 β0 β us ds s u):aaG us u ds.H β:=by
 intro id cs hv;obtain⟨T,b,V,h1,h2,h3,h4,h5⟩:=r_ h hv;refine⟨b,V,h2,fun j v hj=>?_,h4⟩
 rw[Addr.add_lit];exact fm h3 (by simpa using hj)
theorem HVs.allOnes_: ∀{l:List (List DV)} {V:List (List Value)},HVss us l V->(∀y∈l,onesD y=true)->bl V
 |[],V,h,_=>by cases h;intro y hy;cases hy
 |d::r,V,⟨v,V',h1,h2,h3⟩,h=>by
  subst h1;intro y hy;rcases List.mem_cons.1 hy with rfl|hy
  ·exact h2.ones (h d List.mem_cons_self)
  ·exact HVs.allOnes_ h3 (fun z hz=>h z (List.mem_cons_of_mem _ hz)) y hy
theorem ns{ws:World}(hus:Sub us ws): ∀(ps:List (Nat×DV)) (k:Nat) (l:List (List DV)) (V:List Value),litOk k ps=true->(∀id∈idsPs H ps,Stays ws H β id)->HVs us (ps.map (·.2)) β V->embPs H ps=some l->(∀y∈l,onesD y=true)->
  HVss ws l (V.map fun v=>v.cells.toList)
 |[],k,l,V,_,_,h,he,_=>by
  simp only[embPs,Option.some.injEq]at he;subst he;cases h;rfl
 | (i,d)::r,k,l,V,hok,hst,⟨v,V',h1,h2,h3⟩,he,h1s=>by
  simp only[litOk,Bool.and_eq_true]at hok;simp only[embPs]at he;cases hd:embD H d with
  |none=>rw[hd]at he;cases he
  | some d'=>
   cases hr:embPs H r with
   |none=>rw[hd,hr]at he;cases he
   |some r'=>
    rw[hd,hr]at he;simp only[Option.some.injEq]at he;subst he;subst h1;have h5:=fB hus d d' v (fun id hi=>hst id (by simp only[idsPs,List.mem_append];exact .inl hi)) (.inl hok.1.2) h2 hd
    exact⟨_,_,rfl,(h5.cells (h1s _ List.mem_cons_self)).1,ns hus r (k+1) r' V' hok.2 (fun id hi=>hst id (by simp only[idsPs,List.mem_append];exact .inr hi)) h3 hr (fun y hy=>h1s y (List.mem_cons_of_mem _ hy))⟩
theorem jg: ∀(ps:List (Nat×DV)) (ws:List (Nat×Value)) (k:Nat),litOk k ps=true->ps.map (·.1)=ws.map (·.1)->ws=ez k (ws.map (·.2))
 |[],ws,k,_,h=>by
  cases ws with
  |nil=>rfl
  |cons a b=>simp at h
 | (i,d)::r,ws,k,hok,h=>by
  cases ws with
  |nil=>simp at h
  |cons a b=>
   obtain⟨j,w⟩:=a;simp only[litOk,Bool.and_eq_true,beq_iff_eq]at hok;simp only[List.map_cons,List.cons.injEq]at h;obtain⟨e,h⟩:=h;subst e;simp only[List.map_cons,ez];rw[<-jg r b (k+1) hok.2 h,hok.1.1]
theorem Rel.newOwn(h:Rel u0 β0 β us ds s u)(hs:Sub u u'){e sz n c:Nat}{p:Option Addr}{V:List (List Value)}{l:List (List DV)}(ho:Own u0 u' e sz p n c V)(hf:dk u p)(hn:n=l.length)(h1:bl V)(hV:HVss us l V):
  ∃β',Rel u0 β0 β' us ⟨ds.ρ,ds.σ,(ds.nx,.arr e sz l false)::ds.H,ds.nx+1,ds.nb⟩ s u'/\HV us (.rf ds.nx 0 n) β' (.slice p n c):=by
 subst hn;have hcap:=ho.sl.cap;refine⟨upd β ds.nx (.arr p c sz),h.new hs (.arr p c sz) _ ⟨p,c,rfl,hcap,?_⟩ (fun b hb=>?_),p,c,sz,p,ei _ _ _,rfl,by omega,fun _=>?_,fun hc=>?_⟩
 ·by_cases hc:c=0
  ·exact .inl ⟨hc,List.eq_nil_of_length_eq_zero (by omega)⟩
  ·exact .inr ⟨hc,V,ho,fun a ha=>Fresh.anti h.sub (hf a ha),h1,hV⟩
 ·by_cases hc:c=0
  ·rw[gF hc]at hb;cases hb
  ·rw[aN hc]at hb;obtain⟨a,ha,rfl⟩:=Option.map_eq_some_iff.1 hb;exact hf a ha
 ·rw[Nat.zero_mul];cases p with
  |none=>rfl
  |some a=>simp[Addr.add]
 ·obtain⟨g,cur,rfl,_⟩:=ho.none_iff hc;rfl
theorem Rel.newOwnN(h:Rel u0 β0 β us ds s u)(hs:Sub u u'){e sz n c:Nat}{p:Option Addr}{V:List (List Value)}{l:List (List DV)}(ho:Own u0 u' e sz p n c V)(hf:dk u p)(hn:n=l.length)(h1:bl V)(hV:HVssB us β l V):
  ∃β',Rel u0 β0 β' us ⟨ds.ρ,ds.σ,(ds.nx,.nst e sz l)::ds.H,ds.nx+1,ds.nb⟩ s u'/\HV us (.rf ds.nx 0 n) β' (.slice p n c):=by
 subst hn;have hcap:=ho.sl.cap;refine⟨upd β ds.nx (.arr p c sz),h.new hs (.arr p c sz) _ ⟨p,c,rfl,hcap,?_⟩ (fun b hb=>?_),p,c,sz,p,ei _ _ _,rfl,by omega,fun _=>?_,fun hc=>?_⟩
 ·by_cases hc:c=0
  ·exact .inl ⟨hc,List.eq_nil_of_length_eq_zero (by omega)⟩
  ·exact .inr ⟨hc,V,ho,fun a ha=>Fresh.anti h.sub (hf a ha),h1,HVssB.mono (Sub.refl us) (mB (h.nos _ (Nat.le_refl _))) l V hV⟩
 ·by_cases hc:c=0
  ·rw[gp hc]at hb;cases hb
  ·rw[eg hc]at hb;obtain⟨a,ha,rfl⟩:=Option.map_eq_some_iff.1 hb;exact hf a ha
 ·rw[Nat.zero_mul];cases p with
  |none=>rfl
  |some a=>simp[Addr.add]
 ·obtain⟨g,cur,rfl,_⟩:=ho.none_iff hc;rfl
theorem rA: ∀(ps:List (Nat×DV)) (V:List Value),HVs us (ps.map (·.2)) β V->(∀y∈ps.map (fun p=>cellsD p.2),onesD y=true)->HVssB us β (ps.map fun p=>cellsD p.2) (V.map fun v=>v.cells.toList)/\bl (V.map fun v=>v.cells.toList)
 |[],V,h,_=>by cases h;exact⟨rfl,fun y hy=>by cases hy⟩
 | (i,d)::r,V,⟨v,V',h1,h2,h3⟩,ho=>by
  subst h1;obtain⟨g1,g2⟩:=h2.cells (ho _ List.mem_cons_self);obtain⟨g3,g4⟩:=rA r V' h3 (fun y hy=>ho y (List.mem_cons_of_mem _ hy))
  exact⟨⟨_,_,rfl,g1,g3⟩,fun y hy=>by
   rcases List.mem_cons.1 hy with rfl|hy
   ·exact g2
   ·exact g4 y hy⟩
theorem adg{x:Bool}(h:Rel u0 β0 β us ds s u){T n:Nat}{ps:List (Nat×DV)}{ws:List (Nat×Value)}(h1:ps.map (·.1)=ws.map (·.1))(h2:HVs us (ps.map (·.2)) β (ws.map (·.2))){d:Option Tmp}{K:DS->Prop}
  (hv:vcLit2 ds d K n (dt P T) (some ps)):AtEff x P (ox T n ws.toArray) u0 u (ey s d (LiftR u0 β0 K)):=by
 cases he:dt P T with
 |none=>rw[he]at hv;exact hv.elim
 | some q=>
  obtain⟨e,sz,bytes⟩:=q;rw[he]at hv;have hT:=gk he;simp only[vcLit2]at hv;unfold af9 at hv;cases hb:(n==0&&ps.isEmpty)with
  |true=>
   rw[hb]at hv;simp only[Bool.and_eq_true,beq_iff_eq,List.isEmpty_iff]at hb;obtain⟨rfl,rfl⟩:=hb;have:ws=[]:=by cases ws with|nil=>rfl|cons a b=>simp at h1
   subst this;refine oe (vs:=[]) hT rfl rfl (by simp) (by simp) (fun p u' ho hs hf=>?_)
   exact⟨β,us,_,(h.mono hs).put_d d (x:=.e0) ⟨p,rfl⟩,hv⟩
  | false=>
   rw[hb]at hv;simp only[cond_false]at hv;cases hl:embPs ds.H ps with
   | some l=>
    rw[hl]at hv;obtain⟨hok,hn,hsm,hsz,hK⟩:=hv;obtain⟨us1,g1,g2,g3⟩:=h.ros (idsPs ds.H ps);have hV:=ns (us:=us) (ws:=us1) g1 ps 0 l _ hok g3 h2 hl (fun y hy=>(hsz y hy).2)
    have hll:l.length=n:=by rw[<-hV.length,List.length_map,hn,h2.length];simp
    refine oe (vs:=ws.map (·.2)) hT (jg ps ws 0 hok h1) (by rw[h2.length];simpa using hn) (fun v hv=>?_) hsm (fun p u' ho hs hf=>?_)
    ·obtain⟨i,hi,rfl⟩:=List.getElem_of_mem hv;have h4:l[i]? =some (l[i]'(by rw[hll,hn, <-List.length_map (f:=(·.2)) (as:=ps), <-h2.length];exact hi)):=List.getElem?_eq_getElem _
     obtain⟨vs,h5,h6⟩:=hV.get h4;have h7:=h6.length;rw[(hsz _ (List.mem_of_getElem? h4)).1]at h7;rw[List.getElem?_map,List.getElem?_eq_getElem hi]at h5;simp only[Option.map_some,Option.some.injEq]at h5;rw[h5];exact h7
    ·obtain⟨β',k1,k2⟩:=g2.newOwn (l:=l) hs ho hf hll.symm (HVs.allOnes_ hV (fun y hy=>(hsz y hy).2)) hV
     exact⟨β',us1,_,k1.put_d d k2,hK⟩
   | none=>
    rw[hl]at hv;obtain⟨hok,hn,hsm,hsz,hK⟩:=hv;obtain⟨hV,hV1⟩:=rA (us:=us) (β:=β) ps _ h2 (fun y hy=>(hsz y hy).2)
    have hll:(ps.map fun p=>cellsD p.2).length=n:=by rw[hn];simp
    refine oe (vs:=ws.map (·.2)) hT (jg ps ws 0 hok h1) (by rw[h2.length];simpa using hn) (fun v hv=>?_) hsm (fun p u' ho hs hf=>?_)
    ·obtain⟨i,hi,rfl⟩:=List.getElem_of_mem hv;have h4:(ps.map fun p=>cellsD p.2)[i]? =some ((ps.map fun p=>cellsD p.2)[i]'(by rw[hll,hn, <-List.length_map (f:=(·.2)) (as:=ps), <-h2.length];exact hi)):=List.getElem?_eq_getElem _
     obtain⟨vs,h5,h6⟩:=hV.get h4;have h7:=h6.length;rw[(hsz _ (List.mem_of_getElem? h4)).1]at h7;rw[List.getElem?_map,List.getElem?_eq_getElem hi]at h5;simp only[Option.map_some,Option.some.injEq]at h5;rw[h5];exact h7
    ·obtain⟨β',k1,k2⟩:=h.newOwnN hs ho hf hll.symm hV1 hV;exact⟨β',us,_,k1.put_d d k2,hK⟩
theorem HVss.plain{vs:List Value}(h:vs.all plain=true)(n:Nat):HVss us (List.replicate n (vs.map .v)) (List.replicate n vs):=HVss.replicate (HVs.plain h) n
theorem aaz{x:Bool}(h:Rel u0 β0 β us ds s u){T:Nat}{kl kc:IntKind}{l c:Int}{d:Option Tmp}{K:DS->Prop}
  (hv:vcMake2 ds d K (.d (.v (.int kl l))) (.d (.v (.int kc c))) (dt P T) (zeroE P (dt P T))):AtEff x P (nJ T (.int kl l) (.int kc c)) u0 u (ey s d (LiftR u0 β0 K)):=by
 cases he:dt P T with
 |none=>rw[he]at hv;exact hv.elim
 | some q=>
  obtain⟨e,sz,bytes⟩:=q;rw[he]at hv;have hT:=gk he;simp only[zeroE]at hv;cases hz:cX P e with
  |none=>rw[hz]at hv;exact hv.elim
  | some zs=>
   rw[hz]at hv;obtain⟨hl0,hlc,hb,hm,hK⟩:=hv;obtain⟨vs,hz1,rfl,hz2⟩:=kO hz;refine af5 hT hz1 (ln:=l.toNat) (cn:=c.toNat) (by omega) (by omega) (by omega) hb (by omega) (fun p u' ho hs hf hsm=>?_)
   obtain⟨β',k1,k2⟩:=h.newOwn (l:=List.replicate l.toNat (vs.map .v)) hs ho hf (by simp) (fun y hy=>by
    rw[(List.mem_replicate.1 hy).2]
    exact(HVs.plain (us:=us) (β:=noB) hz2).ones (aa9 vs)) (HVss.plain hz2 _)
   exact⟨β',us,_,k1.put_d d k2,hK⟩
theorem ju{x:Bool}{T e sz bytes ty:Nat}(hT:cU P T e sz bytes=true){p q:Option Addr}{m d:Nat}{ys:List (List Value)}(hs:Sl u sz q m d ys)(h1:bl ys)(hb:m*bytes<=140737488355328)
  (hm:m<=9223372036854775807) {K:Value->World->Prop} (hK0:m=0->K (.slice p 0 0) u)
  (hK: ∀p' c' u',0<m->Own u0 u' e sz p' m c' ys->Sub u u'->dk u p'->K (.slice p' m c') u'):AtEff x P (iW #[T,T] ty #[.slice p 0 0,.slice q m d]) u0 u K:=by
 by_cases hm0:m=0
 ·subst hm0;obtain⟨ht,hsz,i,z,hi,rfl,rfl,hz,hzs⟩:=bC hT;intro w hu h0;refine⟨.slice p 0 0,w,u,?_,⟨hu,fun b o h=>.inl h,fun b _ h=>h,⟨Nat.le_refl _,rfl,rfl⟩⟩,hK0 rfl⟩
  unfold iW;cases p<;>cases q<;>simp[Builtin.append_,run_underlying ht,sizeOf,typeInfo,hi,Builtin.lenOf,Builtin.firstCells,storeCells,loadCells,loadCellsFrom]
 ·cases p with
  | none=>
   have:=mv (x:=x) (P:=P) (ty:=ty) hT (u0:=u0) (u:=u) (Own.nil_ u0 u e sz) hs h1 (by simpa using hb) (by simpa using hm) (.inr rfl) (by omega) (K:=K) (fun p' c' u' ho h2 h3=>by
    simp only[Nat.zero_add,List.nil_append]at ho⊢
    exact hK p' c' u' (by omega) ho h2 h3)
   exact this
  | some a0=>
   obtain⟨ht,hsz,i,z,hi,rfl,rfl,hz,hzs⟩:=bC hT;cases q with
   |none=>exact absurd (hs.nil rfl).1 hm0
   | some a=>
    intro w hu h0;have hcells: ∀j v,ys.flatten[j]? =some v->w.cell? (a.add j)=some v:=fun j v hv=>hu.cell (hs.cells j v hv)
    have hnews:ys.flatten.length=m*i.size:=by rw[aM ys hs.each,hs.len]
    have hr:=run_append_grow (P:=P) w T ty e i z ht hi hz a0 0 0 [] (by simp) (by simp) a m d ys.flatten hnews hcells (by omega) (by omega) (growslice_fits (by omega) (by simpa using hb))
    simp only[Nat.zero_add]at hr;have hge:=grownCap_ge w m 0 e;have hmax:m<=maxLen:=by simp only[maxLen];omega
    refine⟨_,_,_,hr,iD hu rfl,hK (some ⟨w.heap.size,0,none⟩) (grownCap w m 0 e) _ (by omega)
     ⟨hs.len,hs.each,.inr ⟨w.heap.size,_,rfl,bL _ _ _,hge,grownCap_le_maxLen w m 0 e hmax,?_,?_,aO h0 (Nat.le_refl _)⟩⟩
     (dR (aO hu (Nat.le_refl _))) (fun b hb=>by cases hb;exact aO hu (Nat.le_refl _))⟩
    ·simp only[Array.size_append,List.size_toArray,size_zeroCells,hzs,hnews,List.length_nil,Nat.zero_add, <-Nat.add_mul]
     congr 1
     omega
    ·simp only[Array.toList_append,List.nil_append];rw[<-hnews];exact List.take_left
end
section
variable {P:Program} {u0 u us u' us':World} {β0:Bse} {β:Nat->PB} {ds:DS} {s:S} {H:List (Nat×Row)}
theorem nV(p:Option Addr)(n:Nat):p.map (·.add (0*n))=p:=by simp_all [Nat.zero_mul,Addr.add]
theorem yv(h:Rel u0 β0 β us ds s u){e sz:Nat}{x:DV}{w:Value}{o:Option Nat}{l:List (List DV)}(hx:HV us x β w)(hb:baseD ds.H e sz x=some (o,l)):
  (l=[]/\(∃p,w= .slice p 0 0)/\(o=none\/ ∃id,o=some id))\/
  (∃id p c V,o=some id/\lk ds.H id=some (.arr e sz l false)/\β id= .arr p c sz/\c≠0/\w= .slice p l.length c/\Own u0 u e sz p l.length c V/\dk us p/\bl V/\HVss us l V):=by
 cases x with
 |e0=>
  simp only[baseD,Option.some.injEq,Prod.mk.injEq]at hb;obtain⟨rfl,rfl⟩:=hb;exact .inl ⟨rfl,hx,.inl rfl⟩
 |v y=>
  obtain⟨rfl,hp⟩:=hx;unfold baseD at hb;split at hb<;>first|(rename_i hy;cases hy;done)|(rename_i hy;cases hy;cases hb;exact .inl ⟨rfl,⟨none,rfl⟩,.inl rfl⟩)|(cases hb;done)
 | rf id off len=>
  obtain⟨p,c,sz',q,hbb,rfl,hle,hq,hsm⟩:=hx;cases off with
  |succ off=>simp[baseD]at hb
  | zero=>
   simp only[baseD]at hb;split at hb
   ·rename_i e' sz2 m hm;cases hc:(e'==e&&sz2==sz&&m.length==len)with
    |false=>rw[hc]at hb;cases hb
    |true=>
     rw[hc]at hb;simp only[Bool.and_eq_true,beq_iff_eq]at hc;simp only[cond_true,Option.some.injEq,Prod.mk.injEq]at hb;obtain⟨⟨rfl,rfl⟩,rfl⟩:=hc;obtain⟨rfl,rfl⟩:=hb;obtain⟨p',c',h1,h2,h3⟩:=(h.row id _ hm).2;rw[hbb]at h1;cases h1;rcases h3 with ⟨rfl,rfl⟩|⟨h0,V,h4,h5,h6,h7⟩
     ·exact .inl ⟨rfl,⟨q,rfl⟩,.inr ⟨id,rfl⟩⟩
     ·refine .inr ⟨id,p,c,V,rfl,hm,hbb,h0,?_,h4,h5,h6,h7⟩;rw[hq h0,nV,Nat.sub_zero]
   ·cases hb
 |_=>simp[baseD]at hb
theorem Rel.drop(h:Rel u0 β0 β us ds s u)(id:Nat):Rel u0 β0 β us ⟨ds.ρ,ds.σ,dropH id ds.H,ds.nx,ds.nb⟩ s u:=by
 refine h.grow (Sub.refl us) h.sub (BLe.refl β) (Nat.le_refl _) (fun i r hi=>?_) h.nos (fun _ _=>rfl) (fun i j ri rj b hij hi hj=>?_)
 ·rw[qz]at hi;split at hi
  ·cases hi
  ·exact h.row i r hi
 ·rw[qz]at hi hj;split at hi
  ·cases hi
  ·split at hj
   ·cases hj
   ·exact h.dist i j ri rj b hij hi hj
theorem Rel.dropO(h:Rel u0 β0 β us ds s u)(o:Option Nat):Rel u0 β0 β us ⟨ds.ρ,ds.σ,dropO o ds.H,ds.nx,ds.nb⟩ s u:=by
 cases o with
 |none=>exact h
 |some id=>exact h.drop id
theorem ux(h:Rel u0 β0 β us ds s u){sz:Nat}{x:DV}{w:Value}{l:List (List DV)}(hx:HV us x β w)(he:pX ds.H sz x=some l):
  ∃q c W,w= .slice q l.length c/\Sl u sz q l.length c W/\bl W/\HVssB us β l W:=by
 cases x with
 | rf id off len=>
  obtain⟨p,c,sz',q,hbb,rfl,hle,hq,hsm⟩:=hx;simp only[pX]at he;unfold ElNR at he;split at he
  ·rename_i e sz2 m hm;cases hc:(sz2==sz&&off==0&&m.length==len)with
   |false=>rw[hc]at he;cases he
   | true=>
    rw[hc]at he;simp only[Bool.and_eq_true,beq_iff_eq]at hc;obtain⟨⟨rfl,rfl⟩,rfl⟩:=hc;cases he;obtain⟨p',c',V,h1,h2,h3,h4,h5⟩:=(h.row id _ hm).2.slN;rw[hbb]at h1;cases h1
    by_cases h0:c=0
    ·subst h0;have hl0:l.length=0:=by omega
     have hl:l=[]:=List.eq_nil_of_length_eq_zero hl0;subst hl;have hV:V=[]:=by cases h5;rfl
     subst hV;exact⟨q,0,[],rfl,Sl.zero _ _ _,(fun y hy=>by cases hy),rfl⟩
    ·have hqp:q=p:=by rw[hq h0,nV]
     subst hqp;exact⟨q,c,V,rfl,h3,h4,h5⟩
  ·cases he
 |_=>simp[pX]at he
theorem vW(h:Rel u0 β0 β us ds s u){e sz:Nat}{x:DV}{w:Value}{o:Option Nat}{l:List (List DV)}(hx:HV us x β w)(hb:kI ds.H e sz x=some (o,l)):
  (l=[]/\(∃p,w= .slice p 0 0)/\(o=none\/ ∃id,o=some id))\/
  (∃id p c V r,o=some id/\lk ds.H id=some r/\β id= .arr p c sz/\c≠0/\w= .slice p l.length c/\Own u0 u e sz p l.length c V/\dk us p/\bl V/\HVssB us β l V/\bz (β id) r=p.map (·.block)):=by
 cases x with
 |e0=>
  simp only[kI,Option.some.injEq,Prod.mk.injEq]at hb;obtain⟨rfl,rfl⟩:=hb;exact .inl ⟨rfl,hx,.inl rfl⟩
 |v y=>
  obtain⟨rfl,hp⟩:=hx;unfold kI at hb;split at hb<;>first|(rename_i hy;cases hy;done)|(rename_i hy;cases hy;cases hb;exact .inl ⟨rfl,⟨none,rfl⟩,.inl rfl⟩)|(cases hb;done)
 | rf id off len=>
  obtain⟨p,c,sz',q,hbb,rfl,hle,hq,hsm⟩:=hx;cases off with
  |succ off=>simp[kI]at hb
  | zero=>
   simp only[kI]at hb;unfold BaNR at hb;split at hb
   ·rename_i e' sz2 m hm;cases hc:(e'==e&&sz2==sz&&m.length==len)with
    |false=>rw[hc]at hb;cases hb
    | true=>
     rw[hc]at hb;simp only[Bool.and_eq_true,beq_iff_eq]at hc;simp only[cond_true,Option.some.injEq,Prod.mk.injEq]at hb;obtain⟨⟨rfl,rfl⟩,rfl⟩:=hc;obtain⟨rfl,rfl⟩:=hb;obtain⟨p',c',h1,h2,h3⟩:=(h.row id _ hm).2;rw[hbb]at h1;cases h1;rcases h3 with ⟨rfl,rfl⟩|⟨h0,V,h4,h5,h6,h7⟩
     ·exact .inl ⟨rfl,⟨q,rfl⟩,.inr ⟨id,rfl⟩⟩
     ·refine .inr ⟨id,p,c,V,_,rfl,hm,hbb,h0,?_,h4,h5,h6,h7,by rw[hbb,eg h0]⟩
      rw[hq h0,nV,Nat.sub_zero]
   ·rename_i e' sz2 m hm;cases hc:(e'==e&&sz2==sz&&m.length==len)with
    |false=>rw[hc]at hb;cases hb
    | true=>
     rw[hc]at hb;simp only[Bool.and_eq_true,beq_iff_eq]at hc;simp only[cond_true,Option.some.injEq,Prod.mk.injEq]at hb;obtain⟨⟨rfl,rfl⟩,rfl⟩:=hc;obtain⟨rfl,rfl⟩:=hb;obtain⟨p',c',h1,h2,h3⟩:=(h.row id _ hm).2;rw[hbb]at h1;cases h1;rcases h3 with ⟨rfl,rfl⟩|⟨h0,V,h4,h5,h6,h7⟩
     ·exact .inl ⟨rfl,⟨q,rfl⟩,.inr ⟨id,rfl⟩⟩
     ·refine .inr ⟨id,p,c,V,_,rfl,hm,hbb,h0,?_,h4,h5,h6,HVssB.of h7,by rw[hbb,aN h0]⟩
      rw[hq h0,nV,Nat.sub_zero]
   ·cases hb
 |_=>simp[kI]at hb
theorem qg{x:Bool}(h:Rel u0 β0 β us ds s u){T ty e sz bytes c2:Nat}{a:DV}{va:Value}{q:Option Addr}{W:List (List Value)}{xs:List (List DV)}(hT:cU P T e sz bytes=true)(ha:HV us a β va)
  (hsl:Sl u sz q xs.length c2 W) (h1:bl W) (hW:HVssB us β xs W) {d:Option Tmp} {K:DS->Prop}
  (hv:AppY x ds d K e sz bytes a xs):AtEff x P (iW #[T,T] ty #[va,.slice q xs.length c2]) u0 u (ey s d (LiftR u0 β0 K)):=by
 obtain⟨⟨o,l⟩,hbase,hx,hbd,hmx,hK⟩:=ew hv;rcases vW h ha hbase with ⟨rfl,⟨p,rfl⟩,ho⟩|⟨id,p,c,V,r,rfl,hlk,hbid,hc0,rfl,hown,hfr,hV1,hV,hlive⟩
 ·simp only[List.length_nil,Nat.zero_add]at hbd hmx;have hr:=h.dropO o;refine ju hT hsl h1 hbd hmx (fun h0=>?_) (fun p' c' u' h0 ho' hs hf=>?_)
  ·have hx0:xs=[]:=List.eq_nil_of_length_eq_zero h0;subst hx0;have hn:=hr.new (r:=.nst e sz []) (Sub.refl u) (.arr p 0 sz) ⟨p,0,rfl,Nat.le_refl _,.inl ⟨rfl,rfl⟩⟩ (fun b hb=>by rw[gp rfl]at hb;cases hb)
   exact⟨_,us,_,hn.put_d d (x:=.rf ds.nx 0 0) ⟨p,0,sz,p,ei _ _ _,rfl,Nat.le_refl _,fun h=>absurd rfl h,fun h=>absurd rfl h⟩,hK⟩
  ·obtain⟨β',k1,k2⟩:=hr.newOwnN (l:=xs) hs ho' hf rfl h1 hW;refine⟨β',us,_,k1.put_d d k2,?_⟩;simpa using hK
 ·have hx':x=false:=hx.resolve_right (by simp)
  subst hx';refine iV hT hown hsl h1 hbd hmx (fun p' c' u' ho' hs hf=>?_)
  have hcap':=ho'.sl.cap;have hlen:(l++xs).length=l.length+xs.length:=List.length_append;have hsub:Sub us u':=hs.sub h.sub hfr;have hble:BLe β (upd β ds.nx (.arr p' c' sz)):=mB (h.nos _ (Nat.le_refl _))
  have hok:RowOk u0 u' us (upd β ds.nx (.arr p' c' sz)) (.arr p' c' sz) (.nst e sz (l++xs)):=by
   refine⟨p',c',rfl,by rw[hlen];exact hcap',?_⟩
   by_cases hc:c'=0
   ·exact .inl ⟨hc,List.eq_nil_of_length_eq_zero (by omega)⟩
   ·refine .inr ⟨hc,V++W,by rw[hlen];exact ho',fun a0 h00=>?_,fun y hy=>(List.mem_append.1 hy).elim (hV1 y) (h1 y),HVssB.mono (Sub.refl us) hble _ _ (hV.append hW)⟩
    rcases hf with rfl|hf
    ·exact hfr a0 h00
    ·exact Fresh.anti h.sub (hf a0 h00)
  have ht:=h.turn hlk hs (fun a ha=>by rw[hlive,ha];rfl) (.arr p' c' sz) _ hok (fun b hb=>by
   by_cases hc:c'=0
   ·rw[gp hc]at hb;cases hb
   ·rw[eg hc]at hb;obtain⟨a0,h00,rfl⟩:=Option.map_eq_some_iff.1 hb;rcases hf with rfl|hf
    ·exact .inl (by rw[hlive,h00];rfl)
    ·exact .inr (hf a0 h00))
  refine⟨_,us,_,ht.put_d d (x:=.rf ds.nx 0 (l.length+xs.length)) ⟨p',c',sz,p',ei _ _ _,rfl,by omega,fun _=>(nV p' sz).symm,fun hc=>?_⟩,hK⟩
  obtain⟨g,cur,rfl,_⟩:=ho'.none_iff hc;rfl
theorem ad4{x:Bool}(h:Rel u0 β0 β us ds s u){T ty:Nat}{a b:DV}{va vb:Value}(ha:HV us a β va)(hb:HV us b β vb){d:Option Tmp}{K:DS->Prop}
  (hv:vcApp2 x ds d K a b (dt P T)):AtEff x P (iW #[T,T] ty #[va,vb]) u0 u (ey s d (LiftR u0 β0 K)):=by
 cases he:dt P T with
 |none=>rw[he]at hv;exact hv.elim
 | some q=>
  obtain⟨e,sz,bytes⟩:=q;rw[he]at hv;have hT:=gk he;replace hv:AppW x ds d K e sz bytes a b (elemsD ds.H sz b):=hv;cases hxs:elemsD ds.H sz b with
  |none=>
   rw[hxs]at hv;obtain⟨xs,hxs,hv⟩:=ew hv;obtain⟨q,c2,W,rfl,hsl,h1,hW⟩:=ux h hb hxs;exact qg h hT ha hsl h1 hW hv
  |some xs=>
  rw[hxs]at hv;replace hv:AppZ x ds d K e sz bytes a xs (baseD ds.H e sz a):=hv;cases hbase:baseD ds.H e sz a with
  |none=>
   rw[hbase]at hv;obtain⟨q,m,c2,W,rfl,rfl,hsl,h1,hW⟩:=gW h hb hxs;exact qg h hT ha hsl h1 (HVssB.of hW) hv
  |some ol=>
  obtain⟨o,l⟩:=ol;rw[hbase]at hv;obtain⟨hx,hbd,hmx,hK⟩:=hv;obtain⟨q,m,c2,W,rfl,rfl,hsl,h1,hW⟩:=gW h hb hxs;rcases yv h ha hbase with ⟨rfl,⟨p,rfl⟩,ho⟩|⟨id,p,c,V,rfl,hlk,hbid,hc0,rfl,hown,hfr,hV1,hV⟩
  ·simp only[List.length_nil,Nat.zero_add]at hbd hmx;have hr:=h.dropO o;refine ju hT hsl h1 hbd hmx (fun h0=>?_) (fun p' c' u' h0 ho' hs hf=>?_)
   ·have hx0:xs=[]:=List.eq_nil_of_length_eq_zero h0;subst hx0;have hn:=hr.new (r:=.arr e sz [] false) (Sub.refl u) (.arr p 0 sz) ⟨p,0,rfl,Nat.le_refl _,.inl ⟨rfl,rfl⟩⟩ (fun b hb=>by rw[gF rfl]at hb;cases hb)
    exact⟨_,us,_,hn.put_d d (x:=.rf ds.nx 0 0) ⟨p,0,sz,p,ei _ _ _,rfl,Nat.le_refl _,fun h=>absurd rfl h,fun h=>absurd rfl h⟩,hK⟩
   ·obtain⟨β',k1,k2⟩:=hr.newOwn (l:=xs) hs ho' hf rfl h1 hW;refine⟨β',us,_,k1.put_d d k2,?_⟩;simpa using hK
  ·have hx':x=false:=hx.resolve_right (by simp)
   subst hx';refine iV hT hown hsl h1 hbd hmx (fun p' c' u' ho' hs hf=>?_)
   have hcap':=ho'.sl.cap;have hlen:(l++xs).length=l.length+xs.length:=List.length_append;have hsub:Sub us u':=hs.sub h.sub hfr
   have hok:RowOk u0 u' us (upd β ds.nx (.arr p' c' sz)) (.arr p' c' sz) (.arr e sz (l++xs) false):=by
    refine⟨p',c',rfl,by rw[hlen];exact hcap',?_⟩
    by_cases hc:c'=0
    ·exact .inl ⟨hc,List.eq_nil_of_length_eq_zero (by omega)⟩
    ·refine .inr ⟨hc,V++W,by rw[hlen];exact ho',fun a0 h00=>?_,fun y hy=>(List.mem_append.1 hy).elim (hV1 y) (h1 y),hV.append hW⟩
     rcases hf with rfl|hf
     ·exact hfr a0 h00
     ·exact Fresh.anti h.sub (hf a0 h00)
   have ht:=h.turn hlk hs (fun a ha=>by rw[hbid,aN hc0,ha];rfl) (.arr p' c' sz) _ hok (fun b hb=>by
    by_cases hc:c'=0
    ·rw[gF hc]at hb;cases hb
    ·rw[aN hc]at hb;obtain⟨a0,h00,rfl⟩:=Option.map_eq_some_iff.1 hb;rcases hf with rfl|hf
     ·exact .inl (by rw[hbid,aN hc0,h00];rfl)
     ·exact .inr (hf a0 h00))
   refine⟨_,us,_,ht.put_d d (x:=.rf ds.nx 0 (l.length+xs.length)) ⟨p',c',sz,p',ei _ _ _,rfl,by omega,fun _=>(nV p' sz).symm,fun hc=>?_⟩,hK⟩
   obtain⟨g,cur,rfl,_⟩:=ho'.none_iff hc;rfl
theorem adR{L Y:List Value}{A B N:Nat}(h1:A+B<=N)(h2:N<=L.length)(hY:Y.length=B):(L.take A++Y++L.drop (A+B)).take N=(L.take N).take A++Y++(L.take N).drop (A+B):=by
 obtain⟨a,b,c,d,rfl,ha,hb,hc⟩: ∃a b c d:List Value,L=a++(b++(c++d))/\a.length=A/\b.length=B/\c.length=N-A-B:=by
  refine⟨L.take A,(L.drop A).take B,(L.drop (A+B)).take (N-A-B),L.drop (A+B+(N-A-B)),?_,?_,?_,?_⟩
  ·have e1:(L.drop (A+B)).take (N-A-B)++L.drop (A+B+(N-A-B))=L.drop (A+B):=by
    have:=List.take_append_drop (N-A-B) (L.drop (A+B));rwa[List.drop_drop]at this
   have e2:(L.drop A).take B++L.drop (A+B)=L.drop A:=by have:=List.take_append_drop B (L.drop A);rwa[List.drop_drop]at this
   rw[e1,e2,List.take_append_drop]
  all_goals (simp;omega)
 subst ha;have t1:(a++(b++(c++d))).take a.length=a:=List.take_left' rfl
 have t2:(a++(b++(c++d))).drop (a.length+B)=c++d:=by
  rw[show a++(b++(c++d))=(a++b)++(c++d)from by simp]
  exact List.drop_left' (by simp[hb])
 have t3:(a++(b++(c++d))).take N=a++(b++c):=by
  rw[show a++(b++(c++d))=(a++(b++c))++d from by simp]
  exact List.take_left' (by simp;omega)
 have t4:(a++Y++(c++d)).take N=a++Y++c:=by
  rw[show a++Y++(c++d)=(a++Y++c)++d from by simp]
  exact List.take_left' (by simp;omega)
 have t5:(a++(b++c)).take a.length=a:=List.take_left' rfl
 have t6:(a++(b++c)).drop (a.length+B)=c:=by
  rw[show a++(b++c)=(a++b)++c from by simp]
  exact List.drop_left' (by simp[hb])
 rw[t1,t2,t4,t3,t5,t6]
theorem agE{T e sz bytes ty:Nat}(hT:cU P T e sz bytes=true){p q:Option Addr}{n c sl sc off dl dc:Nat}{xs ys:List (List Value)}(ho:Own u0 u e sz p n c xs)(hs:Sl u sz q sl sc ys)(h1:bl ys)
  (hc:c≠0) (hoff:off+dl<=n) {K:Value->World->Prop}
  (hK: ∀u',Own u0 u' e sz p n c (xs.take off++ys.take dl++xs.drop (off+(ys.take dl).length))->SubX p u u'->K (.int .i64 (Nat.min sl dl:Nat)) u'):
  AtEff false P (jF #[T,T] ty #[.slice (p.map (·.add (off*sz))) dl dc,.slice q sl sc]) u0 u K:=by
 have hlen:=ho.len;have hslen:=hs.len;have hfl:xs.flatten.length=n*sz:=by rw[aM xs ho.each,hlen]
 rcases ho.at_ with ⟨_,_,h⟩|⟨g,cur,rfl,hg,k1,k2,k3,k4,k5⟩
 ·exact absurd h hc
 have hp:(some (⟨g,0,none⟩:Addr)).map (·.add (off*sz))=some ⟨g,off*sz,none⟩:=by simp[Addr.add_lit]
 rw[hp];have hyt: ∀y∈ys.take dl,y.length=sz:=fun y hy=>hs.each y (List.mem_of_mem_take hy)
 have hytl:(ys.take dl).length=Nat.min sl dl:=by rw[List.length_take,hslen,Nat.min_comm]
 have hnl:(ys.take dl).flatten.length=Nat.min sl dl*sz:=by rw[aM _ hyt,hytl]
 have hmin:Nat.min sl dl<=dl:=Nat.min_le_right _ _;have hfit:off*sz+Nat.min sl dl*sz<=n*sz:=by rw[<-Nat.add_mul];exact Nat.mul_le_mul_right _ (by omega)
 have hcs:n*sz<=c*sz:=Nat.mul_le_mul_right _ k1;have hres:xs.take off++ys.take dl++xs.drop (off+(ys.take dl).length)=xs.take off++ys.take dl++xs.drop (off+Nat.min sl dl):=by rw[hytl]
 have hfin:(xs.take off++ys.take dl++xs.drop (off+Nat.min sl dl)).flatten=(xs.flatten.take (off*sz))++(ys.take dl).flatten++xs.flatten.drop (off*sz+Nat.min sl dl*sz):=by
  have t1: ∀k,k<=n->xs.flatten.take (k*sz)=(xs.take k).flatten:=by
   intro k hk
   have hk1:(xs.take k).flatten.length=k*sz:=by
    rw[aM _ (fun x hx=>ho.each x (List.mem_of_mem_take hx)),List.length_take,Nat.min_eq_left (by omega)]
   conv=>lhs;rw[<-List.take_append_drop k xs,List.flatten_append]
   exact List.take_left' hk1
  have t2: ∀k,k<=n->xs.flatten.drop (k*sz)=(xs.drop k).flatten:=by
   intro k hk
   have hk1:(xs.take k).flatten.length=k*sz:=by
    rw[aM _ (fun x hx=>ho.each x (List.mem_of_mem_take hx)),List.length_take,Nat.min_eq_left (by omega)]
   conv=>lhs;rw[<-List.take_append_drop k xs,List.flatten_append]
   exact List.drop_left' hk1
  rw[List.flatten_append,List.flatten_append, <-Nat.add_mul,t1 off (by omega),t2 _ (by omega)]
 have fin: ∀u',u'.heap[g]? =some (.cells (cur.toList.take (off*sz)++(ys.take dl).flatten++cur.toList.drop (off*sz+(ys.take dl).flatten.length)).toArray e (0,0))->SubX (some ⟨g,0,none⟩) u u'->K (.int .i64 (Nat.min sl dl:Nat)) u':=by
  intro u' hg' hx;refine hK u' ⟨?_,?_,.inr ⟨g,_,rfl,hg',k1,k2,?_,?_,k5⟩⟩ hx
  ·rw[hres,List.length_append,List.length_append,hytl,List.length_take,List.length_drop,hlen,Nat.min_eq_left (by omega)]
   omega
  ·intro y hy;simp only[List.append_assoc,List.mem_append]at hy;rcases hy with hy|hy|hy
   ·exact ho.each y (List.mem_of_mem_take hy)
   ·exact hyt y hy
   ·exact ho.each y (List.mem_of_mem_drop hy)
  ·simp only[List.size_toArray,List.length_append,List.length_take,List.length_drop,Array.length_toList,k3,hnl];omega
  ·simp only[];rw[hres,hfin,hnl, <-k4];have hcl:cur.toList.length=c*sz:=by simpa using k3
   exact adR hfit (by omega) hnl
 cases q with
 | none=>
  obtain⟨rfl,rfl⟩:=hs.nil rfl;intro w hu h0;have hys:ys=[]:=List.eq_nil_of_length_eq_zero hs.len;subst hys;obtain⟨ht,hsz,i,z,hi,rfl,rfl,hz,hzs⟩:=bC hT;have hm0:Nat.min 0 dl=0:=Nat.zero_min _;refine⟨.int .i64 0,w,u,?_,⟨hu,fun b o h=>.inl h,fun b _ h=>h,⟨Nat.le_refl _,rfl,rfl⟩⟩,?_⟩
  ·unfold jF;simp[Builtin.copy_,run_underlying ht,Builtin.lenOf,Builtin.firstCells,sizeOf,typeInfo,hi,goInt,storeCells]
  ·have:=fin u (by simpa using hg) (SubX.of_sub (Sub.refl u))
   rw[hm0]at this;exact this
 | some a=>
  refine ji (news:=(ys.take dl).flatten) hT hg k5 hnl (fun j v hj=>?_) (fun v hv=>?_) (by rw[hnl,k3];omega) fin
  ·have hj':ys.flatten[j]? =some v:=by
    have:ys.flatten=(ys.take dl).flatten++(ys.drop dl).flatten:=by rw[<-List.flatten_append,List.take_append_drop]
    rw[this,List.getElem?_append_left]
    ·exact hj
    ·rcases Nat.lt_or_ge j (ys.take dl).flatten.length with h|h
     ·exact h
     ·rw[List.getElem?_eq_none h]at hj;cases hj
   exact hs.cells j v hj'
  ·obtain⟨y,hy,hvy⟩:=List.mem_flatten.1 hv;exact dp (h1 y (List.mem_of_mem_take hy)) v hvy
end
section
variable {P:Program} {u0 u us u' us':World} {β0:Bse} {β:Nat->PB} {ds:DS} {s:S} {H:List (Nat×Row)}
theorem yY{x:Bool}(h:Rel u0 β0 β us ds s u){T ty:Nat}{a b:DV}{va vb:Value}(ha:HV us a β va)(hb:HV us b β vb){d:Option Tmp}{K:DS->Prop}
  (hv:vcCopy2 x ds d K a b (dt P T)):AtEff x P (jF #[T,T] ty #[va,vb]) u0 u (ey s d (LiftR u0 β0 K)):=by
 cases he:dt P T with
 |none=>rw[he]at hv;exact hv.elim
 | some q=>
  obtain⟨e,sz,bytes⟩:=q;rw[he]at hv;have hT:=gk he;obtain⟨xs,hxs,hv⟩:=ew hv;obtain⟨q,m,c2,W,rfl,rfl,hsl,h1,hW⟩:=gW h hb hxs;cases a with
  | rf id off len=>
   replace hv:CopyR x ds d K e sz id off len xs (lk ds.H id):=hv;unfold CopyR at hv;split at hv
   ·rename_i e' sz' l hlk;obtain⟨rfl,rfl,rfl,hle,hl0,hK⟩:=hv;obtain⟨p,c,sz2,q2,hbid,rfl,hle2,hq,hsm⟩:=ha;obtain⟨p',c',g1,g2,g3⟩:=(h.row id _ hlk).2;rw[hbid]at g1;cases g1;rcases g3 with ⟨rfl,rfl⟩|⟨hc0,V,hown,hfr,hV1,hV⟩
    ·simp at hle;omega
    have hVl:=hV.length;rw[hq (by omega)]
    refine agE hT hown hsl h1 hc0 hle (fun u' ho' hx=>?_)
    have hmin:Nat.min xs.length len=(xs.take len).length:=by rw[List.length_take,Nat.min_comm]
    have hll:(W.take len).length=(xs.take len).length:=by simp[hW.length]
    have hlen':(copyL off l (xs.take len)).length=l.length:=by
     unfold copyL;simp only[List.length_append,List.length_take,List.length_drop];have:=Nat.min_le_left len xs.length;omega
    have hn:=h.set (r:=.arr _ _ (copyL off l (xs.take len)) false) hlk hx (fun a ha=>by rw[hbid,aN hc0,ha];rfl)
     ⟨p,c,hbid,by rw[hlen'];exact g2,.inr ⟨hc0,V.take off++W.take len++V.drop (off+(W.take len).length),by rw[hlen'];exact ho',hfr,?_,?_⟩⟩ (by rw[hbid,aN hc0,aN hc0])
    ·exact⟨β,us,_,hn.put_d d (x:=.v (.int .i64 (Nat.min xs.length len))) ⟨rfl,rfl⟩,hK⟩
    ·intro y hy;simp only[List.append_assoc,List.mem_append]at hy;rcases hy with hy|hy|hy
     ·exact hV1 y (List.mem_of_mem_take hy)
     ·exact h1 y (List.mem_of_mem_take hy)
     ·exact hV1 y (List.mem_of_mem_drop hy)
    ·unfold copyL;rw[hll];exact((hV.take off).append (hW.take len)).append (hV.drop _)
   ·exact hv.elim
  |_=>exact hv.elim
theorem adP{x:Bool}(h:Rel u0 β0 β us ds s u){T ty:Nat}{a:DV}{va:Value}(ha:HV us a β va){d:Option Tmp}{K:DS->Prop}
  (hv:vcClr2 P x ds d K a (dt P T)):AtEff x P (t0 #[T] ty #[va]) u0 u (ey s d (LiftR u0 β0 K)):=by
 cases he:dt P T with
 |none=>rw[he]at hv;exact hv.elim
 | some q=>
  obtain⟨e,sz,bytes⟩:=q;rw[he]at hv;have hT:=gk he;cases a with
  | rf id off len=>
   replace hv:ClrR P x ds d K e sz id off len (lk ds.H id):=hv;unfold ClrR at hv;split at hv
   ·rename_i e' sz' l hlk;obtain⟨rfl,rfl,rfl,hle,hl0,hok,hK⟩:=hv;obtain⟨p,c,sz2,q2,hbid,rfl,hle2,hq,hsm⟩:=ha;obtain⟨p',c',g1,g2,g3⟩:=(h.row id _ hlk).2;rw[hbid]at g1;cases g1;rcases g3 with ⟨rfl,rfl⟩|⟨hc0,V,hown,hfr,hV1,hV⟩
    ·simp at hle;omega
    have hVl:=hV.length;have hco:c≠off:=by omega
    rw[hq hco];unfold afQ at hok;split at hok
    ·rename_i z hz;have hcut:p.map (·.add (off*sz'))=fo p c off sz':=by rw[fo,if_neg hco]
     have hlen:len=l.length-off:=by omega
     rw[hcut,hlen];refine rT hT hz hok (hown.take (k:=off) (by omega)) (by omega) g2 (fun u' ho' hx=>?_)
     have hn:=h.set (r:=.arr _ _ (l.take off) false) hlk hx (fun a ha=>by rw[hbid,aN hc0,ha];rfl)
      ⟨p,c,hbid,by rw[List.length_take];omega,.inr ⟨hc0,V.take off,by rw[List.length_take,Nat.min_eq_left (by omega)];exact ho',hfr,fun y hy=>hV1 y (List.mem_of_mem_take hy),hV.take off⟩⟩ (by rw[hbid,aN hc0,aN hc0])
     exact⟨β,us,_,hn.put_d d (x:=.tup []) ⟨[],rfl,rfl⟩,hK⟩
    ·cases hok
   ·exact hv.elim
  |_=>exact hv.elim
theorem aaE{l:List Nat}{id:Nat}: ∀{H:List (Nat×Row)},l.contains id=false->lk (roHs l H) id=lk H id:=by
 induction l with
 |nil=>intro H _;rfl
 |cons i r ih=>
  intro H h;simp only[List.contains_cons,Bool.or_eq_false_iff]at h;simp only[roHs];rw[ih h.2,om];have:(id==i)=false:=h.1;rw[this];cases lk H id<;>rfl
theorem h_: ∀{a b:List Value},bF a=true->bF b=true->bF (a++b)=true
 |[],b,_,h=>h
 |x::a,b,h,h'=>by
  simp only[bF,Bool.and_eq_true]at h;simp only[List.cons_append,bF,h.1,h_ h.2 h',Bool.and_self]
theorem rI{a:List Value}:(∀v∈a,v.oneCell'=true)->bF a=true:=by
 induction a with
 |nil=>intro _;rfl
 |cons x r ih=>
  intro h;simp only[bF,h x List.mem_cons_self,ih (fun v hv=>h v (List.mem_cons_of_mem _ hv)),Bool.and_self]
theorem fJ{V W:List Value}{off:Nat}(h:bF V=true)(h':bF W=true):bF (Eng.splice V off W)=true:=by
 unfold Eng.splice;refine h_ (h_ (rI fun v hv=>dp h v (List.mem_of_mem_take hv)) h') (rI fun v hv=>dp h v (List.mem_of_mem_drop hv))
theorem py(h:Rel u0 β0 β us ds s u){T n:Nat}{ag:Bool}(hl:lay P T=some (ag,n)){id e sz i off roff len:Nat}{l:List (List DV)}{r:Row}(hlk:lk ds.H id=some r)(hrr:r= .arr e sz l false\/r= .nst e sz l)
  {a:DV} {va w:Value} (hw:HV us (.rf id roff len) β w) (hcells:HVs us (cellsD a) β va.cells.toList) (hone:bF va.cells.toList=true) (hcl:va.cells.toList.length=n) (hoff:off+n<=sz) {cs:List DV} (hcs:l[roff+i]? =some cs)
  {d:Option Tmp} {K:DS->Prop} (hK:StoN ds d K id e sz (roff+i) off n l a cs):oR false P u0 T w sz ((i:Nat):Int) off va u (lh s d (LiftR u0 β0 K)):=by
 obtain⟨p,c,sz2,q,hb,rfl,hle,hq,hsm⟩:=hw;have hok:=(h.row id _ hlk).2;have hlt:roff+i<l.length:=by rcases Nat.lt_or_ge (roff+i) l.length with h|h;exact h;simp[List.getElem?_eq_none h]at hcs
 obtain⟨rfl,hlc,hc0,V,hown,hfr,hV1,hV,hlive⟩:sz2=sz/\l.length<=c/\c≠0/\ ∃V,Own u0 u e sz p l.length c V/\dk us p/\bl V/\HVssB us β l V/\bz (β id) r=p.map (·.block):=by
  rcases hrr with rfl|rfl
  ·obtain⟨p',c',k1,k2,k3⟩:=hok;rw[hb]at k1;cases k1;rcases k3 with ⟨rfl,rfl⟩|⟨hc0,V,hown,hfr,hV1,hV⟩
   ·simp at hlt
   ·exact⟨rfl,k2,hc0,V,hown,hfr,hV1,HVssB.of hV,by rw[hb,aN hc0]⟩
  ·obtain⟨p',c',k1,k2,k3⟩:=hok;rw[hb]at k1;cases k1;rcases k3 with ⟨rfl,rfl⟩|⟨hc0,V,hown,hfr,hV1,hV⟩
   ·simp at hlt
   ·exact⟨rfl,k2,hc0,V,hown,hfr,hV1,hV,by rw[hb,eg hc0]⟩
 obtain⟨vs,m1,m2⟩:=hV.get hcs
 have had:bT (.slice q len (c-roff)) sz2 ((i:Nat):Int) off=bT (.slice p l.length c) sz2 ((roff+i:Nat):Int) off:=by
  rw[hq (by omega)]
  unfold bT;cases p with
  |none=>rfl
  |some a=>
   simp only[Option.map_some,Int.toNat_natCast];simp only[Addr.add_add]
   congr 2
   rw[Nat.add_mul,Nat.add_assoc]
 unfold oR;rw[had]
 have hst:=rK (P:=P) (T:=T) (ag:=ag) (a:=va) hl hown m1 hcl hoff hone (K:=lh s d (LiftR u0 β0 K)) (fun u' ho' hx=>by
  have hlen':(l.set (roff+i) (spliceD cs off (cellsD a))).length=l.length:=List.length_set
  have hr:=h.set (r:=.nst e sz2 (l.set (roff+i) (spliceD cs off (cellsD a)))) hlk hx (fun a ha=>by rw[hlive,ha];rfl)
   ⟨p,c,hb,by rw[hlen'];exact hlc,.inr ⟨hc0,_,by rw[hlen'];exact ho',hfr,fun y hy=>by
     rcases List.mem_or_eq_of_mem_set hy with hy|rfl
     ·exact hV1 y hy
     ·exact fJ (hV1 vs (List.mem_of_getElem? m1)) hone,hV.set _ (m2.splice off hcells)⟩⟩ (by rw[hlive,hb,eg hc0])
  exact⟨β,us,_,hr.put_d d (x:=undefD) ⟨[],rfl,rfl⟩,hK⟩)
 exact hst
theorem vV{x : Bool}(h:Rel u0 β0 β us ds s u){T:Nat}{y:DSV}{sy:SV}{a:DV}{va:Value}(hy:HS us β y sy)(ha:HV us a β va){d:Option Tmp}{K:DS->Prop}
    (hv:vcStore2 x ds d K y a (lay P T)):fN P x u0 T sy (.v va) d (LiftR u0 β0 K) s u:=by
  unfold fN;simp only;cases hl:lay P T with
  |none=>rw[hl]at hv;exact hv.elim
  | some q =>
    obtain⟨ag,n⟩:=q;rw[hl]at hv;obtain⟨hn,hones,hv⟩:=hv;obtain⟨hcells,hone⟩:=ha.cells hones;have hcl:=hcells.length;cases y with
    |unk=>exact hv.elim
    | loc k off =>
      have e:sy= .loc k off:=hy;subst e;obtain⟨l,hf,hoff,hK⟩:=ew hv;have hloc:=h.loc k;rw[hf]at hloc;obtain⟨l',g1,g2,g3,g4⟩:=hloc;simp only[g1];refine⟨by rw[hcl];exact hn,by rw[g3.length];exact hoff,hone,β,us,_,?_,hK⟩
      have hr : Rel u0 β0 β us (setLD ds k l (spliceD l.cs off (cellsD a))) ⟨s.ρ,(k,⟨l'.b,splice l'.cells off va.cells.toList,l'.T⟩)::s.σ⟩ u:=by
        refine⟨h.base,h.sub,h.slot,fun k'=>?_,h.row,h.nos,h.fix,h.nbx,h.dist⟩
        have h5:=h.loc k';show match lk ((k,⟨spliceD l.cs off (cellsD a),l.T⟩)::ds.σ) k' with|none=>lk ((k,_)::s.σ) k'=none|some l2=>_
        by_cases e:k=k'
        · subst e
          rw[au];exact⟨_,au,g2,g3.splice off hcells,fJ g4 hone⟩
        · rw [aj e]
          have e2:(⟨s.ρ,(k,⟨l'.b,splice l'.cells off va.cells.toList,l'.T⟩)::s.σ⟩:S).find k'=s.find k':=aj e;cases hf':lk ds.σ k' with
          | none => have:ds.find k'=none:=hf'
                    rw[this]at h5;exact e2.trans h5
          | some l2 => have:ds.find k'=some l2:=hf'
                       rw[this]at h5;obtain⟨l3,q1,q2⟩:=h5;exact⟨l3,e2.trans q1,q2⟩
      exact hr.put_d d (x:=undefD) ⟨[],rfl,rfl⟩
    | d y =>
      obtain⟨w,rfl,hw⟩:=hy;cases y with
      | pt id off=>
        replace hv:StoP x ds d K id off n (cellsD a) (lk ds.H id):=hv;unfold StoP at hv;split at hv
        · rename_i T' cs hlk
          obtain⟨rfl,hoff,hK⟩:=hv;obtain⟨b,hb,rfl⟩:=hw;obtain⟨b',V,g1,g2,g3,g4,g5,g6⟩:=(h.row id _ hlk).2;rw[hb]at g1;cases g1;simp only;refine xX hl g2 g3 (by rw[hcl];exact hn) (by rw[g5.length];exact hoff) hone (fun u' hg' hx=>?_)
          have hr:=h.set (r:=.var T' (spliceD cs off (cellsD a))) hlk hx (fun a ha=>by cases ha;rw[hb];rfl) ⟨b,_,hb,hg',g3,g4,g5.splice off hcells,fJ g6 hone⟩ (by rw[hb];rfl)
          exact⟨β,us,_,hr.put_d d (x:=undefD) ⟨[],rfl,rfl⟩,hK⟩
        · exact hv.elim
      |_=>exact hv.elim
    | elt y sz i off=>
      obtain⟨w,rfl,hw⟩:=hy;cases y with
      | rf id roff len=>
        replace hv:StoE x ds d K id (roff+i) sz off n a (lk ds.H id):=hv;unfold StoE at hv;split at hv
        · rename_i e sz' l hlk
          obtain⟨rfl,rfl,hoff,hnp,hni,hv⟩:=hv;obtain⟨cs,hcs,hv⟩:=ew hv;replace hv:StoF ds d K id e sz' (roff+i) off n l a cs (embD ds.H a):=hv;cases ha':embD ds.H a with
          | none=>
            rw[ha']at hv;exact py h hl hlk (.inl rfl) hw hcells hone (by rw[hcl];exact hn) hoff hcs hv
          |some a'=>
          rw[ha']at hv;obtain⟨hones',hn',hK⟩:=hv;obtain⟨us1,g1,g2,g3⟩:=h.ros (idsD ds.H a);have hae:=fB g1 a a' va g3 (.inl hnp) ha ha';obtain⟨hcells',hone'⟩:=hae.cells hones'
          have hlk':lk (ds.ros (idsD ds.H a)).H id=some (.arr e sz' l false):=by
            show lk (roHs _ ds.H) id=_;rw[aaE hni];exact hlk
          obtain⟨p,c,sz2,q,hb,rfl,hle,hq,hsm⟩:=hw;obtain⟨p',c',k1,k2,k3⟩:=(g2.row id _ hlk').2;rw[hb]at k1;cases k1;have hlt:roff+i<l.length:=by rcases Nat.lt_or_ge (roff+i) l.length with h|h;exact h;simp[List.getElem?_eq_none h]at hcs
          rcases k3 with ⟨rfl,rfl⟩|⟨hc0,V,hown,hfr,hV1,hV⟩
          · simp at hlt
          obtain⟨vs,m1,m2⟩:=hV.get hcs
          have had:bT (.slice q len (c-roff)) sz' ((i:Nat):Int) off=bT (.slice p l.length c) sz' ((roff+i:Nat):Int) off:=by
            rw[hq (by omega)]
            unfold bT;cases p with
            |none=>rfl
            | some a=>
              simp only[Option.map_some,Int.toNat_natCast];simp only[Addr.add_add]
              congr 2
              rw[Nat.add_mul,Nat.add_assoc]
          show oR false P u0 T (.slice q len (c-roff)) sz' ((i:Nat):Int) off va u (lh s d (LiftR u0 β0 K));unfold oR;rw[had]
          have hst:=rK (P:=P) (T:=T) (ag:=ag) (a:=va) hl hown m1 (by rw[hcl];exact hn) hoff hone (K:=lh s d (LiftR u0 β0 K)) (fun u' ho' hx=>by
            have hlen':(l.set (roff+i) (spliceD cs off (cellsD a'))).length=l.length:=List.length_set
            have hr:=g2.set (r:=.arr e sz' (l.set (roff+i) (spliceD cs off (cellsD a'))) false) hlk' hx (fun a ha=>by rw[hb,aN hc0,ha];rfl)
              ⟨p, c,hb,by rw[hlen'];exact k2,.inr ⟨hc0,_,by rw[hlen'];exact ho',hfr,fun y hy=>by
                  rcases List.mem_or_eq_of_mem_set hy with hy|rfl
                  · exact hV1 y hy
                  · exact fJ (hV1 vs (List.mem_of_getElem? m1)) hone,hV.set _ (m2.splice off hcells')⟩⟩ (by rw[hb,aN hc0,aN hc0])
            exact⟨β,us1,_,hr.put_d d (x:=undefD) ⟨[],rfl,rfl⟩,hK⟩)
          exact hst
        · rename_i e sz' l hlk
          obtain⟨rfl,rfl,hoff,hv⟩:=hv;obtain⟨cs,hcs,hv⟩:=ew hv;exact py h hl hlk (.inr rfl) hw hcells hone (by rw[hcl];exact hn) hoff hcs hv
        · exact hv.elim
      |_=>exact hv.elim
theorem n8{op:BinOp}{T:Nat}{y z:Operand}{va vb:Value}{K:DV->Prop}{Kv:Value->Prop}(hK: ∀r w,HV us r β w->K r->Kv w)(t:Bool)(hk:nilK op K t)
  (h1: ∀Kv,AtPure P (bm .eql T y z va vb) Kv=Kv (.bool t)) (h2: ∀Kv,AtPure P (bm .neq T y z va vb) Kv=Kv (.bool (!t))):AtPure P (bm op T y z va vb) Kv:=by
 unfold nilK at hk;split at hk
 ·rw[h1];exact hK (.v (.bool t)) _ ⟨rfl,rfl⟩ hk
 ·rw[h2];exact hK (.v (.bool !t)) _ ⟨rfl,rfl⟩ hk
 ·exact hk.elim
theorem il{T n:Nat}{f:Fn}{A B:Array Value}{a b:Array TypeId}{v:Bool}(hu:P.underlying T=some (.func a b v))(w:World):(Op.equalIn (n+1) T (.func f A B) .nilFunc).run P w= .ok false w:=by
 rw[Op.equalIn];simp only[Sem.run_bind,run_underlying hu,Result.andThen_ok,Sem.run_pure]
theorem xK{T:Nat}{y z:Operand}{f:Fn}{A B:Array Value}{a b:Array TypeId}{v:Bool}(hu:P.underlying T=some (.func a b v))(Kv:Value->Prop):AtPure P (bm .eql T y z (.func f A B) .nilFunc) Kv=Kv (.bool false):=
 aA fun w=>by
  have h1:=il (n:=9999) (f:=f) (A:=A) (B:=B) hu w;simp only[bm,eqGuard,binOp,Op.equal,Op.maxDepth,Sem.run_bind,Sem.run_pure,Result.andThen_ok,Bool.not_true,Bool.false_eq_true,if_false,h1]
theorem vX{T:Nat}{y z:Operand}{f:Fn}{A B:Array Value}{a b:Array TypeId}{v:Bool}(hu:P.underlying T=some (.func a b v))(Kv:Value->Prop):AtPure P (bm .neq T y z (.func f A B) .nilFunc) Kv=Kv (.bool (!false)):=
 aA fun w=>by
  have h1:=il (n:=9999) (f:=f) (A:=A) (B:=B) hu w;simp only[bm,eqGuard,binOp,Op.equal,Op.maxDepth,Sem.run_bind,Sem.run_pure,Result.andThen_ok,Bool.not_true,Bool.false_eq_true,if_false,h1]
theorem px{T:Nat}{y z:Operand}{a:Addr}{e:TypeId}(hu:P.underlying T=some (.pointer e))(Kv:Value->Prop):AtPure P (bm .eql T y z (.pointer (some a)) (.pointer none)) Kv=Kv (.bool false):=
 aA fun w=>by
  simp only[bm,eqGuard,Sem.run_bind,Sem.run_pure,Result.andThen_ok,Bool.not_true,Bool.false_eq_true,if_false]
  go_simp
theorem oN{T:Nat}{y z:Operand}{a:Addr}{e:TypeId}(hu:P.underlying T=some (.pointer e))(Kv:Value->Prop):AtPure P (bm .neq T y z (.pointer (some a)) (.pointer none)) Kv=Kv (.bool (!false)):=
 aA fun w=>by
  simp only[bm,eqGuard,Sem.run_bind,Sem.run_pure,Result.andThen_ok,Bool.not_true,Bool.false_eq_true,if_false]
  go_simp
theorem aet{op:BinOp}{T:Nat}{y z:Operand}{a b:DV}{va vb:Value}(ha:HV us a β va)(hb:HV us b β vb){K:DV->Prop}(hv:vcNil P op T a b K){Kv:Value->Prop}
  (hK: ∀r w,HV us r β w->K r->Kv w):AtPure P (bm op T y z va vb) Kv:=by
 unfold vcNil at hv;split at hv
 ·obtain⟨hsl,hv⟩:=hv;obtain⟨n,hn,h1,h2⟩:=ew hv;obtain⟨rfl,_⟩:=hb;obtain⟨p,c,rfl,hp⟩:=ij ha hn;refine n8 hK p.isNone ?_ (fun Kv=>kF hsl) (fun Kv=>kE hsl)
  by_cases h0:0<n
  ·have:=hp h0;cases p with
   |none=>cases this
   |some a=>exact h1 h0
  ·exact h2 (by omega) _
 ·split at hv
  ·obtain⟨hu,hk⟩:=hv;obtain⟨rfl,_⟩:=hb;obtain⟨A,B,rfl,_⟩:=ha;split at hu
   ·rename_i hu';exact n8 hK false hk (fun Kv=>xK hu' Kv) (fun Kv=>vX hu' Kv)
   ·exact hu.elim
  ·exact hv.elim
 ·split at hv
  ·obtain⟨hu,hk⟩:=hv;obtain⟨rfl,_⟩:=hb;obtain⟨b,_,rfl⟩:=ha;split at hu
   ·rename_i hu';exact n8 hK false hk (fun Kv=>px hu' Kv) (fun Kv=>oN hu' Kv)
   ·exact hu.elim
  ·obtain⟨hu,hk⟩:=hv;obtain⟨rfl,_⟩:=hb;obtain⟨a,V,rfl,_⟩:=ha;split at hu
   ·rename_i hu';exact n8 hK false hk (fun Kv=>px hu' Kv) (fun Kv=>oN hu' Kv)
   ·exact hu.elim
  ·exact hv.elim
 ·exact hv.elim
end
section
variable {P:Program} {u0 u us u' us':World} {β0:Bse} {β:Nat->PB} {ds:DS} {s:S} {H:List (Nat×Row)}
theorem atP{e:Sem Value}{K:DV->Prop}{Kv:Value->Prop}(h:AtP P e K)(hK: ∀r w,HV us r β w->K r->Kv w):AtPure P e Kv:=by
 obtain⟨r,h1,h2,h3⟩:=h;exact⟨r,h1,hK (.v r) r ⟨rfl,h2⟩ h3⟩
theorem nu{e:Sem Value}{Kv:Value->Prop}(h:AtPure P e Kv):AtRead P e u Kv:=by
 obtain⟨r,h1,h2⟩:=h;exact⟨r,fun w _=>h1 w,h2⟩
theorem ym{x:Bool}{e:Sem Value}{Ke:Value->World->Prop}(h:AtPure P e fun r=>Ke r u):AtEff x P e u0 u Ke:=by
 obtain⟨r,h1,h2⟩:=h;exact fun w hu h0=>⟨r,w,u,h1 w,⟨hu,fun b o h=>.inl h,fun b _ h=>h,⟨Nat.le_refl _,rfl,rfl⟩⟩,h2⟩
theorem nm: ∀{bs:List UInt8} {V:List (List Value)},HVss us (bs.map aQ) V->V=bs.map akp
 |[],V,h=>h
 |b::r,V,⟨v,V',h1,h2,h3⟩=>by
  obtain⟨w,W,e,⟨h4,_⟩,h5⟩:=h2;rw[h1,nm h3,e,h4,h5];rfl
theorem aaR{x:Bool}(h:Rel u0 β0 β us ds s u){src dst:Nat}{a:DV}{va:Value}(ha:HV us a β va){d:Option Tmp}{K:DS->Prop}(hv:vcConv2 P x src dst ds d K (.d a)):
  bif src==dst then AtEff x P (dO src dst va) u0 u (ey s d (LiftR u0 β0 K))else AtRead P (dO src dst va) u (eZ s d u (LiftR u0 β0 K)):=by
 replace hv:ConvV P x src dst ds d K a (ec a):=hv;unfold ConvV at hv;cases hval:ec a with
 |some v=>
  rw[hval]at hv;have e:=gb a β va v ha hval;subst e;have hp:AtPure P (dO src dst va) fun r=>LiftR u0 β0 K (s.put d (.v r)) u:=atP (us:=us) (β:=β) hv fun r w hr hk=>⟨β,us,_,h.put_d d hr,hk⟩
  cases (src==dst)with
  |true=>exact ym hp
  |false=>exact nu hp
 | none =>
  rw[hval]at hv;simp only at hv;unfold ve at hv;cases hb:(src==dst)with
  | true=>
   rw[hb]at hv;simp only[cond_true]at hv ⊢;split at hv
   ·rename_i id len;unfold ConvM at hv;split at hv
    ·rename_i e l hlk;obtain⟨rfl,hlen,hpos,hT,he,hK⟩:=hv;have hsd:src=dst:=by simpa using hb
     subst hsd;obtain⟨p,c,sz,q,hbid,rfl,hle,hq,hsm⟩:=ha;obtain⟨p',c',g1,g2,g3⟩:=(h.row id _ hlk).2;rw[hbid]at g1;cases g1;rcases g3 with ⟨rfl,rfl⟩|⟨hc0,V,hown,hfr,hV1,hV⟩
     ·simp at hlen;omega
     rw[hq hc0,nV,Nat.sub_zero, <-hlen];refine aeu hT he hown (by omega) (fun u' hsl hx=>?_)
     obtain⟨g,cur,rfl,hg,hg0⟩:=hown.none_iff hc0
     have hne: ∀(i:Nat) ri b,i≠id->lk ds.H i=some ri->bz (β i) ri=some b->b≠g:=by
      intro i ri b hi hl hb e2;subst e2;exact h.dist i id ri _ _ hi hl hlk hb (by rw[hbid,aN hc0];rfl)
     obtain⟨y,hy⟩: ∃y,V[0]? =some y:=⟨V[0]'(by rw[hV.length];omega),List.getElem?_eq_getElem _⟩
     have hyl:=hsl.each y (List.mem_of_getElem? hy);obtain⟨v,hv0⟩: ∃v,y[0]? =some v:=⟨y[0]'(by omega),List.getElem?_eq_getElem _⟩
     obtain⟨cc,tt,ff,hg',_,_⟩:=fx ((hsl.at_ _ rfl).2 0 y hy 0 v hv0);simp only at hg';have hfg:Fresh us g:=hfr _ rfl;have hsub:Sub us u':=hx.sub h.sub hfr;have hs1:Sub us (learn us g (.cells cc tt ff)):=dR hfg;have hs2:Sub (learn us g (.cells cc tt ff)) u':=j5 hsub hg'
     have hsl':Sl (learn us g (.cells cc tt ff)) 1 (some ⟨g,0,none⟩) l.length c V:=by
      refine⟨hsl.len,hsl.cap,hsl.each,(fun h=>by cases h),fun a ha=>?_⟩
      cases ha;refine⟨(hsl.at_ _ rfl).1,fun i z hz j w hj=>?_⟩
      obtain⟨c2,t2,f2,q1,_,q3⟩:=fx ((hsl.at_ _ rfl).2 i z hz j w hj);simp only at q1 q3;rw[hg']at q1;cases q1;exact fm (bL _ _ _) q3
     have hr:Rel u0 β0 β (learn us g (.cells cc tt ff)) ⟨ds.ρ,ds.σ,setH id (.arr e 1 l true) ds.H,ds.nx,ds.nb⟩ s u':=by
      have hlkS:=abR (r:=.arr e 1 l true) hlk;refine h.grow hs1 hs2 (BLe.refl β) (Nat.le_refl _) (fun i ri hi=>?_) h.nos (fun _ _=>rfl) (fun i j ri rj b hij hi hj hbi hbj=>?_)
      ·rw[hlkS]at hi;split at hi
       ·rename_i e2;subst e2;cases hi;exact⟨(h.row i _ hlk).1,_,c,hbid,g2,V,hsl',hV1,HVss.mono hs1 l V hV⟩
       ·rename_i e2;refine⟨(h.row i ri hi).1,((h.row i ri hi).2.write hx (BLe.refl β) (fun a b ha hb=>by cases ha;exact hne i ri b e2 hi hb)).step (Sub.refl u') hs1 (BLe.refl β) (fun b hb=>?_)⟩
        exact cP (hne i ri b e2 hi hb) ((h.row i ri hi).2.fresh hb).1
      ·rw[hlkS]at hi hj;split at hi
       ·cases hi;rename_i e2;subst e2;rw[hbid]at hbi;cases hbi
       ·split at hj
        ·cases hj;rename_i e3;subst e3;rw[hbid]at hbj;cases hbj
        ·exact h.dist i j ri rj b hij hi hj hbi hbj
     exact⟨β,_,_,hr.put_d d (x:=.rf id 0 len) ⟨_,c,1,_,hbid,by rw[hlen];rfl,by omega,fun _=>(nV _ 1).symm,hsm⟩,hK⟩
    ·exact hv.elim
   ·exact hv.elim
  | false=>
   rw[hb]at hv;simp only[cond_false]at hv ⊢;obtain⟨l,hl,hs,hd,bs,rfl,hK⟩:=ew hv;obtain⟨q,m,c2,W,rfl,rfl,hsl,h1,hW⟩:=gW h ha hl;have e:=nm hW;subst e;unfold aia at hs;split at hs
   ·rename_i e hu;split at hs
    ·rename_i he;exact ag5 hu he hd hsl ⟨β,us,_,h.put_d d (x:=.v (.string (n5 bs))) ⟨rfl,rfl⟩,hK⟩
    ·cases hs
   ·cases hs
theorem aat{x:Bool}{e:Sem Value}{Ke:Value->World->Prop}(h:AtRead P e u fun r=>Ke r u):AtEff x P e u0 u Ke:=by
 obtain⟨r,h1,h2⟩:=h;exact fun w hu h0=>⟨r,w,u,h1 w hu,⟨hu,fun b o h=>.inl h,fun b _ h=>h,⟨Nat.le_refl _,rfl,rfl⟩⟩,h2⟩
theorem afY{x:Bool}{src dst:Nat}{va:Value}{d:Option Tmp}{K:S->World->Prop}
  (h:bif src==dst then AtEff x P (dO src dst va) u0 u (ey s d K)else AtRead P (dO src dst va) u (eZ s d u K)):
  bif efc src dst then AtEff x P (dO src dst va) u0 u (ey s d K)else AtRead P (dO src dst va) u (eZ s d u K):=by
 unfold efc;cases hb:(src==dst)with
 |true=>rw[hb]at h;exact h
 |false=>
  rw[hb]at h;cases (src==9&&dst==52)with
  |true=>exact aat h
  |false=>exact h
theorem acm(h:Rel u0 β0 β us ds s u){T:Nat}{a:DV}{va:Value}{lo hi mx:Option Value}(ha:HV us a β va){d:Option Tmp}{K:DS->Prop}(hv:vcCut2 P T ds d K a lo hi mx (ec a)):
  AtPure P (cD T va lo hi mx) (eZ s d u (LiftR u0 β0 K)):=by
 cases hval:ec a with
 |some v=>
  rw[hval]at hv;obtain⟨rfl,hv⟩:=hv;have e:=gb a β va v ha hval;subst e;exact atP (us:=us) (β:=β) hv fun r w hr hk=>⟨β,us,_,h.put_d d hr,hk⟩
 | none=>
  rw[hval]at hv;obtain⟨⟨e,sz,bytes⟩,he,hv⟩:=ew hv;obtain⟨n,hn,hv⟩:=ew hv;obtain⟨l,hl,hv⟩:=ew hv;obtain⟨hh,hhi,hv⟩:=ew hv;obtain⟨⟨h1,h2,h3⟩,hv⟩:=hv;have hT:=gk he;unfold CutM at hv;split at hv
  ·obtain⟨r,hr,hK⟩:=ew hv;obtain⟨p,c,rfl,hnc,hrv⟩:=yW h ha hn (by omega) (by omega) hr
   exact⟨_,fun w=>ajx hT hl hhi h1 h2 h3 hnc w,β,us,_,h.put_d d hrv,hK⟩
  ·rename_i k3 m;obtain⟨rfl,rfl,hsm,hK⟩:=hv;obtain⟨p,c,rfl,hp⟩:=ij ha hn;rcases jS hhi with ⟨rfl,_⟩|⟨k2,rfl⟩
   ·cases hsm
   ·have hnc:n<=c:=by
     cases a with
     |fz sz' l=>
      obtain⟨p,m,c,V,e1,h5,_⟩:=ha;cases e1;exact h5.cap
     |rf id off len=>
      obtain⟨p',c',sz',q,_,e1,hle,_⟩:=ha;cases e1;simp only[lenD,Option.some.injEq]at hn;omega
     |e0=>
      obtain⟨p,e1⟩:=ha;cases e1;omega
     |v y=>obtain⟨e1,e2⟩:=uI hn;omega
     |_=>simp[lenD]at hn
    exact⟨_,fun w=>afM hT hl h1 h3 hnc w,β,us,_,h.put_d d (x:=.e0) ⟨p,rfl⟩,hK⟩
  ·exact hv.elim
theorem oQ(h:Rel u0 β0 β us ds s u){o:Option Operand}{r:Option Value}(ho:ovD ds o=some r):ky s o=some r:=by
 cases o with
 |none=>simpa[ovD,ky]using ho
 |some y=>
  simp only[ovD]at ho;unfold ovC at ho;split at ho
  ·rename_i x hy;obtain⟨w,h1,rfl,_⟩:=h.sv_d hy;simp only[ky,h1];exact ho
  ·cases ho
theorem zN(h:Rel u0 β0 β us ds s u){T ty:Nat}{a:DV}{va:Value}(ha:HV us a β va){K:DV->Prop}(hv:vcLen2 P K a T (lenD a)){Kv:Value->Prop}(hK: ∀r w,HV us r β w->K r->Kv w):AtRead P (oY #[T] ty #[va]) u Kv:=by
 cases hn:lenD a with
 |some n=>
  rw[hn]at hv;obtain⟨p,c,rfl,_⟩:=ij ha hn;rw[gl hv.1];exact hK (.v (.int .i64 n)) _ ⟨rfl,rfl⟩ hv.2
 |none=>
  rw[hn]at hv;simp only[vcLen2]at hv;split at hv
  ·rename_i str hval;have e:=gb a β va _ ha hval;subst e;rw[qt hv.1];exact hK (.v (.int .i64 str.size)) _ ⟨rfl,rfl⟩ hv.2
  ·exact hv.elim
theorem amh{α:Type}{A:Array α}{x:α}(h:A.toList=[x]):A=#[x]:=by
 rw[<-Array.toArray_toList (xs:=A),h]
theorem amm{α:Type}{A:Array α}{x y:α}(h:A.toList=[x,y]):A=#[x,y]:=by
 rw[<-Array.toArray_toList (xs:=A),h]
theorem xV{l:List DV}{V vs:List Value}(hV:HVs us l β V)(h:gV l=some vs):V=vs:=qi l β V vs hV h
theorem nw(h:Rel u0 β0 β us ds s u){T d:Nat}{cs:List DV}{V:List Value}(hf:ds.find d=none)(hV:HVs us cs β V)(h1:bF V=true)(b:Nat):Rel u0 β0 β us (addLD ds d cs T) (addLoc s d b V T) u:=by
 refine⟨h.base,h.sub,fun t=>?_,fun k=>?_,h.row,h.nos,h.fix,h.nbx,h.dist⟩
 ·show HS us β ((lk ((d,.loc d 0)::ds.ρ) t).getD .unk) ((lk ((d,.loc d 0)::s.ρ) t).getD .unk)
  by_cases e:d=t
  ·subst e;rw[au,au];rfl
  ·rw[aj e,aj e];exact h.slot t
 ·have h5:=h.loc k;show match lk ((d,⟨cs,T⟩)::ds.σ) k with|none=>lk ((d,⟨b,V,T⟩)::s.σ) k=none|some l=> ∃l',lk ((d,⟨b,V,T⟩)::s.σ) k=some l'/\_
  by_cases e:d=k
  ·subst e;rw[au,au];exact⟨_,rfl,rfl,hV,h1⟩
  ·rw[aj e,aj e];exact h5
theorem aki{T:TypeId}{len n:Nat}{ag:Bool}(h:ajB P T=some (len,ag,n))(k:IntKind){i:Int}(h0:0<=i)(h1:i<(len:Int)){V:List Value}(hn:n=1\/ag=true)(hl:i.toNat*n+n<=V.length)(w:World):
  (jh T (.agg V.toArray) (.int k i)).run P w= .ok (ld ag n (i.toNat*n) V) w:=by
 unfold ajB at h;split at h
 ·rename_i m e hu;cases hle:lay P e with
  |none=>simp[hle]at h
  | some q=>
   obtain⟨ag',n'⟩:=q;simp[hle]at h;obtain⟨rfl,rfl,rfl⟩:=h;obtain⟨r1,r2⟩:=jU hle w;simp only[jh,Instr.index,asIntOf,Sem.run_bind,Sem.run_pure,run_underlying hu,Result.andThen_ok,h0,h1,and_self,if_true,part,r1,r2];cases ag' with
   |true=>
    simp only[if_true,Sem.run_bind,r2,Result.andThen_ok,Sem.run_pure,ld,cond_true]
    congr 3
    apply Array.ext';simp[List.take_drop,Array.toList_extract]
   |false=>
    have h1':n'=1:=by rcases hn with h|h;exact h;cases h
    subst h1';have hlt:i.toNat*1<V.length:=by omega
    have hlt2:i.toNat<V.length:=by omega
    simp only[Bool.false_eq_true,if_false,List.getElem?_toArray,List.getElem?_eq_getElem hlt,Sem.run_pure,Result.andThen_ok,ld,cond_false]
    congr 2
    rw[List.headD_eq_head?_getD,List.head?_drop];simp[hlt2]
 ·cases h
theorem vP{x:Bool}{o:Oper}{K:DS->Prop}(h:Rel u0 β0 β us ds s u)(hv:ir P x o K ds):cj P x u0 o (LiftR u0 β0 K) s u:=by
 have hput: ∀(d:Option Tmp) (r:DV) (w:Value),HV us r β w->K (ds.put d (.d r))->LiftR u0 β0 K (s.put d (.v w)) u:=fun d r w hr hk=>⟨β,us,_,h.put_d d hr,hk⟩
 unfold ir vcOpM at hv;unfold cj;cases hop:o.op<;>simp only[hop]at hv⊢
 case move y=>exact⟨β,us,_,h.put _ (h.sv y),hv⟩
 case assign y=>exact⟨β,us,_,h.put _ (h.sv y),hv⟩
 case pick c y z=>
  unfold vcPick2 at hv;split at hv
  ·rename_i t hc;obtain⟨w,h1,rfl,_⟩:=h.sv_d hc;rw[h1];refine⟨β,us,_,h.put (x:=bif t then ds.sv y else ds.sv z) _ ?_,hv⟩;cases t
   ·exact h.sv z
   ·exact h.sv y
  ·exact hv.elim
 case load T y=>
  unfold vcLoad2 at hv;split at hv
  ·rename_i ag n hl;obtain⟨r,hr,hK⟩:=ew hv;exact aah h hl (h.sv y) (fun k off hy=>h.sv_loc hy) hr (fun w hw=>hput _ r w hw hK)
  ·exact hv.elim
 case nilCheck y=>
  unfold vcNilC at hv;split at hv
  ·rename_i k off hy;rw[h.sv_loc hy];exact⟨β,us,_,h.put (x:=.loc k off) _ rfl,hv⟩
  ·rename_i y' sz i off hy;obtain⟨w,h1,h2⟩:=h.sv_elt hy;rw[h1];exact⟨β,us,_,h.put (x:=.elt y' sz i off) _ ⟨w,rfl,h2⟩,hv⟩
  ·rename_i i off hy;obtain⟨w,h1,h2⟩:=h.sv_d hy;have h2':=h2;obtain⟨b,h3,rfl⟩:=h2;rw[h1];exact hput _ _ _ h2' hv
  ·rename_i cs hy;obtain⟨w,h1,h2⟩:=h.sv_d hy;have h2':=h2;obtain⟨a,V,rfl,h3⟩:=h2;rw[h1];exact hput _ _ _ h2' hv
  ·exact hv.elim
 case binOp op T y z t2=>
  unfold vcBinS at hv;split at hv
  ·rename_i a b hy hz;obtain⟨va,h1,h2⟩:=h.sv_d hy;obtain⟨vb,h3,h4⟩:=h.sv_d hz;rw[h1,h3];simp only;unfold vcBin2 at hv;split at hv
   ·rename_i x w e1 e2;rw[gb a β va x h2 e1,gb b β vb w h4 e2];exact atP (us:=us) (β:=β) hv (fun r w hr hk=>hput _ r w hr hk)
   ·exact aet h2 h4 hv (fun r w hr hk=>hput _ r w hr hk)
  ·exact hv.elim
 case unOp op t y=>
  unfold vcUn2 at hv;split at hv
  ·rename_i a hy;obtain⟨va,h1,h2⟩:=h.sv_d hy;obtain⟨v,hval,hv⟩:=ew hv;rw[h1,gb a β va v h2 hval];exact atP (us:=us) (β:=β) hv (fun r w hr hk=>hput _ r w hr hk)
  ·exact hv.elim
 case convert src dst y=>
  cases hy:ds.sv y with
  |d a=>
   rw[hy]at hv;obtain⟨va,h1,h2⟩:=h.sv_d hy;rw[h1];exact afY (aaR h h2 hv)
  |_=>rw[hy]at hv;exact hv.elim
 case makeFunc fn first captured=>
  unfold vcFn2 at hv;split at hv
  ·rename_i f;obtain⟨⟨vs,ds'⟩,hp,hK⟩:=ew hv;refine np _ ds s β u vs ds' _ hp h (fun s' u' β' ws h1 h2 h3=>?_)
   exact⟨β',us,_,h1.put_d _ (x:=.fn f (vs.take first.size) (vs.drop first.size)) ⟨ws.take first.size,ws.drop first.size,rfl,h3.take _,h3.drop _⟩,hK⟩
  ·exact hv.elim
 case build T ps=>
  obtain⟨r,hr,hK⟩:=ew hv;cases hp:pdvs ds ps.toList with
  |none=>rw[hp]at hr;unfold buildD at hr;split at hr<;>simp_all
  |some qs=>
   rw[hp]at hr;obtain⟨ws,h1,h2,h3⟩:=lB h hp;rw[h1];exact vO h2 h3 hr (fun w hw=>hput _ r w hw hK)
 case slice T y lo hi mx=>
  unfold vcCutS at hv;split at hv
  ·rename_i a l hh m hy e1 e2 e3;obtain⟨va,h1,h2⟩:=h.sv_d hy;rw[h1,oQ h e1,oQ h e2,oQ h e3];exact acm h h2 hv
  ·exact hv.elim
 case fieldAddr T y f=>
  unfold vcField2 at hv;split at hv
  ·rename_i e he;obtain⟨r,hr,hK⟩:=ew hv;exact x7 h he (h.sv y) hr hK
  ·exact hv.elim
 case field T y f=>
  obtain⟨r,hr,hK⟩:=ew hv;obtain⟨V,h1,off,ag,n,h2,h3,h4,h5⟩:=aap (h.sv y) hr;rw[h1];simp only[h2];exact⟨h3,h4,hput _ r _ h5 hK⟩
 case indexAddr T y i=>exact acE h (h.sv y) (h.sv i) hv
 case index T y i=>
  unfold vcIndex2 at hv;split at hv
  ·rename_i cs kk j hy hz;obtain⟨va,h1,V,rfl,h2⟩:=h.sv_d hy;obtain⟨vb,h3,rfl,h4⟩:=h.sv_d hz;rw[h1,h3];unfold AggI at hv;split at hv
   ·rename_i len ag n ha;obtain⟨⟨i0,i1⟩,hv⟩:=hv;obtain⟨r,hr,hK⟩:=ew hv;obtain⟨cs',e',hr⟩:=jr hr;cases e';obtain⟨g1,g2,g3⟩:=h2.ld hr;exact⟨_,fun w _=>aki ha kk i0 i1 g1 g2 w,hput _ r _ g3 hK⟩
   ·exact hv.elim
  ·rename_i a b hne hy hz;obtain⟨va,h1,h2⟩:=h.sv_d hy;obtain⟨vb,h3,h4⟩:=h.sv_d hz;obtain⟨v,e1,hv⟩:=ew hv;obtain⟨w,e2,hv⟩:=ew hv;rw[h1,h3,gb a β va v h2 e1,gb b β vb w h4 e2];exact nu (atP (us:=us) (β:=β) hv (fun r w hr hk=>hput _ r w hr hk))
  ·exact hv.elim
 case makeMap|mapUpdate|insert|mapEntry|entryStore=>have k:=hv u0 β0 β us s u h;unfold cj at k;simp only[hop]at k;exact k
 case lookup T y z ok=>
  unfold LkS at hv;split at hv
  ·have k:=hv u0 β0 β us s u h;unfold cj at k;simp only[hop]at k;exact k
  unfold wX at hv;split at hv
  ·rename_i es v hy hz;obtain⟨va,h1,r,rfl,h2⟩:=h.sv_d hy;obtain⟨vb,h3,rfl,h4⟩:=h.sv_d hz;unfold LkU at hv;split at hv
   ·obtain⟨⟨kt,et,e1,e2,e3⟩,k,rfl,hK⟩:=hv;rw[h1,h3];refine aa1 (kv:=kv8) (fK e2) e1 (h2.mono h.sub) e3 ?_;rw[ai2];refine hput _ (.tup [lkD (lkF es k),.v (.bool (lkF es k).isSome)]) _ ⟨[_,_],rfl,_,_,rfl,?_,_,_,rfl,⟨by cases lkF es k<;>rfl,rfl⟩,rfl⟩ hK
    cases lkF es k with
    |none=>exact⟨rfl,rfl⟩
    |some f=>exact⟨[],[],rfl,rfl,rfl⟩
   ·exact hv.elim
  ·exact hv.elim
 case extract y i=>
  obtain⟨r,hr,hK⟩:=ew hv;unfold tupD at hr;split at hr
  ·rename_i vs hy;obtain⟨w,h1,V,rfl,h2⟩:=h.sv_d hy;obtain⟨v,h3,h4⟩:=h2.get hr;rw[h1];simp only[h3];exact hput _ r v h4 hK
  ·cases hr
 case alloc T=>
  unfold vcNew2 at hv;split at hv
  ·rename_i d hd;obtain⟨hf,hv⟩:=hv;obtain⟨cs,hz,h1,hK⟩:=ew hv;obtain⟨vs,hz1,rfl,hz2⟩:=kO hz;rw[hz1,hd];have h5:=h.loc d;rw[hf]at h5;exact⟨h5,fun b=>⟨β,us,_,nw h hf (HVs.plain hz2) ((HVs.plain (us:=us) (β:=β) hz2).ones h1) b,hK⟩⟩
  ·exact hv.elim
 case box T y=>
  unfold vcNew2 at hv;split at hv
  ·rename_i d hd;obtain⟨hf,hv⟩:=hv;obtain⟨cs,hz,h1,hK⟩:=ew hv;unfold boxD at hz;split at hz
   ·rename_i a hy;cases hz;obtain⟨va,h3,h4⟩:=h.sv_d hy;rw[h3,hd];have h5:=h.loc d;rw[hf]at h5;exact⟨h5,fun b=>⟨β,us,_,nw h hf (h4.cells h1).1 (h4.cells h1).2 b,hK⟩⟩
   ·cases hz
  ·exact hv.elim
 case store T y z=>
  unfold vcStoreS at hv;split at hv
  ·rename_i a hz;obtain⟨va,h1,h2⟩:=h.sv_d hz;rw[h1];exact vV h (h.sv y) h2 hv
  ·exact hv.elim
 case buildSlice T n ps=>
  cases hp:pdvs ds ps.toList with
  |none=>rw[hp]at hv;cases he:dt P T<;>rw[he]at hv<;>exact hv.elim
  |some qs=>
   rw[hp]at hv;obtain⟨ws,h1,h2,h3⟩:=lB h hp;rw[h1];exact adg h h2 h3 hv
 case makeSlice T l c=>
  cases he:dt P T with
  |none=>rw[he]at hv;exact hv.elim
  | some q=>
   cases hz:zeroE P (some q)with
   |none=>rw[he,hz]at hv;exact hv.elim
   |some zs=>
    have hv':=hv;rw[he,hz]at hv';simp only[vcMake2]at hv';split at hv'
    ·rename_i k1 l' k2 c' hy hz;obtain⟨w,h1,rfl,_⟩:=h.sv_d hy;obtain⟨w',h2,rfl,_⟩:=h.sv_d hz;rw[h1,h2];rw[hy,hz]at hv;exact aaz h hv
    ·exact hv'.elim
 case call c=>
  unfold vcCallM at hv;unfold lu;split at hv
  ·rename_i hc;simp only[hc];unfold one2 at hv;split at hv
   ·rename_i a T e1 e2;obtain⟨ws,h1,w,W,rfl,h2,h3⟩:=eW h e1;cases h3;rw[h1,amh e2];exact zN h h2 hv (fun r w hr hk=>hput _ r w hr hk)
   ·exact hv.elim
  ·rename_i hc;simp only[hc];unfold one2 at hv;split at hv
   ·rename_i a T e1 e2;obtain⟨ws,h1,w,W,rfl,h2,h3⟩:=eW h e1;cases h3;rw[h1,amh e2];unfold CapA vcCap2 at hv;split at hv
    ·rename_i n hn
     have hnc: ∃p c,w= .slice p n c/\n<=c:=by
      obtain⟨p,c,rfl,hp⟩:=ij h2 hn;refine⟨p,c,rfl,?_⟩;cases a with
      |fz sz' l=>obtain⟨p,m,c,V,e1,h5,_⟩:=h2;cases e1;exact h5.cap
      |rf id off len=>
       obtain⟨p',c',sz',q,_,e1,hle,_⟩:=h2;cases e1;simp only[lenD,Option.some.injEq]at hn;omega
      |e0=>obtain⟨p,e1⟩:=h2;cases e1;omega
      |v y=>obtain⟨e1,e2⟩:=uI hn;omega
      |_=>simp[lenD]at hn
     obtain⟨p,c',rfl,hle⟩:=hnc;show AtRead P (t_ #[T] o.type #[.slice p n c']) u _;rw[mH hv.1];exact hput _ (.v (.int .i64 c')) _ ⟨rfl,rfl⟩ (hv.2 c' hle)
    ·exact hv.elim
   ·exact hv.elim
  ·rename_i hc;simp only[hc];obtain⟨vs,e,hv⟩:=ew hv;unfold valsO at e;split at e
   ·rename_i l e1;obtain⟨ws,h1,h2⟩:=eW h e1;rw[h1,xV h2 e];exact atP (us:=us) (β:=β) hv (fun r w hr hk=>hput _ r w hr hk)
   ·cases e
  ·rename_i hc;simp only[hc];obtain⟨vs,e,hv⟩:=ew hv;unfold valsO at e;split at e
   ·rename_i l e1;obtain⟨ws,h1,h2⟩:=eW h e1;rw[h1,xV h2 e];exact atP (us:=us) (β:=β) hv (fun r w hr hk=>hput _ r w hr hk)
   ·cases e
  ·rename_i hc;simp only[hc];unfold two2 at hv;split at hv
   ·rename_i a b T T2 e1 e2;obtain⟨ws,h1,w,W,rfl,h2,w2,W2,rfl,h3,h4⟩:=eW h e1;cases h4;obtain⟨rfl,hv⟩:=hv;rw[h1,amm e2];exact ad4 h h2 h3 hv
   ·exact hv.elim
  ·rename_i hc;simp only[hc];unfold two2 at hv;split at hv
   ·rename_i a b T T2 e1 e2;obtain⟨ws,h1,w,W,rfl,h2,w2,W2,rfl,h3,h4⟩:=eW h e1;cases h4;obtain⟨rfl,hv⟩:=hv;rw[h1,amm e2];exact yY h h2 h3 hv
   ·exact hv.elim
  ·rename_i hc;simp only[hc];unfold one2 at hv;split at hv
   ·rename_i a T e1 e2;obtain⟨ws,h1,w,W,rfl,h2,h4⟩:=eW h e1;cases h4;rw[h1,amh e2];exact adP h h2 hv
   ·exact hv.elim
  ·rename_i f hc;simp only[hc];unfold vcFun2 at hv;split at hv
   ·rename_i vs ds' hp;split at hv
    ·rename_i g first cap hf
     obtain⟨w,h1,A,B,rfl,hA,hB⟩:=h.sv_d hf;rw[h1];simp only;refine np _ ds s β u vs ds' _ hp h (fun s' u' β' ws h2 h3 h4=>?_)
     unfold rz;show AtCall x P g (A++ws++B) u0 u' _;refine AtCall.mono (fun r u2 hr=>?_) (hv u0 β0 β' us s' u' (A++ws++B) h2 ((HVs.append (HVs.append (HVs.mono (Sub.refl us) _ _ _ h3 _ hA) h4) (HVs.mono (Sub.refl us) _ _ _ h3 _ hB))))
     obtain⟨β2,us2,ds2,d2,k1,k2,k3⟩:=hr;exact⟨β2,us2,_,k1.put_d _ k2,k3⟩
    ·exact hv.elim
   ·exact hv.elim
  ·exact hv.elim
end
def gL(P:Program)(x:Bool)(all:List Oper)(o:Oper)(K:DS->Prop)(ds:DS):Prop:=
 match o.guard with
 |none=>ir P x o K ds
 | some (j,want)=>
  match im all j with
  |some d=>
   match ds.get d with
   | .d (.v (.bool c))=>(c=want->ir P x o K ds)/\(c= !want->K (ds.put o.dst (.d undefD)))
   | .d (.tup _)=>K (ds.put o.dst (.d undefD))
   |_=>False
  |none=>False
def i6(P:Program)(all:List Oper)(K:DS->Prop):List Oper->DS->Prop
 |[],ds=>K ds
 |o::r,ds=>gL P false all o (i6 P all K r) ds
def gH(P:Program)(all:List Oper)(K:DS->Prop):List (Nat×Bool)->DS->Prop
 |[],ds=>K ds
 |(i,x)::r,ds=>
  match bx all i with
  |some o=>gL P x all o (gH P all K r) ds
  |none=>False
def ldSVD(ks:List Nat):DSV->Prop
 | .loc k _=>cV ks k=false
 | .unk=>False
 |_=>True
def s7(ks:List Nat)(o:Oper)(ds:DS):Prop:=
 match o.op with
 | .load _ y=>ldSVD ks (ds.sv y)
 |_=>True
def stSVD(ks:List Nat):DSV->Prop
 | .loc k _=>cV ks k=true
 |_=>False
def sO(ks:List Nat)(o:Oper)(ds:DS):Prop:=
 match o.op with
 | .store _ y _=>stSVD ks (ds.sv y)
 |_=>True
def eH(P:Program)(all:List Oper)(ks:List Nat)(K:DS->Prop):List (Nat×Bool)->DS->Prop
 |[],ds=>K ds
 |(i,x)::r,ds=>
  match bx all i with
  |some o=>s7 ks o ds/\(x=true->sO ks o ds)/\gL P x all o (eH P all ks K r) ds
  |none=>False
def leD(ds1 ds:DS):Prop:= ∀u0 β0 β us s u,Rel u0 β0 β us ds s u-> ∃β1 s1,S.le s1 s/\Rel u0 β0 β1 us ds1 s1 u
def LeK2(K:DS->Prop)(ds:DS):Prop:=K ds\/ ∃ds1,leD ds1 ds/\K ds1
def gO(P:Program)(all:List Oper)(K:DS->Prop):OT->DS->Prop
 | .done,ds=>K ds
 | .no,_=>True
 | .fl i t,ds=>
  match bx all i with
  |some o=>gL P false all o (gO P all K t) ds
  |none=>False
 | .eff i x t alt,ds=>
  (match bx all i with
  |some o=>gL P x all o (gO P all K t) ds
  |none=>False)/\gO P all K alt ds
def ldInS(kl:List Nat):DSV->Prop
 | .loc k _=>cV kl k=true
 |_=>False
def xz(kl:List Nat)(o:Oper)(ds:DS):Prop:=
 match o.op with
 | .load _ y=>ldInS kl (ds.sv y)
 |_=>False
def stNoS(kl:List Nat):DSV->Prop
 | .loc k _=>cV kl k=false
 | .unk=>False
 | .d _=>True
 | .elt _ _ _ _=>True
def dsNo(kl:List Nat):Option Nat->Prop
 |some k=>cV kl k=false
 |none=>True
def th(kl:List Nat)(o:Oper)(ds:DS):Prop:=
 match o.op with
 | .store _ y _=>stNoS kl (ds.sv y)
 | .alloc _=>dsNo kl o.dst
 | .box _ _=>dsNo kl o.dst
 |_=>True
def ph(ds:DS):List Nat->Prop
 |[]=>True
 |k::r=>(ds.find k).isSome=true/\ph ds r
def ago(i:Bool)(kl:List Nat)(o:Oper)(ds:DS):Prop:=bif i then xz kl o ds else True
def ed(P:Program)(all:List Oper)(ls kl:List Nat)(K:DS->Prop):List (Nat×Bool)->DS->Prop
 |[],ds=>ph ds kl/\K ds
 |(i,x)::r,ds=>
  match bx all i with
  |some o=>ph ds kl/\ago (cV ls i) kl o ds/\th kl o ds/\gL P x all o (ed P all ls kl K r) ds
  |none=>False
def AtDraw2(P:Program)(ops:Array Oper)(K:DS->Prop)(ds:DS):Prop:=
 (∃ord,af8 ops ord=true/\gH P ops.toList K ord ds)\/(∃t,fH ops m0 t=true/\gO P ops.toList (LeK2 K) t ds)\/(∃ord ks,fH ops ⟨true,[],[],ks⟩ (lin ops ord)=true/\eH P ops.toList ks K ord ds)\/(∃ord ls kl,fH ops ⟨false,ls,kl,[]⟩ (lin ops ord)=true/\ed P ops.toList ls kl K ord ds)\/False
section
variable {P:Program} {u0:World} {β0:Bse}
theorem LiftR.mono{K K':DS->Prop}(h: ∀ds,K ds->K' ds){s:S}{u:World}:LiftR u0 β0 K s u->LiftR u0 β0 K' s u:=fun ⟨β,us,ds,h1,h2⟩=>⟨β,us,ds,h1,h ds h2⟩
theorem ki{x:Bool}{all:List Oper}{o:Oper}{K:DS->Prop}{ds:DS}{s:S}{u us:World}{β:Nat->PB}(h:Rel u0 β0 β us ds s u)(hv:gL P x all o K ds):vcG P x u0 all o (LiftR u0 β0 K) s u:=by
 unfold gL at hv;unfold vcG;cases hg:o.guard with
 |none=>rw[hg]at hv;exact vP h hv
 | some q=>
  obtain⟨j,want⟩:=q;rw[hg]at hv;simp only at hv ⊢;cases hd:im all j with
  |none=>rw[hd]at hv;exact hv.elim
  |some d=>
   rw[hd]at hv;simp only at hv ⊢;have hslot:=h.slot d;split at hv
   ·rename_i c hc;rw[hc]at hslot;obtain⟨w,h1,rfl,_⟩:=hslot;simp only[h1];exact⟨fun e=>vP h (hv.1 e),fun e=>⟨β,us,_,h.put_d _ (x:=undefD) ⟨[],rfl,rfl⟩,hv.2 e⟩⟩
   ·rename_i vs hc;rw[hc]at hslot;obtain⟨w,h1,V,rfl,_⟩:=hslot;simp only[h1];exact⟨β,us,_,h.put_d _ (x:=undefD) ⟨[],rfl,rfl⟩,hv⟩
   ·exact hv.elim
theorem sb{all:List Oper}{K:DS->Prop}: ∀(l:List Oper) (ds:DS) (s:S) (u us:World) (β:Nat->PB),Rel u0 β0 β us ds s u->i6 P all K l ds->kH P u0 all (LiftR u0 β0 K) l s u
 |[],ds,s,u,us,β,h,hv=>⟨β,us,ds,h,hv⟩
 |o::r,ds,s,u,us,β,h,hv=>gN (fun s' u' ⟨β',us',ds',h1,h2⟩=>sb r ds' s' u' us' β' h1 h2) (ki h hv)
theorem uK{ops:Array Oper}{all:List Oper}{m:Md}{K:S->World->Prop}{i:Nat}{x:Bool}{r:List (Nat×Bool)}{o:Oper}{s:S}{u:World}(h1:bx all i=some o)
  (h2:XOk m x i o s/\vcG P x u0 all o (fun s' u'=>XK m o s s'/\vcT P u0 all m K (lin ops r) s' u') s u):vcT P u0 all m K (lin ops ((i,x)::r)) s u:=by
 rw[lin];cases x<;>cases j3 ops i<;>simp only[Bool.not_true,Bool.not_false,Bool.and_true,Bool.and_false,Bool.false_and,Bool.true_and,cond_true,cond_false,vcT,h1]<;>first|exact h2|exact⟨h2,trivial⟩
theorem xok{x:Bool}{i:Nat}{o:Oper}{s:S}:XOk m0 x i o s:=⟨fun h=>(by cases h),fun _=>oh,fun h=>(by cases h)⟩
theorem ta{ops:Array Oper}{all:List Oper}{K:DS->Prop}: ∀(l:List (Nat×Bool)) (ds:DS) (s:S) (u us:World) (β:Nat->PB),Rel u0 β0 β us ds s u->gH P all K l ds->vcT P u0 all m0 (LiftR u0 β0 K) (lin ops l) s u
 |[],ds,s,u,us,β,h,hv=>⟨β,us,ds,h,hv⟩
 | (i,x)::r,ds,s,u,us,β,h,hv=>by
  simp only[gH]at hv;cases ho:bx all i with
  |none=>rw[ho]at hv;exact hv.elim
  |some o=>
   rw[ho]at hv;exact uK ho ⟨xok,gN (fun s' u' ⟨β',us',ds',h1,h2⟩=>⟨⟨trivial,trivial⟩,ta r ds' s' u' us' β' h1 h2⟩) (ki h hv)⟩
theorem anu{ks:List Nat}{o:Oper}{ds:DS}{s:S}{u us:World}{β:Nat->PB}(h:Rel u0 β0 β us ds s u)(hl:s7 ks o ds):aab ks o s:=by
 unfold s7 at hl;unfold aab;split
 ·rename_i T y hop;rw[hop]at hl;simp only at hl;have hs:=h.sv y;cases hy:ds.sv y with
  |unk=>rw[hy]at hl;exact hl.elim
  |d x=>rw[hy]at hs;obtain⟨w,e,_⟩:=hs;rw[e];trivial
  |elt x sz i off=>rw[hy]at hs;obtain⟨w,e,_⟩:=hs;rw[e];trivial
  |loc k off=>rw[hy]at hs hl;have e:s.sv y= .loc k off:=hs;rw[e];exact hl
 ·trivial
theorem amt{ks:List Nat}{o:Oper}{ds:DS}{s:S}{u us:World}{β:Nat->PB}(h:Rel u0 β0 β us ds s u)(hl:sO ks o ds):aiG ks o s:=by
 unfold sO at hl;unfold aiG;split
 ·rename_i T y z hop;rw[hop]at hl;simp only at hl;have hs:=h.sv y;cases hy:ds.sv y with
  |loc k off=>rw[hy]at hs hl;have e:s.sv y= .loc k off:=hs;rw[e];exact hl
  |_=>rw[hy]at hl;exact hl.elim
 ·trivial
theorem oG{ops:Array Oper}{all:List Oper}{ks:List Nat}{K:DS->Prop}: ∀(l:List (Nat×Bool)) (ds:DS) (s:S) (u us:World) (β:Nat->PB),Rel u0 β0 β us ds s u->eH P all ks K l ds->vcT P u0 all ⟨true,[],[],ks⟩ (LiftR u0 β0 K) (lin ops l) s u
 |[],ds,s,u,us,β,h,hv=>⟨β,us,ds,h,hv⟩
 | (i,x)::r,ds,s,u,us,β,h,hv=>by
  simp only[eH]at hv;cases ho:bx all i with
  |none=>rw[ho]at hv;exact hv.elim
  |some o=>
   rw[ho]at hv;exact uK ho ⟨⟨fun h=>(by cases h),fun _=>anu h hv.1,fun _ hx=>amt h (hv.2.1 hx)⟩,afH (fun s' u' hk ⟨β',us',ds',h1,h2⟩=>⟨⟨hk.keepL ks,trivial⟩,oG r ds' s' u' us' β' h1 h2⟩) (ki h hv.2.2)⟩
theorem i4{all:List Oper}{K:DS->Prop}: ∀(t:OT) (ds:DS) (s:S) (u us:World) (β:Nat->PB),Rel u0 β0 β us ds s u->gO P all K t ds->vcT P u0 all m0 (LiftR u0 β0 K) t s u
 | .done,ds,s,u,us,β,h,hv=>⟨β,us,ds,h,hv⟩
 | .no,_,_,_,_,_,_,_=>trivial
 | .fl i t,ds,s,u,us,β,h,hv=>by
  simp only[gO]at hv;simp only[vcT];cases ho:bx all i with
  |none=>rw[ho]at hv;exact hv.elim
  |some o=>
   rw[ho]at hv;exact⟨xok,gN (fun s' u' ⟨β',us',ds',h1,h2⟩=>⟨⟨trivial,trivial⟩,i4 t ds' s' u' us' β' h1 h2⟩) (ki h hv)⟩
 | .eff i x t alt,ds,s,u,us,β,h,hv=>by
  simp only[gO]at hv;simp only[vcT];obtain⟨hv,ha⟩:=hv;refine⟨?_,i4 alt ds s u us β h ha⟩;cases ho:bx all i with
  |none=>rw[ho]at hv;exact hv.elim
  |some o=>
   rw[ho]at hv;exact⟨xok,gN (fun s' u' ⟨β',us',ds',h1,h2⟩=>⟨⟨trivial,trivial⟩,i4 t ds' s' u' us' β' h1 h2⟩) (ki h hv)⟩
theorem LeK2.sound{K:DS->Prop}{s:S}{u:World}(h:LiftR u0 β0 (LeK2 K) s u):LeK (LiftR u0 β0 K) s u:=by
 obtain⟨β,us,ds,h1,h2⟩:=h;rcases h2 with h2|⟨ds1,hle,h2⟩
 ·exact .inl ⟨β,us,ds,h1,h2⟩
 ·obtain⟨β1,s1,h3,h4⟩:=hle _ _ _ _ _ _ h1;exact .inr ⟨s1,h3,β1,us,ds1,h4,h2⟩
theorem wB{ds:DS}: ∀{kl:List Nat},ph ds kl-> ∀k,cV kl k=true->ds.find k≠none
 |j::r,h,k,hm=>by
  simp only[cV]at hm
  by_cases hjk:j=k
  ·subst hjk;have:=h.1;intro e;rw[e]at this;cases this
  ·exact wB h.2 k (by simpa[hjk]using hm)
theorem wD{all:List Oper}{ls kl:List Nat}{K:DS->Prop}: ∀{l:List (Nat×Bool)} {ds:DS},ed P all ls kl K l ds->ph ds kl
 |[],ds,h=>h.1
 |(i,x)::r,ds,h=>by
  simp only[ed]at h;cases ho:bx all i with
  |none=>rw[ho]at h;exact h.elim
  |some o=>rw[ho]at h;exact h.1
theorem wH{s s':S}{d e:Option Nat}(hk:KeptF s s' d e): ∀(kl:List Nat),(∀k,cV kl k=true->d≠some k/\s'.find k≠none)->rQ s s' kl
 |[],_=>trivial
 |k::r,h=>⟨((hk k).resolve_left fun g=>(h k (by simp[cV])).1 g.1).resolve_left (h k (by simp[cV])).2,wH hk r fun j hj=>h j (by simp[cV,hj])⟩
theorem aja{kl:List Nat}{o:Oper}{ds:DS}{s:S}{u us:World}{β:Nat->PB}(h:Rel u0 β0 β us ds s u)(hl:xz kl o ds):aeQ kl o s:=by
 unfold xz at hl;unfold aeQ;split at hl
 ·rename_i T y hop;have hs:=h.sv y;cases hy:ds.sv y with
  |loc k off=>
   rw[hy]at hs hl;have e:s.sv y= .loc k off:=hs;simp only[hop,e];exact hl
  |unk=>rw[hy]at hl;exact hl.elim
  |d x=>rw[hy]at hl;exact hl.elim
  |elt x sz i off=>rw[hy]at hl;exact hl.elim
 ·exact hl.elim
theorem ajT{kl:List Nat}{o:Oper}{ds:DS}{s:S}{u us:World}{β:Nat->PB}(h:Rel u0 β0 β us ds s u)(hl:th kl o ds): ∀k,cV kl k=true->tq o s≠some k:=by
 intro k hk e;unfold th at hl;unfold tq at e;cases hop:o.op with
 |store T y z=>
  rw[hop]at hl e;simp only at hl e;have hs:=h.sv y;cases hd:ds.sv y with
  |loc j off'=>rw[hd]at hs hl;have e':s.sv y= .loc j off':=hs;rw[e']at e;cases e;have hl:cV kl k=false:=hl;rw[hl]at hk;cases hk
  |unk=>rw[hd]at hl;exact hl.elim
  |d x=>rw[hd]at hs;obtain⟨w,e',_⟩:=hs;rw[e']at e;cases e
  |elt x sz i off=>rw[hd]at hs;obtain⟨w,e',_⟩:=hs;rw[e']at e;cases e
 |alloc T=>rw[hop]at hl e;simp only at hl e;rw[e]at hl;have hl:cV kl k=false:=hl;rw[hl]at hk;cases hk
 |box T y=>rw[hop]at hl e;simp only at hl e;rw[e]at hl;have hl:cV kl k=false:=hl;rw[hl]at hk;cases hk
 |_=>rw[hop]at e;cases e
theorem pg{ops:Array Oper}{all:List Oper}{ls kl:List Nat}{K:DS->Prop}: ∀(l:List (Nat×Bool)) (ds:DS) (s:S) (u us:World) (β:Nat->PB),Rel u0 β0 β us ds s u->ed P all ls kl K l ds->vcT P u0 all ⟨false,ls,kl,[]⟩ (LiftR u0 β0 K) (lin ops l) s u
 |[],ds,s,u,us,β,h,hv=>⟨β,us,ds,h,hv.2⟩
 | (i,x)::r,ds,s,u,us,β,h,hv=>by
  simp only[ed]at hv;cases ho:bx all i with
  |none=>rw[ho]at hv;exact hv.elim
  |some o=>
   rw[ho]at hv;obtain⟨_,h2,h3,h4⟩:=hv;refine uK ho ⟨⟨fun hi=>aja h (by rw[show cV ls i=true from hi]at h2;exact h2),fun _=>oh,fun h=>(by cases h)⟩,na (fun s' u' hk ⟨β',us',ds',g1,g2⟩=>⟨⟨trivial,?_⟩,pg r ds' s' u' us' β' g1 g2⟩) (ki h h4)⟩
   refine wH hk kl fun k hm=>⟨ajT h h3 k hm,?_⟩
   have g3:=wB (wD g2) k hm;have g4:=g1.loc k;intro e;cases hf:ds'.find k with
   |none=>exact g3 hf
   |some l=>rw[hf]at g4;obtain⟨l',g5,_⟩:=g4;rw[e]at g5;cases g5
theorem yp{ops:Array Oper}{K:DS->Prop}{ds:DS}{s:S}{u us:World}{β:Nat->PB}(h:Rel u0 β0 β us ds s u)(hv:AtDraw2 P ops K ds):yh P u0 ops (LiftR u0 β0 K) s u:=by
 rcases hv with ⟨ord,h1,h2⟩|⟨t,h1,h2⟩|⟨ord,ks,h1,h2⟩|⟨ord,ls,kl,h1,h2⟩|h2
 ·exact .inl ⟨ord,h1,ta ord ds s u us β h h2⟩
 ·exact .inr ⟨t,_,h1,jo (fun s' u' hk=>LeK2.sound hk) t s u (i4 t ds s u us β h h2)⟩
 ·exact .inr ⟨_,_,h1,jo (fun _ _=>.inl) _ s u (oG ord ds s u us β h h2)⟩
 ·exact .inr ⟨_,_,h1,jo (fun _ _=>.inl) _ s u (pg ord ds s u us β h h2)⟩
 ·exact h2.elim
end
def akE(u0:World)(β0:Bse)(Q:Exit->DS->Prop)(e:Exit)(s:S)(u:World):Prop:=LiftR u0 β0 (Q e) s u
def Vc2(P:Program)(c:Code)(Q:Exit->DS->Prop)(ds:DS):Prop:= ∀u0 β0 β us s u,Rel u0 β0 β us ds s u->Vc P u0 c (akE u0 β0 Q) s u
def dh(id:Nat)(Q:Exit->DS->Prop)(e:Exit)(ds:DS):Prop:=
 match e with
 | .exit j=>bif j==id then LeK2 (Q .normal) ds else Q (.exit j) ds
 | .normal=>LeK2 (Q .normal) ds
 |e=>Q e ds
def gI{γ:Type}(st:γ->DS)(F:γ->Prop)(μ:γ->Nat)(g:γ)(Q:Exit->DS->Prop)(e:Exit)(ds:DS):Prop:=
 match e with
 | .normal=> ∃g',leD (st g') ds/\F g'/\μ g'<μ g
 |e=>Q e ds
def isIf:Code->Bool
 | .cond .. =>true
 |_=>false
def abr(b:Bool)(K:DS->Prop)(Q:Exit->DS->Prop)(e:Exit)(ds:DS):Prop:=
 match e with
 | .normal=>bif b then LeK2 K ds else K ds
 |e=>Q e ds
def vc2(P:Program):Code->(Exit->DS->Prop)->DS->Prop
 | .skip,Q,ds=>Q .normal ds
 | .region _ ops false,Q,ds=>i6 P ops.toList (Q .normal) ops.toList ds
 | .region _ ops true,Q,ds=>AtDraw2 P ops (Q .normal) ds
 | .seq x y,Q,ds=>vc2 P x (abr (isIf x) (vc2 P y Q) Q) ds
 | .cond c x y,Q,ds=>
  match ds.sv c with
  | .d (.v (.bool t))=>(t=true->vc2 P x Q ds)/\(t=false->vc2 P y Q ds)
  |_=>False
 | .block id x,Q,ds=>vc2 P x (dh id Q) ds
 | .loop x,Q,ds=> ∃(γ:Type) (st:γ->DS) (F:γ->Prop) (μ:γ->Nat),(∃g,leD (st g) ds/\F g)/\ ∀g,F g->Vc2 P x (gI st F μ g Q) (st g)
 | .exit id,Q,ds=>Q (.exit id) ds
 | .ret,Q,ds=>Q .ret ds
 |_,_,_=>False
def xt(P:Program)(b:Bool)(y:Code)(Q:Exit->DS->Prop)(e:Exit)(ds:DS):Prop:=abr b (vc2 P y Q) Q e ds
theorem Vc.le{P:Program}{u0:World}{c:Code}{Q:Exit->S->World->Prop}{s s1:S}{u:World}(hle:s1.le s)(h:Vc P u0 c Q s1 u):Vc P u0 c Q s u:=
 fun hm C a w hu hf hs=>h hm C a w hu hf (hs.le_of hle)
theorem Vc.cond{P:Program}{u0:World}{c:Operand}{x y:Code}{Q:Exit->S->World->Prop}{s:S}{u:World}{t:Bool}(hc:s.sv c= .v (.bool t))(h1:t=true->Vc P u0 x Q s u)(h2:t=false->Vc P u0 y Q s u):Vc P u0 (.cond c x y) Q s u:=by
 intro hm C a w hu hf hs;simp only[fits,Bool.and_eq_true]at hf;exact jw (hs.eval_v hc) (fun e=>h1 e hm C a w hu hf.1 hs) (fun e=>h2 e hm C a w hu hf.2 hs)
theorem Vc.blockW{P:Program}{u0:World}{id:Nat}{x:Code}{Q:Exit->S->World->Prop}{s:S}{u:World}(h:Vc P u0 x (fh id Q) s u):Vc P u0 (.block id x) Q s u:=by
 intro hm C a w hu hf hs;refine mh (gP (h hm C a w hu hf hs) ?_);intro e a w hl;cases e with
 |normal=>exact LiftN.of_le hl
 | exit j=>
  obtain⟨s,u,hs,h⟩:=hl;simp only[fh]at h
  by_cases hj:j=id
  ·subst hj;simp only[beq_self_eq_true,cond_true]at h;simp only[Exit.inBlock,if_true];exact LiftN.of_le ⟨s,u,hs,h⟩
  ·have hb:(j==id)=false:=by simpa using hj
   simp only[hb,cond_false]at h;simp only[Exit.inBlock,hj,if_false];exact⟨s,u,hs,h⟩
 |goto l=>exact hl
 |ret=>exact hl
 |panic c=>exact hl
 |outgrown=>exact hl
theorem aca{P:Program}{u0:World}{β0:Bse}: ∀(c:Code) (Q:Exit->DS->Prop) (ds:DS) (s:S) (u us:World) (β:Nat->PB),Rel u0 β0 β us ds s u->vc2 P c Q ds->Vc P u0 c (akE u0 β0 Q) s u:=by
 intro c
 induction c with
 |skip=>intro Q ds s u us β h hv;exact Vc.of (c:=.skip) ⟨β,us,ds,h,hv⟩
 |region id ops draw=>
  intro Q ds s u us β h hv;cases draw with
  |false=>exact Vc.of (c:=.region id ops false) (sb _ ds s u us β h hv)
  |true=>exact Vc.of (c:=.region id ops true) (yp h hv)
 | seq x y ihx ihy=>
  intro Q ds s u us β h hv;refine Vc.seq (Vc.mono ?_ (ihx _ ds s u us β h hv));intro e s' u' hl;obtain⟨β',us',ds',h1,h2⟩:=hl;cases e with
  | normal=>
   simp only[abr]at h2;cases hb:isIf x with
   |false=>rw[hb]at h2;exact ihy Q ds' s' u' us' β' h1 h2
   |true=>
    rw[hb]at h2;rcases h2 with h2|⟨ds1,hle,h2⟩
    ·exact ihy Q ds' s' u' us' β' h1 h2
    ·obtain⟨β1,s1,h3,h4⟩:=hle _ _ _ _ _ _ h1;exact Vc.le h3 (ihy Q ds1 s1 u' us' β1 h4 h2)
  |exit j=>exact⟨β',us',ds',h1,h2⟩
  |ret=>exact⟨β',us',ds',h1,h2⟩
  |goto l=>exact⟨β',us',ds',h1,h2⟩
  |panic c=>exact⟨β',us',ds',h1,h2⟩
  |outgrown=>exact⟨β',us',ds',h1,h2⟩
 |cond c x y ihx ihy=>
  intro Q ds s u us β h hv;simp only[vc2]at hv;split at hv
  ·rename_i t ht;obtain⟨w,h1,rfl,_⟩:=h.sv_d ht;exact Vc.cond h1 (fun e=>ihx Q ds s u us β h (hv.1 e)) (fun e=>ihy Q ds s u us β h (hv.2 e))
  ·exact hv.elim
 | block id x ih=>
  intro Q ds s u us β h hv;refine Vc.blockW (Vc.mono ?_ (ih _ ds s u us β h hv));intro e s' u' hl;cases e with
  |normal=>exact LeK2.sound hl
  |exit j=>
   obtain⟨β',us',ds',h1,h2⟩:=hl;simp only[dh]at h2;simp only[fh];cases hb:(j==id)with
   |true=>rw[hb]at h2;exact LeK2.sound ⟨β',us',ds',h1,h2⟩
   |false=>rw[hb]at h2;exact⟨β',us',ds',h1,h2⟩
  |ret=>exact hl
  |goto l=>exact hl
  |panic c=>exact hl
  |outgrown=>exact hl
 | loop x ih=>
  intro Q ds s u us β h hv;obtain⟨γ,st,F,μ,⟨g0,hle,hF⟩,hround⟩:=hv;refine Vc.of (c:=.loop x) ⟨γ×S,fun x=>x.2,fun x u=>F x.1/\ ∃β us,Rel u0 β0 β us (st x.1) x.2 u,fun x=>μ x.1,?_,?_⟩
  ·obtain⟨β1,s1,h1,h2⟩:=hle _ _ _ _ _ _ h;exact⟨(g0,s1),h1,hF,β1,us,h2⟩
  ·rintro⟨g,s1⟩ u1 ⟨hF1,β1,us1,h1⟩
   refine Vc.mono ?_ (hround g hF1 u0 β0 β1 us1 s1 u1 h1);intro e s2 u2 hl;cases e with
   |normal=>
    obtain⟨β2,us2,ds2,k1,g',k2,k3,k4⟩:=hl;obtain⟨β3,s3,k5,k6⟩:=k2 _ _ _ _ _ _ k1;exact⟨(g',s3),k5,⟨k3,β3,us2,k6⟩,k4⟩
   |exit j=>exact hl
   |ret=>exact hl
   |goto l=>exact hl
   |panic c=>exact hl
   |outgrown=>exact hl
 |exit id=>intro Q ds s u us β h hv;exact Vc.of (c:=.exit id) ⟨β,us,ds,h,hv⟩
 |ret=>intro Q ds s u us β h hv;exact Vc.of (c:=.ret) ⟨β,us,ds,h,hv⟩
 |rangeFunc f ps x y=>intro Q ds s u us β h hv;exact hv.elim
 |scope x=>intro Q ds s u us β h hv;exact hv.elim
 |label l=>intro Q ds s u us β h hv;exact hv.elim
 |goto l=>intro Q ds s u us β h hv;exact hv.elim
 |refuse w=>intro Q ds s u us β h hv;exact hv.elim
theorem Vc2.of{P:Program}{c:Code}{Q:Exit->DS->Prop}{ds:DS}(h:vc2 P c Q ds):Vc2 P c Q ds:=fun _ _ β us s u hr=>aca c Q ds s u us β hr h
theorem Vc2.mono{P:Program}{c:Code}{Q Q':Exit->DS->Prop}{ds:DS}(h: ∀e ds,Q e ds->Q' e ds)(hh:Vc2 P c Q ds):Vc2 P c Q' ds:=fun u0 β0 β us s u hr=>Vc.mono (fun e s u hl=>LiftR.mono (h e) hl) (hh u0 β0 β us s u hr)
