import Derived.Test.YthoihfighiolmaaGreatPt13
set_option linter.unusedSectionVars false
set_option linter.unusedSimpArgs false
set_option linter.unusedVariables false
namespace Go.Eng
inductive Rn where
 |to (id:Nat)
 |nil (sz:Nat)
def rnOf(ι:List (Nat×Rn))(nx id:Nat):Option Rn:=bif decide (id<nx)then some ((lk ι id).getD (.to id))else none
def rnB(β:Nat->PB):Option Rn->PB
 |some (.to id)=>β id
 |some (.nil sz)=>.arr none 0 sz
 |none=>.no
def wkRf(off len:Nat):Option Rn->DV->Prop
 |some (.to id),.rf id' off' len'=>id=id'/\off=off'/\len=len'
 |some (.nil _),.e0=>off=0/\len=0
 |some (.nil _),.v (.slice none 0 0)=>off=0/\len=0
 |_,_=>False
def wkPt(off:Nat):Option Rn->DV->Prop
 |some (.to id),.pt id' off'=>id=id'/\off=off'
 |_,_=>False
def wkE0:DV->Prop
 | .e0=>True
 | .v (.slice none 0 0)=>True
 |_=>False
def wkFz(sz:Nat)(l:List (List DV)):DV->Prop
 | .fz sz' l'=>sz=sz'/\l=l'
 | .e0=>l=[]
 | .v (.slice none 0 0)=>l=[]
 |_=>False
def wkV(x:Value):DV->Prop
 | .v y=>x=y
 |_=>False
def amZ(es:List (UInt8×Nat)):DV->Prop
 | .mp e'=>es=e'
 |_=>False
def wkFp(cs:List DV):DV->Prop
 | .fp cs'=>cs=cs'
 |_=>False
def wkMr:Option Rn->DV->Prop
 |some (.to id),.mr id'=>id=id'
 |_,_=>False
def anm(i off:Nat):Option Rn->DV->Prop
 |some (.to id),.pe id' i' off'=>id=id'/\i=i'/\off=off'
 |_,_=>False
def alr(sz:Nat)(l:List (List DV)):DV->Prop
 | .cz sz' l'=>sz=sz'/\l=l'
 |_=>False
mutual
def wkD (r:Nat->Option Rn):DV->DV->Prop
 | .v x,y=>wkV x y
 | .fz sz l,y=>wkFz sz l y
 | .rf id off len,y=>wkRf off len (r id) y
 | .e0,y=>wkE0 y
 | .pt id off,y=>wkPt off (r id) y
 | .fp cs,y=>wkFp cs y
 | .mp es,y=>amZ es y
 | .mr id,y=>wkMr (r id) y
 | .cz sz l,y=>alr sz l y
 | .pe id i off,y=>anm i off (r id) y
 | .fn f a b,y=>
  match y with
  | .fn f' a' b'=>f=f'/\wkDs r a a'/\wkDs r b b'
  |_=>False
 | .agg cs,y=>
  match y with
  | .agg cs'=>wkDs r cs cs'
  |_=>False
 | .tup cs,y=>
  match y with
  | .tup cs'=>wkDs r cs cs'
  |_=>False
termination_by structural d=>d
def wkDs (r:Nat->Option Rn):List DV->List DV->Prop
 |[],y=>y=[]
 |d::l,y=>
  match y with
  |e::m=>wkD r d e/\wkDs r l m
  |[]=>False
termination_by structural d=>d
end
section
variable {us:World} {β:Nat->PB} {r:Nat->Option Rn}
mutual
theorem gi:(x:DV)->(y:DV)->(w:Value)->wkD r x y->HV us y β w->HV us x (fun id=>rnB β (r id)) w
 | .v x,y,w,h,hv=>by
  simp only[wkD]at h
  unfold wkV at h
  split at h
  ·subst h;exact hv
  ·exact h.elim
 | .fz sz l,y,w,h,hv=>by
  simp only[wkD]at h
  unfold wkFz at h
  split at h
  ·obtain⟨rfl,rfl⟩:=h;exact hv
  ·subst h;obtain⟨p,rfl⟩:=hv;exact⟨p,0,0,[],rfl,Sl.zero us sz p,(fun y hy=>by cases hy),rfl⟩
  ·subst h;obtain⟨rfl,_⟩:=hv;exact⟨none,0,0,[],rfl,Sl.zero us sz none,(fun y hy=>by cases hy),rfl⟩
  ·exact h.elim
 | .rf id off len,y,w,h,hv=>by
  simp only[wkD]at h
  unfold wkRf at h
  split at h
  ·rename_i e
   obtain⟨rfl,rfl,rfl⟩:=h
   obtain⟨p,c,sz,q,h1,h2⟩:=hv
   exact⟨p,c,sz,q,by simp only[e,rnB];exact h1,h2⟩
  ·rename_i sz0 e
   obtain⟨rfl,rfl⟩:=h
   obtain⟨p,rfl⟩:=hv
   exact⟨none,0,sz0,p,by simp only[e,rnB],rfl,Nat.le_refl _,fun h=>absurd rfl h,fun h=>absurd rfl h⟩
  ·rename_i sz0 e
   obtain⟨rfl,rfl⟩:=h
   obtain⟨rfl,_⟩:=hv
   exact⟨none,0,sz0,none,by simp only[e,rnB],rfl,Nat.le_refl _,fun h=>absurd rfl h,fun h=>absurd rfl h⟩
  ·exact h.elim
 | .e0,y,w,h,hv=>by
  simp only[wkD]at h
  unfold wkE0 at h
  split at h
  ·exact hv
  ·obtain⟨rfl,_⟩:=hv;exact⟨none,rfl⟩
  ·exact h.elim
 | .pt id off,y,w,h,hv=>by
  simp only[wkD]at h
  unfold wkPt at h
  split at h
  ·rename_i e
   obtain⟨rfl,rfl⟩:=h
   obtain⟨b,h1,h2⟩:=hv
   exact⟨b,by simp only[e,rnB];exact h1,h2⟩
  ·exact h.elim
 | .fp cs,y,w,h,hv=>by
  simp only[wkD]at h
  unfold wkFp at h
  split at h
  ·subst h;exact hv
  ·exact h.elim
 | .mp es,y,w,h,hv=>by
  simp only[wkD]at h
  unfold amZ at h
  split at h
  ·subst h;exact hv
  ·exact h.elim
 | .mr id,y,w,h,hv=>by
  simp only[wkD]at h
  unfold wkMr at h
  split at h
  ·rename_i e
   subst h
   obtain⟨b,h1,h2⟩:=hv
   exact⟨b,by simp only[e,rnB];exact h1,h2⟩
  ·exact h.elim
 | .cz sz l,y,w,h,hv=>by
  simp only[wkD]at h
  unfold alr at h
  split at h
  ·obtain⟨rfl,rfl⟩:=h;exact hv
  ·exact h.elim
 | .pe id i off,y,w,h,hv=>by
  simp only[wkD]at h
  unfold anm at h
  split at h
  ·rename_i e
   obtain⟨rfl,rfl,rfl⟩:=h
   obtain⟨p,c,sz,h1,h2⟩:=hv
   exact⟨p,c,sz,by simp only[e,rnB];exact h1,h2⟩
  ·exact h.elim
 | .fn f a b,y,w,h,hv=>by
  simp only[wkD]at h
  split at h
  ·obtain⟨rfl,h1,h2⟩:=h
   obtain⟨A,B,rfl,h3,h4⟩:=hv
   exact⟨A,B,rfl,di a _ A h1 h3,di b _ B h2 h4⟩
  ·exact h.elim
 | .agg cs,y,w,h,hv=>by
  simp only[wkD]at h
  split at h
  ·obtain⟨V,rfl,h3⟩:=hv
   exact⟨V,rfl,di cs _ V h h3⟩
  ·exact h.elim
 | .tup cs,y,w,h,hv=>by
  simp only[wkD]at h
  split at h
  ·obtain⟨V,rfl,h3⟩:=hv
   exact⟨V,rfl,di cs _ V h h3⟩
  ·exact h.elim
termination_by structural d=>d
theorem di:(x:List DV)->(y:List DV)->(w:List Value)->wkDs r x y->HVs us y β w->HVs us x (fun id=>rnB β (r id)) w
 |[],y,w,h,hv=>by simp only[wkDs]at h;subst h;exact hv
 | d::l,y,w,h,hv=>by
  simp only[wkDs]at h
  split at h
  ·obtain⟨v,V,h1,h2,h3⟩:=hv
   exact⟨v,V,h1,gi d _ v h.1 h2,di l _ V h.2 h3⟩
  ·exact h.elim
termination_by structural d=>d
end
end
def wkS(r:Nat->Option Rn)(ds1:DS):DSV->DSV->Prop
 | .unk,_=>True
 | .d x,.d y=>wkD r x y
 | .loc k off,.loc k' off'=>k=k'/\off=off'/\(ds1.find k).isSome=true
 | .elt x sz i off,.elt y sz' i' off'=>wkD r x y/\sz=sz'/\i=i'/\off=off'
 |_,_=>False
def wkR(r:Nat->Option Rn)(ds1 ds:DS):List (Nat×DSV)->Prop
 |[]=>True
 |(t,_)::l=>wkS r ds1 (ds1.get t) (ds.get t)/\wkR r ds1 ds l
def wkLoc(r:Nat->Option Rn):Option ek->Option ek->Prop
 |some l,some l'=>l.T=l'.T/\wkDs r l.cs l'.cs
 |none,_=>True
 |_,_=>False
def wkL(r:Nat->Option Rn)(ds1 ds:DS):List (Nat×ek)->Prop
 |[]=>True
 |(k,_)::l=>wkLoc r (ds1.find k) (ds.find k)/\wkL r ds1 ds l
def nt(r:Nat->Option Rn):List (List DV)->List (List DV)->Prop
 |[],y=>y=[]
 |d::l,y=>
  match y with
  |e::m=>wkDs r d e/\nt r l m
  |[]=>False
theorem nK{us:World}{β:Nat->PB}{r:Nat->Option Rn}: ∀(x y:List (List DV)) (w:List (List Value)),nt r x y->HVssB us β y w->HVssB us (fun id=>rnB β (r id)) x w
 |[],y,w,h,hv=>by simp only[nt]at h;subst h;exact hv
 |d::l,[],w,h,_=>by simp[nt]at h
 |d::l,e::m,w,h,⟨v,V,h1,h2,h3⟩=>⟨v,V,h1,di d e v h.1 h2,nK l m V h.2 h3⟩
theorem lC{r:Nat->Option Rn}: ∀{x y:List (List DV)},nt r x y->x.length=y.length
 |[],y,h=>by simp only[nt]at h;subst h;rfl
 |d::l,[],h=>by simp[nt]at h
 |d::l,e::m,h=>by simp[lC h.2]
def wkRow(r:Nat->Option Rn):Row->Option Row->Prop
 | .arr e sz l ro,some (.arr e' sz' l' ro')=>e=e'/\sz=sz'/\l=l'/\ro=ro'
 | .var T cs,some (.var T' cs')=>T=T'/\wkDs r cs cs'
 | .nst e sz l,some (.nst e' sz' l')=>e=e'/\sz=sz'/\nt r l l'
 | .mpr es,some (.mpr es')=>es.map (·.1)=es'.map (·.1)/\wkDs r (es.map (·.2)) (es'.map (·.2))
 | .nst e sz l,some (.arr e' sz' l' ro')=>ro'=false/\e=e'/\sz=sz'/\l=l'
 |_,_=>False
def wkRowN(r:Nat->Option Rn)(ds:DS):Option Row->Option Rn->Prop
 |some row,some (.to id)=>wkRow r row (lk ds.H id)
 |some (.arr _ sz l _),some (.nil sz')=>sz=sz'/\l=[]
 |some (.nst _ sz l),some (.nil sz')=>sz=sz'/\l=[]
 |none,_=>True
 |_,_=>False
def wkH(r:Nat->Option Rn)(ds1 ds:DS):List (Nat×Row)->Prop
 |[]=>True
 |(id,_)::l=>wkRowN r ds (lk ds1.H id) (r id)/\wkH r ds1 ds l
def rnTo:Option Rn->Option Nat
 |some (.to id)=>some id
 |_=>none
def nN(r:Nat->Option Rn)(o:Option Nat)(i:Nat):List (Nat×Row)->Bool
 |[]=>false
 |(j,_)::l=>(bif j==i then false else (match o,rnTo (r j)with|some a,some b=>a==b|_,_=>false))||nN r o i l
def wkInj(r:Nat->Option Rn):List (Nat×Row)->Bool
 |[]=>true
 |(i,_)::l=> !nN r (rnTo (r i)) i l&&wkInj r l
def wkKeys(nb nx:Nat):List (Nat×Rn)->Bool
 |[]=>true
 |(i,_)::l=>decide (nb<=i)&&decide (i<nx)&&wkKeys nb nx l
structure Wk(ι:List (Nat×Rn))(ds1 ds:DS):Prop where
 nb:ds1.nb=ds.nb
 nbx:ds1.nb<=ds1.nx
 keys:wkKeys ds1.nb ds1.nx ι=true
 slots:wkR (rnOf ι ds1.nx) ds1 ds ds1.ρ
 locs:wkL (rnOf ι ds1.nx) ds1 ds ds1.σ
 rows:wkH (rnOf ι ds1.nx) ds1 ds ds1.H
 inj:wkInj (rnOf ι ds1.nx) ds1.H=true
theorem abG{r:Nat->Option Rn}{ds1 ds:DS}: ∀{l:List (Nat×DSV)},wkR r ds1 ds l-> ∀p∈l,wkS r ds1 (ds1.get p.1) (ds.get p.1)
 |[],_,p,hp=>by cases hp
 |(t,x)::l,h,p,hp=>by
  rcases List.mem_cons.1 hp with rfl|hp
  ·exact h.1
  ·exact abG h.2 p hp
theorem abe{r:Nat->Option Rn}{ds1 ds:DS}: ∀{l:List (Nat×ek)},wkL r ds1 ds l-> ∀p∈l,wkLoc r (ds1.find p.1) (ds.find p.1)
 |[],_,p,hp=>by cases hp
 |(t,x)::l,h,p,hp=>by
  rcases List.mem_cons.1 hp with rfl|hp
  ·exact h.1
  ·exact abe h.2 p hp
theorem abL{r:Nat->Option Rn}{ds1 ds:DS}: ∀{l:List (Nat×Row)},wkH r ds1 ds l-> ∀p∈l,wkRowN r ds (lk ds1.H p.1) (r p.1)
 |[],_,p,hp=>by cases hp
 |(t,x)::l,h,p,hp=>by
  rcases List.mem_cons.1 hp with rfl|hp
  ·exact h.1
  ·exact abL h.2 p hp
theorem mi{r:Nat->Option Rn}{i a:Nat}: ∀{l:List (Nat×Row)},nN r (some a) i l=false-> ∀p∈l,p.1≠i->rnTo (r p.1)≠some a
 |[],_,p,hp,_=>by cases hp
 | (j,x)::l,h,p,hp,hne=>by
  simp only[nN,Bool.or_eq_false_iff]at h;rcases List.mem_cons.1 hp with rfl|hp
  ·have hb:(j==i)=false:=by simpa using hne
   have h1:=h.1;rw[hb]at h1;intro e;simp only at e;rw[e]at h1;simp at h1
  ·exact mi h.2 p hp hne
theorem s_{r:Nat->Option Rn}: ∀{l:List (Nat×Row)},wkInj r l=true-> ∀p∈l, ∀q∈l,p.1≠q.1-> ∀a,rnTo (r p.1)=some a->rnTo (r q.1)≠some a
 |[],_,p,hp,_,_,_,_,_=>by cases hp
 |(i,x)::l,h,p,hp,q,hq,hne,a,ha=>by
  simp only[wkInj,Bool.and_eq_true,Bool.not_eq_true']at h;rcases List.mem_cons.1 hp with rfl|hp<;>rcases List.mem_cons.1 hq with rfl|hq
  ·exact absurd rfl hne
  ·have h1:=h.1;simp only at ha;rw[ha]at h1;exact mi h1 q hq (fun e=>hne e.symm)
  ·intro e;have h1:=h.1;simp only at e;rw[e]at h1;exact mi h1 p hp hne ha
  ·exact s_ h.2 p hp q hq hne a ha
theorem oK{nb nx:Nat}: ∀{l:List (Nat×Rn)},wkKeys nb nx l=true-> ∀i x,lk l i=some x->nb<=i/\i<nx
 |[],_,i,x,h=>by cases h
 |(j,y)::l,hk,i,x,h=>by
  simp only[wkKeys,Bool.and_eq_true,decide_eq_true_eq]at hk
  by_cases e:j=i
  ·subst e;exact hk.1
  ·rw[aj e]at h;exact oK hk.2 i x h
theorem jV{α:Type}(k:Nat->Bool): ∀(l:List (Nat×α)) (t:Nat),lk (l.filter fun p=>k p.1) t=if k t=true then lk l t else none
 |[],t=>by simp[lk]
 | (i,x)::l,t=>by
  by_cases hk:k i=true
  ·rw[List.filter_cons_of_pos (by simpa using hk)]
   by_cases e:i=t
   ·subst e;rw[au,au,if_pos hk]
   ·rw[aj e,aj e];exact jV k l t
  ·rw[List.filter_cons_of_neg (by simpa using hk),jV k l t]
   by_cases e:i=t
   ·subst e;rw[if_neg hk,if_neg hk]
   ·rw[aj e]
def sk:DSV->Bool
 | .unk=>true
 |_=>false
theorem akf{ds1 ds:DS}(ι:List (Nat×Rn))(h:Wk ι ds1 ds):leD ds1 ds:=by
  intro u0 β0 β us s u hr;refine⟨fun id=>rnB β (rnOf ι ds1.nx id),⟨s.ρ.filter fun p=> !sk (ds1.get p.1),s.σ.filter fun p=>(ds1.find p.1).isSome⟩,?_,?_⟩
  all_goals
    have hget: ∀t,(⟨s.ρ.filter fun p=> !sk (ds1.get p.1),s.σ.filter fun p=>(ds1.find p.1).isSome⟩:S).get t=if sk (ds1.get t)=true then .unk else s.get t:=by
      intro t;unfold S.get;simp only;rw[jV (fun t=> !sk (ds1.get t))]
      cases hu:sk (ds1.get t)<;>simp
    have hfind: ∀k,(⟨s.ρ.filter fun p=> !sk (ds1.get p.1),s.σ.filter fun p=>(ds1.find p.1).isSome⟩:S).find k=if (ds1.find k).isSome=true then s.find k else none:=by
      intro k;unfold S.find;simp only;rw[jV (fun k=>(ds1.find k).isSome)]
    have hslot : ∀t,wkS (rnOf ι ds1.nx) ds1 (ds1.get t) (ds.get t):=by
      intro t;cases hl:lk ds1.ρ t with
      | none => have:ds1.get t= .unk:=by unfold DS.get;rw[hl];rfl
                rw[this];trivial
      |some x=>exact abG h.slots (t,x) (de hl)
    have hloc : ∀ k,wkLoc (rnOf ι ds1.nx) (ds1.find k) (ds.find k):=by
      intro k;cases hl:ds1.find k with
      |none=>trivial
      | some x => have:=abe h.locs (k,x) (de hl)
                  simp only at this;rw[hl]at this;exact this
  · refine ⟨fun t=>?_,fun t k off ht=>?_,fun k=>?_⟩
    · rw[hget]
      split
      · exact .inl rfl
      · exact .inr rfl
    · rw [hget]at ht
      split at ht
      · cases ht
      · rename_i hu
        have h1:=hslot t;have h2:=hr.slot t;rw[ht]at h2;cases hx:ds1.get t with
        |unk=>rw[hx]at hu;exact absurd rfl hu
        | d x=>
          rw[hx]at h1;cases hy:ds.get t with
          |d y=>rw[hy]at h2;obtain⟨w,e,_⟩:=h2;cases e
          |_=>rw[hy]at h1;exact h1.elim
        | elt x sz i off=>
          rw[hx]at h1;cases hy:ds.get t with
          |elt y sz i off=>rw[hy]at h2;obtain⟨w,e,_⟩:=h2;cases e
          |_=>rw[hy]at h1;exact h1.elim
        | loc k' off'=>
          rw[hx]at h1;cases hy:ds.get t with
          | loc k2 off2=>
            rw[hy]at h2 h1;have e:SV.loc k off= .loc k2 off2:=h2;cases e;obtain⟨rfl,rfl,h3⟩:=h1;have h4:=hloc k';obtain⟨l1,hl1⟩:=Option.isSome_iff_exists.1 h3;rw[hl1]at h4;cases hl:ds.find k' with
            |none=>rw[hl]at h4;exact h4.elim
            | some l=>
              have h5:=hr.loc k';rw[hl]at h5;obtain⟨l',h6,_⟩:=h5;left;rw[hfind,if_pos h3,h6];intro e;cases e
          |_=>rw[hy]at h1;exact h1.elim
    · rw[hfind]
      split
      · exact .inr rfl
      · exact .inl rfl
  · have hrn : ∀id,id<ds1.nx->rnOf ι ds1.nx id=some ((lk ι id).getD (.to id)):=fun id hi=>by unfold rnOf;rw[decide_eq_true hi];rfl
    have hrn': ∀id,ds1.nx<=id->rnOf ι ds1.nx id=none:=fun id hi=>by unfold rnOf;rw[decide_eq_false (by omega)];rfl
    have hrow: ∀id r,lk ds1.H id=some r->wkRowN (rnOf ι ds1.nx) ds (some r) (rnOf ι ds1.nx id):=fun id r hl=>by
      have:=abL h.rows (id,r) (de hl);simp only at this;rw[hl]at this;exact this
    refine⟨hr.base,hr.sub,fun t=>?_,fun k=>?_,fun id r hl=>?_,fun id hi=>?_,fun id hi=>?_,h.nbx,fun i j ri rj b hij hi hj hbi hbj=>?_⟩
    · rw [hget]
      have h1:=hslot t;have h2:=hr.slot t;cases hx:ds1.get t with
      |unk=>trivial
      | d x=>
        rw[hx]at h1;cases hy:ds.get t with
        | d y=>
          rw[hy]at h1 h2;obtain⟨w,e,hw⟩:=h2;exact⟨w,e,gi x y w h1 hw⟩
        |_=>rw[hy]at h1;exact h1.elim
      | elt x sz i off=>
        rw[hx]at h1;cases hy:ds.get t with
        | elt y sz' i' off'=>
          rw[hy]at h1 h2;obtain⟨h1,rfl,rfl,rfl⟩:=h1;obtain⟨w,e,hw⟩:=h2;exact⟨w,e,gi x y w h1 hw⟩
        |_=>rw[hy]at h1;exact h1.elim
      | loc k off=>
        rw[hx]at h1;cases hy:ds.get t with
        | loc k' off'=>
          rw[hy]at h1 h2;obtain⟨rfl,rfl,_⟩:=h1;exact h2
        |_=>rw[hy]at h1;exact h1.elim
    · have h1:=hloc k
      have h2:=hr.loc k;rw[hfind];cases hx:ds1.find k with
      |none=>rfl
      | some l1=>
        rw[hx]at h1;cases hy:ds.find k with
        |none=>rw[hy]at h1;exact h1.elim
        | some l=>
          rw[hy]at h1 h2;obtain⟨l',e1,e2,e3,e4⟩:=h2;exact⟨l',e1,by rw[e2,h1.1],di _ _ _ h1.2 e3,e4⟩
    · have h1:=hrow id r hl
      have hid:id<ds1.nx:=by
        rcases Nat.lt_or_ge id ds1.nx with h2|h2
        · exact h2
        · rw[hrn' id h2]at h1;cases r<;>exact h1.elim
      refine⟨hid,?_⟩;rw[hrn id hid]at h1 ⊢;cases hq:(lk ι id).getD (.to id)with
      | to id'=>
        rw[hq]at h1;have h1:wkRow (rnOf ι ds1.nx) r (lk ds.H id'):=by cases r<;>exact h1
        cases hl':lk ds.H id' with
        |none=>rw[hl']at h1;cases r<;>exact h1.elim
        | some row=>
          rw[hl']at h1;have h2:=(hr.row id' row hl').2;cases r<;>cases row<;>first|exact h1.elim|skip
          · obtain⟨rfl,rfl,rfl,rfl⟩:=h1;exact h2
          · obtain⟨rfl,h1⟩:=h1
            obtain⟨b,V,g1,g2,g3,g4,g5,g6⟩:=h2;exact⟨b,V,g1,g2,g3,g4,di _ _ _ h1 g5,g6⟩
          · obtain⟨rfl,rfl,rfl,rfl⟩:=h1
            obtain⟨p,c,g1,g2,g3⟩:=h2;exact⟨p,c,g1,g2,g3.imp (fun h=>h) fun ⟨c0,V,g4,g5,g6,g7⟩=>⟨c0,V,g4,g5,g6,HVssB.of g7⟩⟩
          · obtain⟨rfl,rfl,h1⟩:=h1
            obtain⟨p,c,g1,g2,g3⟩:=h2;have hll:=lC h1;exact⟨p,c,g1,by rw[hll];exact g2,g3.imp (fun h=>⟨h.1,List.eq_nil_of_length_eq_zero (by rw[hll,h.2];rfl)⟩) fun ⟨c0,V,g4,g5,g6,g7⟩=>⟨c0,V,by rw[hll];exact g4,g5,g6,nK _ _ _ h1 g7⟩⟩
          · obtain⟨h1,h1'⟩:=h1
            obtain⟨r,clock,ents,g1,g2,g3,g4,g5,g6,g7⟩:=h2;exact⟨r,clock,ents,g1,g2,g3,g4,by rw[h1];exact g5,di _ _ _ h1' g6,g7⟩
      | nil sz'=>
        rw[hq]at h1;cases r with
        | arr e sz l ro=>
          obtain⟨rfl,rfl⟩:=h1;refine⟨none,0,rfl,Nat.le_refl _,?_⟩;cases ro with
          |true=>exact⟨[],Sl.zero us sz none,(fun y hy=>by cases hy),rfl⟩
          |false=>exact .inl ⟨rfl,rfl⟩
        |var T cs=>exact h1.elim
        |mpr es0=>exact h1.elim
        | nst e0 sz0 l0=>
          obtain⟨rfl,rfl⟩:=h1;exact⟨none,0,rfl,Nat.le_refl _,.inl ⟨rfl,rfl⟩⟩
    · show rnB β (rnOf ι ds1.nx id)= .no
      rw[hrn' id hi];rfl
    · show rnB β (rnOf ι ds1.nx id)=β0.1 id
      have h1:=h.nbx;rw[hrn id (by omega)]
      have h2:lk ι id=none:=by
        cases hl:lk ι id with
        |none=>rfl
        |some x=>have:=(oK h.keys id x hl).1;omega
      rw[h2];exact hr.fix id (by rw[<-h.nb];exact hi)
    · have key : ∀k rk,lk ds1.H k=some rk->bz (rnB β (rnOf ι ds1.nx k)) rk=some b-> ∃k' row,rnTo (rnOf ι ds1.nx k)=some k'/\lk ds.H k'=some row/\bz (β k') row=some b:=by
        intro k rk hk hb;have h1:=hrow k rk hk;cases hq:rnOf ι ds1.nx k with
        |none=>rw[hq]at h1;cases rk<;>exact h1.elim
        | some q=>
          rw[hq]at h1 hb;cases q with
          | nil sz'=>
            cases rk with
            |arr e sz l ro=>simp[rnB,bz]at hb
            |var T cs=>exact h1.elim
            |mpr es0=>exact h1.elim
            |nst e0 sz0 l0=>simp[rnB,bz]at hb
          | to k'=>
            have h1:wkRow (rnOf ι ds1.nx) rk (lk ds.H k'):=by cases rk<;>exact h1
            cases hl':lk ds.H k' with
            |none=>rw[hl']at h1;cases rk<;>exact h1.elim
            | some row=>
              rw[hl']at h1;refine⟨k',row,rfl,hl',?_⟩;cases rk<;>cases row<;>first|exact h1.elim|skip
              · obtain⟨rfl,rfl,rfl,rfl⟩:=h1;exact hb
              all_goals
                try obtain⟨rfl,rfl,rfl,rfl⟩:=h1
                have hb':bz (β k') _=some b:=hb;cases hβ:β k'<;>rw[hβ]at hb'<;>first|exact hb'|cases hb'
      obtain⟨i',r1,a1,a2,a3⟩:=key i ri hi hbi;obtain⟨j',r2,b1,b2,b3⟩:=key j rj hj hbj
      have hne:i'≠j':=by
        intro e;subst e;exact s_ h.inj (i,ri) (de hi) (j,rj) (de hj) hij i' a1 b1
      exact hr.dist i' j' r1 r2 b hne a2 b2 a3 b3
theorem S.le.refl(s:S):s.le s:=⟨fun _=>.inr rfl,fun _ _ _ _=>.inr rfl,fun _=>.inr rfl⟩
theorem leD.refl(ds:DS):leD ds ds:=fun _ _ β _ s _ h=>⟨β,s,S.le.refl s,h⟩
theorem kP{ds1 ds:DS}(h1: ∀t,ds1.get t= .unk\/ds.get t=ds1.get t)(h2:ds1.σ=ds.σ)(h3:ds1.H=ds.H)(h4:ds1.nx=ds.nx)(h5:ds1.nb=ds.nb):leD ds1 ds:=by
 intro u0 β0 β us s u h;refine⟨β,s,S.le.refl s,h.base,h.sub,fun t=>?_,fun k=>?_,fun id r hr=>?_,fun id hi=>?_,fun id hi=>?_,?_,fun i j ri rj b hij hi hj=>?_⟩
 ·rcases h1 t with e|e
  ·rw[e];trivial
  ·rw[<-e];exact h.slot t
 ·have:=h.loc k;have e:ds1.find k=ds.find k:=by unfold DS.find;rw[h2]
  rw[e];exact this
 ·rw[h3]at hr;rw[h4];exact h.row id r hr
 ·rw[h4]at hi;exact h.nos id hi
 ·rw[h5]at hi;exact h.fix id hi
 ·rw[h4,h5];exact h.nbx
 ·rw[h3]at hi hj;exact h.dist i j ri rj b hij hi hj
theorem aa{ds1 ds:DS}(ι:List (Nat×Rn))(h:ds1.nb=ds.nb/\ds1.nb<=ds1.nx/\wkKeys ds1.nb ds1.nx ι=true/\wkInj (rnOf ι ds1.nx) ds1.H=true/\wkR (rnOf ι ds1.nx) ds1 ds ds1.ρ/\wkL (rnOf ι ds1.nx) ds1 ds ds1.σ/\wkH (rnOf ι ds1.nx) ds1 ds ds1.H):leD ds1 ds:=
 akf ι ⟨h.1,h.2.1,h.2.2.1,h.2.2.2.2.1,h.2.2.2.2.2.1,h.2.2.2.2.2.2,h.2.2.2.1⟩
end Go.Eng
namespace Go.Eng
def initD:Nat->List DV->List (Nat×DSV)
 |_,[]=>[]
 |i,d::r=>(i,.d d)::initD (i+1) r
theorem we{u:World}: ∀{args:List DV} {vs:List Value} (i:Nat),HVs u args noB vs-> ∀t,HS u noB ((lk (initD i args) t).getD .unk) ((lk (ft i vs) t).getD .unk)
 |[],vs,i,h,t=>by cases h;trivial
 |d::r,vs,i,⟨v,V,h1,h2,h3⟩,t=>by
  subst h1;simp only[initD,ft]
  by_cases e:i=t
  ·subst e;rw[au,au];exact⟨v,rfl,h2⟩
  ·rw[aj e,aj e];exact we (i+1) h3 t
theorem rH{u:World}{β:Nat->PB}: ∀{args:List DV} {vs:List Value} (i:Nat),HVs u args β vs-> ∀t,HS u β ((lk (initD i args) t).getD .unk) ((lk (ft i vs) t).getD .unk)
 |[],vs,i,h,t=>by cases h;trivial
 |d::r,vs,i,⟨v,V,h1,h2,h3⟩,t=>by
  subst h1;simp only[initD,ft]
  by_cases e:i=t
  ·subst e;rw[au,au];exact⟨v,rfl,h2⟩
  ·rw[aj e,aj e];exact rH (i+1) h3 t
def dvO:DSV->Option DV
 | .d x=>some x
 |_=>none
def resCell(ds:DS)(y:DSV)(l:Option (Bool×Nat)):Option DV:=
 match y,l with
 | .loc k off,some (ag,n)=>ldsD ag n off (locCs (ds.find k))
 |_,_=>none
def aL(P:Program)(ds:DS):ResultVar->Option DV
 | .tmp t=>dvO (ds.get t)
 | .cell t T=>resCell ds (ds.get t) (lay P T)
def tup2:Option DV->Option DV->Option DV
 |some a,some b=>some (.tup [a,b])
 |_,_=>none
def tup3:Option DV->Option DV->Option DV->Option DV
 |some a,some b,some c=>some (.tup [a,b,c])
 |_,_,_=>none
def tup4:Option DV->Option DV->Option DV->Option DV->Option DV
 |some a,some b,some c,some d=>some (.tup [a,b,c,d])
 |_,_,_,_=>none
def tup5:Option DV->Option DV->Option DV->Option DV->Option DV->Option DV
 |some a,some b,some c,some d,some e=>some (.tup [a,b,c,d,e])
 |_,_,_,_,_=>none
def bY(P:Program)(ds:DS):List ResultVar->Option DV
 |[]=>some (.tup [])
 |[x]=>aL P ds x
 |[x,y]=>tup2 (aL P ds x) (aL P ds y)
 |[x,y,z]=>tup3 (aL P ds x) (aL P ds y) (aL P ds z)
 |[x,y,z,t]=>tup4 (aL P ds x) (aL P ds y) (aL P ds z) (aL P ds t)
 |[x,y,z,t,q]=>tup5 (aL P ds x) (aL P ds y) (aL P ds z) (aL P ds t) (aL P ds q)
 |_=>none
section
variable {P:Program} {u0 u us:World} {β0:Bse} {β:Nat->PB} {ds:DS} {s:S}
theorem br(h:Rel u0 β0 β us ds s u){x:ResultVar}{d:DV}(hd:aL P ds x=some d): ∃v,bW P s x=some v/\HV us d β v:=by
 cases x with
 | tmp t=>
  simp only[aL]at hd;have hs:=h.slot t;cases hg:ds.get t with
  |d y=>
   rw[hg]at hd hs;cases hd;obtain⟨w,e,hw⟩:=hs;exact⟨w,by simp only[bW,e,S.val],hw⟩
  |_=>rw[hg]at hd;cases hd
 | cell t T=>
  simp only[aL]at hd;have hs:=h.slot t;unfold resCell at hd;split at hd
  ·rename_i k off ag n hg hl;rw[hg]at hs;have e:s.get t= .loc k off:=hs;obtain⟨cs,h1,h2⟩:=jr hd;have hloc:=h.loc k;cases hf:ds.find k with
   |none=>rw[hf]at h1;cases h1
   |some l=>
    rw[hf]at h1 hloc;cases h1;obtain⟨l',h3,h4,h5,h6⟩:=hloc;obtain⟨h7,h8,h9⟩:=h5.ld h2;exact⟨_,by simp only[bW,e,hl,h3];rw[if_pos ⟨h7,h8⟩],h9⟩
  ·cases hd
theorem lM(h:Rel u0 β0 β us ds s u){rs:List ResultVar}{d:DV}(hd:bY P ds rs=some d): ∃v,cL P s rs=some v/\HV us d β v:=by
 match rs,hd with
 |[],hd=>simp only[bY,Option.some.injEq]at hd;subst hd;exact⟨_,rfl,[],rfl,rfl⟩
 |[x],hd=>exact br h hd
 |[x,y],hd=>
  simp only[bY]at hd;cases h1:aL P ds x<;>cases h2:aL P ds y<;>rw[h1,h2]at hd<;>first|(cases hd;done)|skip
  cases hd;obtain⟨v1,e1,g1⟩:=br h h1;obtain⟨v2,e2,g2⟩:=br h h2;exact⟨.tuple #[v1,v2],by simp only[cL,e1,e2],[v1,v2],rfl,v1,_,rfl,g1,v2,_,rfl,g2,rfl⟩
 |[x,y,z],hd=>
  simp only[bY]at hd;cases h1:aL P ds x<;>cases h2:aL P ds y<;>cases h3:aL P ds z<;>rw[h1,h2,h3]at hd<;>first|(cases hd;done)|skip
  cases hd;obtain⟨v1,e1,g1⟩:=br h h1;obtain⟨v2,e2,g2⟩:=br h h2;obtain⟨v3,e3,g3⟩:=br h h3;exact⟨.tuple #[v1,v2,v3],by simp only[cL,e1,e2,e3],[v1,v2,v3],rfl,v1,_,rfl,g1,v2,_,rfl,g2,v3,_,rfl,g3,rfl⟩
 |[x,y,z,t],hd=>
  simp only[bY]at hd;cases h1:aL P ds x<;>cases h2:aL P ds y<;>cases h3:aL P ds z<;>cases h4:aL P ds t<;>rw[h1,h2,h3,h4]at hd<;>first|(cases hd;done)|skip
  cases hd;obtain⟨v1,e1,g1⟩:=br h h1;obtain⟨v2,e2,g2⟩:=br h h2;obtain⟨v3,e3,g3⟩:=br h h3;obtain⟨v4,e4,g4⟩:=br h h4;exact⟨.tuple #[v1,v2,v3,v4],by simp only[cL,e1,e2,e3,e4],[v1,v2,v3,v4],rfl,v1,_,rfl,g1,v2,_,rfl,g2,v3,_,rfl,g3,v4,_,rfl,g4,rfl⟩
 |[x,y,z,t,q],hd=>
  simp only[bY]at hd;cases h1:aL P ds x<;>cases h2:aL P ds y<;>cases h3:aL P ds z<;>cases h4:aL P ds t<;>cases h5:aL P ds q<;>rw[h1,h2,h3,h4,h5]at hd<;>first|(cases hd;done)|skip
  cases hd;obtain⟨v1,e1,g1⟩:=br h h1;obtain⟨v2,e2,g2⟩:=br h h2;obtain⟨v3,e3,g3⟩:=br h h3;obtain⟨v4,e4,g4⟩:=br h h4;obtain⟨v5,e5,g5⟩:=br h h5;exact⟨.tuple #[v1,v2,v3,v4,v5],by simp only[cL,e1,e2,e3,e4,e5],[v1,v2,v3,v4,v5],rfl,v1,_,rfl,g1,v2,_,rfl,g2,v3,_,rfl,g3,v4,_,rfl,g4,v5,_,rfl,g5,rfl⟩
 |_::_::_::_::_::_::_,hd=>simp[bY]at hd
end
structure Res where
 d:DV
 H:List (Nat×Row)
 nx:Nat
def resS(d:DV)(H:List (Nat×Row))(nx:Nat):DS:=⟨[(0,.d d)],[],H,nx,0⟩
def aiC(u u':World)(r:Res)(v:Value):Prop:= ∃β us s,Rel u (noB,u) β us (resS r.d r.H r.nx) s u'/\s.get 0= .v v
def Con2(P:Program)(f:FuncId)(args:List DV)(Q:Res->Prop):Prop:= ∀u vs,HVs u args noB vs->Con P f vs u fun v u'=> ∃r,Q r/\aiC u u' r v
def RetD(Q:Res->Prop)(ds:DS)(d:DV):Prop:= ∃r,Q r/\leD (resS r.d r.H r.nx) (resS d ds.H ds.nx)
def rl(P:Program)(rs:List ResultVar)(Q:Res->Prop)(e:Exit)(ds:DS):Prop:=
 match e with
 | .normal=>OptK (bY P ds rs) (RetD Q ds)
 | .ret=>OptK (bY P ds rs) (RetD Q ds)
 |_=>False
theorem nS{P:Program}(hm:P.follows .mixedOrders=true){f:FuncId}{fn:Func}{c:Code}(hf:P.funcs[f]? =some fn)(hb:fn.body=some c)(hbody:cW P f=true)
  (hfit:fits fn.ntmps c=true) {args:List DV} (hn:Nat.ble args.length fn.ntmps=true) (rs:List ResultVar) (hrs:fn.results.toList=rs) {Q:Res->Prop}
  (h:Vc2 P c (rl P rs Q) ⟨initD 0 args,[],[],0,0⟩):Con2 P f args Q:=by
 intro u vs hv;refine yH hm hf hb hbody hfit (by rw[hv.length];exact hn) rs hrs ?_
 have hr0:Rel u (noB,u) noB u ⟨initD 0 args,[],[],0,0⟩ ⟨ft 0 vs,[]⟩ u:=
  ⟨⟨Sub.refl u,Sub.refl u⟩,Sub.refl u,we 0 hv,fun k=>rfl,(fun id r hr=>by cases hr),fun id _=>rfl,fun id hi=>absurd hi (Nat.not_lt_zero _),Nat.le_refl _,(fun i j ri rj b _ hi=>by cases hi)⟩
 refine Vc.mono ?_ (h u (noB,u) noB u _ u hr0);intro e s' u' hl
 have fin: ∀d β us ds,Rel u (noB,u) β us ds s' u'->bY P ds rs=some d->(∃r,Q r/\leD (resS r.d r.H r.nx) (resS d ds.H ds.nx))->kC (fun r u'=>Sub u u'/\ ∃r',Q r'/\aiC u u' r' r) (cL P s' rs) u':=by
  intro d β us ds hr hd ⟨r,hQ,hle⟩;obtain⟨v,hv,hd2⟩:=lM hr hd;unfold kC;rw[hv];refine⟨hr.base.1.trans hr.sub,r,hQ,?_⟩
  have hr2:Rel u (noB,u) β us (resS d ds.H ds.nx) ⟨[(0,.v v)],[]⟩ u':=by
   refine⟨hr.base,hr.sub,fun t=>?_,fun k=>rfl,hr.row,hr.nos,fun id hi=>absurd hi (Nat.not_lt_zero _),Nat.zero_le _,hr.dist⟩
   show HS us β ((lk [(0,.d d)] t).getD .unk) ((lk [(0,.v v)] t).getD .unk)
   by_cases e:0=t
   ·subst e;exact⟨v,rfl,hd2⟩
   ·rw[aj e];trivial
  obtain⟨β1,s1,h1,h2⟩:=hle _ _ _ _ _ _ hr2;refine⟨β1,us,s1,h2,?_⟩;have h3:=h2.slot 0;obtain⟨w,e,_⟩: ∃w,s1.get 0= .v w/\HV us r.d β1 w:=h3;rcases h1.get 0 with h4|h4
  ·rw[e]at h4;cases h4
  ·rw[<-h4];rfl
 obtain⟨β,us,ds,hr,hk⟩:=hl;cases e with
 |normal=>obtain⟨d,hd,hk⟩:=ew hk;exact fin d β us ds hr hd hk
 |ret=>obtain⟨d,hd,hk⟩:=ew hk;exact fin d β us ds hr hd hk
 |exit j=>exact hk.elim
 |goto l=>exact hk.elim
 |panic c=>exact hk.elim
 |outgrown=>exact hk.elim
theorem tX{P:Program}(hm:P.follows .mixedOrders=true){f:FuncId}{fn:Func}{c:Code}(hf:P.funcs[f]? =some fn)(hb:fn.body=some c)(hbody:cW P f=true)
  (hfit:fits fn.ntmps c=true) {args:List DV} (hn:Nat.ble args.length fn.ntmps=true) (rs:List ResultVar) (hrs:fn.results.toList=rs) {Q:Res->Prop}
  (h:vc2 P c (rl P rs Q) ⟨initD 0 args,[],[],0,0⟩):Con2 P f args Q:=nS hm hf hb hbody hfit hn rs hrs (Vc2.of h)
def lr:Obj->Bool
 | .pending c e=>c.isEmpty&&e==0
 |_=>false
theorem lj{o:Obj}:lr o=true↔o=i5:=by
 constructor
 ·intro h;cases o<;>simp[lr]at h
  obtain⟨rfl,rfl⟩:=h;rfl
 ·rintro rfl;rfl
def xT(a b:Option Obj):Obj:=
 match a with
 |some o=>bif lr o then b.getD i5 else o
 |none=>b.getD i5
def mrg(u v:World):World:={ u with heap:=((List.range (max u.heap.size v.heap.size)).map fun i=>xT u.heap[i]? v.heap[i]?).toArray }
theorem zO(u v:World)(b:Nat):(mrg u v).heap[b]? =if b<max u.heap.size v.heap.size then some (xT u.heap[b]? v.heap[b]?)else none:=by grind [mrg]
theorem wE(u v:World):Sub u (mrg u v):=by
 intro b o hb ho;have h:=ba hb;rw[zO,if_pos (by omega),hb]
 have:lr o=false:=by cases hj:lr o with|false=>rfl|true=>exact absurd (lj.1 hj) ho
 simp[xT,this]
theorem rm{u v:World}{b:Nat}{o:Obj}(h:(mrg u v).heap[b]? =some o)(ho:o≠i5):u.heap[b]? =some o\/(Fresh u b/\v.heap[b]? =some o):=by
 rw[zO]at h;split at h
 ·simp only[Option.some.injEq]at h;cases hu:u.heap[b]? with
  |none=>
   rw[hu]at h;simp only[xT]at h;cases hv:v.heap[b]? with
   |none=>rw[hv]at h;exact absurd h.symm ho
   |some o'=>rw[hv]at h;cases h;exact .inr ⟨(fun o2 h2=>by rw[hu]at h2;cases h2),rfl⟩
  | some o1=>
   rw[hu]at h;simp only[xT]at h;cases hj:lr o1 with
   |false=>rw[hj]at h;cases h;exact .inl rfl
   |true=>
    rw[hj]at h;simp only[cond_true]at h;have e:=lj.1 hj;cases hv:v.heap[b]? with
    |none=>rw[hv]at h;exact absurd h.symm ho
    |some o'=>rw[hv]at h;cases h;exact .inr ⟨(fun o2 h2=>by rw[hu]at h2;cases h2;exact e),rfl⟩
 ·cases h
theorem aif{u v w:World}(h1:Sub u w)(h2:Sub v w):Sub (mrg u v) w:=fun b o hb ho=>by
 rcases rm hb ho with h|⟨_,h⟩
 ·exact h1 b o h ho
 ·exact h2 b o h ho
theorem iy{u v w:World}(h1:Sub u w)(h2:Sub v w):Sub v (mrg u v):=by
 intro b o hb ho;have h:=ba hb;rw[zO,if_pos (by omega)]
 cases hu:u.heap[b]? with
 |none=>simp[xT,hb]
 | some o1=>
  cases hj:lr o1 with
  |true=>simp[xT,hj,hb]
  |false=>
   have hne:o1≠i5:=fun e=>by rw[lj.2 e]at hj;cases hj
   have e1:=h1 b o1 hu hne;have e2:=h2 b o hb ho;rw[e1]at e2;cases e2;simp[xT,hj]
theorem ady{u v:World}{b:Nat}(h1:Fresh u b)(h2:Fresh v b):Fresh (mrg u v) b:=fun o ho=>by
 refine Classical.byContradiction fun hn=>?_
 rcases rm ho hn with h|⟨_,h⟩
 ·exact hn (h1 o h)
 ·exact hn (h2 o h)
mutual
def shD (n:Nat):DV->DV
 | .rf id off len=>.rf (n+id) off len
 | .pt id off=>.pt (n+id) off
 | .mp id=>.mp id
 | .mr id=>.mr (n+id)
 | .cz sz l=>.cz sz l
 | .pe id i off=>.pe (n+id) i off
 | .fn f a b=>.fn f (shDs n a) (shDs n b)
 | .agg cs=>.agg (shDs n cs)
 | .tup cs=>.tup (shDs n cs)
 | .v x=>.v x
 | .fz sz l=>.fz sz l
 | .e0=>.e0
 | .fp cs=>.fp cs
termination_by structural d=>d
def shDs (n:Nat):List DV->List DV
 |[]=>[]
 |d::r=>shD n d::shDs n r
termination_by structural d=>d
end
def ac5(n:Nat):List (Value×DV)->List (Value×DV)
 |[]=>[]
 |(k,d)::r=>(k,shD n d)::ac5 n r
theorem vf{n:Nat}: ∀(l:List (Value×DV)),(ac5 n l).map (·.1)=l.map (·.1)
 |[]=>rfl
 |(k,d)::r=>by simp[ac5,vf r]
theorem wI{n:Nat}: ∀(l:List (Value×DV)),(ac5 n l).map (·.2)=shDs n (l.map (·.2))
 |[]=>rfl
 |(k,d)::r=>by simp[ac5,shDs,wI r]
def shRow(n:Nat):Row->Row
 | .arr e sz l ro=>.arr e sz l ro
 | .var T cs=>.var T (shDs n cs)
 | .nst e sz l=>.nst e sz (l.map (shDs n))
 | .mpr es=>.mpr (ac5 n es)
def shH(n:Nat):List (Nat×Row)->List (Nat×Row)
 |[]=>[]
 |(i,r)::l=>(n+i,shRow n r)::shH n l
section
variable {us:World} {n:Nat} {β β2:Nat->PB}
mutual
theorem r5 (hb: ∀id,β2 (n+id)=β id):(d:DV)->(v:Value)->HV us d β v->HV us (shD n d) β2 v
 | .rf id off len,v,⟨p,c,sz,q,h1,h2⟩=>⟨p,c,sz,q,by rw[hb];exact h1,h2⟩
 | .pt id off,v,⟨b,h1,h2⟩=>⟨b,by rw[hb];exact h1,h2⟩
 | .mp es,v,⟨r,h1,h2⟩=>⟨r,h1,h2⟩
 | .mr id,v,⟨r,h1,h2⟩=>⟨r,by rw[hb];exact h1,h2⟩
 | .cz _ _,v,h=>h
 | .pe id i off,v,⟨p,c,sz,h1,h2⟩=>⟨p,c,sz,by rw[hb];exact h1,h2⟩
 | .fn f a b,v,⟨A,B,h1,h2,h3⟩=>⟨A,B,h1,d8 hb a A h2,d8 hb b B h3⟩
 | .agg cs,v,⟨V,h1,h2⟩=>⟨V,h1,d8 hb cs V h2⟩
 | .tup cs,v,⟨V,h1,h2⟩=>⟨V,h1,d8 hb cs V h2⟩
 | .v _,v,h=>h
 | .fz _ _,v,h=>h
 | .e0,v,h=>h
 | .fp _,v,h=>h
termination_by structural d=>d
theorem d8 (hb: ∀id,β2 (n+id)=β id):(d:List DV)->(v:List Value)->HVs us d β v->HVs us (shDs n d) β2 v
 |[],v,h=>h
 |d::r,v,⟨w,W,h1,h2,h3⟩=>⟨w,W,h1,r5 hb d w h2,d8 hb r W h3⟩
termination_by structural d=>d
end
end
theorem nq{us:World}{n:Nat}{β β2:Nat->PB}(hb: ∀id,β2 (n+id)=β id): ∀(l:List (List DV)) (V:List (List Value)),HVssB us β l V->HVssB us β2 (l.map (shDs n)) V
 |[],V,h=>h
 |d::r,V,⟨w,W,h1,h2,h3⟩=>⟨w,W,h1,d8 hb d w h2,nq hb r W h3⟩
theorem ae3{n:Nat}: ∀{H:List (Nat×Row)} {j:Nat},lk (shH n H) j=if n<=j then (lk H (j-n)).map (shRow n)else none
 |[],j=>by simp[shH,lk]
 | (i,r)::l,j=>by
  simp only[shH]
  by_cases e:n+i=j
  ·subst e;rw[au,if_pos (by omega),show n+i-n=i by omega,au]
   rfl
  ·rw[aj e,ae3]
   by_cases h:n<=j
   ·rw[if_pos h,if_pos h,aj (by omega)]
   ·rw[if_neg h,if_neg h]
theorem rL{α:Type}: ∀{l m:List (Nat×α)} {j:Nat},lk (l++m) j=(lk l j).or (lk m j)
 |[],m,j=>by simp[lk]
 |(i,x)::l,m,j=>by
  by_cases e:i=j
  ·subst e;simp[au]
  ·simp[aj e,rL (l:=l)]
mutual
def cE:DV->Bool
 | .v _=>true
 | .agg cs=>plainDs cs
 | .tup cs=>plainDs cs
 |_=>false
termination_by structural d=>d
def plainDs:List DV->Bool
 |[]=>true
 |d::r=>cE d&&plainDs r
termination_by structural d=>d
end
section
variable {us us':World} {β β':Nat->PB}
mutual
theorem i9:(d:DV)->(v:Value)->cE d=true->HV us d β v->HV us' d β' v
 | .v x,v,_,h=>h
 | .agg cs,v,hp,⟨V,h1,h2⟩=>⟨V,h1,ib cs V hp h2⟩
 | .tup cs,v,hp,⟨V,h1,h2⟩=>⟨V,h1,ib cs V hp h2⟩
 | .fz ..,_,hp,_=>by cases hp
 | .rf ..,_,hp,_=>by cases hp
 | .e0,_,hp,_=>by cases hp
 | .pt ..,_,hp,_=>by cases hp
 | .fp ..,_,hp,_=>by cases hp
 | .mp ..,_,hp,_=>by cases hp
 | .mr ..,_,hp,_=>by cases hp
 | .cz ..,_,hp,_=>by cases hp
 | .pe ..,_,hp,_=>by cases hp
 | .fn ..,_,hp,_=>by cases hp
termination_by structural d=>d
theorem ib:(d:List DV)->(v:List Value)->plainDs d=true->HVs us d β v->HVs us' d β' v
 |[],v,_,h=>h
 |d::r,v,hp,⟨w,W,h1,h2,h3⟩=>by
  simp only[plainDs,Bool.and_eq_true]at hp
  exact⟨w,W,h1,i9 d w hp.1 h2,ib r W hp.2 h3⟩
termination_by structural d=>d
end
end
def aftC(ds:DS)(args:List DV)(r:Res):DS:=
 bif cE r.d then ds else ⟨ds.ρ,ds.σ,shH ds.nx r.H++roHs (idsDs ds.H args) ds.H,ds.nx+r.nx,ds.nb⟩
section
variable {P:Program} {u0 u us:World} {β0:Bse} {β:Nat->PB} {ds:DS} {s:S}
theorem Rel.join(h:Rel u0 β0 β us ds s u){w u' us':World}{βr:Nat->PB}{sr:S}{r:Res}(hu:Sub u w){w':World}(hst:Step true us us w u' w')(hr:Rel us (noB,us) βr us' (resS r.d r.H r.nx) sr u'):
  ∃β',Rel u0 β0 β' us' ⟨ds.ρ,ds.σ,shH ds.nx r.H++ds.H,ds.nx+r.nx,ds.nb⟩ s (mrg u u')/\ ∀v,HV us' r.d βr v->HV us' (shD ds.nx r.d) β' v:=by
 have huw':Sub u w':=hu.trans hst.ext.sub;have hus:Sub us us':=hr.base.1;have hsub:Sub us' (mrg u u'):=hr.sub.trans (iy huw' hst.sub);have hdom: ∀b,b<w.heap.size-> ¬Fresh u' b-> ¬Fresh us b:=hst.dom
 have hold: ∀b, ¬Fresh u b->b<w.heap.size:=fun b hb=>by
  refine Classical.byContradiction fun hn=>hb fun o ho=>Classical.byContradiction fun hj=>hn (ba (hu b o ho hj))
 refine⟨fun id=>if id<ds.nx then β id else βr (id-ds.nx),?_,fun v hv=>r5 (fun id=>?_) r.d v hv⟩
 ·have hlk: ∀id row,lk (shH ds.nx r.H++ds.H) id=some row->(id<ds.nx/\lk ds.H id=some row)\/(ds.nx<=id/\ ∃q,lk r.H (id-ds.nx)=some q/\row=shRow ds.nx q):=by
   intro id row hl;rw[rL,ae3]at hl
   by_cases hi:ds.nx<=id
   ·rw[if_pos hi]at hl;cases hq:lk r.H (id-ds.nx)with
    |some q=>rw[hq]at hl;exact .inr ⟨hi,q,rfl,by simpa using hl.symm⟩
    |none=>
     rw[hq]at hl;simp at hl;have:=(h.row id row hl).1;omega
   ·rw[if_neg hi]at hl;simp at hl;exact .inl ⟨by omega,hl⟩
  have hsh: ∀(pb:PB) (q:Row) b,bz pb (shRow ds.nx q)=some b↔bz pb q=some b:=by
   intro pb q b;cases q with
   |arr e sz l ro=>exact Iff.rfl
   |var T cs=>cases pb<;>exact Iff.rfl
   |nst e sz l=>cases pb<;>exact Iff.rfl
   |mpr es=>cases pb<;>exact Iff.rfl
  have hold2: ∀i ri b,lk ds.H i=some ri->bz (β i) ri=some b->Fresh us' b/\ ¬Fresh u b:=by
   intro i ri b hi hb;obtain⟨f1,f2⟩:=(h.row i ri hi).2.fresh hb;refine⟨Classical.byContradiction fun hn=>?_,f2⟩
   refine hdom b (hold b f2) (fun hf=>hn (Fresh.anti hr.sub hf)) f1
  have hnew: ∀j q b,lk r.H j=some q->bz (βr j) q=some b-> ¬Fresh u' b/\Fresh us b:=by
   intro j q b hj hb;exact⟨((hr.row j q hj).2.fresh hb).2,(hr.row j q hj).2.fresh0 hb⟩
  have hcross: ∀i ri j q b,lk ds.H i=some ri->bz (β i) ri=some b->lk r.H j=some q->bz (βr j) q=some b->False:=by
   intro i ri j q b hi hb hj hb2;obtain⟨n1,n2⟩:=hnew j q b hj hb2;exact hdom b (hold b (hold2 i ri b hi hb).2) n1 n2
  refine h.grow hus hsub (fun id hn=>?_) (by omega) (fun id row hl=>?_) (fun id hi=>?_) (fun id hi=>?_) (fun i j ri rj b hij hi hj hbi hbj=>?_)
  ·have:id<ds.nx:=Classical.byContradiction fun hc=>hn (h.nos id (by omega))
   simp[this]
  ·rcases hlk id row hl with ⟨hi,hl⟩|⟨hi,q,hq,rfl⟩
   ·simp only[hi,if_true];refine⟨by omega,(h.row id row hl).2.step (wE u u') hus (fun j hn=>?_) (fun b hb=>(hold2 id row b hl hb).1)⟩
    have:j<ds.nx:=Classical.byContradiction fun hc=>hn (h.nos j (by omega))
    simp[this]
   ·have h1:=hr.row _ q hq;simp only[show ¬id<ds.nx by omega,if_false]
    refine⟨by have:=h1.1;simp only[resS]at this;omega,?_⟩
    have h2:=h1.2;cases q with
    |arr e sz l ro=>
     obtain⟨p,c,g1,g2,g3⟩:=h2;refine⟨p,c,g1,g2,?_⟩;cases ro with
     |true=>exact g3
     |false=>exact g3.imp (fun h=>h) fun ⟨c0,V,g4,g5⟩=>⟨c0,V,(g4.anti h.base.1).mono (iy huw' hst.sub),g5⟩
    |var T cs=>
     obtain⟨b,V,g1,g2,g3,g4,g5,g6⟩:=h2;refine⟨b,V,g1,iy huw' hst.sub _ _ g2 ax,Fresh.anti h.base.1 g3,g4,d8 (fun j=>?_) cs V g5,g6⟩
     simp[show ¬ds.nx+j<ds.nx by omega]
    |mpr es=>
     obtain⟨r0,clock,ents,g1,g2,g3,g4,g5,g6,g7⟩:=h2;exact⟨r0,clock,ents,g1,iy huw' hst.sub _ _ g2 cM,Fresh.anti h.base.1 g3,g4,by rw[vf];exact g5,by rw[wI];exact d8 (fun j=>by simp[show ¬ds.nx+j<ds.nx by omega]) _ _ g6,g7⟩
    |nst e sz l=>
     obtain⟨p,c,g1,g2,g3⟩:=h2;refine⟨p,c,g1,by simpa using g2,g3.imp (fun h=>⟨h.1,by simp[h.2]⟩) fun ⟨c0,V,g4,g5,g6,g7⟩=>⟨c0,V,by simpa using(g4.anti h.base.1).mono (iy huw' hst.sub),g5,g6,nq (fun j=>?_) l V g7⟩⟩
     simp[show ¬ds.nx+j<ds.nx by omega]
  ·simp only[show ¬id<ds.nx by omega,if_false]
   exact hr.nos _ (by simp only[resS];omega)
  ·have:=h.nbx;simp[show id<ds.nx by omega]
  ·rcases hlk i ri hi with ⟨h1,h2⟩|⟨h1,q1,h2,rfl⟩<;>rcases hlk j rj hj with ⟨k1,k2⟩|⟨k1,q2,k2,rfl⟩
   ·simp only[h1,k1,if_true]at hbi hbj;exact h.dist i j ri rj b hij h2 k2 hbi hbj
   ·simp only[h1,if_true,show ¬j<ds.nx by omega,if_false]at hbi hbj
    exact hcross i ri _ q2 b h2 hbi k2 ((hsh _ _ _).1 hbj)
   ·simp only[k1,if_true,show ¬i<ds.nx by omega,if_false]at hbi hbj
    exact hcross j rj _ q1 b k2 hbj h2 ((hsh _ _ _).1 hbi)
   ·simp only[show ¬i<ds.nx by omega,show ¬j<ds.nx by omega,if_false]at hbi hbj
    exact hr.dist _ _ q1 q2 b (by omega) h2 k2 ((hsh _ _ _).1 hbi) ((hsh _ _ _).1 hbj)
 ·simp[show ¬ds.nx+id<ds.nx by omega]
theorem am1{x:Bool}{w w' u' us:World}(hus:Sub us u)(hu:Sub u w)(hst:Step true us us w u' w'):Step x u0 u w (mrg u u') w':=by
 refine⟨aif (hu.trans hst.ext.sub) hst.sub,fun b o hb=>.inl (hst.ext b o hb),fun b hb hn hf=>?_,hst.le⟩
 refine hn (ady hf (Classical.byContradiction fun hc=>hst.dom b hb hc (Fresh.anti hus hf)))
theorem CallS.con{x:Bool}{f:FuncId}{args fargs:List DV}{Q:Res->Prop}{K:DV->DS->Prop}(hc:Con2 P f fargs Q)(he:embDs ds.H args=some fargs)
  (hp:noPts args=true\/ ∀r,Q r->cE r.d=true) (hk: ∀r,Q r->K (bif cE r.d then r.d else shD ds.nx r.d) (aftC ds args r)):CallS P x f args ds K:=by
 intro u0 β0 β us s u vs h hv
 by_cases hnp:noPts args=true
 ·obtain⟨us1,g1,g2,g3⟩:=h.ros (idsDs ds.H args);have hfv:=d7 (H:=ds.H) g1 args fargs vs g3 (.inl hnp) hv he;obtain⟨hbody,hcon⟩:=hc us1 vs hfv;refine .inl ⟨hbody,fun w hu h0=>(hcon w (g2.sub.trans hu)).mono ?_⟩
  rintro e w' ⟨rv,u',rfl,hst,hsub,r,hQ,βr,us',sr,hrel,hslot⟩
  obtain⟨β',j1,j2⟩:=g2.join hu hst hrel;have hd0:=hrel.slot 0;rw[hslot]at hd0;obtain⟨w0,e0,hd⟩: ∃w0,SV.v rv= .v w0/\HV us' r.d βr w0:=hd0;cases e0;refine⟨rv,mrg u u',rfl,am1 g2.sub hu hst,?_⟩;have hk:=hk r hQ;cases hpl:cE r.d with
  |true=>
   unfold aftC at hk;rw[hpl]at hk;exact⟨β,us,ds,r.d,h.mono (wE u u'),i9 r.d rv hpl hd,hk⟩
  |false=>
   unfold aftC at hk;rw[hpl]at hk;exact⟨β',us',_,_,j1,j2 rv hd,hk⟩
 ·have hp:=hp.resolve_left hnp;have hfv:=d7 (H:=ds.H) h.sub args fargs vs (fun id _=>h.stays id) (.inr h.vars) hv he
  refine AtCall.of_spec (hc u vs hfv) ?_
  rintro rv u' hs ⟨r,hQ,βr,us',sr,hrel,hslot⟩
  have hd0:=hrel.slot 0;rw[hslot]at hd0;obtain⟨w0,e0,hd⟩: ∃w0,SV.v rv= .v w0/\HV us' r.d βr w0:=hd0;cases e0;have hk:=hk r hQ;unfold aftC at hk;rw[hp r hQ]at hk;exact⟨β,us,ds,r.d,h.mono hs,i9 r.d rv (hp r hQ) hd,hk⟩
def RetID(ds0:DS)(K:DV->DS->Prop)(ds:DS)(d:DV):Prop:=K d ⟨ds0.ρ,ds0.σ,ds.H,ds.nx,ds0.nb⟩
def agw(P:Program)(rs:List ResultVar)(ds0:DS)(K:DV->DS->Prop)(e:Exit)(ds:DS):Prop:=
 match e with
 | .normal=>ds.nb=ds0.nx/\OptK (bY P ds rs) (RetID ds0 K ds)
 | .ret=>ds.nb=ds0.nx/\OptK (bY P ds rs) (RetID ds0 K ds)
 |_=>False
theorem CallS.inline(hm:P.follows .mixedOrders=true){f:FuncId}{fn:Func}{c:Code}(hf:P.funcs[f]? =some fn)(hb:fn.body=some c)(hbody:cW P f=true)
  (hfit:fits fn.ntmps c=true) {args:List DV} (hn:Nat.ble args.length fn.ntmps=true) (rs:List ResultVar) (hrs:fn.results.toList=rs) {K:DV->DS->Prop}
  (h:Vc2 P c (agw P rs ds K) ⟨initD 0 args,[],ds.H,ds.nx,ds.nx⟩):CallS P false f args ds K:=by
 intro u0 β0 β us s u vs hr hv;refine .inl (kN hm hf hb hbody hfit (by rw[hv.length];exact hn) rs hrs ?_)
 have hr0:Rel u0 (β,us) β us ⟨initD 0 args,[],ds.H,ds.nx,ds.nx⟩ ⟨ft 0 vs,[]⟩ u:=
  ⟨⟨hr.base.1,Sub.refl us⟩,hr.sub,rH 0 hv,fun k=>rfl,hr.row,hr.nos,fun id _=>rfl,Nat.le_refl _,hr.dist⟩
 refine Vc.mono ?_ (h u0 (β,us) β us _ u hr0);intro e s' u' hl
 have fin: ∀d β' us' ds',Rel u0 (β,us) β' us' ds' s' u'->ds'.nb=ds.nx->bY P ds' rs=some d->K d ⟨ds.ρ,ds.σ,ds'.H,ds'.nx,ds.nb⟩->
   kC (fun r u'=> ∃β' us' ds' d,Rel u0 β0 β' us' ds' s u'/\HV us' d β' r/\K d ds') (cL P s' rs) u':=by
  intro d β' us' ds' hr' hnb hd hk;obtain⟨v,hv,hd2⟩:=lM hr' hd;unfold kC;rw[hv];have hn1:=hr.nbx;have hn2:=hr'.nbx;have hble:BLe β β':=fun id hn=>hr'.fix id (by rw[hnb];exact Classical.byContradiction fun hc=>hn (hr.nos id (by omega)))
  refine⟨β',us',⟨ds.ρ,ds.σ,ds'.H,ds'.nx,ds.nb⟩,d,⟨⟨hr'.base.1,hr.base.2.trans hr'.base.2⟩,hr'.sub,fun t=>(hr.slot t).mono hr'.base.2 hble,fun k=>?_,hr'.row,hr'.nos,fun id hi=>(hr'.fix id (by have hi':id<ds.nb:=hi;rw[hnb];omega)).trans (hr.fix id hi),(by show ds.nb<=ds'.nx;omega),hr'.dist⟩,hd2,hk⟩
  have hloc:=hr.loc k;show match ds.find k with|none=>_|some l=>_
  cases hf:ds.find k with
  |none=>rw[hf]at hloc;exact hloc
  |some l=>
   rw[hf]at hloc;obtain⟨l',h1,h2,h3,h4⟩:=hloc;exact⟨l',h1,h2,HVs.mono hr'.base.2 _ _ _ hble _ h3,h4⟩
 obtain⟨β',us',ds',hr',hk⟩:=hl;cases e with
 |normal=>obtain⟨hnb,hk⟩:=hk;obtain⟨d,hd,hk⟩:=ew hk;exact fin d β' us' ds' hr' hnb hd hk
 |ret=>obtain⟨hnb,hk⟩:=hk;obtain⟨d,hd,hk⟩:=ew hk;exact fin d β' us' ds' hr' hnb hd hk
 |exit j=>exact hk.elim
 |goto l=>exact hk.elim
 |panic c=>exact hk.elim
 |outgrown=>exact hk.elim
end
end Go.Eng
namespace Go.Eng
section
variable {P:Program} {x:Bool} {K:DS->Prop} {Q:Exit->DS->Prop} {ds:DS} {d:Option Tmp} {ty:TypeId} {pos:String} {aft:Array Edge} {g:Option (Nat×Bool)} {all:List Oper} {op:Op}
 {ρ:List (Nat×DSV)} {σ:List (Nat×ek)} {H:List (Nat×Row)} {nx nb:Nat}
theorem aku{t:Nat}:(DS.mk ρ σ H nx nb).get t=(lk ρ t).getD .unk:=rfl
theorem afE{k:Nat}:(DS.mk ρ σ H nx nb).find k=lk σ k:=rfl
theorem ajs{t:Nat}{y:DSV}:(DS.mk ρ σ H nx nb).put (some t) y=⟨(t,y)::ρ,σ,H,nx,nb⟩:=rfl
theorem acf{y:DSV}:ds.put none y=ds:=rfl
theorem aiD{t:Nat}:ds.sv (.tmp t)=ds.get t:=rfl
theorem rM{v:Value}:ds.sv (.const v)=gJ v:=rfl
theorem ag3{f:FuncId}:ds.sv (.func f)= .d (.fn f [] []):=rfl
theorem pJ{k:IntKind}{n:Int}:gJ (.int k n)= .d (.v (.int k n)):=rfl
theorem wN{b:Bool}:gJ (.bool b)= .d (.v (.bool b)):=rfl
theorem qX{b:ByteArray}:gJ (.string b)= .d (.v (.string b)):=rfl
theorem yN:gJ (.slice none 0 0)= .d (.v (.slice none 0 0)):=rfl
theorem o9:gJ .nilFunc= .d (.v .nilFunc):=rfl
theorem y5:gJ (.pointer none)= .d (.v (.pointer none)):=rfl
theorem zU:gJ (.map none)= .d (.v (.map none)):=rfl
theorem wZ:vc2 P .skip Q ds=Q .normal ds:=rfl
theorem ako:vc2 P .ret Q ds=Q .ret ds:=rfl
theorem vd{id:Nat}:vc2 P (.exit id) Q ds=Q (.exit id) ds:=rfl
theorem kL{id:Nat}{l:List Oper}:vc2 P (.region id l.toArray false) Q ds=i6 P l (Q .normal) l ds:=rfl
theorem afg{id:Nat}{l:List Oper}:vc2 P (.region id l.toArray true) Q ds=AtDraw2 P l.toArray (Q .normal) ds:=rfl
theorem ajN{a b:Code}:vc2 P (.seq a b) Q ds=vc2 P a (xt P (isIf a) b Q) ds:=rfl
theorem adk{c:Operand}{a b:Code}:isIf (.cond c a b)=true:=rfl
theorem wx{i:Nat}{o:Array Oper}{b:Bool}:isIf (.region i o b)=false:=rfl
theorem aa0{i:Nat}{a:Code}:isIf (.block i a)=false:=rfl
theorem agr{a b:Code}:isIf (.seq a b)=false:=rfl
theorem ac0{a:Code}:isIf (.loop a)=false:=rfl
theorem acD:isIf .skip=false:=rfl
theorem agL:isIf .ret=false:=rfl
theorem acg{i:Nat}:isIf (.exit i)=false:=rfl
def fZ(P:Program)(c:DSV)(a b:Code)(Q:Exit->DS->Prop)(ds:DS):Prop:=
 match c with
 | .d (.v (.bool t))=>(t=true->vc2 P a Q ds)/\(t=false->vc2 P b Q ds)
 |_=>False
theorem vG{c:Operand}{a b:Code}:vc2 P (.cond c a b) Q ds=fZ P (ds.sv c) a b Q ds:=rfl
theorem jH{a b:Code}:fZ P (.d (.v (.bool true))) a b Q ds=vc2 P a Q ds:=by simp[fZ]
theorem i7{a b:Code}:fZ P (.d (.v (.bool false))) a b Q ds=vc2 P b Q ds:=by simp[fZ]
theorem aaI{a b:Code}{t:Bool}:fZ P (.d (.v (.bool (!t)))) a b Q ds=fZ P (.d (.v (.bool t))) b a Q ds:=by
 cases t<;>simp[fZ]
theorem aq{a b:Code}{p:Prop}[Decidable p](h1:p->vc2 P a Q ds)(h2: ¬p->vc2 P b Q ds):fZ P (.d (.v (.bool (decide p)))) a b Q ds:=
 ⟨fun h=>h1 (by simpa using h),fun h=>h2 (by simpa using h)⟩
theorem fO{a b:Code}{y z:Int}(h1:y=z->vc2 P a Q ds)(h2:y≠z->vc2 P b Q ds):fZ P (.d (.v (.bool (y==z)))) a b Q ds:=
 ⟨fun h=>h1 (by simpa using h),fun h=>h2 (by simpa using h)⟩
theorem cu{a b:Code}{y z:Int}(h1:y≠z->vc2 P a Q ds)(h2:y=z->vc2 P b Q ds):fZ P (.d (.v (.bool (y !=z)))) a b Q ds:=
 ⟨fun h=>h1 (by simpa using h),fun h=>h2 (by simpa using h)⟩
theorem qB{id:Nat}:vc2 P (.block id .ret) Q ds=Q .ret ds:=rfl
theorem qv{id:Nat}:vc2 P (.block id .skip) Q ds=LeK2 (Q .normal) ds:=rfl
theorem pW{id j:Nat}:vc2 P (.block id (.exit j)) Q ds=dh id Q (.exit j) ds:=rfl
theorem qf{id:Nat}:dh id Q .normal ds=LeK2 (Q .normal) ds:=rfl
theorem xI{id:Nat}:dh id Q .ret ds=Q .ret ds:=rfl
def zJ(Q:Exit->DS->Prop)(j:Nat)(ds:DS):Bool->Prop
 |true=>LeK2 (Q .normal) ds
 |false=>Q (.exit j) ds
theorem lH{id j:Nat}:dh id Q (.exit j) ds=zJ Q j ds (j==id):=by
 show(bif j==id then LeK2 (Q .normal) ds else Q (.exit j) ds)=_;cases (j==id)<;>rfl
theorem nH{j:Nat}:zJ Q j ds true=LeK2 (Q .normal) ds:=rfl
theorem ur{j:Nat}:zJ Q j ds false=Q (.exit j) ds:=rfl
theorem aK(h:K ds):LeK2 K ds:=.inl h
theorem uJ{b:Code}:xt P false b Q .normal ds=vc2 P b Q ds:=rfl
theorem qT{b:Code}:xt P true b Q .normal ds=LeK2 (vc2 P b Q) ds:=rfl
theorem acM{i:Bool}{b:Code}:xt P i b Q .ret ds=Q .ret ds:=rfl
theorem yx{i:Bool}{b:Code}{j:Nat}:xt P i b Q (.exit j) ds=Q (.exit j) ds:=rfl
theorem qG{γ:Type}{st:γ->DS}{F:γ->Prop}{μ:γ->Nat}{g:γ}:gI st F μ g Q .normal ds= ∃g',leD (st g') ds/\F g'/\μ g'<μ g:=rfl
theorem aaC{γ:Type}{st:γ->DS}{F:γ->Prop}{μ:γ->Nat}{g:γ}:gI st F μ g Q .ret ds=Q .ret ds:=rfl
theorem xv{γ:Type}{st:γ->DS}{F:γ->Prop}{μ:γ->Nat}{g:γ}{j:Nat}:gI st F μ g Q (.exit j) ds=Q (.exit j) ds:=rfl
theorem tw{rs:List ResultVar}{Q:Res->Prop}:rl P rs Q .normal ds=OptK (bY P ds rs) (RetD Q ds):=rfl
theorem acr{rs:List ResultVar}{Q:Res->Prop}:rl P rs Q .ret ds=OptK (bY P ds rs) (RetD Q ds):=rfl
theorem xj{rs:List ResultVar}{ds0:DS}{K:DV->DS->Prop}:agw P rs ds0 K .normal ds=(ds.nb=ds0.nx/\OptK (bY P ds rs) (RetID ds0 K ds)):=rfl
theorem ahi{rs:List ResultVar}{ds0:DS}{K:DV->DS->Prop}:agw P rs ds0 K .ret ds=(ds.nb=ds0.nx/\OptK (bY P ds rs) (RetID ds0 K ds)):=rfl
theorem xe:bY P ds []=some (.tup []):=rfl
theorem u_{a:ResultVar}:bY P ds [a]=aL P ds a:=rfl
theorem vU{a b:ResultVar}:bY P ds [a,b]=tup2 (aL P ds a) (aL P ds b):=rfl
theorem qI{a b c:ResultVar}:bY P ds [a,b,c]=tup3 (aL P ds a) (aL P ds b) (aL P ds c):=rfl
theorem tv{a b c e f:ResultVar}:bY P ds [a,b,c,e,f]=tup5 (aL P ds a) (aL P ds b) (aL P ds c) (aL P ds e) (aL P ds f):=rfl
theorem tZ{a b c e:ResultVar}:bY P ds [a,b,c,e]=tup4 (aL P ds a) (aL P ds b) (aL P ds c) (aL P ds e):=rfl
theorem xJ{t:Nat}:aL P ds (.tmp t)=dvO (ds.get t):=rfl
theorem tM{t T:Nat}:aL P ds (.cell t T)=resCell ds (ds.get t) (lay P T):=rfl
theorem oA:i6 P all K [] ds=K ds:=rfl
theorem gY{o:Oper}{r:List Oper}:i6 P all K (o::r) ds=gL P false all o (i6 P all K r) ds:=rfl
theorem yL:gH P all K [] ds=K ds:=rfl
def akw(P:Program)(all:List Oper)(K:DS->Prop)(x:Bool)(r:List (Nat×Bool))(ds:DS)(o:Option Oper):Prop:=
 match o with
 |some o=>gL P x all o (gH P all K r) ds
 |none=>False
theorem ya{i:Nat}{x:Bool}{r:List (Nat×Bool)}:gH P all K ((i,x)::r) ds=akw P all K x r ds (bx all i):=rfl
theorem aai{x:Bool}{r:List (Nat×Bool)}{o:Oper}:akw P all K x r ds (some o)=gL P x all o (gH P all K r) ds:=rfl
def xp:Bool->Prop->Prop
 |true,p=>p
 |false,_=>True
def zn(P:Program)(all:List Oper)(ks:List Nat)(K:DS->Prop)(x:Bool)(r:List (Nat×Bool))(ds:DS)(o:Option Oper):Prop:=
 match o with
 |some o=>s7 ks o ds/\xp x (sO ks o ds)/\gL P x all o (eH P all ks K r) ds
 |none=>False
theorem wR{ks:List Nat}:eH P all ks K [] ds=K ds:=rfl
theorem uQ{ks:List Nat}{i:Nat}{x:Bool}{r:List (Nat×Bool)}:eH P all ks K ((i,x)::r) ds=zn P all ks K x r ds (bx all i):=by
 simp only[eH,zn];cases bx all i with
 |none=>rfl
 |some o=>cases x<;>simp[xp]
theorem vt{ks:List Nat}{x:Bool}{r:List (Nat×Bool)}{o:Oper}:zn P all ks K x r ds (some o)=(s7 ks o ds/\xp x (sO ks o ds)/\gL P x all o (eH P all ks K r) ds):=rfl
theorem agM{p:Prop}:xp true p=p:=rfl
theorem agA{p:Prop}:xp false p=True:=rfl
def ahv(P:Program)(all:List Oper)(ls kl:List Nat)(K:DS->Prop)(i:Nat)(x:Bool)(r:List (Nat×Bool))(ds:DS)(o:Option Oper):Prop:=
 match o with
 |some o=>ph ds kl/\ago (cV ls i) kl o ds/\th kl o ds/\gL P x all o (ed P all ls kl K r) ds
 |none=>False
theorem wL{ls kl:List Nat}:ed P all ls kl K [] ds=(ph ds kl/\K ds):=rfl
theorem tV{ls kl:List Nat}{i:Nat}{x:Bool}{r:List (Nat×Bool)}:ed P all ls kl K ((i,x)::r) ds=ahv P all ls kl K i x r ds (bx all i):=rfl
theorem xZ{ls kl:List Nat}{i:Nat}{x:Bool}{r:List (Nat×Bool)}{o:Oper}:ahv P all ls kl K i x r ds (some o)=(ph ds kl/\ago (cV ls i) kl o ds/\th kl o ds/\gL P x all o (ed P all ls kl K r) ds):=rfl
theorem ahQ:ph ds []=True:=rfl
theorem adf{k:Nat}{r:List Nat}:ph ds (k::r)=((ds.find k).isSome=true/\ph ds r):=rfl
theorem aiv{kl:List Nat}{o:Oper}:ago true kl o ds=xz kl o ds:=rfl
theorem aj2{kl:List Nat}{o:Oper}:ago false kl o ds=True:=rfl
def m4(P:Program)(x:Bool)(all:List Oper)(K:DS->Prop)(t:OT)(ds:DS)(o:Option Oper):Prop:=
 match o with
 |some o=>gL P x all o (gO P all K t) ds
 |none=>False
theorem acN:gO P all K .done ds=K ds:=rfl
theorem ake{i:Nat}{t:OT}:gO P all K (.fl i t) ds=m4 P false all K t ds (bx all i):=rfl
theorem ahA{i:Nat}{x:Bool}{t:OT}:gO P all K (.eff i x t .no) ds=m4 P x all K t ds (bx all i):=by grind [gO,m4,bx]
theorem agp{i j:Nat}{x y:Bool}{t t' alt:OT}:gO P all K (.eff i x t (.eff j y t' alt)) ds=(m4 P x all K t ds (bx all i)/\gO P all K (.eff j y t' alt) ds):=by grind [gO,m4,bx]
theorem yd{x:Bool}{t:OT}{o:Oper}:m4 P x all K t ds (some o)=gL P x all o (gO P all K t) ds:=rfl
theorem jQ:gL P x all ⟨d,op,ty,pos,aft,none⟩ K ds=ir P x ⟨d,op,ty,pos,aft,none⟩ K ds:=rfl
def eG(P:Program)(x:Bool)(o:Oper)(K:DS->Prop)(ds:DS)(want:Bool)(c:DSV):Prop:=
 match c with
 | .d (.v (.bool c))=>(c=want->ir P x o K ds)/\(c= !want->K (ds.put o.dst (.d undefD)))
 | .d (.tup _)=>K (ds.put o.dst (.d undefD))
 |_=>False
def u5(P:Program)(x:Bool)(o:Oper)(K:DS->Prop)(ds:DS)(want:Bool)(e:Option Nat):Prop:=
 match e with
 |some e=>eG P x o K ds want (ds.get e)
 |none=>False
theorem ad9{j:Nat}{b:Bool}:gL P x all ⟨d,op,ty,pos,aft,some (j,b)⟩ K ds=u5 P x ⟨d,op,ty,pos,aft,some (j,b)⟩ K ds b (im all j):=by
 unfold gL u5;simp only;cases im all j<;>rfl
theorem uj{o:Oper}{b:Bool}{e:Nat}:u5 P x o K ds b (some e)=eG P x o K ds b (ds.get e):=rfl
theorem yq{o:Oper}:eG P x o K ds true (.d (.v (.bool true)))=ir P x o K ds:=by simp[eG]
theorem zP{o:Oper}:eG P x o K ds true (.d (.v (.bool false)))=K (ds.put o.dst (.d undefD)):=by simp[eG]
theorem zq{o:Oper}:eG P x o K ds false (.d (.v (.bool true)))=K (ds.put o.dst (.d undefD)):=by simp[eG]
theorem ze{o:Oper}:eG P x o K ds false (.d (.v (.bool false)))=ir P x o K ds:=by simp[eG]
theorem qU{o:Oper}{b:Bool}{vs:List DV}:eG P x o K ds b (.d (.tup vs))=K (ds.put o.dst (.d undefD)):=rfl
theorem ic{o:Oper}{b c:Bool}(h1:c=b->ir P x o K ds)(h2:c= !b->K (ds.put o.dst (.d undefD))):eG P x o K ds b (.d (.v (.bool c))):=⟨h1,h2⟩
theorem uW:ir P x ⟨d,op,ty,pos,aft,g⟩ K ds=vcOpM P x ⟨d,op,ty,pos,aft,g⟩ K ds op:=rfl
theorem ak4{o:Oper}{T:TypeId}{ok:Bool}{es:List (UInt8×Nat)}{b:DSV}:LkS P x o K ds T ok (.d (.mp es)) b=wX P T ok (PutD ds o.dst K) (.d (.mp es)) b:=rfl
theorem ag8{T:TypeId}{K:DV->Prop}{es:List (UInt8×Nat)}{n:Int}:wX P T true K (.d (.mp es)) (.d (.v (.int .u8 n)))=LkK P T K es n:=rfl
attribute [go_sem] uW vcOpM.eq_28 List.toList_toArray List.size_toArray vcOpM.eq_16 ak4 ag8 vcIdx2.eq_2 IdxA2.eq_1 AggI.eq_1 vcIndex2.eq_2
end
theorem oo{P:Program}{op:BinOp}{T:TypeId}{y z:Operand}{K:DV->Prop}{a b:Value}:vcBinS P op T y z K (.d (.v a)) (.d (.v b))=AtP P (bm op T y z a b) K:=rfl
theorem ada{k:IntKind}{n:Int}:plain (.int k n)=true:=rfl
theorem zk{b:Bool}:plain (.bool b)=true:=rfl
theorem u7{b:ByteArray}:plain (.string b)=true:=rfl
theorem ach:plain (.slice none 0 0)=true:=rfl
theorem zI{P:Program}{e:Sem Value}{K:DV->Prop}:AtP P e K=AtPure P e (AtPK K):=rfl
attribute [go_sem] nH ur cond_true cond_false decide_true decide_false Bool.and_true Bool.true_and Bool.and_self Bool.and_false Bool.false_and Bool.or_true Bool.true_or Bool.or_false Bool.false_or Option.map_some Option.map_none Option.getD_some Option.getD_none and_self and_true true_and beq_self_eq_true Bool.true_beq Bool.false_beq Bool.not_true Bool.not_false forall_const
attribute [go_sem] wL tV xZ ahQ adf aiv aj2 xz th ldInS.eq_1 stNoS.eq_1 stNoS.eq_2 stNoS.eq_3 stNoS.eq_4 dsNo.eq_1 dsNo.eq_2
attribute [go_sem] oo aku afE ajs acf aiD rM ag3 pJ wN qX yN o9 y5 zU wZ ako vd kL afg ajN vG jH i7 aaI qB qv pW qf xI lH uJ qT adk wx aa0 agr ac0 acD agL acg acM yx qG aaC xv tw acr xj ahi xe u_ vU qI tZ tv xJ tM oA gY yL ya aai wR uQ vt agM agA acN ake ahA yd jQ ad9 uj yq zP zq ze qU vcOpM.eq_1 vcOpM.eq_2 vcOpM.eq_3 vcOpM.eq_4 vcOpM.eq_5 vcOpM.eq_6 vcOpM.eq_7 vcOpM.eq_8 vcOpM.eq_9 vcOpM.eq_10 vcOpM.eq_11 vcOpM.eq_12 vcOpM.eq_13 vcOpM.eq_14 vcOpM.eq_15 vcOpM.eq_22 vcOpM.eq_23 vcOpM.eq_24 vcOpM.eq_25 vcOpM.eq_26 vcOpM.eq_27 vcCallM.eq_1 vcCallM.eq_2 vcCallM.eq_3 vcCallM.eq_4 vcCallM.eq_5 vcCallM.eq_6 vcCallM.eq_8 ada zk u7 ach zI agp
theorem adA{pl:List (Nat×Nat)}{cs:List DV}:kD pl [] cs=some cs:=rfl
def FillB(pl:List (Nat×Nat))(r:List (Nat×DV))(cs:List DV)(d:DV)(off:Nat):Bool->Option (List DV)
 |true=>kD pl r (spliceD cs off (cellsD d))
 |false=>none
def FillO(pl:List (Nat×Nat))(r:List (Nat×DV))(cs:List DV)(d:DV):Option (Nat×Nat)->Option (List DV)
 |some (off,n)=>FillB pl r cs d off ((cellsD d).length==n&&onesD (cellsD d)&&decide (off+n<=cs.length))
 |none=>none
theorem yy{pl:List (Nat×Nat)}{i:Nat}{d:DV}{r:List (Nat×DV)}{cs:List DV}:kD pl ((i,d)::r) cs=FillO pl r cs d (plAt pl i):=by
 simp only[kD];cases plAt pl i with
 |none=>rfl
 |some q=>
  obtain⟨off,n⟩:=q;simp only[FillO];cases ((cellsD d).length==n&&onesD (cellsD d)&&decide (off+n<=cs.length))<;>rfl
def ElR(sz off len:Nat):Option Row->Option (List (List DV))
 |some (.arr _ sz' l _)=>bif sz'==sz&&decide (off+len<=l.length)then some ((l.drop off).take len)else none
 |_=>none
theorem acH{H:List (Nat×Row)}{sz id off len:Nat}:elemsD H sz (.rf id off len)=ElR sz off len (lk H id):=rfl
def EtR(sz off i:Nat):Option Row->Option (List DV)
 |some (.arr _ sz' l _)=>bif sz'==sz then l[off+i]? else none
 |some (.nst _ sz' l)=>bif sz'==sz then l[off+i]? else none
 |_=>none
theorem aj7{H:List (Nat×Row)}{sz i id off len:Nat}:eltD H sz i (.rf id off len)=EtR sz off i (lk H id):=rfl
def VaR:Option Row->Option (List DV)
 |some (.var _ cs)=>some cs
 |_=>none
theorem akg{H:List (Nat×Row)}{id:Nat}:xw H id=VaR (lk H id):=rfl
def PubLD(r:List Operand)(ds:DS)(k off:Nat):Option ek->Option (List DV×DS)
 |some l=>consP (.pt ds.nx off) (pubsD r (ds.pub k l))
 |none=>none
def PubKD(r:List Operand)(ds:DS):DSV->Option (List DV×DS)
 | .d x=>consP x (pubsD r ds)
 | .loc k off=>PubLD r ds k off (ds.find k)
 |_=>none
theorem aa3{y:Operand}{r:List Operand}{ds:DS}:pubsD (y::r) ds=PubKD r ds (ds.sv y):=rfl
def EmbP:Option DV->Option (List (List DV))->Option (List (List DV))
 |some d,some r=>some (cellsD d::r)
 |_,_=>none
theorem zS{H:List (Nat×Row)}{i:Nat}{d:DV}{r:List (Nat×DV)}:embPs H ((i,d)::r)=EmbP (embD H d) (embPs H r):=rfl
def BasR(e sz id len:Nat):Option Row->Option (Option Nat×List (List DV))
 |some (.arr e' sz' l false)=>bif e'==e&&sz'==sz&&l.length==len then some (some id,l)else none
 |_=>none
theorem af7{H:List (Nat×Row)}{e sz id len:Nat}:baseD H e sz (.rf id 0 len)=BasR e sz id len (lk H id):=rfl
def amA(P:Program)(T:TypeId):Prop:=match P.underlying T with|some (.func ..)=>True|_=>False
def akF(P:Program)(T:TypeId):Prop:=match P.underlying T with|some (.pointer _)=>True|_=>False
section
variable {P:Program} {op:BinOp} {T:TypeId} {K:DV->Prop}
theorem afc{f:FuncId}{a b:List DV}:vcNil P op T (.fn f a b) (.v .nilFunc) K=(amA P T/\nilK op K false):=rfl
theorem aeS{id off:Nat}:vcNil P op T (.pt id off) (.v (.pointer none)) K=(akF P T/\nilK op K false):=rfl
theorem ah3{cs:List DV}:vcNil P op T (.fp cs) (.v (.pointer none)) K=(akF P T/\nilK op K false):=rfl
theorem afx{a:DV}:vcNil P op T a (.v (.slice none 0 0)) K=(eu P T=true/\OptK (lenD a) (NilN op K)):=rfl
def LenS(P:Program)(K:DV->Prop)(T:TypeId):Option Value->Prop
 |some (.string s)=>P.underlying T=some .string/\K (.v (.int .i64 s.size))
 |_=>False
theorem w_{a:DV}:vcLen2 P K a T none=LenS P K T (ec a):=rfl
end
section
variable {P:Program} {ds:DS} {d:Option Tmp} {K:DS->Prop} {n e sz:Nat} {ps:List (Nat×DV)} {x:Bool} {src dst:TypeId} {a:DV}
theorem ac4:af9 ds d K n e sz ps true=K (ds.put d (.d .e0)):=rfl
theorem aan:af9 ds d K n e sz ps false=LitE ds d K n e sz ps (embPs ds.H ps):=rfl
theorem aae{id len:Nat}:ve P x src dst ds d K (.rf id 0 len) true=ConvM P x src ds d K id len (lk ds.H id):=rfl
theorem wW:ve P x src dst ds d K a false=OptK (elemsD ds.H 1 a) (tU P src dst ds d K):=rfl
end
attribute [go_sem] acH ElR.eq_1 aj7 EtR.eq_1 akg VaR.eq_1 aa3 PubKD.eq_1 PubKD.eq_2 PubLD.eq_1 zS EmbP.eq_1 af7 BasR.eq_1 afc aeS ah3 afx w_ LenS.eq_1 ac4 aan aae wW s7 sO
attribute [go_sem] FillB.eq_1 FillO.eq_1 FillO.eq_2 plAt.eq_1 plAt.eq_2 plAt.eq_3 AtPK.eq_1 PutD.eq_1 PutS.eq_1 IdxN.eq_1 AppB.eq_1 AppX.eq_1
attribute [go_sem] ClrR.eq_1 ClrX.eq_1 ClrA.eq_1 vcClr2.eq_1 vcClr2.eq_2 vcCallM.eq_7
attribute [go_sem] CopyR.eq_1 CopyX.eq_1 LitL.eq_1 StoV.eq_1 StoP.eq_1 StoE2.eq_1 StoE1.eq_1 StoE.eq_1 StoY.eq_1 StoY.eq_2 StoY.eq_3 NilN.eq_1
attribute [go_sem] ConvM.eq_1 ConvV.eq_1 ConvV.eq_2 CutM.eq_1 CutM.eq_2 CutH.eq_1 CutL.eq_1 CutN.eq_1 CutE.eq_1 UnV.eq_1 FnK2.eq_1
attribute [go_sem] IndW.eq_1 IndV.eq_1 NewC.eq_1 CallD.eq_1 LenA.eq_1 CapA.eq_1 MinV.eq_1 MaxV.eq_1 AppA.eq_1 CopA.eq_1 RetD.eq_1 RetID.eq_1
attribute [go_sem] OptK.eq_1 consV.eq_1 elemsD.eq_1 elemsD.eq_3 elemsD.eq_4 lenD.eq_1 lenD.eq_2 lenD.eq_3 lenD.eq_4 lenD.eq_5 eltD.eq_1 ldsD.eq_1
attribute [go_sem] ldsD.eq_2 locCs.eq_1 locCs.eq_2 loadD.eq_1 loadD.eq_2 loadD.eq_3 loadD.eq_4 vcLoad2.eq_1 vcLoad2.eq_2 fieldD.eq_1 fieldD.eq_2 fieldD.eq_3
attribute [go_sem] fieldD.eq_4 vcField2.eq_1 vcField2.eq_2 fvalD.eq_1 vcIdx2.eq_1 ovC.eq_1 ovD.eq_1 ovD.eq_2 intO.eq_1 intO.eq_2 cutR.eq_1 cutD.eq_1
attribute [go_sem] cutD.eq_2 cutD.eq_3 cellsD.eq_1 cellsD.eq_2 buildD.eq_1 consD.eq_1 dvs.eq_1 dvs.eq_2 pconsD.eq_1 pdvs.eq_1 pdvs.eq_2 pubSVD.eq_1
attribute [go_sem] pubSVD.eq_2 pubRD.eq_1 pubRD.eq_2 dropKD.eq_1 dropKD.eq_2 DS.pub.eq_1 consP.eq_1 consP.eq_2 pubsD.eq_1 setRo.eq_1 setRo.eq_2 roH.eq_1
attribute [go_sem] roH.eq_2 roHs.eq_1 roHs.eq_2 DS.ros.eq_1 idC.eq_1 idC.eq_2 idCs.eq_1 idCs.eq_2 idsD.eq_1 idsD.eq_2 idsD.eq_3 idsD.eq_4
attribute [go_sem] idsD.eq_5 idsD.eq_6 idsDs.eq_1 idsDs.eq_2 rfD.eq_1 embC.eq_1 embF.eq_1 embV.eq_1 embV.eq_2 embV.eq_3 embV.eq_4 embV.eq_5
attribute [go_sem] embVs.eq_1 embVs.eq_2 ptD.eq_1 ptD.eq_2 embVo.eq_1 embVo.eq_2 embD.eq_1 embD.eq_2 embD.eq_3 embD.eq_4 embD.eq_5 embD.eq_6
attribute [go_sem] embD.eq_7 embD.eq_8 embD.eq_9 embD.eq_10 embDs.eq_1 embDs.eq_2 embPs.eq_1 idsPs.eq_1 idsPs.eq_2
attribute [go_sem] noPts.eq_1 noPts.eq_2 baseD.eq_1 baseD.eq_2 dropO.eq_1 dropO.eq_2 dropH.eq_1 dropH.eq_2 setH.eq_1 setH.eq_2
attribute [go_sem] vcApp2.eq_1 vcApp2.eq_2 copyL.eq_1 vcCopy2.eq_1 vcCopy2.eq_2 litOk.eq_1 litOk.eq_2 vcLit2.eq_1 vcMake2.eq_1 setLD.eq_1 vcStore2.eq_1 vcStore2.eq_2
attribute [go_sem] nilK.eq_1 nilK.eq_2 vcNil.eq_1 vcBin2.eq_1 vcBin2.eq_2 vcBinS.eq_1 vcConv2.eq_1 vcCut2.eq_1 vcCut2.eq_2 vcNilC.eq_1 vcNilC.eq_2 vcNilC.eq_3
attribute [go_sem] vcNilC.eq_4 vcPick2.eq_1 vcUn2.eq_1 vcFn2.eq_1 vcIndex2.eq_1 tupD.eq_1 addLD.eq_1 vcNew2.eq_1 vcNew2.eq_2 vcStoreS.eq_1 vcCutS.eq_1 boxD.eq_1
attribute [go_sem] zeroE.eq_1 zeroE.eq_2 vcLen2.eq_1 vcCap2.eq_1 vcCap2.eq_2 one2.eq_1 two2.eq_1 valsO.eq_1 valsO.eq_2 vcFun2.eq_1 vcFun2.eq_3 initD.eq_1
attribute [go_sem] initD.eq_2 dvO.eq_1 resCell.eq_1 tup2.eq_1 tup3.eq_1 tup4.eq_1 tup5.eq_1 resS.eq_1
attribute [go_sem] shDs.eq_1 shDs.eq_2 shRow.eq_1 shRow.eq_2 shH.eq_1 shH.eq_2
attribute [go_sem] plainDs.eq_1 plainDs.eq_2 aftC.eq_1 ldD.eq_1 spliceD.eq_1 onesD.eq_1 onesD.eq_2 oneD.eq_1 oneD.eq_2
attribute [go_sem] oneD.eq_3 undefD.eq_1 ldSVD.eq_1 ldSVD.eq_2 ldSVD.eq_3 stSVD.eq_1
attribute [go_sem] adA yy al5 afa adQ y_ aiB akb List.take_succ_cons List.take_zero List.drop_succ_cons List.drop_zero List.length_cons List.length_nil List.cons_append List.nil_append List.headD_cons List.all_cons List.all_nil List.map_cons List.map_nil List.take_nil List.drop_nil List.append_nil
theorem aiU{sz off len e sz':Nat}{l:List (List DV)}:ElR sz off len (some (.nst e sz' l))=none:=rfl
theorem aib{off len e sz':Nat}{l:List (List DV)}:rfD off len (some (.nst e sz' l))=none:=rfl
theorem aho{e sz id len e' sz':Nat}{l:List (List DV)}:BasR e sz id len (some (.nst e' sz' l))=none:=rfl
theorem acQ{H:List (Nat×Row)}{sz id off len:Nat}:pX H sz (.rf id off len)=ElNR sz off len (lk H id):=rfl
theorem ag2{H:List (Nat×Row)}{e sz id len:Nat}:kI H e sz (.rf id 0 len)=BaNR e sz id len (lk H id):=rfl
theorem ahS{H:List (Nat×Row)}{e sz:Nat}:kI H e sz .e0=some (none,[]):=rfl
theorem adF{H:List (Nat×Row)}{e sz:Nat}:kI H e sz (.v (.slice none 0 0))=some (none,[]):=rfl
attribute [go_sem] EtR.eq_2 cutR.eq_2 aiU aib aho acQ ag2 ahS adF ElNR.eq_1 BaNR.eq_1 BaNR.eq_2 AppC.eq_1 AppY.eq_1 AppZ.eq_1 AppZ.eq_2 AppW.eq_1 AppW.eq_2 LitE.eq_1 LitE.eq_2 LitM.eq_1 StoN.eq_1 StoF.eq_1 StoF.eq_2 StoE.eq_2 shRow.eq_3 wkRow.eq_3 wkRow.eq_4 Option.map_none
def RnmB(a b:Option Nat):Bool:=
 match a,b with
 |some a,some b=>a==b
 |_,_=>false
def RnmC(a b:Option Nat):Bool->Bool
 |true=>false
 |false=>RnmB a b
theorem zd{r:Nat->Option Rn}{o:Option Nat}{i j:Nat}{x:Row}{l:List (Nat×Row)}:nN r o i ((j,x)::l)=(RnmC o (rnTo (r j)) (j==i)||nN r o i l):=by
 show((bif j==i then false else (match o,rnTo (r j)with|some a,some b=>a==b|_,_=>false))||nN r o i l)=_
 cases (j==i)<;>rfl
theorem acz{r:Nat->Option Rn}{o:Option Nat}{i:Nat}:nN r o i []=false:=rfl
attribute [go_sem] zd acz RnmC.eq_1 RnmC.eq_2 RnmB.eq_1 RnmB.eq_2 rnOf.eq_1 wkRf.eq_1 wkRf.eq_2 wkRf.eq_3 wkPt.eq_1 wkE0.eq_1 wkE0.eq_2 wkFz.eq_1 wkFz.eq_2 wkFz.eq_3 wkV.eq_1 wkFp.eq_1 wkDs.eq_1 wkDs.eq_2 wkS.eq_1 wkS.eq_2 wkS.eq_3 wkS.eq_4 wkR.eq_1 wkR.eq_2 wkLoc.eq_1 wkLoc.eq_2 wkL.eq_1 wkL.eq_2 wkRow.eq_1 wkRow.eq_2 wkRowN.eq_1 wkRowN.eq_2 wkRowN.eq_3 wkRowN.eq_4 wkH.eq_1 wkH.eq_2 rnTo.eq_1 rnTo.eq_2 wkInj.eq_1 wkInj.eq_2 wkKeys.eq_1 wkKeys.eq_2 Option.isSome_some
section
variable {r:Nat->Option Rn} {n sz id off len i:Nat} {l cs ds a b:List DV} {ll:List (List DV)} {v:Value} {y:DV} {es:List (UInt8×Nat)} {f f':FuncId} {a' b' cs':List DV}
theorem alK:fP (.v v)=true:=rfl
theorem ajj:fP (.fz sz ll)=true:=rfl
theorem air:fP (.rf id off len)=true:=rfl
theorem aid:fP .e0=true:=rfl
theorem akh:fP (.pt id off)=false:=rfl
theorem aks:fP (.fp cs)=true:=rfl
theorem ajt:fP (.mp es)=true:=rfl
theorem ajQ:fP (.mr id)=false:=rfl
theorem aih:fP (.cz sz ll)=true:=rfl
theorem aj8:fP (.pe id i off)=false:=rfl
theorem aio:fP (.fn f a b)=(noPts a&&noPts b):=rfl
theorem aeT:fP (.agg cs)=noPts cs:=rfl
theorem ahO:fP (.tup cs)=noPts cs:=rfl
theorem amx:wkD r (.v v) y=wkV v y:=rfl
theorem ala:wkD r (.fz sz ll) y=wkFz sz ll y:=rfl
theorem alZ:wkD r (.rf id off len) y=wkRf off len (r id) y:=rfl
theorem alJ:wkD r .e0 y=wkE0 y:=rfl
theorem ak5:wkD r (.pt id off) y=wkPt off (r id) y:=rfl
theorem akY:wkD r (.fp cs) y=wkFp cs y:=rfl
theorem ak0:wkD r (.mr id) y=wkMr (r id) y:=rfl
theorem al8:wkD r (.cz sz ll) y=alr sz ll y:=rfl
theorem amk:wkD r (.fn f a b) (.fn f' a' b')=(f=f'/\wkDs r a a'/\wkDs r b b'):=rfl
theorem ajo:wkD r (.agg cs) (.agg cs')=wkDs r cs cs':=rfl
theorem akv:wkD r (.tup cs) (.tup cs')=wkDs r cs cs':=rfl
theorem amw:shD n (.v v)= .v v:=rfl
theorem alC:shD n (.fz sz ll)= .fz sz ll:=rfl
theorem alz:shD n (.rf id off len)= .rf (n+id) off len:=rfl
theorem alO:shD n .e0= .e0:=rfl
theorem alc:shD n (.pt id off)= .pt (n+id) off:=rfl
theorem alB:shD n (.fp cs)= .fp cs:=rfl
theorem alD:shD n (.mp es)= .mp es:=rfl
theorem alm:shD n (.mr id)= .mr (n+id):=rfl
theorem als:shD n (.cz sz ll)= .cz sz ll:=rfl
theorem alp:shD n (.fn f a b)= .fn f (shDs n a) (shDs n b):=rfl
theorem ajF:shD n (.agg cs)= .agg (shDs n cs):=rfl
theorem akt:shD n (.tup cs)= .tup (shDs n cs):=rfl
theorem agc:cE (.v v)=true:=rfl
theorem aav:cE (.agg cs)=plainDs cs:=rfl
theorem aa7:cE (.tup cs)=plainDs cs:=rfl
theorem ack:cE (.fz sz ll)=false:=rfl
theorem acG:cE (.rf id off len)=false:=rfl
theorem acY:cE .e0=false:=rfl
theorem aej:cE (.pt id off)=false:=rfl
theorem acK:cE (.fp cs)=false:=rfl
theorem aes:cE (.fn f a b)=false:=rfl
theorem aew:cE (.mp es)=false:=rfl
theorem ac3:cE (.mr id)=false:=rfl
theorem ad_:cE (.cz sz ll)=false:=rfl
end
attribute [go_sem] alK ajj air aid akh aks ajt ajQ aih aj8 aio aeT ahO amx ala alZ alJ ak5 akY ak0 al8 amk ajo akv wkMr.eq_1
attribute [go_sem] amw alC alz alO alc alB alD alm als alp ajF akt agc aav aa7 ack acG acY aej acK aes aew ac3 ad_
theorem aF{α β:Type}{f:α->β}{l:List α}:List.take l.length (List.map f l)=List.map f l:=List.take_of_length_le (by simp)
theorem take_len{α:Type}{l:List α}:List.take l.length l=l:=List.take_of_length_le (Nat.le_refl _)
theorem aaV{α:Type}{p:α->Prop}:(∀x∈([]:List α),p x)=True:=by simp
attribute [go_sem] aF take_len List.forall_mem_cons aaV Int.toNat_natCast
attribute [go_sem] Nat.reduceBEq Nat.reduceAdd Nat.reduceSub Nat.reduceMul Nat.reduceLeDiff Nat.reduceLT Nat.reduceEqDiff Int.reduceAdd Int.reduceBEq Int.reduceBNe Int.reduceToNat reduceCtorEq List.length_map Nat.zero_add Nat.add_zero
def jX:Code->Bool
 | .loop _=>false
 |_=>true
section
variable {P:Program} {Q:Exit->DS->Prop} {ds:DS} {id:Nat}
theorem xN{a b:Code}:jX (.seq a b)=true:=rfl
theorem pF{i:Nat}{l:Array Oper}{t:Bool}:jX (.region i l t)=true:=rfl
theorem uU{c:Operand}{a b:Code}:jX (.cond c a b)=true:=rfl
theorem qO{j:Nat}{a:Code}:jX (.block j a)=true:=rfl
theorem ab{x:Code}(h:jX x=true):vc2 P (.block id x) Q ds=vc2 P x (dh id Q) ds:=by
 cases x<;>first|rfl|exact absurd h (by simp[jX])|skip
end
attribute [go_sem] List.isEmpty_nil List.isEmpty_cons eq_self or_true true_or or_false false_or xN pF uU qO
theorem f6{a:Int}{K:Value->Prop}(h: -9223372036854775808<=a/\a<=9223372036854775807)(hk:K (.int .i64 a)):bq .i64 a K:=by rw[dQ h];exact hk
theorem dx{a:Int}{K:Value->Prop}(h:0<=a/\a<=255)(hk:K (.int .u8 a)):bq .u8 a K:=by rw[ahc h];exact hk
theorem iR{a:Int}{K:Value->Prop}(h:0<=a/\a<=65535)(hk:K (.int .u16 a)):bq .u16 a K:=by rw[aec h];exact hk
theorem kU{a:Int}{K:Value->Prop}(h:0<=a/\a<=4294967295)(hk:K (.int .u32 a)):bq .u32 a K:=by rw[acF h];exact hk
theorem qA{α β:Type}{f:α->β}{l:List α}{k:Nat}(h:k<l.length):List.map f (List.take (k+1) l)=List.map f (List.take k l)++[f l[k]]:=by
 rw[List.take_add_one,List.map_append,List.getElem?_eq_getElem h];rfl
theorem aX{α β:Type}{f:α->β}{l:List α}{k:Nat}(h:k<l.length):(List.map f l)[k]? =some (f l[k]):=by simp[h]
theorem yc{α:Type}{l:List α}{k:Nat}(h:k<=l.length):(List.take k l).length=k:=by simp;omega
theorem ai9{k:Nat}:((k:Int)<0)=False:=by simp
theorem ai8{k:Nat}:(0<=(k:Int))=True:=by simp
attribute [go_sem] ai9 ai8 List.getElem?_cons_zero List.getElem?_cons_succ
theorem rr: ∀{a b:List UInt8},List.map aQ a=List.map aQ b->a=b
 |[],[],_=>rfl
 |[],_::_,h=>by simp at h
 |_::_,[],h=>by simp at h
 | x::a,y::b,h=>by
  simp only[List.map_cons,List.cons.injEq]at h;have h1:=h.1;simp only[aQ,List.cons.injEq,DV.v.injEq,Value.int.injEq,true_and,and_true]at h1
  have:x=y:=by
   have h2:x.toNat=y.toNat:=by exact_mod_cast h1
   exact UInt8.toNat_inj.1 h2
  rw[this,rr h.2]
theorem yf{P:Program}{src dst:TypeId}{ds:DS}{d:Option Tmp}{K:DS->Prop}{b:List UInt8}:
  tU P src dst ds d K (List.map aQ b)=(aia P src=true/\P.underlying dst=some .string/\K (ds.put d (.d (.v (.string (n5 b)))))):=by grind [tU,rr]
attribute [go_sem] yf yt z5
section
variable {P:Program}
theorem OptK.mono{α:Type}{o:Option α}{K K':α->Prop}(h: ∀x,K x->K' x):OptK o K->OptK o K':=by
 cases o with
 |none=>exact id
 |some x=>exact h x
theorem AtP.mono{e:Sem Value}{K K':DV->Prop}(h: ∀d,K d->K' d):AtP P e K->AtP P e K':=AtPure.mono fun r hr=>⟨hr.1,h _ hr.2⟩
theorem CallS.mono{x:Bool}{f:FuncId}{args:List DV}{ds:DS}{K K':DV->DS->Prop}(h: ∀d ds,K d ds->K' d ds)(hc:CallS P x f args ds K):CallS P x f args ds K':=
 fun u0 β0 β us s u vs hr hv=>AtCall.mono (fun r u' ⟨β',us',ds',d,h1,h2,h3⟩=>⟨β',us',ds',d,h1,h2,h d ds' h3⟩) (hc u0 β0 β us s u vs hr hv)
theorem LeK2.mono{K K':DS->Prop}{ds:DS}(h: ∀ds,K ds->K' ds):LeK2 K ds->LeK2 K' ds
 | .inl h1=>.inl (h _ h1)
 | .inr ⟨ds1,h1,h2⟩=>.inr ⟨ds1,h1,h _ h2⟩
theorem zp{ds:DS}{d:Option Tmp}{K K':DS->Prop}{k off:Nat}{i:Int}{as:Option (Nat×Nat)}(h: ∀d,K d->K' d)(hh:IdxA2 ds d K k off i as):IdxA2 ds d K' k off i as:=by
 unfold IdxA2 at hh ⊢;split at hh
 ·exact⟨hh.1,h _ hh.2⟩
 ·exact hh.elim
theorem adu{K K':DV->Prop}{cs:List DV}{i:Int}{as:Option (Nat×Bool×Nat)}(h: ∀d,K d->K' d)(hh:AggI K cs i as):AggI K' cs i as:=by
 unfold AggI at hh ⊢;split at hh
 ·exact⟨hh.1,OptK.mono h hh.2⟩
 ·exact hh.elim
theorem aha{P:Program}{T:TypeId}{K K':DV->Prop}{es:List (UInt8×Nat)}{v:Value}(h: ∀d,K d->K' d)(hh:LkU P T K es v):LkU P T K' es v:=by
 unfold LkU at hh ⊢;split at hh
 ·exact⟨hh.1,hh.2.imp fun k hk=>⟨hk.1,h _ hk.2⟩⟩
 ·exact hh.elim
theorem VcSem.mono{x:Bool}{o:Oper}{K K':DS->Prop}{ds:DS}(h: ∀ds,K ds->K' ds)(hh:VcSem P x o K ds):VcSem P x o K' ds:=
 fun u0 β0 β us s u hr=>aei (fun s u ⟨β,us,ds,h1,h2⟩=>⟨β,us,ds,h1,h _ h2⟩) (hh u0 β0 β us s u hr)
theorem ow{x:Bool}{o:Oper}{K K':DS->Prop}{ds:DS}(h: ∀ds,K ds->K' ds)(hh:ir P x o K ds):ir P x o K' ds:=by
 have hp: ∀(ds:DS) d r,PutD ds d K r->PutD ds d K' r:=fun ds d r hr=>h _ hr
 unfold ir vcOpM at hh ⊢;cases hop:o.op<;>simp only[hop]at hh⊢
 case move=>exact h _ hh
 case assign=>exact h _ hh
 case pick=>unfold vcPick2 at hh ⊢; split at hh<;>first|exact h _ hh|exact hh.elim
 case load=>unfold vcLoad2 at hh ⊢; split at hh<;>first|exact OptK.mono (hp _ _) hh|exact hh.elim
 case nilCheck=>unfold vcNilC at hh ⊢; split at hh<;>first|exact h _ hh|exact hh.elim
 case binOp op T y z t2=>
  unfold vcBinS at hh ⊢;split at hh
  ·unfold vcBin2 at hh ⊢;split at hh
   ·exact AtP.mono (hp _ _) hh
   ·unfold vcNil at hh⊢
    have hn: ∀t,nilK op (PutD ds o.dst K) t->nilK op (PutD ds o.dst K') t:=by
     intro t ht;unfold nilK at ht ⊢;split at ht<;>first|exact hp _ _ _ ht|exact ht.elim
    split at hh
    ·exact⟨hh.1,OptK.mono (fun n hn'=>⟨fun h0=>hn _ (hn'.1 h0),fun h0 t=>hn _ (hn'.2 h0 t)⟩) hh.2⟩
    ·split at hh<;>first|exact⟨hh.1,hn _ hh.2⟩|exact hh.elim
    ·split at hh<;>first|exact⟨hh.1,hn _ hh.2⟩|exact hh.elim
    ·exact hh.elim
  ·exact hh.elim
 case unOp=>unfold vcUn2 at hh ⊢; split at hh<;>first|exact OptK.mono (fun v hv=>AtP.mono (hp _ _) hv) hh|exact hh.elim
 case convert src dst y=>
  unfold vcConv2 at hh ⊢;split at hh
  ·rename_i a hy;unfold ConvV at hh ⊢;split at hh
   ·exact AtP.mono (hp _ _) hh
   ·unfold ve at hh ⊢;cases hb:(src==dst)with
    | true=>
     rw[hb]at hh;simp only[cond_true]at hh ⊢;split at hh
     ·unfold ConvM at hh ⊢;split at hh
      ·exact⟨hh.1,hh.2.1,hh.2.2.1,hh.2.2.2.1,hh.2.2.2.2.1,h _ hh.2.2.2.2.2⟩
      ·exact hh.elim
     ·exact hh.elim
    |false=>
     rw[hb]at hh;simp only[cond_false]at hh ⊢;exact OptK.mono (fun l hl=>⟨hl.1,hl.2.1,hl.2.2.imp fun bs hbs=>⟨hbs.1,h _ hbs.2⟩⟩) hh
  ·exact hh.elim
 case makeFunc=>unfold vcFn2 at hh ⊢; split at hh<;>first|exact OptK.mono (fun q hq=>h _ hq) hh|exact hh.elim
 case build=>exact OptK.mono (hp _ _) hh
 case slice=>
  unfold vcCutS at hh ⊢;split at hh
  ·unfold vcCut2 at hh ⊢;split at hh
   ·exact⟨hh.1,AtP.mono (hp _ _) hh.2⟩
   ·refine OptK.mono (fun e he=>OptK.mono (fun n hn=>OptK.mono (fun l hl=>OptK.mono (fun hi hh=>⟨hh.1,?_⟩) hl) hn) he) hh
    have h2:=hh.2;unfold CutM at h2 ⊢;split at h2
    ·exact OptK.mono (hp _ _) h2
    ·exact⟨h2.1,h2.2.1,h2.2.2.1,h _ h2.2.2.2⟩
    ·exact h2.elim
  ·exact hh.elim
 case fieldAddr=>unfold vcField2 at hh ⊢; split at hh<;>first|exact OptK.mono (fun r hr=>h _ hr) hh|exact hh.elim
 case field=>exact OptK.mono (hp _ _) hh
 case indexAddr=>unfold vcIdx2 at hh ⊢; split at hh<;>first|exact OptK.mono (fun n hn=>⟨hn.1,hn.2.1,hn.2.2.1,h _ hn.2.2.2⟩) hh|exact zp h hh|exact hh.elim
 case makeMap=>exact VcSem.mono h hh
 case mapUpdate=>exact VcSem.mono h hh
 case insert=>exact VcSem.mono h hh
 case mapEntry=>exact VcSem.mono h hh
 case entryStore=>exact VcSem.mono h hh
 case lookup=>
  unfold LkS at hh ⊢;split at hh
  ·exact VcSem.mono h hh
  ·unfold wX at hh ⊢; split at hh<;>first|exact aha (fun d hk=>hp _ _ _ hk) hh|exact hh.elim
 case index=>unfold vcIndex2 at hh ⊢; split at hh<;>first|exact adu (fun d hk=>hp _ _ _ hk) hh|exact OptK.mono (fun v hv=>OptK.mono (fun w hw=>AtP.mono (hp _ _) hw) hv) hh|exact hh.elim
 case extract=>exact OptK.mono (hp _ _) hh
 case alloc=>unfold vcNew2 at hh ⊢; split at hh<;>first|exact⟨hh.1,OptK.mono (fun cs hc=>⟨hc.1,h _ hc.2⟩) hh.2⟩|exact hh.elim
 case box=>unfold vcNew2 at hh ⊢; split at hh<;>first|exact⟨hh.1,OptK.mono (fun cs hc=>⟨hc.1,h _ hc.2⟩) hh.2⟩|exact hh.elim
 case store=>
  unfold vcStoreS at hh ⊢;split at hh
  ·unfold vcStore2 at hh ⊢;split at hh
   ·refine⟨hh.1,hh.2.1,?_⟩;have h2:=hh.2.2;unfold StoY at h2 ⊢;split at h2
    ·exact OptK.mono (fun l hl=>⟨hl.1,h _ hl.2⟩) h2
    ·unfold StoP at h2 ⊢;split at h2
     ·exact⟨h2.1,h2.2.1,h _ h2.2.2⟩
     ·exact h2.elim
    ·unfold StoE at h2 ⊢;split at h2
     ·exact⟨h2.1,h2.2.1,h2.2.2.1,h2.2.2.2.1,h2.2.2.2.2.1,OptK.mono (fun cs hc=>by
       unfold StoE1 StoF at hc ⊢;split at hc
       ·exact⟨hc.1,hc.2.1,h _ hc.2.2⟩
       ·exact h _ hc) h2.2.2.2.2.2⟩
     ·exact⟨h2.1,h2.2.1,h2.2.2.1,OptK.mono (fun cs hc=>h _ hc) h2.2.2.2⟩
     ·exact h2.elim
    ·exact h2.elim
   ·exact hh.elim
  ·exact hh.elim
 case buildSlice T n ps=>
  unfold vcLit2 at hh ⊢;split at hh
  ·rename_i e sz bytes qs he hp;unfold af9 at hh ⊢;cases hb:(n==0&&qs.isEmpty)with
   |true=>rw[hb]at hh;exact h _ hh
   |false=>
    rw[hb]at hh;simp only[cond_false]at hh ⊢;unfold LitE at hh ⊢;split at hh
    ·exact⟨hh.1,hh.2.1,hh.2.2.1,hh.2.2.2.1,h _ hh.2.2.2.2⟩
    ·exact⟨hh.1,hh.2.1,hh.2.2.1,hh.2.2.2.1,h _ hh.2.2.2.2⟩
  ·exact hh.elim
 case makeSlice=>
  unfold vcMake2 at hh ⊢;split at hh
  ·split at hh<;>first|exact⟨hh.1,hh.2.1,hh.2.2.1,hh.2.2.2.1,h _ hh.2.2.2.2⟩|exact hh.elim
  ·exact hh.elim
 case call c=>
  unfold vcCallM at hh ⊢;split at hh
  ·unfold one2 at hh ⊢;split at hh
   ·unfold LenA vcLen2 at hh ⊢;split at hh
    ·exact⟨hh.1,hp _ _ _ hh.2⟩
    ·split at hh<;>first|exact⟨hh.1,hp _ _ _ hh.2⟩|exact hh.elim
   ·exact hh.elim
  ·unfold one2 at hh ⊢;split at hh
   ·unfold CapA vcCap2 at hh ⊢;split at hh
    ·exact⟨hh.1,fun c hc=>hp _ _ _ (hh.2 c hc)⟩
    ·exact hh.elim
   ·exact hh.elim
  ·exact OptK.mono (fun vs hv=>AtP.mono (hp _ _) hv) hh
  ·exact OptK.mono (fun vs hv=>AtP.mono (hp _ _) hv) hh
  ·unfold two2 at hh ⊢;split at hh
   ·refine⟨hh.1,?_⟩;have h2:=hh.2;unfold vcApp2 at h2 ⊢;split at h2
    ·have hY: ∀e sz bytes s xs,AppY x ds o.dst K e sz bytes s xs->AppY x ds o.dst K' e sz bytes s xs:=fun e sz bytes s xs hy=>OptK.mono (fun b hb=>⟨hb.1,hb.2.1,hb.2.2.1,h _ hb.2.2.2⟩) hy
     unfold AppW at h2 ⊢;split at h2
     ·unfold AppX AppZ at h2 ⊢;split at h2
      ·exact⟨h2.1,h2.2.1,h2.2.2.1,h _ h2.2.2.2⟩
      ·exact hY _ _ _ _ _ h2
     ·exact OptK.mono (fun xs hx=>hY _ _ _ _ _ hx) h2
    ·exact h2.elim
   ·exact hh.elim
  ·unfold two2 at hh ⊢;split at hh
   ·refine⟨hh.1,?_⟩;have h2:=hh.2;unfold vcCopy2 at h2 ⊢;split at h2
    ·refine OptK.mono (fun xs hx=>?_) h2
     unfold CopyX at hx ⊢;split at hx
     ·unfold CopyR at hx ⊢;split at hx
      ·exact⟨hx.1,hx.2.1,hx.2.2.1,hx.2.2.2.1,hx.2.2.2.2.1,h _ hx.2.2.2.2.2⟩
      ·exact hx.elim
     ·exact hx.elim
    ·exact h2.elim
   ·exact hh.elim
  ·unfold one2 at hh ⊢;split at hh
   ·unfold ClrA vcClr2 at hh ⊢;split at hh
    ·unfold ClrX at hh ⊢;split at hh
     ·unfold ClrR at hh ⊢;split at hh
      ·exact⟨hh.1,hh.2.1,hh.2.2.1,hh.2.2.2.1,hh.2.2.2.2.1,hh.2.2.2.2.2.1,h _ hh.2.2.2.2.2.2⟩
      ·exact hh.elim
     ·exact hh.elim
    ·exact hh.elim
   ·exact hh.elim
  ·unfold vcFun2 at hh ⊢;split at hh
   ·split at hh
    ·exact CallS.mono (fun d ds hd=>h _ hd) hh
    ·exact hh.elim
   ·exact hh.elim
  ·exact hh.elim
theorem gm{x:Bool}{all:List Oper}{o:Oper}{K K':DS->Prop}{ds:DS}(h: ∀ds,K ds->K' ds)(hh:gL P x all o K ds):gL P x all o K' ds:=by
 unfold gL at hh ⊢;split at hh
 ·exact ow h hh
 ·split at hh
  ·split at hh
   ·exact⟨fun e=>ow h (hh.1 e),fun e=>h _ (hh.2 e)⟩
   ·exact h _ hh
   ·exact hh.elim
  ·exact hh.elim
theorem nU{all:List Oper}{K K':DS->Prop}(h: ∀ds,K ds->K' ds): ∀(l:List Oper) (ds:DS),i6 P all K l ds->i6 P all K' l ds
 |[],ds,hh=>h _ hh
 |o::r,ds,hh=>gm (fun ds hd=>nU h r ds hd) hh
theorem nR{all:List Oper}{K K':DS->Prop}(h: ∀ds,K ds->K' ds): ∀(l:List (Nat×Bool)) (ds:DS),gH P all K l ds->gH P all K' l ds
 |[],ds,hh=>h _ hh
 |(i,x)::r,ds,hh=>by
  simp only[gH]at hh ⊢;cases ho:bx all i with
  |none=>rw[ho]at hh;exact hh.elim
  |some o=>rw[ho]at hh;exact gm (fun ds hd=>nR h r ds hd) hh
theorem l6{all:List Oper}{ks:List Nat}{K K':DS->Prop}(h: ∀ds,K ds->K' ds): ∀(l:List (Nat×Bool)) (ds:DS),eH P all ks K l ds->eH P all ks K' l ds
 |[],ds,hh=>h _ hh
 |(i,x)::r,ds,hh=>by
  simp only[eH]at hh ⊢;cases ho:bx all i with
  |none=>rw[ho]at hh;exact hh.elim
  |some o=>rw[ho]at hh;exact⟨hh.1,hh.2.1,gm (fun ds hd=>l6 h r ds hd) hh.2.2⟩
theorem lK{all:List Oper}{ls kl:List Nat}{K K':DS->Prop}(h: ∀ds,K ds->K' ds): ∀(l:List (Nat×Bool)) (ds:DS),ed P all ls kl K l ds->ed P all ls kl K' l ds
 |[],ds,hh=>⟨hh.1,h _ hh.2⟩
 |(i,x)::r,ds,hh=>by
  simp only[ed]at hh ⊢;cases ho:bx all i with
  |none=>rw[ho]at hh;exact hh.elim
  |some o=>rw[ho]at hh;exact⟨hh.1,hh.2.1,hh.2.2.1,gm (fun ds hd=>lK h r ds hd) hh.2.2.2⟩
theorem fE{all:List Oper}{K K':DS->Prop}(h: ∀ds,K ds->K' ds): ∀(t:OT) (ds:DS),gO P all K t ds->gO P all K' t ds
 | .done,ds,hh=>h _ hh
 | .no,_,_=>trivial
 | .fl i t,ds,hh=>by
  simp only[gO]at hh ⊢;cases ho:bx all i with
  |none=>rw[ho]at hh;exact hh.elim
  |some o=>rw[ho]at hh;exact gm (fun ds hd=>fE h t ds hd) hh
 | .eff i x t alt,ds,hh=>by
  simp only[gO]at hh ⊢;refine⟨?_,fE h alt ds hh.2⟩;have h1:=hh.1;cases ho:bx all i with
  |none=>rw[ho]at h1;exact h1.elim
  |some o=>rw[ho]at h1;exact gm (fun ds hd=>fE h t ds hd) h1
theorem AtDraw2.mono{ops:Array Oper}{K K':DS->Prop}{ds:DS}(h: ∀ds,K ds->K' ds):AtDraw2 P ops K ds->AtDraw2 P ops K' ds
 | .inl ⟨ord,h1,h2⟩=>.inl ⟨ord,h1,nR h ord ds h2⟩
 | .inr (.inl ⟨t,h1,h2⟩)=>.inr (.inl ⟨t,h1,fE (fun ds hd=>LeK2.mono h hd) t ds h2⟩)
 | .inr (.inr (.inl ⟨ord,ks,h1,h2⟩))=>.inr (.inr (.inl ⟨ord,ks,h1,l6 h ord ds h2⟩))
 | .inr (.inr (.inr (.inl ⟨ord,ls,kl,h1,h2⟩)))=>.inr (.inr (.inr (.inl ⟨ord,ls,kl,h1,lK h ord ds h2⟩)))
 | .inr (.inr (.inr (.inr h)))=>h.elim
theorem adn: ∀(c:Code) (Q Q':Exit->DS->Prop) (ds:DS),(∀e ds,Q e ds->Q' e ds)->vc2 P c Q ds->vc2 P c Q' ds:=by
 intro c
 induction c with
 |skip=>intro Q Q' ds h hh;exact h _ _ hh
 |region id ops draw=>
  intro Q Q' ds h hh;cases draw with
  |false=>exact nU (h _) _ ds hh
  |true=>exact AtDraw2.mono (h _) hh
 | seq x y ihx ihy=>
  intro Q Q' ds h hh;refine ihx _ _ ds ?_ hh;intro e ds' hk;cases e with
  |normal=>
   simp only[abr]at hk ⊢;cases hb:isIf x with
   |false=>rw[hb]at hk;exact ihy _ _ ds' h hk
   |true=>rw[hb]at hk;exact LeK2.mono (fun d hd=>ihy _ _ d h hd) hk
  |_=>exact h _ _ hk
 |cond c x y ihx ihy=>
  intro Q Q' ds h hh;simp only[vc2]at hh ⊢;split at hh
  ·exact⟨fun e=>ihx _ _ ds h (hh.1 e),fun e=>ihy _ _ ds h (hh.2 e)⟩
  ·exact hh.elim
 | block id x ih=>
  intro Q Q' ds h hh;refine ih _ _ ds ?_ hh;intro e ds' hk;cases e with
  |normal=>exact LeK2.mono (h _) hk
  |exit j=>
   simp only[dh]at hk ⊢;cases hb:(j==id)with
   |true=>rw[hb]at hk;exact LeK2.mono (h _) hk
   |false=>rw[hb]at hk;exact h _ _ hk
  |_=>exact h _ _ hk
 |loop x ih=>
  intro Q Q' ds h hh;obtain⟨γ,st,F,μ,h0,hr⟩:=hh;refine⟨γ,st,F,μ,h0,fun g hg=>Vc2.mono ?_ (hr g hg)⟩
  intro e ds' hk;cases e<;>first|exact hk|exact h _ _ hk
 |exit id=>intro Q Q' ds h hh;exact h _ _ hh
 |ret=>intro Q Q' ds h hh;exact h _ _ hh
 |rangeFunc f ps x y=>intro Q Q' ds h hh;exact hh.elim
 |scope x=>intro Q Q' ds h hh;exact hh.elim
 |label l=>intro Q Q' ds h hh;exact hh.elim
 |goto l=>intro Q Q' ds h hh;exact hh.elim
 |refuse w=>intro Q Q' ds h hh;exact hh.elim
end
section
variable {P:Program} {Q:Exit->DS->Prop} {ρ:List (Nat×DSV)} {σ:List (Nat×ek)} {H:List (Nat×Row)} {nx nb:Nat}
def pE(P:Program)(y:Code)(Q:Exit->DS->Prop)(e:Exit)(ds:DS):Prop:=
 match e with
 | .normal=>Vc2 P y Q ds
 |e=>Q e ds
theorem Vc2.seq{x y:Code}{ds:DS}(h:Vc2 P x (pE P y Q) ds):Vc2 P (.seq x y) Q ds:=by
 intro u0 β0 β us s u hr;refine Vc.seq (Vc.mono ?_ (h u0 β0 β us s u hr));intro e s' u' hl;obtain⟨β',us',ds',h1,h2⟩:=hl;cases e with
 |normal=>exact h2 u0 β0 β' us' s' u' h1
 |exit j=>exact⟨β',us',ds',h1,h2⟩
 |ret=>exact⟨β',us',ds',h1,h2⟩
 |goto l=>exact⟨β',us',ds',h1,h2⟩
 |panic c=>exact⟨β',us',ds',h1,h2⟩
 |outgrown=>exact⟨β',us',ds',h1,h2⟩
def tS(id:Nat)(Q:Exit->DS->Prop)(e:Exit)(ds:DS):Prop:=
 match e with
 | .exit j=>bif j==id then Q .normal ds else Q (.exit j) ds
 |e=>Q e ds
theorem Vc2.block{id:Nat}{x:Code}{ds:DS}(h:Vc2 P x (tS id Q) ds):Vc2 P (.block id x) Q ds:=by
 intro u0 β0 β us s u hr;refine Vc.block (Vc.mono ?_ (h u0 β0 β us s u hr));intro e s' u' hl;cases e with
 |exit j=>
  obtain⟨β',us',ds',h1,h2⟩:=hl;simp only[tS]at h2;simp only[fi];cases hb:(j==id)<;>rw[hb]at h2<;>exact⟨β',us',ds',h1,h2⟩
 |normal=>exact hl
 |ret=>exact hl
 |goto l=>exact hl
 |panic c=>exact hl
 |outgrown=>exact hl
theorem Vc2.le{x:Code}{ds ds1:DS}(hle:leD ds1 ds)(h:Vc2 P x Q ds1):Vc2 P x Q ds:=by
 intro u0 β0 β us s u hr hm C a w hu hf hs;obtain⟨β1,s1,h1,h2⟩:=hle u0 β0 β us s u hr;exact h u0 β0 β1 us s1 u h2 hm C a w hu hf (hs.le_of h1)
def iS{γ:Type}(st:Nat->γ->DS)(F:Nat->γ->Prop)(k id id2:Nat)(Q:Exit->DS->Prop)(e:Exit)(ds:DS):Prop:=
 match e with
 | .normal=> ∃g',leD (st k g') ds/\F (k+1) g'
 | .exit j=>bif j==id2 then (∃g',leD (st k g') ds/\F (k+1) g')else bif j==id then LeK2 (Q .normal) ds else Q (.exit j) ds
 |e=>Q e ds
theorem qE{γ:Type}{st:Nat->γ->DS}{F:Nat->γ->Prop}{k id id2:Nat}{ds:DS}:iS st F k id id2 Q .normal ds= ∃g',leD (st k g') ds/\F (k+1) g':=rfl
theorem xo{γ:Type}{st:Nat->γ->DS}{F:Nat->γ->Prop}{k id id2 j:Nat}{ds:DS}:iS st F k id id2 Q (.exit j) ds=bif j==id2 then (∃g',leD (st k g') ds/\F (k+1) g')else bif j==id then LeK2 (Q .normal) ds else Q (.exit j) ds:=rfl
theorem zB{γ:Type}{st:Nat->γ->DS}{F:Nat->γ->Prop}{k id id2:Nat}{ds:DS}:iS st F k id id2 Q .ret ds=Q .ret ds:=rfl
attribute [go_sem] qE xo zB
def stR{γ:Type}(ti:Nat)(pre:γ->List (Nat×DSV))(ρ:List (Nat×DSV))(loc:γ->List (Nat×ek))(Hf:γ->List (Nat×Row))(nx nb:Nat)(k:Nat)(g:γ):DS:=⟨(ti,.d (.v (.int .i64 k)))::(pre g++ρ),loc g,Hf g,nx,nb⟩
theorem akZ{γ:Type}{ti:Nat}{pre:γ->List (Nat×DSV)}{ρ:List (Nat×DSV)}{loc:γ->List (Nat×ek)}{Hf:γ->List (Nat×Row)}{nx nb k:Nat}{g:γ}:stR ti pre ρ loc Hf nx nb k g=⟨(ti,.d (.v (.int .i64 k)))::(pre g++ρ),loc g,Hf g,nx,nb⟩:=rfl
attribute [go_sem] akZ
theorem aey{R ρ':List (Nat×DSV)}{σ:List (Nat×ek)}{H:List (Nat×Row)}{nx nb ti tj:Nat}{a b x:DV}(hj:lk R tj=none):leD ⟨(ti,.d b)::R,σ,H,nx,nb⟩ ⟨(ti,.d b)::(tj,.d x)::(ti,.d a)::R,σ,H,nx,nb⟩:=by
 refine kP (fun t=>?_) rfl rfl rfl rfl
 show((lk ((ti,DSV.d b)::R) t).getD DSV.unk=DSV.unk)\/(lk ((ti,DSV.d b)::(tj,DSV.d x)::(ti,DSV.d a)::R) t).getD DSV.unk=(lk ((ti,DSV.d b)::R) t).getD DSV.unk
 by_cases h1:ti=t
 ·subst h1;rw[au,au];exact .inr rfl
 ·rw[aj h1,aj h1]
  by_cases h2:tj=t
  ·subst h2;rw[hj];exact .inl rfl
  ·rw[aj h2,aj h1];exact .inr rfl
theorem gq{ρ0:List (Nat×DSV)}{γ:Type}{body:Code}{id id2 r1 r2 ti tc tj:Nat}{T T2 T3 T4 y1 y2 y3:TypeId}{p1 p2 p3:String}{e1 e2 e3:Array Edge}{yn:Operand}
  (n:Nat) (pre:γ->List (Nat×DSV)) (loc:γ->List (Nat×ek)) (Hf:γ->List (Nat×Row)) (nx1:Nat) (F:Nat->γ->Prop) (g0:γ)
  (hle:leD (stR ti pre ρ loc Hf nx1 nb 0 g0) ⟨ρ0,σ,H,nx,nb⟩) (hF:F 0 g0)
  (hn: ∀g k,(stR ti pre ρ loc Hf nx1 nb k g).sv yn= .d (.v (.int .i64 n))) (hmax:n<=9223372036854775807) (hj: ∀g,lk (pre g++ρ) tj=none)
  (hbody: ∀k g,k<n->F k g->Vc2 P body (iS (stR ti pre ρ loc Hf nx1 nb) F k id id2 Q) ⟨(tc,.d (.v (.bool true)))::(ti,.d (.v (.int .i64 k)))::(pre g++ρ),loc g,Hf g,nx1,nb⟩)
  (hend: ∀g,F n g->Q .normal ⟨(tc,.d (.v (.bool false)))::(ti,.d (.v (.int .i64 n)))::(pre g++ρ),loc g,Hf g,nx1,nb⟩):
  vc2 P (.block id (.loop (.seq (.region r1 [⟨some tc,.binOp .lss T (.tmp ti) yn T2,y1,p1,e1,none⟩].toArray false)
   (.seq (.cond (.tmp tc) .skip (.exit id)) (.seq (.block id2 body)
    (.region r2 [⟨some tj,.binOp .add T3 (.tmp ti) (.const (.int .i64 1)) T4,y2,p2,e2,none⟩,⟨some ti,.move (.tmp tj),y3,p3,e3,none⟩].toArray false)))))) Q ⟨ρ0,σ,H,nx,nb⟩:=by
 refine⟨Nat×γ,fun x=>stR ti pre ρ loc Hf nx1 nb x.1 x.2,fun x=>x.1<=n/\F x.1 x.2,fun x=>n-x.1,⟨(0,g0),hle,Nat.zero_le _,hF⟩,?_⟩
 rintro⟨k,g⟩ ⟨hk,hF1⟩
 simp only at hk hF1⊢
 have hlkti:(stR ti pre ρ loc Hf nx1 nb k g).sv (.tmp ti)= .d (.v (.int .i64 k)):=by
  show(lk ((ti,_)::_) ti).getD DSV.unk=_;rw[au];rfl
 refine Vc2.seq (Vc2.of ?_);rw[kL,gY,jQ,uW,vcOpM.eq_6,hlkti,hn g k,oo,zI,uF];refine⟨rfl,?_⟩;show pE P _ _ .normal _;refine Vc2.seq (Vc2.of ?_);rw[vG]
 have hc:(DS.put (stR ti pre ρ loc Hf nx1 nb k g) (some tc) (.d (.v (.bool (decide ((k:Int)<(n:Int))))))).sv (.tmp tc)= .d (.v (.bool (decide (k<n)))):=by
  show(lk ((tc,_)::_) tc).getD DSV.unk=_;rw[au];have:decide ((k:Int)<(n:Int))=decide (k<n):=by simp
  rw[this];rfl
 rw[hc];have hdec:decide ((k:Int)<(n:Int))=decide (k<n):=by simp
 by_cases hlt:k<n
 ·rw [show decide (k<n)=true from by simpa using hlt,jH,wZ]
  show pE P _ _ .normal _;refine Vc2.seq (Vc2.block (Vc2.mono ?_ ?_ (Q:=iS (stR ti pre ρ loc Hf nx1 nb) F k id id2 Q)))
  ·intro e ds2 h
   have key: ∀ds2,(∃g',leD (stR ti pre ρ loc Hf nx1 nb k g') ds2/\F (k+1) g')->Vc2 P (.region r2 [⟨some tj,.binOp .add T3 (.tmp ti) (.const (.int .i64 1)) T4,y2,p2,e2,none⟩,⟨some ti,.move (.tmp tj),y3,p3,e3,none⟩].toArray false)
     (gI (fun x:Nat×γ=>stR ti pre ρ loc Hf nx1 nb x.1 x.2) (fun x=>x.1<=n/\F x.1 x.2) (fun x=>n-x.1) (k,g) (dh id Q)) ds2:=by
    rintro ds2 ⟨g',hle',hF'⟩
    refine Vc2.le hle' (Vc2.of ?_)
    have hti:(stR ti pre ρ loc Hf nx1 nb k g').sv (.tmp ti)= .d (.v (.int .i64 k)):=by
     show(lk ((ti,_)::_) ti).getD DSV.unk=_;rw[au];rfl
    rw[kL,gY,jQ,uW,vcOpM.eq_6,hti,rM,pJ,oo,zI,um,dQ (by omega)]
    refine⟨rfl,?_⟩;unfold PutD;rw[gY,jQ,uW,vcOpM.eq_1,oA];refine⟨(k+1,g'),?_,⟨hlt,hF'⟩,by simp;omega⟩
    have htj:(DS.put (stR ti pre ρ loc Hf nx1 nb k g') (some tj) (.d (.v (.int .i64 ((k:Int)+1))))).sv (.tmp tj)= .d (.v (.int .i64 ((k:Int)+1))):=by
     show(lk ((tj,_)::_) tj).getD DSV.unk=_;rw[au];rfl
    rw[htj];exact aey (ρ':=[]) (hj g')
   cases e with
   |normal=>exact key ds2 h
   |exit j=>
    simp only[iS]at h;simp only[tS];cases hb:(j==id2)with
    |true=>rw[hb]at h;simp only[cond_true]at h ⊢; exact key ds2 h
    |false=>rw[hb]at h;simp only[cond_false]at h ⊢; exact h
   |ret=>exact h
   |goto l=>exact h
   |panic c=>exact h
   |outgrown=>exact h
  ·have h1:=hbody k g hlt hF1;rw[hdec,show decide (k<n)=true from by simpa using hlt]
   exact h1
 ·have hkn:k=n:=by omega
  subst hkn;rw[show decide (k<k)=false from by simp,i7,vd]
  show dh id Q (.exit id) _;rw[lH,beq_self_eq_true,nH];refine .inl ?_;rw[show decide ((k:Int)<(k:Int))=false from by simp]
  exact hend g hF1
theorem rX{γ:Type}{body:Code}{id id2 r1 r2 ti tc tj:Nat}{T T2 T3 T4 y1 y2 y3:TypeId}{p1 p2 p3:String}{e1 e2 e3:Array Edge}{yn:Operand}
  (n:Nat) (pre:γ->List (Nat×DSV)) (loc:γ->List (Nat×ek)) (Hf:γ->List (Nat×Row)) (nx1:Nat) (F:Nat->γ->Prop) (g0:γ)
  (hle:leD (stR ti pre ρ loc Hf nx1 nb 0 g0) ⟨ρ,σ,H,nx,nb⟩) (hF:F 0 g0)
  (hn: ∀g k,(stR ti pre ρ loc Hf nx1 nb k g).sv yn= .d (.v (.int .i64 n))) (hmax:n<=9223372036854775807) (hj: ∀g,lk (pre g++ρ) tj=none)
  (hbody: ∀k g,k<n->F k g->vc2 P body (iS (stR ti pre ρ loc Hf nx1 nb) F k id id2 Q) ⟨(tc,.d (.v (.bool true)))::(ti,.d (.v (.int .i64 k)))::(pre g++ρ),loc g,Hf g,nx1,nb⟩)
  (hend: ∀g,F n g->Q .normal ⟨(tc,.d (.v (.bool false)))::(ti,.d (.v (.int .i64 n)))::(pre g++ρ),loc g,Hf g,nx1,nb⟩):
  vc2 P (.block id (.loop (.seq (.region r1 [⟨some tc,.binOp .lss T (.tmp ti) yn T2,y1,p1,e1,none⟩].toArray false)
   (.seq (.cond (.tmp tc) .skip (.exit id)) (.seq (.block id2 body)
    (.region r2 [⟨some tj,.binOp .add T3 (.tmp ti) (.const (.int .i64 1)) T4,y2,p2,e2,none⟩,⟨some ti,.move (.tmp tj),y3,p3,e3,none⟩].toArray false)))))) Q ⟨ρ,σ,H,nx,nb⟩:=
 gq n pre loc Hf nx1 F g0 hle hF hn hmax hj (fun k g h1 h2=>Vc2.of (hbody k g h1 h2)) hend
theorem aiH{γ:Type}{body:Code}{id:Nat}(pre:γ->List (Nat×DSV))(loc:γ->List (Nat×ek))(Hf:γ->List (Nat×Row))(nx1:Nat)(F:γ->Prop)(μ:γ->Nat)(g0:γ)
  (hle:leD ⟨pre g0++ρ,loc g0,Hf g0,nx1,nb⟩ ⟨ρ,σ,H,nx,nb⟩) (hF:F g0)
  (hround: ∀g,F g->vc2 P body (gI (fun g=>⟨pre g++ρ,loc g,Hf g,nx1,nb⟩) F μ g (dh id Q)) ⟨pre g++ρ,loc g,Hf g,nx1,nb⟩):vc2 P (.block id (.loop body)) Q ⟨ρ,σ,H,nx,nb⟩:=
 ⟨γ,fun g=>⟨pre g++ρ,loc g,Hf g,nx1,nb⟩,F,μ,⟨g0,hle,hF⟩,fun g h=>Vc2.of (hround g h)⟩
theorem av{γ:Type}{body:Code}{id:Nat}(pre:γ->List (Nat×DSV))(loc:γ->List (Nat×ek))(Hf:γ->List (Nat×Row))(nx1:Nat)(F:γ->Prop)(μ:γ->Nat)(g0:γ)
  (hle:leD ⟨pre g0++ρ,loc g0++σ,Hf g0,nx1,nb⟩ ⟨ρ,σ,H,nx,nb⟩) (hF:F g0)
  (hround: ∀g,F g->vc2 P body (gI (fun g=>⟨pre g++ρ,loc g++σ,Hf g,nx1,nb⟩) F μ g (dh id Q)) ⟨pre g++ρ,loc g++σ,Hf g,nx1,nb⟩):vc2 P (.block id (.loop body)) Q ⟨ρ,σ,H,nx,nb⟩:=
 aiH pre (fun g=>loc g++σ) Hf nx1 F μ g0 hle hF hround
theorem ay{body:Code}{id id2 r1 r2 ti tc tj:Nat}{T T2 T3 T4 y1 y2 y3:TypeId}{p1 p2 p3:String}{e1 e2 e3:Array Edge}{yn:Operand}
  (n:Nat) (pre:Nat->List (Nat×DSV)) (loc:Nat->List (Nat×ek)) (Hf:Nat->List (Nat×Row)) (nx1:Nat) (F:Nat->Prop)
  (hle:leD ⟨(ti,.d (.v (.int .i64 (0:Nat))))::(pre 0++ρ),loc 0++σ,Hf 0,nx1,nb⟩ ⟨ρ,σ,H,nx,nb⟩) (hF:F 0)
  (hn: ∀g k,(stR ti pre ρ (fun g=>loc g++σ) Hf nx1 nb k g).sv yn= .d (.v (.int .i64 n))) (hmax:n<=9223372036854775807) (hj: ∀g,lk (pre g++ρ) tj=none)
  (hbody: ∀k,k<n->F k->vc2 P body (iS (stR ti pre ρ (fun g=>loc g++σ) Hf nx1 nb) (fun k g=>g=k/\F k) k id id2 Q) ⟨(tc,.d (.v (.bool true)))::(ti,.d (.v (.int .i64 k)))::(pre k++ρ),loc k++σ,Hf k,nx1,nb⟩)
  (hend:F n->Q .normal ⟨(tc,.d (.v (.bool false)))::(ti,.d (.v (.int .i64 n)))::(pre n++ρ),loc n++σ,Hf n,nx1,nb⟩):
  vc2 P (.block id (.loop (.seq (.region r1 [⟨some tc,.binOp .lss T (.tmp ti) yn T2,y1,p1,e1,none⟩].toArray false)
   (.seq (.cond (.tmp tc) .skip (.exit id)) (.seq (.block id2 body)
    (.region r2 [⟨some tj,.binOp .add T3 (.tmp ti) (.const (.int .i64 1)) T4,y2,p2,e2,none⟩,⟨some ti,.move (.tmp tj),y3,p3,e3,none⟩].toArray false)))))) Q ⟨ρ,σ,H,nx,nb⟩:=
 rX (γ:=Nat) n pre (fun g=>loc g++σ) Hf nx1 (fun k g=>g=k/\F k) 0 hle ⟨rfl,hF⟩ hn hmax hj (fun k g h1 h2=>by obtain⟨h2,h3⟩:=h2;subst h2;exact hbody _ h1 h3) (fun g h=>by obtain⟨h2,h3⟩:=h;subst h2;exact hend h3)
def aeD{γ:Type}(id:Nat)(st:γ->DS)(F:γ->Prop)(Q:Exit->DS->Prop)(e:Exit)(ds:DS):Prop:=
 match e with
 | .normal=> ∃g,leD (st g) ds/\F g
 | .exit j=>bif j==id then (∃g,leD (st g) ds/\F g)else Q (.exit j) ds
 |e=>Q e ds
theorem dg{γ:Type}{id:Nat}{x:Code}{ds:DS}(st:γ->DS)(F:γ->Prop)(h1:vc2 P x (aeD id st F Q) ds)(h2: ∀g,F g->Q .normal (st g)):vc2 P (.block id x) Q ds:=by
 refine adn x _ _ ds ?_ h1;intro e ds' h;have key:(∃g,leD (st g) ds'/\F g)->LeK2 (Q .normal) ds':=fun ⟨g,hle,hF⟩=>.inr ⟨_,hle,h2 g hF⟩
 cases e with
 |normal=>exact key h
 |exit j=>
  simp only[aeD]at h;simp only[dh];cases hb:(j==id)with
  |true=>rw[hb]at h;exact key h
  |false=>rw[hb]at h;exact h
 |ret=>exact h
 |goto l=>exact h
 |panic c=>exact h
 |outgrown=>exact h
theorem zH{γ:Type}{id j:Nat}{st:γ->DS}{F:γ->Prop}{ds:DS}:aeD id st F Q (.exit j) ds=bif j==id then (∃g,leD (st g) ds/\F g)else Q (.exit j) ds:=rfl
attribute [go_sem] zH
theorem CallS.eq{x:Bool}{f:FuncId}{args fargs:List DV}{r:Res}{K:DV->DS->Prop}{ds:DS}(hc:Con2 P f fargs (· =r))(he:embDs ds.H args=some fargs)
  (hp:noPts args=true\/cE r.d=true) (hk:K (bif cE r.d then r.d else shD ds.nx r.d) (aftC ds args r)):CallS P x f args ds K:=
 CallS.con hc he (hp.imp id fun h r' e=>by subst e;exact h) (fun r' e=>by subst e;exact hk)
end
def bb(e sz:Nat)(l:List (List DV)):Res:=⟨.rf 0 0 l.length,[(0,.arr e sz l false)],1⟩
def plR(d:DV):Res:=⟨d,[],0⟩
theorem gl_{K:DS->Prop}{ds:DS}(k:K ds):LeK2 K ds:=aK k
theorem ga_{a:Int}{K:Value->Prop}(k:K (.int .i64 a))(h: -9223372036854775808<=a/\a<=9223372036854775807:=by omega):bq .i64 a K:=f6 h k
theorem gn_{a b:Prop}(k:b)(h:a:=by omega):a/\b:=⟨h,k⟩
theorem g2_{p q:Prop}(k:q)(e:Lf2 q->p:=by intro k;((try (with_reducible refine aK ?_));(try simp-implicitDefEqProofs only[go_sem,ab]);repeat ((first|(with_reducible refine aK ?_)|(with_reducible refine f6 (by omega) ?_)|(with_reducible refine And.intro (by omega) ?_));(try simp-implicitDefEqProofs only[go_sem,ab])));exact k.out):p:=e ⟨k⟩
theorem ws_{p:Prop}(h:p:=by simp-implicitDefEqProofs only[go_sem,ab]):p:=h
theorem gf_{p q a:Prop}(h1:a)(k:q)(e:a->Lf2 q->p:=by intro h1 k;(repeat first|simp-implicitDefEqProofs only[go_sem,ab,List.length_map,List.contains_nil,Int.toNat_natCast,bne_self_eq_false,List.cons_append,List.nil_append,List.append_eq,List.length_nil,List.length_cons,List.map_cons,List.map_nil,List.length_replicate,List.length_set,List.set_cons_zero,List.set_cons_succ,if_true,if_false,Bool.false_eq_true,Bool.true_and,h1]|with_reducible first|refine gl_ ?_|refine ga_ ?_|refine gn_ ?_);exact k.out):p:=e h1 ⟨k⟩
theorem wf_{p a:Prop}(h1:a)(e:a->p:=by intro h1;(repeat first|simp-implicitDefEqProofs only[go_sem,ab,List.length_map,List.contains_nil,Int.toNat_natCast,bne_self_eq_false,List.cons_append,List.nil_append,List.append_eq,List.length_nil,List.length_cons,List.map_cons,List.map_nil,List.length_replicate,List.length_set,List.set_cons_zero,List.set_cons_succ,if_true,if_false,Bool.false_eq_true,Bool.true_and,h1]|with_reducible refine gl_ ?_)):p:=e h1
theorem gx_{p q:Prop}(k:q)(e:Lf2 q->p:=by intro k;exact gf_ trivial k.out):p:=e ⟨k⟩
theorem wx_{p:Prop}(e:p:=by exact wf_ trivial):p:=e
theorem gg_{p q a b:Prop}(h1:a)(h2:b)(k:q)(e:a->b->Lf2 q->p:=by intro h1 h2 k;exact gf_ (And.intro @h1 @h2) k.out):p:=e h1 h2 ⟨k⟩
theorem wg_{p a b:Prop}(h1:a)(h2:b)(e:a->b->p:=by intro h1 h2;exact wf_ (And.intro @h1 @h2)):p:=e h1 h2
theorem gh_{p q a b c:Prop}(h1:a)(h2:b)(h3:c)(k:q)(e:a->b->c->Lf2 q->p:=by intro h1 h2 h3 k;exact gf_ (And.intro @h1 (And.intro @h2 @h3)) k.out):p:=e h1 h2 h3 ⟨k⟩
theorem wh_{p a b c:Prop}(h1:a)(h2:b)(h3:c)(e:a->b->c->p:=by intro h1 h2 h3;exact wf_ (And.intro @h1 (And.intro @h2 @h3))):p:=e h1 h2 h3
theorem gi_{p q a b c d:Prop}(h1:a)(h2:b)(h3:c)(h4:d)(k:q)(e:a->b->c->d->Lf2 q->p:=by intro h1 h2 h3 h4 k;exact gf_ (And.intro @h1 (And.intro @h2 (And.intro @h3 @h4))) k.out):p:=e h1 h2 h3 h4 ⟨k⟩
theorem wi_{p a b c d:Prop}(h1:a)(h2:b)(h3:c)(h4:d)(e:a->b->c->d->p:=by intro h1 h2 h3 h4;exact wf_ (And.intro @h1 (And.intro @h2 (And.intro @h3 @h4)))):p:=e h1 h2 h3 h4
