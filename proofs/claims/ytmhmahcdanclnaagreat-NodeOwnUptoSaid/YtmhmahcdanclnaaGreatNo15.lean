import Derived.Test.YtmhmahcdanclnaaGreatNo14
set_option linter.unusedSectionVars false
set_option linter.unusedSimpArgs false
set_option linter.unusedVariables false
namespace Go.Eng
inductive Rn where
 |to (id:Nat)
 |nil (sz:Nat)
def rnOf(ι:List (Nat×Rn))(nx id:Nat):Option Rn:=bif decide (id<nx)then some ((lk ι id).getD (.to id))else none
def rnB(β:Nat->PB):Option Rn->PB
 |some (.to id)=>β id
 |some (.nil sz)=>.arr none 0 sz
 |none=>.no
def wkRf(off len:Nat):Option Rn->DV->Prop
 |some (.to id),.rf id' off' len'=>id=id'/\off=off'/\len=len'
 |some (.nil _),.e0=>off=0/\len=0
 |some (.nil _),.v (.slice none 0 0)=>off=0/\len=0
 |_,_=>False
def wkPt(off:Nat):Option Rn->DV->Prop
 |some (.to id),.pt id' off'=>id=id'/\off=off'
 |_,_=>False
def wkE0:DV->Prop
 | .e0=>True
 | .v (.slice none 0 0)=>True
 |_=>False
def wkFz(sz:Nat)(l:List (List DV)):DV->Prop
 | .fz sz' l'=>sz=sz'/\l=l'
 | .e0=>l=[]
 | .v (.slice none 0 0)=>l=[]
 |_=>False
def wkV(x:Value):DV->Prop
 | .v y=>x=y
 |_=>False
def ar2(es:List (UInt8×Nat)):DV->Prop
 | .mp e'=>es=e'
 |_=>False
def wkFp(cs:List DV):DV->Prop
 | .fp cs'=>cs=cs'
 |_=>False
def wkMr:Option Rn->DV->Prop
 |some (.to id),.mr id'=>id=id'
 |_,_=>False
def asf(i off:Nat):Option Rn->DV->Prop
 |some (.to id),.pe id' i' off'=>id=id'/\i=i'/\off=off'
 |_,_=>False
def aq_(sz:Nat)(l:List (List DV)):DV->Prop
 | .cz sz' l'=>sz=sz'/\l=l'
 |_=>False
mutual
def wkD (r:Nat->Option Rn):DV->DV->Prop
 | .v x,y=>wkV x y
 | .fz sz l,y=>wkFz sz l y
 | .rf id off len,y=>wkRf off len (r id) y
 | .e0,y=>wkE0 y
 | .pt id off,y=>wkPt off (r id) y
 | .fp cs,y=>wkFp cs y
 | .mp es,y=>ar2 es y
 | .mr id,y=>wkMr (r id) y
 | .cz sz l,y=>aq_ sz l y
 | .pe id i off,y=>asf i off (r id) y
 | .fn f a b,y=>
  match y with
  | .fn f' a' b'=>f=f'/\wkDs r a a'/\wkDs r b b'
  |_=>False
 | .agg cs,y=>
  match y with
  | .agg cs'=>wkDs r cs cs'
  |_=>False
 | .tup cs,y=>
  match y with
  | .tup cs'=>wkDs r cs cs'
  |_=>False
termination_by structural d=>d
def wkDs (r:Nat->Option Rn):List DV->List DV->Prop
 |[],y=>y=[]
 |d::l,y=>
  match y with
  |e::m=>wkD r d e/\wkDs r l m
  |[]=>False
termination_by structural d=>d
end
section
variable {us:World} {β:Nat->PB} {r:Nat->Option Rn}
mutual
theorem gT:(x:DV)->(y:DV)->(w:Value)->wkD r x y->HV us y β w->HV us x (fun id=>rnB β (r id)) w
 | .v x,y,w,h,hv=>by
  simp only[wkD]at h
  unfold wkV at h
  split at h
  ·subst h;exact hv
  ·exact h.elim
 | .fz sz l,y,w,h,hv=>by
  simp only[wkD]at h
  unfold wkFz at h
  split at h
  ·obtain⟨rfl,rfl⟩:=h;exact hv
  ·subst h;obtain⟨p,rfl⟩:=hv;exact⟨p,0,0,[],rfl,Sl.zero us sz p,(fun y hy=>by cases hy),rfl⟩
  ·subst h;obtain⟨rfl,_⟩:=hv;exact⟨none,0,0,[],rfl,Sl.zero us sz none,(fun y hy=>by cases hy),rfl⟩
  ·exact h.elim
 | .rf id off len,y,w,h,hv=>by
  simp only[wkD]at h
  unfold wkRf at h
  split at h
  ·rename_i e
   obtain⟨rfl,rfl,rfl⟩:=h
   obtain⟨p,c,sz,q,h1,h2⟩:=hv
   exact⟨p,c,sz,q,by simp only[e,rnB];exact h1,h2⟩
  ·rename_i sz0 e
   obtain⟨rfl,rfl⟩:=h
   obtain⟨p,rfl⟩:=hv
   exact⟨none,0,sz0,p,by simp only[e,rnB],rfl,Nat.le_refl _,fun h=>absurd rfl h,fun h=>absurd rfl h⟩
  ·rename_i sz0 e
   obtain⟨rfl,rfl⟩:=h
   obtain⟨rfl,_⟩:=hv
   exact⟨none,0,sz0,none,by simp only[e,rnB],rfl,Nat.le_refl _,fun h=>absurd rfl h,fun h=>absurd rfl h⟩
  ·exact h.elim
 | .e0,y,w,h,hv=>by
  simp only[wkD]at h
  unfold wkE0 at h
  split at h
  ·exact hv
  ·obtain⟨rfl,_⟩:=hv;exact⟨none,rfl⟩
  ·exact h.elim
 | .pt id off,y,w,h,hv=>by
  simp only[wkD]at h
  unfold wkPt at h
  split at h
  ·rename_i e
   obtain⟨rfl,rfl⟩:=h
   obtain⟨b,h1,h2⟩:=hv
   exact⟨b,by simp only[e,rnB];exact h1,h2⟩
  ·exact h.elim
 | .fp cs,y,w,h,hv=>by
  simp only[wkD]at h
  unfold wkFp at h
  split at h
  ·subst h;exact hv
  ·exact h.elim
 | .mp es,y,w,h,hv=>by
  simp only[wkD]at h
  unfold ar2 at h
  split at h
  ·subst h;exact hv
  ·exact h.elim
 | .mr id,y,w,h,hv=>by
  simp only[wkD]at h
  unfold wkMr at h
  split at h
  ·rename_i e
   subst h
   obtain⟨b,h1,h2⟩:=hv
   exact⟨b,by simp only[e,rnB];exact h1,h2⟩
  ·exact h.elim
 | .cz sz l,y,w,h,hv=>by
  simp only[wkD]at h
  unfold aq_ at h
  split at h
  ·obtain⟨rfl,rfl⟩:=h;exact hv
  ·exact h.elim
 | .pe id i off,y,w,h,hv=>by
  simp only[wkD]at h
  unfold asf at h
  split at h
  ·rename_i e
   obtain⟨rfl,rfl,rfl⟩:=h
   obtain⟨p,c,sz,h1,h2⟩:=hv
   exact⟨p,c,sz,by simp only[e,rnB];exact h1,h2⟩
  ·exact h.elim
 | .fn f a b,y,w,h,hv=>by
  simp only[wkD]at h
  split at h
  ·obtain⟨rfl,h1,h2⟩:=h
   obtain⟨A,B,rfl,h3,h4⟩:=hv
   exact⟨A,B,rfl,dp a _ A h1 h3,dp b _ B h2 h4⟩
  ·exact h.elim
 | .agg cs,y,w,h,hv=>by
  simp only[wkD]at h
  split at h
  ·obtain⟨V,rfl,h3⟩:=hv
   exact⟨V,rfl,dp cs _ V h h3⟩
  ·exact h.elim
 | .tup cs,y,w,h,hv=>by
  simp only[wkD]at h
  split at h
  ·obtain⟨V,rfl,h3⟩:=hv
   exact⟨V,rfl,dp cs _ V h h3⟩
  ·exact h.elim
termination_by structural d=>d
theorem dp:(x:List DV)->(y:List DV)->(w:List Value)->wkDs r x y->HVs us y β w->HVs us x (fun id=>rnB β (r id)) w
 |[],y,w,h,hv=>by simp only[wkDs]at h;subst h;exact hv
 | d::l,y,w,h,hv=>by
  simp only[wkDs]at h
  split at h
  ·obtain⟨v,V,h1,h2,h3⟩:=hv
   exact⟨v,V,h1,gT d _ v h.1 h2,dp l _ V h.2 h3⟩
  ·exact h.elim
termination_by structural d=>d
end
end
def wkS(r:Nat->Option Rn)(ds1:DS):DSV->DSV->Prop
 | .unk,_=>True
 | .d x,.d y=>wkD r x y
 | .loc k off,.loc k' off'=>k=k'/\off=off'/\(ds1.find k).isSome=true
 | .elt x sz i off,.elt y sz' i' off'=>wkD r x y/\sz=sz'/\i=i'/\off=off'
 |_,_=>False
def wkR(r:Nat->Option Rn)(ds1 ds:DS):List (Nat×DSV)->Prop
 |[]=>True
 |(t,_)::l=>wkS r ds1 (ds1.get t) (ds.get t)/\wkR r ds1 ds l
def wkLoc(r:Nat->Option Rn):Option eF->Option eF->Prop
 |some l,some l'=>l.T=l'.T/\wkDs r l.cs l'.cs
 |none,_=>True
 |_,_=>False
def wkL(r:Nat->Option Rn)(ds1 ds:DS):List (Nat×eF)->Prop
 |[]=>True
 |(k,_)::l=>wkLoc r (ds1.find k) (ds.find k)/\wkL r ds1 ds l
def gg(r:Nat->Option Rn):List (List DV)->List (List DV)->Prop
 |[],y=>y=[]
 |d::l,y=>
  match y with
  |e::m=>wkDs r d e/\gg r l m
  |[]=>False
theorem oX{r:Nat->Option Rn}: ∀{a:List (List DV)},(∀cs∈a,wkDs r cs cs)->gg r a a
 |[],_=>rfl
 |d::l,h=>⟨h d List.mem_cons_self,oX fun cs hc=>h cs (List.mem_cons_of_mem _ hc)⟩
theorem af_{α:Type}{r:Nat->Option Rn}{f:α->List DV}(h: ∀x,wkDs r (f x) (f x))(l:List α):gg r (l.map f) (l.map f):=by grind [oX]
theorem qa{us:World}{β:Nat->PB}{r:Nat->Option Rn}: ∀(x y:List (List DV)) (w:List (List Value)),gg r x y->HVssB us β y w->HVssB us (fun id=>rnB β (r id)) x w
 |[],y,w,h,hv=>by simp only[gg]at h;subst h;exact hv
 |d::l,[],w,h,_=>by simp[gg]at h
 |d::l,e::m,w,h,⟨v,V,h1,h2,h3⟩=>⟨v,V,h1,dp d e v h.1 h2,qa l m V h.2 h3⟩
theorem nX{r:Nat->Option Rn}: ∀{x y:List (List DV)},gg r x y->x.length=y.length
 |[],y,h=>by simp only[gg]at h;subst h;rfl
 |d::l,[],h=>by simp[gg]at h
 |d::l,e::m,h=>by simp[nX h.2]
def wkRow(r:Nat->Option Rn):Row->Option Row->Prop
 | .arr e sz l ro,some (.arr e' sz' l' ro')=>e=e'/\sz=sz'/\l=l'/\ro=ro'
 | .var T cs,some (.var T' cs')=>T=T'/\wkDs r cs cs'
 | .nst e sz l,some (.nst e' sz' l')=>e=e'/\sz=sz'/\gg r l l'
 | .mpr es,some (.mpr es')=>es.map (·.1)=es'.map (·.1)/\wkDs r (es.map (·.2)) (es'.map (·.2))
 | .nst e sz l,some (.arr e' sz' l' ro')=>ro'=false/\e=e'/\sz=sz'/\l=l'
 |_,_=>False
def wkRowN(r:Nat->Option Rn)(ds:DS):Option Row->Option Rn->Prop
 |some row,some (.to id)=>wkRow r row (lk ds.H id)
 |some (.arr _ sz l _),some (.nil sz')=>sz=sz'/\l=[]
 |some (.nst _ sz l),some (.nil sz')=>sz=sz'/\l=[]
 |none,_=>True
 |_,_=>False
def wkH(r:Nat->Option Rn)(ds1 ds:DS):List (Nat×Row)->Prop
 |[]=>True
 |(id,_)::l=>wkRowN r ds (lk ds1.H id) (r id)/\wkH r ds1 ds l
def rnTo:Option Rn->Option Nat
 |some (.to id)=>some id
 |_=>none
def pK(r:Nat->Option Rn)(o:Option Nat)(i:Nat):List (Nat×Row)->Bool
 |[]=>false
 |(j,_)::l=>(bif j==i then false else (match o,rnTo (r j)with|some a,some b=>a==b|_,_=>false))||pK r o i l
def wkInj(r:Nat->Option Rn):List (Nat×Row)->Bool
 |[]=>true
 |(i,_)::l=> !pK r (rnTo (r i)) i l&&wkInj r l
def wkKeys(nb nx:Nat):List (Nat×Rn)->Bool
 |[]=>true
 |(i,_)::l=>decide (nb<=i)&&decide (i<nx)&&wkKeys nb nx l
structure Wk(ι:List (Nat×Rn))(ds1 ds:DS):Prop where
 nb:ds1.nb=ds.nb
 nbx:ds1.nb<=ds1.nx
 keys:wkKeys ds1.nb ds1.nx ι=true
 slots:wkR (rnOf ι ds1.nx) ds1 ds ds1.ρ
 locs:wkL (rnOf ι ds1.nx) ds1 ds ds1.σ
 rows:wkH (rnOf ι ds1.nx) ds1 ds ds1.H
 inj:wkInj (rnOf ι ds1.nx) ds1.H=true
theorem afb{r:Nat->Option Rn}{ds1 ds:DS}: ∀{l:List (Nat×DSV)},wkR r ds1 ds l-> ∀p∈l,wkS r ds1 (ds1.get p.1) (ds.get p.1)
 |[],_,p,hp=>by cases hp
 |(t,x)::l,h,p,hp=>by
  rcases List.mem_cons.1 hp with rfl|hp
  ·exact h.1
  ·exact afb h.2 p hp
theorem aeM{r:Nat->Option Rn}{ds1 ds:DS}: ∀{l:List (Nat×eF)},wkL r ds1 ds l-> ∀p∈l,wkLoc r (ds1.find p.1) (ds.find p.1)
 |[],_,p,hp=>by cases hp
 |(t,x)::l,h,p,hp=>by
  rcases List.mem_cons.1 hp with rfl|hp
  ·exact h.1
  ·exact aeM h.2 p hp
theorem aff{r:Nat->Option Rn}{ds1 ds:DS}: ∀{l:List (Nat×Row)},wkH r ds1 ds l-> ∀p∈l,wkRowN r ds (lk ds1.H p.1) (r p.1)
 |[],_,p,hp=>by cases hp
 |(t,x)::l,h,p,hp=>by
  rcases List.mem_cons.1 hp with rfl|hp
  ·exact h.1
  ·exact aff h.2 p hp
theorem o6{r:Nat->Option Rn}{i a:Nat}: ∀{l:List (Nat×Row)},pK r (some a) i l=false-> ∀p∈l,p.1≠i->rnTo (r p.1)≠some a
 |[],_,p,hp,_=>by cases hp
 | (j,x)::l,h,p,hp,hne=>by
  simp only[pK,Bool.or_eq_false_iff]at h;rcases List.mem_cons.1 hp with rfl|hp
  ·have hb:(j==i)=false:=by simpa using hne
   have h1:=h.1;rw[hb]at h1;intro e;simp only at e;rw[e]at h1;simp at h1
  ·exact o6 h.2 p hp hne
theorem vB{r:Nat->Option Rn}: ∀{l:List (Nat×Row)},wkInj r l=true-> ∀p∈l, ∀q∈l,p.1≠q.1-> ∀a,rnTo (r p.1)=some a->rnTo (r q.1)≠some a
 |[],_,p,hp,_,_,_,_,_=>by cases hp
 |(i,x)::l,h,p,hp,q,hq,hne,a,ha=>by
  simp only[wkInj,Bool.and_eq_true,Bool.not_eq_true']at h;rcases List.mem_cons.1 hp with rfl|hp<;>rcases List.mem_cons.1 hq with rfl|hq
  ·exact absurd rfl hne
  ·have h1:=h.1;simp only at ha;rw[ha]at h1;exact o6 h1 q hq (fun e=>hne e.symm)
  ·intro e;have h1:=h.1;simp only at e;rw[e]at h1;exact o6 h1 p hp hne ha
  ·exact vB h.2 p hp q hq hne a ha
theorem sN{nb nx:Nat}: ∀{l:List (Nat×Rn)},wkKeys nb nx l=true-> ∀i x,lk l i=some x->nb<=i/\i<nx
 |[],_,i,x,h=>by cases h
 |(j,y)::l,hk,i,x,h=>by
  simp only[wkKeys,Bool.and_eq_true,decide_eq_true_eq]at hk
  by_cases e:j=i
  ·subst e;exact hk.1
  ·rw[aj e]at h;exact sN hk.2 i x h
theorem l7{α:Type}(k:Nat->Bool): ∀(l:List (Nat×α)) (t:Nat),lk (l.filter fun p=>k p.1) t=if k t=true then lk l t else none
 |[],t=>by simp[lk]
 | (i,x)::l,t=>by
  by_cases hk:k i=true
  ·rw[List.filter_cons_of_pos (by simpa using hk)]
   by_cases e:i=t
   ·subst e;rw[ax,ax,if_pos hk]
   ·rw[aj e,aj e];exact l7 k l t
  ·rw[List.filter_cons_of_neg (by simpa using hk),l7 k l t]
   by_cases e:i=t
   ·subst e;rw[if_neg hk,if_neg hk]
   ·rw[aj e]
def uO:DSV->Bool
 | .unk=>true
 |_=>false
theorem aoD{ds1 ds:DS}(ι:List (Nat×Rn))(h:Wk ι ds1 ds):leD ds1 ds:=by
  intro u0 β0 β us s u hr;refine⟨fun id=>rnB β (rnOf ι ds1.nx id),⟨s.ρ.filter fun p=> !uO (ds1.get p.1),s.σ.filter fun p=>(ds1.find p.1).isSome⟩,?_,?_⟩
  all_goals
    have hget: ∀t,(⟨s.ρ.filter fun p=> !uO (ds1.get p.1),s.σ.filter fun p=>(ds1.find p.1).isSome⟩:S).get t=if uO (ds1.get t)=true then .unk else s.get t:=by
      intro t;unfold S.get;simp only;rw[l7 (fun t=> !uO (ds1.get t))]
      cases hu:uO (ds1.get t)<;>simp
    have hfind: ∀k,(⟨s.ρ.filter fun p=> !uO (ds1.get p.1),s.σ.filter fun p=>(ds1.find p.1).isSome⟩:S).find k=if (ds1.find k).isSome=true then s.find k else none:=by
      intro k;unfold S.find;simp only;rw[l7 (fun k=>(ds1.find k).isSome)]
    have hslot : ∀t,wkS (rnOf ι ds1.nx) ds1 (ds1.get t) (ds.get t):=by
      intro t;cases hl:lk ds1.ρ t with
      | none => have:ds1.get t= .unk:=by unfold DS.get;rw[hl];rfl
                rw[this];trivial
      |some x=>exact afb h.slots (t,x) (dh hl)
    have hloc : ∀ k,wkLoc (rnOf ι ds1.nx) (ds1.find k) (ds.find k):=by
      intro k;cases hl:ds1.find k with
      |none=>trivial
      | some x => have:=aeM h.locs (k,x) (dh hl)
                  simp only at this;rw[hl]at this;exact this
  · refine ⟨fun t=>?_,fun t k off ht=>?_,fun k=>?_⟩
    · rw[hget]
      split
      · exact .inl rfl
      · exact .inr rfl
    · rw [hget]at ht
      split at ht
      · cases ht
      · rename_i hu
        have h1:=hslot t;have h2:=hr.slot t;rw[ht]at h2;cases hx:ds1.get t with
        |unk=>rw[hx]at hu;exact absurd rfl hu
        | d x=>
          rw[hx]at h1;cases hy:ds.get t with
          |d y=>rw[hy]at h2;obtain⟨w,e,_⟩:=h2;cases e
          |_=>rw[hy]at h1;exact h1.elim
        | elt x sz i off=>
          rw[hx]at h1;cases hy:ds.get t with
          |elt y sz i off=>rw[hy]at h2;obtain⟨w,e,_⟩:=h2;cases e
          |_=>rw[hy]at h1;exact h1.elim
        | loc k' off'=>
          rw[hx]at h1;cases hy:ds.get t with
          | loc k2 off2=>
            rw[hy]at h2 h1;have e:SV.loc k off= .loc k2 off2:=h2;cases e;obtain⟨rfl,rfl,h3⟩:=h1;have h4:=hloc k';obtain⟨l1,hl1⟩:=Option.isSome_iff_exists.1 h3;rw[hl1]at h4;cases hl:ds.find k' with
            |none=>rw[hl]at h4;exact h4.elim
            | some l=>
              have h5:=hr.loc k';rw[hl]at h5;obtain⟨l',h6,_⟩:=h5;left;rw[hfind,if_pos h3,h6];intro e;cases e
          |_=>rw[hy]at h1;exact h1.elim
    · rw[hfind]
      split
      · exact .inr rfl
      · exact .inl rfl
  · have hrn : ∀ id,id<ds1.nx->rnOf ι ds1.nx id=some ((lk ι id).getD (.to id)):=fun id hi=>by unfold rnOf;rw[decide_eq_true hi];rfl
    have hrn': ∀id,ds1.nx<=id->rnOf ι ds1.nx id=none:=fun id hi=>by unfold rnOf;rw[decide_eq_false (by omega)];rfl
    have hrow: ∀id r,lk ds1.H id=some r->wkRowN (rnOf ι ds1.nx) ds (some r) (rnOf ι ds1.nx id):=fun id r hl=>by
      have:=aff h.rows (id,r) (dh hl);simp only at this;rw[hl]at this;exact this
    refine⟨hr.base,hr.sub,fun t=>?_,fun k=>?_,fun id r hl=>?_,fun id hi=>?_,fun id hi=>?_,h.nbx,fun i j ri rj b hij hi hj hbi hbj=>?_⟩
    · rw [hget]
      have h1:=hslot t;have h2:=hr.slot t;cases hx:ds1.get t with
      |unk=>trivial
      | d x=>
        rw[hx]at h1;cases hy:ds.get t with
        | d y=>
          rw[hy]at h1 h2;obtain⟨w,e,hw⟩:=h2;exact⟨w,e,gT x y w h1 hw⟩
        |_=>rw[hy]at h1;exact h1.elim
      | elt x sz i off=>
        rw[hx]at h1;cases hy:ds.get t with
        | elt y sz' i' off'=>
          rw[hy]at h1 h2;obtain⟨h1,rfl,rfl,rfl⟩:=h1;obtain⟨w,e,hw⟩:=h2;exact⟨w,e,gT x y w h1 hw⟩
        |_=>rw[hy]at h1;exact h1.elim
      | loc k off=>
        rw[hx]at h1;cases hy:ds.get t with
        | loc k' off'=>
          rw[hy]at h1 h2;obtain⟨rfl,rfl,_⟩:=h1;exact h2
        |_=>rw[hy]at h1;exact h1.elim
    · have h1:=hloc k
      have h2:=hr.loc k;rw[hfind];cases hx:ds1.find k with
      |none=>rfl
      | some l1=>
        rw[hx]at h1;cases hy:ds.find k with
        |none=>rw[hy]at h1;exact h1.elim
        | some l=>
          rw[hy]at h1 h2;obtain⟨l',e1,e2,e3,e4⟩:=h2;exact⟨l',e1,by rw[e2,h1.1],dp _ _ _ h1.2 e3,e4⟩
    · have h1 :=hrow id r hl
      have hid:id<ds1.nx:=by
        rcases Nat.lt_or_ge id ds1.nx with h2|h2
        · exact h2
        · rw[hrn' id h2]at h1;cases r<;>exact h1.elim
      refine⟨hid,?_⟩;rw[hrn id hid]at h1 ⊢;cases hq:(lk ι id).getD (.to id)with
      | to id'=>
        rw[hq]at h1;have h1:wkRow (rnOf ι ds1.nx) r (lk ds.H id'):=by cases r<;>exact h1
        cases hl':lk ds.H id' with
        |none=>rw[hl']at h1;cases r<;>exact h1.elim
        | some row=>
          rw[hl']at h1;have h2:=(hr.row id' row hl').2;cases r with
          | arr e sz l ro=>
            cases row with
            |arr e' sz' l' ro'=>obtain⟨rfl,rfl,rfl,rfl⟩:=h1;exact h2
            |var T cs=>exact h1.elim
            |nst e0 sz0 l0=>exact h1.elim
            |mpr es0=>exact h1.elim
          | var T cs=>
            cases row with
            |arr e' sz' l' ro'=>exact h1.elim
            |nst e0 sz0 l0=>exact h1.elim
            |mpr es0=>exact h1.elim
            | var T' cs'=>
              obtain⟨rfl,h1⟩:=h1;obtain⟨b,V,g1,g2,g3,g4,g5,g6⟩:=h2;exact⟨b,V,g1,g2,g3,g4,dp _ _ _ h1 g5,g6⟩
          | mpr es=>
            cases row with
            |arr e' sz' l' ro'=>exact h1.elim
            |nst e0 sz0 l0=>exact h1.elim
            |var T' cs'=>exact h1.elim
            | mpr es'=>
              obtain⟨h1,h1'⟩:=h1;obtain⟨r,clock,ents,g1,g2,g3,g4,g5,g6,g7⟩:=h2;exact⟨r,clock,ents,g1,g2,g3,g4,by rw[h1];exact g5,dp _ _ _ h1' g6,g7⟩
          | nst e sz l=>
            cases row with
            |mpr es0=>exact h1.elim
            |var T' cs'=>exact h1.elim
            | arr e' sz' l' ro'=>
              obtain⟨rfl,rfl,rfl,rfl⟩:=h1;obtain⟨p,c,g1,g2,g3⟩:=h2;exact⟨p,c,g1,g2,g3.imp (fun h=>h) fun ⟨c0,V,g4,g5,g6,g7⟩=>⟨c0,V,g4,g5,g6,HVssB.of g7⟩⟩
            | nst e' sz' l'=>
              obtain⟨rfl,rfl,h1⟩:=h1;obtain⟨p,c,g1,g2,g3⟩:=h2;have hll:=nX h1;exact⟨p,c,g1,by rw[hll];exact g2,g3.imp (fun h=>⟨h.1,List.eq_nil_of_length_eq_zero (by rw[hll,h.2];rfl)⟩) fun ⟨c0,V,g4,g5,g6,g7⟩=>⟨c0,V,by rw[hll];exact g4,g5,g6,qa _ _ _ h1 g7⟩⟩
      | nil sz'=>
        rw[hq]at h1;cases r with
        | arr e sz l ro=>
          obtain⟨rfl,rfl⟩:=h1;refine⟨none,0,rfl,Nat.le_refl _,?_⟩;cases ro with
          |true=>exact⟨[],Sl.zero us sz none,(fun y hy=>by cases hy),rfl⟩
          |false=>exact .inl ⟨rfl,rfl⟩
        |var T cs=>exact h1.elim
        |mpr es0=>exact h1.elim
        | nst e0 sz0 l0=>
          obtain⟨rfl,rfl⟩:=h1;exact⟨none,0,rfl,Nat.le_refl _,.inl ⟨rfl,rfl⟩⟩
    · show rnB β (rnOf ι ds1.nx id)= .no
      rw[hrn' id hi];rfl
    · show rnB β (rnOf ι ds1.nx id)=β0.1 id
      have h1:=h.nbx;rw[hrn id (by omega)]
      have h2:lk ι id=none:=by
        cases hl:lk ι id with
        |none=>rfl
        |some x=>have:=(sN h.keys id x hl).1;omega
      rw[h2];exact hr.fix id (by rw[<-h.nb];exact hi)
    · have key : ∀k rk,lk ds1.H k=some rk->br (rnB β (rnOf ι ds1.nx k)) rk=some b-> ∃k' row,rnTo (rnOf ι ds1.nx k)=some k'/\lk ds.H k'=some row/\br (β k') row=some b:=by
        intro k rk hk hb;have h1:=hrow k rk hk;cases hq:rnOf ι ds1.nx k with
        |none=>rw[hq]at h1;cases rk<;>exact h1.elim
        | some q =>
          rw[hq]at h1 hb;cases q with
          | nil sz'=>
            cases rk with
            |arr e sz l ro=>simp[rnB,br]at hb
            |var T cs=>exact h1.elim
            |mpr es0=>exact h1.elim
            |nst e0 sz0 l0=>simp[rnB,br]at hb
          | to k' =>
            have h1:wkRow (rnOf ι ds1.nx) rk (lk ds.H k'):=by cases rk<;>exact h1
            cases hl':lk ds.H k' with
            |none=>rw[hl']at h1;cases rk<;>exact h1.elim
            | some row=>
              rw[hl']at h1;refine⟨k',row,rfl,hl',?_⟩;cases rk with
              | arr e sz l ro=>
                cases row with
                |arr e' sz' l' ro'=>obtain⟨rfl,rfl,rfl,rfl⟩:=h1;exact hb
                |var T cs=>exact h1.elim
                |nst e0 sz0 l0=>exact h1.elim
                |mpr es0=>exact h1.elim
              | var T cs=>
                cases row with
                |arr e' sz' l' ro'=>exact h1.elim
                |nst e0 sz0 l0=>exact h1.elim
                |mpr es0=>exact h1.elim
                | var T' cs'=>
                  have hb':br (β k') (.var T cs)=some b:=hb;cases hβ:β k'<;>rw[hβ]at hb'<;>first|exact hb'|cases hb'
              | mpr es=>
                cases row with
                |arr e' sz' l' ro'=>exact h1.elim
                |nst e0 sz0 l0=>exact h1.elim
                |var T' cs'=>exact h1.elim
                | mpr es'=>
                  have hb':br (β k') (.mpr es)=some b:=hb;cases hβ:β k'<;>rw[hβ]at hb'<;>first|exact hb'|cases hb'
              | nst e sz l=>
                cases row with
                |mpr es0=>exact h1.elim
                |var T' cs'=>exact h1.elim
                | arr e' sz' l' ro'=>
                  obtain⟨rfl,rfl,rfl,rfl⟩:=h1;have hb':br (β k') (.nst e sz l)=some b:=hb;cases hβ:β k'<;>rw[hβ]at hb'<;>first|exact hb'|cases hb'
                | nst e' sz' l'=>
                  have hb':br (β k') (.nst e sz l)=some b:=hb;cases hβ:β k'<;>rw[hβ]at hb'<;>first|exact hb'|cases hb'
      obtain⟨i',r1,a1,a2,a3⟩:=key i ri hi hbi;obtain⟨j',r2,b1,b2,b3⟩:=key j rj hj hbj
      have hne:i'≠j':=by
        intro e;subst e;exact vB h.inj (i,ri) (dh hi) (j,rj) (dh hj) hij i' a1 b1
      exact hr.dist i' j' r1 r2 b hne a2 b2 a3 b3
theorem S.le.refl(s:S):s.le s:=⟨fun _=>.inr rfl,fun _ _ _ _=>.inr rfl,fun _=>.inr rfl⟩
theorem m7{ds1 ds:DS}(h1: ∀t,ds1.get t= .unk\/ds.get t=ds1.get t)(h2:ds1.σ=ds.σ)(h3:ds1.H=ds.H)(h4:ds1.nx=ds.nx)(h5:ds1.nb=ds.nb):leD ds1 ds:=by
 intro u0 β0 β us s u h;refine⟨β,s,S.le.refl s,h.base,h.sub,fun t=>?_,fun k=>?_,fun id r hr=>?_,fun id hi=>?_,fun id hi=>?_,?_,fun i j ri rj b hij hi hj=>?_⟩
 ·rcases h1 t with e|e
  ·rw[e];trivial
  ·rw[<-e];exact h.slot t
 ·have:=h.loc k;have e:ds1.find k=ds.find k:=by unfold DS.find;rw[h2]
  rw[e];exact this
 ·rw[h3]at hr;rw[h4];exact h.row id r hr
 ·rw[h4]at hi;exact h.nos id hi
 ·rw[h5]at hi;exact h.fix id hi
 ·rw[h4,h5];exact h.nbx
 ·rw[h3]at hi hj;exact h.dist i j ri rj b hij hi hj
theorem aa{ds1 ds:DS}(ι:List (Nat×Rn))(h:ds1.nb=ds.nb/\ds1.nb<=ds1.nx/\wkKeys ds1.nb ds1.nx ι=true/\wkInj (rnOf ι ds1.nx) ds1.H=true/\wkR (rnOf ι ds1.nx) ds1 ds ds1.ρ/\wkL (rnOf ι ds1.nx) ds1 ds ds1.σ/\wkH (rnOf ι ds1.nx) ds1 ds ds1.H):leD ds1 ds:=
 aoD ι ⟨h.1,h.2.1,h.2.2.1,h.2.2.2.2.1,h.2.2.2.2.2.1,h.2.2.2.2.2.2,h.2.2.2.1⟩
end Go.Eng
namespace Go.Eng
def initD:Nat->List DV->List (Nat×DSV)
 |_,[]=>[]
 |i,d::r=>(i,.d d)::initD (i+1) r
theorem zt{u:World}: ∀{args:List DV} {vs:List Value} (i:Nat),HVs u args noB vs-> ∀t,HS u noB ((lk (initD i args) t).getD .unk) ((lk (fJ i vs) t).getD .unk)
 |[],vs,i,h,t=>by cases h;trivial
 |d::r,vs,i,⟨v,V,h1,h2,h3⟩,t=>by
  subst h1;simp only[initD,fJ]
  by_cases e:i=t
  ·subst e;rw[ax,ax];exact⟨v,rfl,h2⟩
  ·rw[aj e,aj e];exact zt (i+1) h3 t
theorem wA{u:World}{β:Nat->PB}: ∀{args:List DV} {vs:List Value} (i:Nat),HVs u args β vs-> ∀t,HS u β ((lk (initD i args) t).getD .unk) ((lk (fJ i vs) t).getD .unk)
 |[],vs,i,h,t=>by cases h;trivial
 |d::r,vs,i,⟨v,V,h1,h2,h3⟩,t=>by
  subst h1;simp only[initD,fJ]
  by_cases e:i=t
  ·subst e;rw[ax,ax];exact⟨v,rfl,h2⟩
  ·rw[aj e,aj e];exact wA (i+1) h3 t
def dvO:DSV->Option DV
 | .d x=>some x
 |_=>none
def resCell(ds:DS)(y:DSV)(l:Option (Bool×Nat)):Option DV:=
 match y,l with
 | .loc k off,some (ag,n)=>ldsD ag n off (locCs (ds.find k))
 |_,_=>none
def aP(P:Program)(ds:DS):ResultVar->Option DV
 | .tmp t=>dvO (ds.get t)
 | .cell t T=>resCell ds (ds.get t) (lay P T)
def tup2:Option DV->Option DV->Option DV
 |some a,some b=>some (.tup [a,b])
 |_,_=>none
def tup3:Option DV->Option DV->Option DV->Option DV
 |some a,some b,some c=>some (.tup [a,b,c])
 |_,_,_=>none
def tup4:Option DV->Option DV->Option DV->Option DV->Option DV
 |some a,some b,some c,some d=>some (.tup [a,b,c,d])
 |_,_,_,_=>none
def tup5:Option DV->Option DV->Option DV->Option DV->Option DV->Option DV
 |some a,some b,some c,some d,some e=>some (.tup [a,b,c,d,e])
 |_,_,_,_,_=>none
def bW(P:Program)(ds:DS):List ResultVar->Option DV
 |[]=>some (.tup [])
 |[x]=>aP P ds x
 |[x,y]=>tup2 (aP P ds x) (aP P ds y)
 |[x,y,z]=>tup3 (aP P ds x) (aP P ds y) (aP P ds z)
 |[x,y,z,t]=>tup4 (aP P ds x) (aP P ds y) (aP P ds z) (aP P ds t)
 |[x,y,z,t,q]=>tup5 (aP P ds x) (aP P ds y) (aP P ds z) (aP P ds t) (aP P ds q)
 |_=>none
section
variable {P:Program} {u0 u us:World} {β0:Bse} {β:Nat->PB} {ds:DS} {s:S}
theorem bq(h:Rel u0 β0 β us ds s u){x:ResultVar}{d:DV}(hd:aP P ds x=some d): ∃v,bX P s x=some v/\HV us d β v:=by
 cases x with
 | tmp t=>
  simp only[aP]at hd;have hs:=h.slot t;cases hg:ds.get t with
  |d y=>
   rw[hg]at hd hs;cases hd;obtain⟨w,e,hw⟩:=hs;exact⟨w,by simp only[bX,e,S.val],hw⟩
  |_=>rw[hg]at hd;cases hd
 | cell t T=>
  simp only[aP]at hd;have hs:=h.slot t;unfold resCell at hd;split at hd
  ·rename_i k off ag n hg hl;rw[hg]at hs;have e:s.get t= .loc k off:=hs;obtain⟨cs,h1,h2⟩:=lp hd;have hloc:=h.loc k;cases hf:ds.find k with
   |none=>rw[hf]at h1;cases h1
   |some l=>
    rw[hf]at h1 hloc;cases h1;obtain⟨l',h3,h4,h5,h6⟩:=hloc;obtain⟨h7,h8,h9⟩:=h5.ld h2;exact⟨_,by simp only[bX,e,hl,h3];rw[if_pos ⟨h7,h8⟩],h9⟩
  ·cases hd
theorem nY(h:Rel u0 β0 β us ds s u){rs:List ResultVar}{d:DV}(hd:bW P ds rs=some d): ∃v,cN P s rs=some v/\HV us d β v:=by
 match rs,hd with
 |[],hd=>simp only[bW,Option.some.injEq]at hd;subst hd;exact⟨_,rfl,[],rfl,rfl⟩
 |[x],hd=>exact bq h hd
 |[x,y],hd=>
  simp only[bW]at hd;cases h1:aP P ds x<;>cases h2:aP P ds y<;>rw[h1,h2]at hd<;>first|(cases hd;done)|skip
  cases hd;obtain⟨v1,e1,g1⟩:=bq h h1;obtain⟨v2,e2,g2⟩:=bq h h2;exact⟨.tuple #[v1,v2],by simp only[cN,e1,e2],[v1,v2],rfl,v1,_,rfl,g1,v2,_,rfl,g2,rfl⟩
 |[x,y,z],hd=>
  simp only[bW]at hd;cases h1:aP P ds x<;>cases h2:aP P ds y<;>cases h3:aP P ds z<;>rw[h1,h2,h3]at hd<;>first|(cases hd;done)|skip
  cases hd;obtain⟨v1,e1,g1⟩:=bq h h1;obtain⟨v2,e2,g2⟩:=bq h h2;obtain⟨v3,e3,g3⟩:=bq h h3;exact⟨.tuple #[v1,v2,v3],by simp only[cN,e1,e2,e3],[v1,v2,v3],rfl,v1,_,rfl,g1,v2,_,rfl,g2,v3,_,rfl,g3,rfl⟩
 |[x,y,z,t],hd=>
  simp only[bW]at hd;cases h1:aP P ds x<;>cases h2:aP P ds y<;>cases h3:aP P ds z<;>cases h4:aP P ds t<;>rw[h1,h2,h3,h4]at hd<;>first|(cases hd;done)|skip
  cases hd;obtain⟨v1,e1,g1⟩:=bq h h1;obtain⟨v2,e2,g2⟩:=bq h h2;obtain⟨v3,e3,g3⟩:=bq h h3;obtain⟨v4,e4,g4⟩:=bq h h4;exact⟨.tuple #[v1,v2,v3,v4],by simp only[cN,e1,e2,e3,e4],[v1,v2,v3,v4],rfl,v1,_,rfl,g1,v2,_,rfl,g2,v3,_,rfl,g3,v4,_,rfl,g4,rfl⟩
 |[x,y,z,t,q],hd=>
  simp only[bW]at hd;cases h1:aP P ds x<;>cases h2:aP P ds y<;>cases h3:aP P ds z<;>cases h4:aP P ds t<;>cases h5:aP P ds q<;>rw[h1,h2,h3,h4,h5]at hd<;>first|(cases hd;done)|skip
  cases hd;obtain⟨v1,e1,g1⟩:=bq h h1;obtain⟨v2,e2,g2⟩:=bq h h2;obtain⟨v3,e3,g3⟩:=bq h h3;obtain⟨v4,e4,g4⟩:=bq h h4;obtain⟨v5,e5,g5⟩:=bq h h5;exact⟨.tuple #[v1,v2,v3,v4,v5],by simp only[cN,e1,e2,e3,e4,e5],[v1,v2,v3,v4,v5],rfl,v1,_,rfl,g1,v2,_,rfl,g2,v3,_,rfl,g3,v4,_,rfl,g4,v5,_,rfl,g5,rfl⟩
 |_::_::_::_::_::_::_,hd=>simp[bW]at hd
end
structure Res where
 d:DV
 H:List (Nat×Row)
 nx:Nat
def resS(d:DV)(H:List (Nat×Row))(nx:Nat):DS:=⟨[(0,.d d)],[],H,nx,0⟩
def aoN(u u':World)(r:Res)(v:Value):Prop:= ∃β us s,Rel u (noB,u) β us (resS r.d r.H r.nx) s u'/\s.get 0= .v v
def Con2(P:Program)(f:FuncId)(args:List DV)(Q:Res->Prop):Prop:= ∀u vs,HVs u args noB vs->Con P f vs u fun v u'=> ∃r,Q r/\aoN u u' r v
def RetD(Q:Res->Prop)(ds:DS)(d:DV):Prop:= ∃r,Q r/\leD (resS r.d r.H r.nx) (resS d ds.H ds.nx)
def wv(P:Program)(rs:List ResultVar)(Q:Res->Prop)(e:Exit)(ds:DS):Prop:=
 match e with
 | .normal=>OptK (bW P ds rs) (RetD Q ds)
 | .ret=>OptK (bW P ds rs) (RetD Q ds)
 |_=>False
theorem pE{P:Program}(hm:P.follows .mixedOrders=true){f:FuncId}{fn:Func}{c:Code}(hf:P.funcs[f]? =some fn)(hb:fn.body=some c)(hbody:c8 P f=true)
  (hfit:fits fn.ntmps c=true) {args:List DV} (hn:Nat.ble args.length fn.ntmps=true) (rs:List ResultVar) (hrs:fn.results.toList=rs) {Q:Res->Prop}
  (h:Vc2 P c (wv P rs Q) ⟨initD 0 args,[],[],0,0⟩):Con2 P f args Q:=by
 intro u vs hv;refine abP hm hf hb hbody hfit (by rw[hv.length];exact hn) rs hrs ?_
 have hr0:Rel u (noB,u) noB u ⟨initD 0 args,[],[],0,0⟩ ⟨fJ 0 vs,[]⟩ u:=
  ⟨⟨Sub.refl u,Sub.refl u⟩,Sub.refl u,zt 0 hv,fun k=>rfl,(fun id r hr=>by cases hr),fun id _=>rfl,fun id hi=>absurd hi (Nat.not_lt_zero _),Nat.le_refl _,(fun i j ri rj b _ hi=>by cases hi)⟩
 refine Vc.mono ?_ (h u (noB,u) noB u _ u hr0);intro e s' u' hl
 have fin: ∀d β us ds,Rel u (noB,u) β us ds s' u'->bW P ds rs=some d->(∃r,Q r/\leD (resS r.d r.H r.nx) (resS d ds.H ds.nx))->mo (fun r u'=>Sub u u'/\ ∃r',Q r'/\aoN u u' r' r) (cN P s' rs) u':=by
  intro d β us ds hr hd ⟨r,hQ,hle⟩;obtain⟨v,hv,hd2⟩:=nY hr hd;unfold mo;rw[hv];refine⟨hr.base.1.trans hr.sub,r,hQ,?_⟩
  have hr2:Rel u (noB,u) β us (resS d ds.H ds.nx) ⟨[(0,.v v)],[]⟩ u':=by
   refine⟨hr.base,hr.sub,fun t=>?_,fun k=>rfl,hr.row,hr.nos,fun id hi=>absurd hi (Nat.not_lt_zero _),Nat.zero_le _,hr.dist⟩
   show HS us β ((lk [(0,.d d)] t).getD .unk) ((lk [(0,.v v)] t).getD .unk)
   by_cases e:0=t
   ·subst e;exact⟨v,rfl,hd2⟩
   ·rw[aj e];trivial
  obtain⟨β1,s1,h1,h2⟩:=hle _ _ _ _ _ _ hr2;refine⟨β1,us,s1,h2,?_⟩;have h3:=h2.slot 0;obtain⟨w,e,_⟩: ∃w,s1.get 0= .v w/\HV us r.d β1 w:=h3;rcases h1.get 0 with h4|h4
  ·rw[e]at h4;cases h4
  ·rw[<-h4];rfl
 obtain⟨β,us,ds,hr,hk⟩:=hl;cases e with
 |normal=>obtain⟨d,hd,hk⟩:=eB hk;exact fin d β us ds hr hd hk
 |ret=>obtain⟨d,hd,hk⟩:=eB hk;exact fin d β us ds hr hd hk
 |exit j=>exact hk.elim
 |goto l=>exact hk.elim
 |panic c=>exact hk.elim
 |outgrown=>exact hk.elim
theorem aeO{P:Program}(hm:P.follows .mixedOrders=true){f:FuncId}{fn:Func}{c:Code}(hf:P.funcs[f]? =some fn)(hb:fn.body=some c)(hbody:c8 P f=true)
  (hfit:fits fn.ntmps c=true) {args:List DV} (hn:Nat.ble args.length fn.ntmps=true) (rs:List ResultVar) (hrs:fn.results.toList=rs) {Q:Res->Prop}
  (h:vc2 P c (wv P rs Q) ⟨initD 0 args,[],[],0,0⟩):Con2 P f args Q:=pE hm hf hb hbody hfit hn rs hrs (Vc2.of h)
def mR:Obj->Bool
 | .pending c e=>c.isEmpty&&e==0
 |_=>false
theorem mP{o:Obj}:mR o=true↔o=jD:=by
 constructor
 ·intro h;cases o<;>simp[mR]at h
  obtain⟨rfl,rfl⟩:=h;rfl
 ·rintro rfl;rfl
def abl(a b:Option Obj):Obj:=
 match a with
 |some o=>bif mR o then b.getD jD else o
 |none=>b.getD jD
def mrg(u v:World):World:={ u with heap:=((List.range (max u.heap.size v.heap.size)).map fun i=>abl u.heap[i]? v.heap[i]?).toArray }
theorem ac3(u v:World)(b:Nat):(mrg u v).heap[b]? =if b<max u.heap.size v.heap.size then some (abl u.heap[b]? v.heap[b]?)else none:=by grind [mrg]
theorem aat(u v:World):Sub u (mrg u v):=by
 intro b o hb ho;have h:=bb hb;rw[ac3,if_pos (by omega),hb]
 have:mR o=false:=by cases hj:mR o with|false=>rfl|true=>exact absurd (mP.1 hj) ho
 simp[abl,this]
theorem vL{u v:World}{b:Nat}{o:Obj}(h:(mrg u v).heap[b]? =some o)(ho:o≠jD):u.heap[b]? =some o\/(Fresh u b/\v.heap[b]? =some o):=by
 rw[ac3]at h;split at h
 ·simp only[Option.some.injEq]at h;cases hu:u.heap[b]? with
  |none=>
   rw[hu]at h;simp only[abl]at h;cases hv:v.heap[b]? with
   |none=>rw[hv]at h;exact absurd h.symm ho
   |some o'=>rw[hv]at h;cases h;exact .inr ⟨(fun o2 h2=>by rw[hu]at h2;cases h2),rfl⟩
  | some o1=>
   rw[hu]at h;simp only[abl]at h;cases hj:mR o1 with
   |false=>rw[hj]at h;cases h;exact .inl rfl
   |true=>
    rw[hj]at h;simp only[cond_true]at h;have e:=mP.1 hj;cases hv:v.heap[b]? with
    |none=>rw[hv]at h;exact absurd h.symm ho
    |some o'=>rw[hv]at h;cases h;exact .inr ⟨(fun o2 h2=>by rw[hu]at h2;cases h2;exact e),rfl⟩
 ·cases h
theorem apt{u v w:World}(h1:Sub u w)(h2:Sub v w):Sub (mrg u v) w:=fun b o hb ho=>by
 rcases vL hb ho with h|⟨_,h⟩
 ·exact h1 b o h ho
 ·exact h2 b o h ho
theorem ju{u v w:World}(h1:Sub u w)(h2:Sub v w):Sub v (mrg u v):=by
 intro b o hb ho;have h:=bb hb;rw[ac3,if_pos (by omega)]
 cases hu:u.heap[b]? with
 |none=>simp[abl,hb]
 | some o1=>
  cases hj:mR o1 with
  |true=>simp[abl,hj,hb]
  |false=>
   have hne:o1≠jD:=fun e=>by rw[mP.2 e]at hj;cases hj
   have e1:=h1 b o1 hu hne;have e2:=h2 b o hb ho;rw[e1]at e2;cases e2;simp[abl,hj]
theorem ahr{u v:World}{b:Nat}(h1:Fresh u b)(h2:Fresh v b):Fresh (mrg u v) b:=fun o ho=>by
 refine Classical.byContradiction fun hn=>?_
 rcases vL ho hn with h|⟨_,h⟩
 ·exact hn (h1 o h)
 ·exact hn (h2 o h)
mutual
def shD (n:Nat):DV->DV
 | .rf id off len=>.rf (n+id) off len
 | .pt id off=>.pt (n+id) off
 | .mp id=>.mp id
 | .mr id=>.mr (n+id)
 | .cz sz l=>.cz sz l
 | .pe id i off=>.pe (n+id) i off
 | .fn f a b=>.fn f (shDs n a) (shDs n b)
 | .agg cs=>.agg (shDs n cs)
 | .tup cs=>.tup (shDs n cs)
 | .v x=>.v x
 | .fz sz l=>.fz sz l
 | .e0=>.e0
 | .fp cs=>.fp cs
termination_by structural d=>d
def shDs (n:Nat):List DV->List DV
 |[]=>[]
 |d::r=>shD n d::shDs n r
termination_by structural d=>d
end
def agk(n:Nat):List (Value×DV)->List (Value×DV)
 |[]=>[]
 |(k,d)::r=>(k,shD n d)::agk n r
theorem zh{n:Nat}: ∀(l:List (Value×DV)),(agk n l).map (·.1)=l.map (·.1)
 |[]=>rfl
 |(k,d)::r=>by simp[agk,zh r]
theorem yx{n:Nat}: ∀(l:List (Value×DV)),(agk n l).map (·.2)=shDs n (l.map (·.2))
 |[]=>rfl
 |(k,d)::r=>by simp[agk,shDs,yx r]
def shRow(n:Nat):Row->Row
 | .arr e sz l ro=>.arr e sz l ro
 | .var T cs=>.var T (shDs n cs)
 | .nst e sz l=>.nst e sz (l.map (shDs n))
 | .mpr es=>.mpr (agk n es)
def shH(n:Nat):List (Nat×Row)->List (Nat×Row)
 |[]=>[]
 |(i,r)::l=>(n+i,shRow n r)::shH n l
section
variable {us:World} {n:Nat} {β β2:Nat->PB}
mutual
theorem uR (hb: ∀id,β2 (n+id)=β id):(d:DV)->(v:Value)->HV us d β v->HV us (shD n d) β2 v
 | .rf id off len,v,⟨p,c,sz,q,h1,h2⟩=>⟨p,c,sz,q,by rw[hb];exact h1,h2⟩
 | .pt id off,v,⟨b,h1,h2⟩=>⟨b,by rw[hb];exact h1,h2⟩
 | .mp es,v,⟨r,h1,h2⟩=>⟨r,h1,h2⟩
 | .mr id,v,⟨r,h1,h2⟩=>⟨r,by rw[hb];exact h1,h2⟩
 | .cz _ _,v,h=>h
 | .pe id i off,v,⟨p,c,sz,h1,h2⟩=>⟨p,c,sz,by rw[hb];exact h1,h2⟩
 | .fn f a b,v,⟨A,B,h1,h2,h3⟩=>⟨A,B,h1,d9 hb a A h2,d9 hb b B h3⟩
 | .agg cs,v,⟨V,h1,h2⟩=>⟨V,h1,d9 hb cs V h2⟩
 | .tup cs,v,⟨V,h1,h2⟩=>⟨V,h1,d9 hb cs V h2⟩
 | .v _,v,h=>h
 | .fz _ _,v,h=>h
 | .e0,v,h=>h
 | .fp _,v,h=>h
termination_by structural d=>d
theorem d9 (hb: ∀id,β2 (n+id)=β id):(d:List DV)->(v:List Value)->HVs us d β v->HVs us (shDs n d) β2 v
 |[],v,h=>h
 |d::r,v,⟨w,W,h1,h2,h3⟩=>⟨w,W,h1,uR hb d w h2,d9 hb r W h3⟩
termination_by structural d=>d
end
end
theorem pU{us:World}{n:Nat}{β β2:Nat->PB}(hb: ∀id,β2 (n+id)=β id): ∀(l:List (List DV)) (V:List (List Value)),HVssB us β l V->HVssB us β2 (l.map (shDs n)) V
 |[],V,h=>h
 |d::r,V,⟨w,W,h1,h2,h3⟩=>⟨w,W,h1,d9 hb d w h2,pU hb r W h3⟩
theorem amj{n:Nat}: ∀{H:List (Nat×Row)} {j:Nat},lk (shH n H) j=if n<=j then (lk H (j-n)).map (shRow n)else none
 |[],j=>by simp[shH,lk]
 | (i,r)::l,j=>by
  simp only[shH]
  by_cases e:n+i=j
  ·subst e;rw[ax,if_pos (by omega),show n+i-n=i by omega,ax]
   rfl
  ·rw[aj e,amj]
   by_cases h:n<=j
   ·rw[if_pos h,if_pos h,aj (by omega)]
   ·rw[if_neg h,if_neg h]
theorem wB{α:Type}: ∀{l m:List (Nat×α)} {j:Nat},lk (l++m) j=(lk l j).or (lk m j)
 |[],m,j=>by simp[lk]
 |(i,x)::l,m,j=>by
  by_cases e:i=j
  ·subst e;simp[ax]
  ·simp[aj e,wB (l:=l)]
mutual
def cI:DV->Bool
 | .v _=>true
 | .agg cs=>plainDs cs
 | .tup cs=>plainDs cs
 |_=>false
termination_by structural d=>d
def plainDs:List DV->Bool
 |[]=>true
 |d::r=>cI d&&plainDs r
termination_by structural d=>d
end
section
variable {us us':World} {β β':Nat->PB}
mutual
theorem jR:(d:DV)->(v:Value)->cI d=true->HV us d β v->HV us' d β' v
 | .v x,v,_,h=>h
 | .agg cs,v,hp,⟨V,h1,h2⟩=>⟨V,h1,i6 cs V hp h2⟩
 | .tup cs,v,hp,⟨V,h1,h2⟩=>⟨V,h1,i6 cs V hp h2⟩
 | .fz ..,_,hp,_=>by cases hp
 | .rf ..,_,hp,_=>by cases hp
 | .e0,_,hp,_=>by cases hp
 | .pt ..,_,hp,_=>by cases hp
 | .fp ..,_,hp,_=>by cases hp
 | .mp ..,_,hp,_=>by cases hp
 | .mr ..,_,hp,_=>by cases hp
 | .cz ..,_,hp,_=>by cases hp
 | .pe ..,_,hp,_=>by cases hp
 | .fn ..,_,hp,_=>by cases hp
termination_by structural d=>d
theorem i6:(d:List DV)->(v:List Value)->plainDs d=true->HVs us d β v->HVs us' d β' v
 |[],v,_,h=>h
 |d::r,v,hp,⟨w,W,h1,h2,h3⟩=>by
  simp only[plainDs,Bool.and_eq_true]at hp
  exact⟨w,W,h1,jR d w hp.1 h2,i6 r W hp.2 h3⟩
termination_by structural d=>d
end
end
def aftC(ds:DS)(args:List DV)(r:Res):DS:=
 bif cI r.d then ds else ⟨ds.ρ,ds.σ,shH ds.nx r.H++roHs (idsDs ds.H args) ds.H,ds.nx+r.nx,ds.nb⟩
section
variable {P:Program} {u0 u us:World} {β0:Bse} {β:Nat->PB} {ds:DS} {s:S}
theorem Rel.join(h:Rel u0 β0 β us ds s u){w u' us':World}{βr:Nat->PB}{sr:S}{r:Res}(hu:Sub u w){w':World}(hst:Step true us us w u' w')(hr:Rel us (noB,us) βr us' (resS r.d r.H r.nx) sr u'):
  ∃β',Rel u0 β0 β' us' ⟨ds.ρ,ds.σ,shH ds.nx r.H++ds.H,ds.nx+r.nx,ds.nb⟩ s (mrg u u')/\ ∀v,HV us' r.d βr v->HV us' (shD ds.nx r.d) β' v:=by
 have huw':Sub u w':=hu.trans hst.ext.sub;have hus:Sub us us':=hr.base.1;have hsub:Sub us' (mrg u u'):=hr.sub.trans (ju huw' hst.sub);have hdom: ∀b,b<w.heap.size-> ¬Fresh u' b-> ¬Fresh us b:=hst.dom
 have hold: ∀b, ¬Fresh u b->b<w.heap.size:=fun b hb=>by
  refine Classical.byContradiction fun hn=>hb fun o ho=>Classical.byContradiction fun hj=>hn (bb (hu b o ho hj))
 refine⟨fun id=>if id<ds.nx then β id else βr (id-ds.nx),?_,fun v hv=>uR (fun id=>?_) r.d v hv⟩
 ·have hlk: ∀id row,lk (shH ds.nx r.H++ds.H) id=some row->(id<ds.nx/\lk ds.H id=some row)\/(ds.nx<=id/\ ∃q,lk r.H (id-ds.nx)=some q/\row=shRow ds.nx q):=by
   intro id row hl;rw[wB,amj]at hl
   by_cases hi:ds.nx<=id
   ·rw[if_pos hi]at hl;cases hq:lk r.H (id-ds.nx)with
    |some q=>rw[hq]at hl;exact .inr ⟨hi,q,rfl,by simpa using hl.symm⟩
    |none=>
     rw[hq]at hl;simp at hl;have:=(h.row id row hl).1;omega
   ·rw[if_neg hi]at hl;simp at hl;exact .inl ⟨by omega,hl⟩
  have hsh: ∀(pb:PB) (q:Row) b,br pb (shRow ds.nx q)=some b↔br pb q=some b:=by
   intro pb q b;cases q with
   |arr e sz l ro=>exact Iff.rfl
   |var T cs=>cases pb<;>exact Iff.rfl
   |nst e sz l=>cases pb<;>exact Iff.rfl
   |mpr es=>cases pb<;>exact Iff.rfl
  have hold2: ∀i ri b,lk ds.H i=some ri->br (β i) ri=some b->Fresh us' b/\ ¬Fresh u b:=by
   intro i ri b hi hb;obtain⟨f1,f2⟩:=(h.row i ri hi).2.fresh hb;refine⟨Classical.byContradiction fun hn=>?_,f2⟩
   refine hdom b (hold b f2) (fun hf=>hn (Fresh.anti hr.sub hf)) f1
  have hnew: ∀j q b,lk r.H j=some q->br (βr j) q=some b-> ¬Fresh u' b/\Fresh us b:=by
   intro j q b hj hb;exact⟨((hr.row j q hj).2.fresh hb).2,(hr.row j q hj).2.fresh0 hb⟩
  have hcross: ∀i ri j q b,lk ds.H i=some ri->br (β i) ri=some b->lk r.H j=some q->br (βr j) q=some b->False:=by
   intro i ri j q b hi hb hj hb2;obtain⟨n1,n2⟩:=hnew j q b hj hb2;exact hdom b (hold b (hold2 i ri b hi hb).2) n1 n2
  refine h.grow hus hsub (fun id hn=>?_) (by omega) (fun id row hl=>?_) (fun id hi=>?_) (fun id hi=>?_) (fun i j ri rj b hij hi hj hbi hbj=>?_)
  ·have:id<ds.nx:=Classical.byContradiction fun hc=>hn (h.nos id (by omega))
   simp[this]
  ·rcases hlk id row hl with ⟨hi,hl⟩|⟨hi,q,hq,rfl⟩
   ·simp only[hi,if_true];refine⟨by omega,(h.row id row hl).2.step (aat u u') hus (fun j hn=>?_) (fun b hb=>(hold2 id row b hl hb).1)⟩
    have:j<ds.nx:=Classical.byContradiction fun hc=>hn (h.nos j (by omega))
    simp[this]
   ·have h1:=hr.row _ q hq;simp only[show ¬id<ds.nx by omega,if_false]
    refine⟨by have:=h1.1;simp only[resS]at this;omega,?_⟩
    have h2:=h1.2;cases q with
    |arr e sz l ro=>
     obtain⟨p,c,g1,g2,g3⟩:=h2;refine⟨p,c,g1,g2,?_⟩;cases ro with
     |true=>exact g3
     |false=>exact g3.imp (fun h=>h) fun ⟨c0,V,g4,g5⟩=>⟨c0,V,(g4.anti h.base.1).mono (ju huw' hst.sub),g5⟩
    |var T cs=>
     obtain⟨b,V,g1,g2,g3,g4,g5,g6⟩:=h2;refine⟨b,V,g1,ju huw' hst.sub _ _ g2 ay,Fresh.anti h.base.1 g3,g4,d9 (fun j=>?_) cs V g5,g6⟩
     simp[show ¬ds.nx+j<ds.nx by omega]
    |mpr es=>
     obtain⟨r0,clock,ents,g1,g2,g3,g4,g5,g6,g7⟩:=h2;exact⟨r0,clock,ents,g1,ju huw' hst.sub _ _ g2 bL,Fresh.anti h.base.1 g3,g4,by rw[zh];exact g5,by rw[yx];exact d9 (fun j=>by simp[show ¬ds.nx+j<ds.nx by omega]) _ _ g6,g7⟩
    |nst e sz l=>
     obtain⟨p,c,g1,g2,g3⟩:=h2;refine⟨p,c,g1,by simpa using g2,g3.imp (fun h=>⟨h.1,by simp[h.2]⟩) fun ⟨c0,V,g4,g5,g6,g7⟩=>⟨c0,V,by simpa using(g4.anti h.base.1).mono (ju huw' hst.sub),g5,g6,pU (fun j=>?_) l V g7⟩⟩
     simp[show ¬ds.nx+j<ds.nx by omega]
  ·simp only[show ¬id<ds.nx by omega,if_false]
   exact hr.nos _ (by simp only[resS];omega)
  ·have:=h.nbx;simp[show id<ds.nx by omega]
  ·rcases hlk i ri hi with ⟨h1,h2⟩|⟨h1,q1,h2,rfl⟩<;>rcases hlk j rj hj with ⟨k1,k2⟩|⟨k1,q2,k2,rfl⟩
   ·simp only[h1,k1,if_true]at hbi hbj;exact h.dist i j ri rj b hij h2 k2 hbi hbj
   ·simp only[h1,if_true,show ¬j<ds.nx by omega,if_false]at hbi hbj
    exact hcross i ri _ q2 b h2 hbi k2 ((hsh _ _ _).1 hbj)
   ·simp only[k1,if_true,show ¬i<ds.nx by omega,if_false]at hbi hbj
    exact hcross j rj _ q1 b k2 hbj h2 ((hsh _ _ _).1 hbi)
   ·simp only[show ¬i<ds.nx by omega,show ¬j<ds.nx by omega,if_false]at hbi hbj
    exact hr.dist _ _ q1 q2 b (by omega) h2 k2 ((hsh _ _ _).1 hbi) ((hsh _ _ _).1 hbj)
 ·simp[show ¬ds.nx+id<ds.nx by omega]
theorem asH{x:Bool}{w w' u' us:World}(hus:Sub us u)(hu:Sub u w)(hst:Step true us us w u' w'):Step x u0 u w (mrg u u') w':=by
 refine⟨apt (hu.trans hst.ext.sub) hst.sub,fun b o hb=>.inl (hst.ext b o hb),fun b hb hn hf=>?_,hst.le⟩
 refine hn (ahr hf (Classical.byContradiction fun hc=>hst.dom b hb hc (Fresh.anti hus hf)))
theorem CallS.con{x:Bool}{f:FuncId}{args fargs:List DV}{Q:Res->Prop}{K:DV->DS->Prop}(hc:Con2 P f fargs Q)(he:embDs ds.H args=some fargs)
  (hp:noPts args=true\/ ∀r,Q r->cI r.d=true) (hk: ∀r,Q r->K (bif cI r.d then r.d else shD ds.nx r.d) (aftC ds args r)):CallS P x f args ds K:=by
 intro u0 β0 β us s u vs h hv
 by_cases hnp:noPts args=true
 ·obtain⟨us1,g1,g2,g3⟩:=h.ros (idsDs ds.H args);have hfv:=dG (H:=ds.H) g1 args fargs vs g3 (.inl hnp) hv he;obtain⟨hbody,hcon⟩:=hc us1 vs hfv;refine .inl ⟨hbody,fun w hu h0=>(hcon w (g2.sub.trans hu)).mono ?_⟩
  rintro e w' ⟨rv,u',rfl,hst,hsub,r,hQ,βr,us',sr,hrel,hslot⟩
  obtain⟨β',j1,j2⟩:=g2.join hu hst hrel;have hd0:=hrel.slot 0;rw[hslot]at hd0;obtain⟨w0,e0,hd⟩: ∃w0,SV.v rv= .v w0/\HV us' r.d βr w0:=hd0;cases e0;refine⟨rv,mrg u u',rfl,asH g2.sub hu hst,?_⟩;have hk:=hk r hQ;cases hpl:cI r.d with
  |true=>
   unfold aftC at hk;rw[hpl]at hk;exact⟨β,us,ds,r.d,h.mono (aat u u'),jR r.d rv hpl hd,hk⟩
  |false=>
   unfold aftC at hk;rw[hpl]at hk;exact⟨β',us',_,_,j1,j2 rv hd,hk⟩
 ·have hp:=hp.resolve_left hnp;have hfv:=dG (H:=ds.H) h.sub args fargs vs (fun id _=>h.stays id) (.inr h.vars) hv he
  refine AtCall.of_spec (hc u vs hfv) ?_
  rintro rv u' hs ⟨r,hQ,βr,us',sr,hrel,hslot⟩
  have hd0:=hrel.slot 0;rw[hslot]at hd0;obtain⟨w0,e0,hd⟩: ∃w0,SV.v rv= .v w0/\HV us' r.d βr w0:=hd0;cases e0;have hk:=hk r hQ;unfold aftC at hk;rw[hp r hQ]at hk;exact⟨β,us,ds,r.d,h.mono hs,jR r.d rv (hp r hQ) hd,hk⟩
def RetID(ds0:DS)(K:DV->DS->Prop)(ds:DS)(d:DV):Prop:=K d ⟨ds0.ρ,ds0.σ,ds.H,ds.nx,ds0.nb⟩
def aka(P:Program)(rs:List ResultVar)(ds0:DS)(K:DV->DS->Prop)(e:Exit)(ds:DS):Prop:=
 match e with
 | .normal=>ds.nb=ds0.nx/\OptK (bW P ds rs) (RetID ds0 K ds)
 | .ret=>ds.nb=ds0.nx/\OptK (bW P ds rs) (RetID ds0 K ds)
 |_=>False
theorem CallS.inline(hm:P.follows .mixedOrders=true){f:FuncId}{fn:Func}{c:Code}(hf:P.funcs[f]? =some fn)(hb:fn.body=some c)(hbody:c8 P f=true)
  (hfit:fits fn.ntmps c=true) {args:List DV} (hn:Nat.ble args.length fn.ntmps=true) (rs:List ResultVar) (hrs:fn.results.toList=rs) {K:DV->DS->Prop}
  (h:Vc2 P c (aka P rs ds K) ⟨initD 0 args,[],ds.H,ds.nx,ds.nx⟩):CallS P false f args ds K:=by
 intro u0 β0 β us s u vs hr hv;refine .inl (mD hm hf hb hbody hfit (by rw[hv.length];exact hn) rs hrs ?_)
 have hr0:Rel u0 (β,us) β us ⟨initD 0 args,[],ds.H,ds.nx,ds.nx⟩ ⟨fJ 0 vs,[]⟩ u:=
  ⟨⟨hr.base.1,Sub.refl us⟩,hr.sub,wA 0 hv,fun k=>rfl,hr.row,hr.nos,fun id _=>rfl,Nat.le_refl _,hr.dist⟩
 refine Vc.mono ?_ (h u0 (β,us) β us _ u hr0);intro e s' u' hl
 have fin: ∀d β' us' ds',Rel u0 (β,us) β' us' ds' s' u'->ds'.nb=ds.nx->bW P ds' rs=some d->K d ⟨ds.ρ,ds.σ,ds'.H,ds'.nx,ds.nb⟩->
   mo (fun r u'=> ∃β' us' ds' d,Rel u0 β0 β' us' ds' s u'/\HV us' d β' r/\K d ds') (cN P s' rs) u':=by
  intro d β' us' ds' hr' hnb hd hk;obtain⟨v,hv,hd2⟩:=nY hr' hd;unfold mo;rw[hv];have hn1:=hr.nbx;have hn2:=hr'.nbx;have hble:BLe β β':=fun id hn=>hr'.fix id (by rw[hnb];exact Classical.byContradiction fun hc=>hn (hr.nos id (by omega)))
  refine⟨β',us',⟨ds.ρ,ds.σ,ds'.H,ds'.nx,ds.nb⟩,d,⟨⟨hr'.base.1,hr.base.2.trans hr'.base.2⟩,hr'.sub,fun t=>(hr.slot t).mono hr'.base.2 hble,fun k=>?_,hr'.row,hr'.nos,fun id hi=>(hr'.fix id (by have hi':id<ds.nb:=hi;rw[hnb];omega)).trans (hr.fix id hi),(by show ds.nb<=ds'.nx;omega),hr'.dist⟩,hd2,hk⟩
  have hloc:=hr.loc k;show match ds.find k with|none=>_|some l=>_
  cases hf:ds.find k with
  |none=>rw[hf]at hloc;exact hloc
  |some l=>
   rw[hf]at hloc;obtain⟨l',h1,h2,h3,h4⟩:=hloc;exact⟨l',h1,h2,HVs.mono hr'.base.2 _ _ _ hble _ h3,h4⟩
 obtain⟨β',us',ds',hr',hk⟩:=hl;cases e with
 |normal=>obtain⟨hnb,hk⟩:=hk;obtain⟨d,hd,hk⟩:=eB hk;exact fin d β' us' ds' hr' hnb hd hk
 |ret=>obtain⟨hnb,hk⟩:=hk;obtain⟨d,hd,hk⟩:=eB hk;exact fin d β' us' ds' hr' hnb hd hk
 |exit j=>exact hk.elim
 |goto l=>exact hk.elim
 |panic c=>exact hk.elim
 |outgrown=>exact hk.elim
end
end Go.Eng
namespace Go.Eng
section
variable {P:Program} {x:Bool} {K:DS->Prop} {Q:Exit->DS->Prop} {ds:DS} {d:Option Tmp} {ty:TypeId} {pos:String} {aft:Array Edge} {g:Option (Nat×Bool)} {all:List Oper} {op:Op}
 {ρ:List (Nat×DSV)} {σ:List (Nat×eF)} {H:List (Nat×Row)} {nx nb:Nat}
theorem anW{t:Nat}:(DS.mk ρ σ H nx nb).get t=(lk ρ t).getD .unk:=rfl
theorem amk{k:Nat}:(DS.mk ρ σ H nx nb).find k=lk σ k:=rfl
theorem apG{t:Nat}{y:DSV}:(DS.mk ρ σ H nx nb).put (some t) y=⟨(t,y)::ρ,σ,H,nx,nb⟩:=rfl
theorem aiu{y:DSV}:ds.put none y=ds:=rfl
theorem anG{t:Nat}:ds.sv (.tmp t)=ds.get t:=rfl
theorem wh{v:Value}:ds.sv (.const v)=ir v:=rfl
theorem aiX{f:FuncId}:ds.sv (.func f)= .d (.fn f [] []):=rfl
theorem tl{k:IntKind}{n:Int}:ir (.int k n)= .d (.v (.int k n)):=rfl
theorem aaA{b:Bool}:ir (.bool b)= .d (.v (.bool b)):=rfl
theorem ur{b:ByteArray}:ir (.string b)= .d (.v (.string b)):=rfl
theorem acd:ir (.slice none 0 0)= .d (.v (.slice none 0 0)):=rfl
theorem rE:ir .nilFunc= .d (.v .nilFunc):=rfl
theorem abN:ir (.pointer none)= .d (.v (.pointer none)):=rfl
theorem adZ:ir (.map none)= .d (.v (.map none)):=rfl
theorem yY:vc2 P .skip Q ds=Q .normal ds:=rfl
theorem apz:vc2 P .ret Q ds=Q .ret ds:=rfl
theorem zO{id:Nat}:vc2 P (.exit id) Q ds=Q (.exit id) ds:=rfl
theorem mY{id:Nat}{l:List Oper}:vc2 P (.region id l.toArray false) Q ds=jB P l (Q .normal) l ds:=rfl
theorem alE{id:Nat}{l:List Oper}:vc2 P (.region id l.toArray true) Q ds=AtDraw2 P l.toArray (Q .normal) ds:=rfl
theorem anp{a b:Code}:vc2 P (.seq a b) Q ds=vc2 P a (aaW P (isIf a) b Q) ds:=rfl
theorem af7{c:Operand}{a b:Code}:isIf (.cond c a b)=true:=rfl
theorem abb{i:Nat}{o:Array Oper}{b:Bool}:isIf (.region i o b)=false:=rfl
theorem acA{i:Nat}{a:Code}:isIf (.block i a)=false:=rfl
theorem alI{a b:Code}:isIf (.seq a b)=false:=rfl
theorem aiR{a:Code}:isIf (.loop a)=false:=rfl
theorem agj:isIf .skip=false:=rfl
theorem aj0:isIf .ret=false:=rfl
theorem aiP{i:Nat}:isIf (.exit i)=false:=rfl
def gE(P:Program)(c:DSV)(a b:Code)(Q:Exit->DS->Prop)(ds:DS):Prop:=
 match c with
 | .d (.v (.bool t))=>(t=true->vc2 P a Q ds)/\(t=false->vc2 P b Q ds)
 |_=>False
theorem yQ{c:Operand}{a b:Code}:vc2 P (.cond c a b) Q ds=gE P (ds.sv c) a b Q ds:=rfl
theorem kj{a b:Code}:gE P (.d (.v (.bool true))) a b Q ds=vc2 P a Q ds:=by simp[gE]
theorem jJ{a b:Code}:gE P (.d (.v (.bool false))) a b Q ds=vc2 P b Q ds:=by simp[gE]
theorem acV{a b:Code}{t:Bool}:gE P (.d (.v (.bool (!t)))) a b Q ds=gE P (.d (.v (.bool t))) b a Q ds:=by
 cases t<;>simp[gE]
theorem aZ{a b:Code}{p:Prop}[Decidable p](h1:p->vc2 P a Q ds)(h2: ¬p->vc2 P b Q ds):gE P (.d (.v (.bool (decide p)))) a b Q ds:=
 ⟨fun h=>h1 (by simpa using h),fun h=>h2 (by simpa using h)⟩
theorem kR{a b:Code}{y z:Int}(h1:y=z->vc2 P a Q ds)(h2:y≠z->vc2 P b Q ds):gE P (.d (.v (.bool (y==z)))) a b Q ds:=
 ⟨fun h=>h1 (by simpa using h),fun h=>h2 (by simpa using h)⟩
theorem cU{a b:Code}{y z:Int}(h1:y≠z->vc2 P a Q ds)(h2:y=z->vc2 P b Q ds):gE P (.d (.v (.bool (y !=z)))) a b Q ds:=
 ⟨fun h=>h1 (by simpa using h),fun h=>h2 (by simpa using h)⟩
theorem t_{id:Nat}:vc2 P (.block id .ret) Q ds=Q .ret ds:=rfl
theorem qY{id:Nat}:vc2 P (.block id .skip) Q ds=LeK2 (Q .normal) ds:=rfl
theorem rT{id j:Nat}:vc2 P (.block id (.exit j)) Q ds=di id Q (.exit j) ds:=rfl
theorem tg{id:Nat}:di id Q .normal ds=LeK2 (Q .normal) ds:=rfl
theorem aa3{id:Nat}:di id Q .ret ds=Q .ret ds:=rfl
def acN(Q:Exit->DS->Prop)(j:Nat)(ds:DS):Bool->Prop
 |true=>LeK2 (Q .normal) ds
 |false=>Q (.exit j) ds
theorem nI{id j:Nat}:di id Q (.exit j) ds=acN Q j ds (j==id):=by
 show(bif j==id then LeK2 (Q .normal) ds else Q (.exit j) ds)=_;cases (j==id)<;>rfl
theorem qd{j:Nat}:acN Q j ds true=LeK2 (Q .normal) ds:=rfl
theorem xS{j:Nat}:acN Q j ds false=Q (.exit j) ds:=rfl
theorem av(h:K ds):LeK2 K ds:=.inl h
theorem wN{b:Code}:aaW P false b Q .normal ds=vc2 P b Q ds:=rfl
theorem uy{b:Code}:aaW P true b Q .normal ds=LeK2 (vc2 P b Q) ds:=rfl
theorem ahJ{i:Bool}{b:Code}:aaW P i b Q .ret ds=Q .ret ds:=rfl
theorem ac0{i:Bool}{b:Code}{j:Nat}:aaW P i b Q (.exit j) ds=Q (.exit j) ds:=rfl
theorem ua{γ:Type}{st:γ->DS}{F:γ->Prop}{μ:γ->Nat}{g:γ}:gY st F μ g Q .normal ds= ∃g',leD (st g') ds/\F g'/\μ g'<μ g:=rfl
theorem ab5{γ:Type}{st:γ->DS}{F:γ->Prop}{μ:γ->Nat}{g:γ}:gY st F μ g Q .ret ds=Q .ret ds:=rfl
theorem z_{γ:Type}{st:γ->DS}{F:γ->Prop}{μ:γ->Nat}{g:γ}{j:Nat}:gY st F μ g Q (.exit j) ds=Q (.exit j) ds:=rfl
theorem yd{rs:List ResultVar}{Q:Res->Prop}:wv P rs Q .normal ds=OptK (bW P ds rs) (RetD Q ds):=rfl
theorem ail{rs:List ResultVar}{Q:Res->Prop}:wv P rs Q .ret ds=OptK (bW P ds rs) (RetD Q ds):=rfl
theorem aaq{rs:List ResultVar}{ds0:DS}{K:DV->DS->Prop}:aka P rs ds0 K .normal ds=(ds.nb=ds0.nx/\OptK (bW P ds rs) (RetID ds0 K ds)):=rfl
theorem akQ{rs:List ResultVar}{ds0:DS}{K:DV->DS->Prop}:aka P rs ds0 K .ret ds=(ds.nb=ds0.nx/\OptK (bW P ds rs) (RetID ds0 K ds)):=rfl
theorem aa9:bW P ds []=some (.tup []):=rfl
theorem aaR{a:ResultVar}:bW P ds [a]=aP P ds a:=rfl
theorem aab{a b:ResultVar}:bW P ds [a,b]=tup2 (aP P ds a) (aP P ds b):=rfl
theorem t8{a b c:ResultVar}:bW P ds [a,b,c]=tup3 (aP P ds a) (aP P ds b) (aP P ds c):=rfl
theorem wZ{a b c e f:ResultVar}:bW P ds [a,b,c,e,f]=tup5 (aP P ds a) (aP P ds b) (aP P ds c) (aP P ds e) (aP P ds f):=rfl
theorem wQ{a b c e:ResultVar}:bW P ds [a,b,c,e]=tup4 (aP P ds a) (aP P ds b) (aP P ds c) (aP P ds e):=rfl
theorem zS{t:Nat}:aP P ds (.tmp t)=dvO (ds.get t):=rfl
theorem xd{t T:Nat}:aP P ds (.cell t T)=resCell ds (ds.get t) (lay P T):=rfl
theorem rD:jB P all K [] ds=K ds:=rfl
theorem iM{o:Oper}{r:List Oper}:jB P all K (o::r) ds=iE P false all o (jB P all K r) ds:=rfl
theorem abH:iy P all K [] ds=K ds:=rfl
def aqe(P:Program)(all:List Oper)(K:DS->Prop)(x:Bool)(r:List (Nat×Bool))(ds:DS)(o:Option Oper):Prop:=
 match o with
 |some o=>iE P x all o (iy P all K r) ds
 |none=>False
theorem aai{i:Nat}{x:Bool}{r:List (Nat×Bool)}:iy P all K ((i,x)::r) ds=aqe P all K x r ds (bz all i):=rfl
theorem abO{x:Bool}{r:List (Nat×Bool)}{o:Oper}:aqe P all K x r ds (some o)=iE P x all o (iy P all K r) ds:=rfl
def abt:Bool->Prop->Prop
 |true,p=>p
 |false,_=>True
def adk(P:Program)(all:List Oper)(ks:List Nat)(K:DS->Prop)(x:Bool)(r:List (Nat×Bool))(ds:DS)(o:Option Oper):Prop:=
 match o with
 |some o=>u5 ks o ds/\abt x (vo ks o ds)/\iE P x all o (eQ P all ks K r) ds
 |none=>False
theorem aaa{ks:List Nat}:eQ P all ks K [] ds=K ds:=rfl
theorem xg{ks:List Nat}{i:Nat}{x:Bool}{r:List (Nat×Bool)}:eQ P all ks K ((i,x)::r) ds=adk P all ks K x r ds (bz all i):=by
 simp only[eQ,adk];cases bz all i with
 |none=>rfl
 |some o=>cases x<;>simp[abt]
theorem zK{ks:List Nat}{x:Bool}{r:List (Nat×Bool)}{o:Oper}:adk P all ks K x r ds (some o)=(u5 ks o ds/\abt x (vo ks o ds)/\iE P x all o (eQ P all ks K r) ds):=rfl
theorem akX{p:Prop}:abt true p=p:=rfl
theorem akA{p:Prop}:abt false p=True:=rfl
def ai_(P:Program)(all:List Oper)(ls kl:List Nat)(K:DS->Prop)(i:Nat)(x:Bool)(r:List (Nat×Bool))(ds:DS)(o:Option Oper):Prop:=
 match o with
 |some o=>rW ds kl/\ajK (cY ls i) kl o ds/\wm kl o ds/\iE P x all o (eo P all ls kl K r) ds
 |none=>False
theorem abf{ls kl:List Nat}:eo P all ls kl K [] ds=(rW ds kl/\K ds):=rfl
theorem xw{ls kl:List Nat}{i:Nat}{x:Bool}{r:List (Nat×Bool)}:eo P all ls kl K ((i,x)::r) ds=ai_ P all ls kl K i x r ds (bz all i):=rfl
theorem yP{ls kl:List Nat}{i:Nat}{x:Bool}{r:List (Nat×Bool)}{o:Oper}:ai_ P all ls kl K i x r ds (some o)=(rW ds kl/\ajK (cY ls i) kl o ds/\wm kl o ds/\iE P x all o (eo P all ls kl K r) ds):=rfl
theorem alW:rW ds []=True:=rfl
theorem agm{k:Nat}{r:List Nat}:rW ds (k::r)=((ds.find k).isSome=true/\rW ds r):=rfl
theorem apy{kl:List Nat}{o:Oper}:ajK true kl o ds=aa8 kl o ds:=rfl
theorem anF{kl:List Nat}{o:Oper}:ajK false kl o ds=True:=rfl
def oR(P:Program)(x:Bool)(all:List Oper)(K:DS->Prop)(t:OT)(ds:DS)(o:Option Oper):Prop:=
 match o with
 |some o=>iE P x all o (i4 P all K t) ds
 |none=>False
theorem aip:i4 P all K .done ds=K ds:=rfl
theorem apE{i:Nat}{t:OT}:i4 P all K (.fl i t) ds=oR P false all K t ds (bz all i):=rfl
theorem amD{i:Nat}{x:Bool}{t:OT}:i4 P all K (.eff i x t .no) ds=oR P x all K t ds (bz all i):=by grind [i4,oR,bz]
theorem akC{i j:Nat}{x y:Bool}{t t' alt:OT}:i4 P all K (.eff i x t (.eff j y t' alt)) ds=(oR P x all K t ds (bz all i)/\i4 P all K (.eff j y t' alt) ds):=by grind [i4,oR,bz]
theorem zT{x:Bool}{t:OT}{o:Oper}:oR P x all K t ds (some o)=iE P x all o (i4 P all K t) ds:=rfl
theorem lX:iE P x all ⟨d,op,ty,pos,aft,none⟩ K ds=bJ P x ⟨d,op,ty,pos,aft,none⟩ K ds:=rfl
def eS(P:Program)(x:Bool)(o:Oper)(K:DS->Prop)(ds:DS)(want:Bool)(c:DSV):Prop:=
 match c with
 | .d (.v (.bool c))=>(c=want->bJ P x o K ds)/\(c= !want->K (ds.put o.dst (.d undefD)))
 | .d (.tup _)=>K (ds.put o.dst (.d undefD))
 |_=>False
def xH(P:Program)(x:Bool)(o:Oper)(K:DS->Prop)(ds:DS)(want:Bool)(e:Option Nat):Prop:=
 match e with
 |some e=>eS P x o K ds want (ds.get e)
 |none=>False
theorem aiI{j:Nat}{b:Bool}:iE P x all ⟨d,op,ty,pos,aft,some (j,b)⟩ K ds=xH P x ⟨d,op,ty,pos,aft,some (j,b)⟩ K ds b (ja all j):=by
 unfold iE xH;simp only;cases ja all j<;>rfl
theorem xB{o:Oper}{b:Bool}{e:Nat}:xH P x o K ds b (some e)=eS P x o K ds b (ds.get e):=rfl
theorem aev{o:Oper}:eS P x o K ds true (.d (.v (.bool true)))=bJ P x o K ds:=by simp[eS]
theorem acg{o:Oper}:eS P x o K ds true (.d (.v (.bool false)))=K (ds.put o.dst (.d undefD)):=by simp[eS]
theorem acG{o:Oper}:eS P x o K ds false (.d (.v (.bool true)))=K (ds.put o.dst (.d undefD)):=by simp[eS]
theorem abW{o:Oper}:eS P x o K ds false (.d (.v (.bool false)))=bJ P x o K ds:=by simp[eS]
theorem t9{o:Oper}{b:Bool}{vs:List DV}:eS P x o K ds b (.d (.tup vs))=K (ds.put o.dst (.d undefD)):=rfl
theorem m9{o:Oper}{b c:Bool}(h1:c=b->bJ P x o K ds)(h2:c= !b->K (ds.put o.dst (.d undefD))):eS P x o K ds b (.d (.v (.bool c))):=⟨h1,h2⟩
theorem aaj{y:Operand}:bJ P x ⟨d,.move y,ty,pos,aft,g⟩ K ds=K (ds.put d (ds.sv y)):=rfl
theorem adB{y:Operand}:bJ P x ⟨d,.assign y,ty,pos,aft,g⟩ K ds=K (ds.put d (ds.sv y)):=rfl
theorem amX{c y z:Operand}:bJ P x ⟨d,.pick c y z,ty,pos,aft,g⟩ K ds=vcPick2 ds d K (ds.sv y) (ds.sv z) (ds.sv c):=rfl
theorem akJ{T:TypeId}{y:Operand}:bJ P x ⟨d,.load T y,ty,pos,aft,g⟩ K ds=vcLoad2 ds d K (ds.sv y) (lay P T):=rfl
theorem ye{y:Operand}:bJ P x ⟨d,.nilCheck y,ty,pos,aft,g⟩ K ds=vcNilC ds d K (ds.sv y):=rfl
theorem yg{b:BinOp}{T t2:TypeId}{y z:Operand}:bJ P x ⟨d,.binOp b T y z t2,ty,pos,aft,g⟩ K ds=vcBinS P b T y z (PutD ds d K) (ds.sv y) (ds.sv z):=rfl
theorem ara{b:UnOp}{T:TypeId}{y:Operand}:bJ P x ⟨d,.unOp b T y,ty,pos,aft,g⟩ K ds=vcUn2 P b (PutD ds d K) (ds.sv y):=rfl
theorem aae{src dst:TypeId}{y:Operand}:bJ P x ⟨d,.convert src dst y,ty,pos,aft,g⟩ K ds=vcConv2 P x src dst ds d K (ds.sv y):=rfl
theorem wP{fn:Fn}{first captured:List Operand}:bJ P x ⟨d,.makeFunc fn first.toArray captured.toArray,ty,pos,aft,g⟩ K ds=vcFn2 ds d K first.length (pubsD (first++captured) ds) fn:=rfl
theorem agY{T:TypeId}{ps:List (Nat×Operand)}:bJ P x ⟨d,.build T ps.toArray,ty,pos,aft,g⟩ K ds=OptK (buildD (cH P T) (bQ P T) (pdvs ds ps)) (PutD ds d K):=rfl
theorem ah3{T:TypeId}{y:Operand}{lo hi mx:Option Operand}:bJ P x ⟨d,.slice T y lo hi mx,ty,pos,aft,g⟩ K ds=vcCutS P T ds d K (ds.sv y) (ovD ds lo) (ovD ds hi) (ovD ds mx):=rfl
theorem t7{T:TypeId}{y:Operand}{f:Nat}:bJ P x ⟨d,.fieldAddr T y f,ty,pos,aft,g⟩ K ds=vcField2 ds d K (ds.sv y) (aT P T f):=rfl
theorem ahj{T:TypeId}{y:Operand}{f:Nat}:bJ P x ⟨d,.field T y f,ty,pos,aft,g⟩ K ds=OptK (fvalD (ds.sv y) (ahT P T f)) (PutD ds d K):=rfl
theorem uj{T:TypeId}{y i:Operand}:bJ P x ⟨d,.indexAddr T y i,ty,pos,aft,g⟩ K ds=vcIdx2 ds d K (ds.sv y) (ds.sv i) (asz P T) (esz P T):=rfl
theorem aeb{T:TypeId}{y z:Operand}{ok:Bool}:bJ P x ⟨d,.lookup T y z ok,ty,pos,aft,g⟩ K ds=LkS P x ⟨d,.lookup T y z ok,ty,pos,aft,g⟩ K ds T ok (ds.sv y) (ds.sv z):=rfl
theorem arF{o:Oper}{T:TypeId}{ok:Bool}{es:List (UInt8×Nat)}{b:DSV}:LkS P x o K ds T ok (.d (.mp es)) b=aaF P T ok (PutD ds o.dst K) (.d (.mp es)) b:=rfl
theorem alH{T:TypeId}{K:DV->Prop}{es:List (UInt8×Nat)}{n:Int}:aaF P T true K (.d (.mp es)) (.d (.v (.int .u8 n)))=LkK P T K es n:=rfl
attribute [go_sem] aeb arF alH vcIdx2.eq_2 IdxA2.eq_1 AggI.eq_1 vcIndex2.eq_2
theorem af5{T:TypeId}{y i:Operand}:bJ P x ⟨d,.index T y i,ty,pos,aft,g⟩ K ds=vcIndex2 P T (PutD ds d K) (ds.sv y) (ds.sv i):=rfl
theorem zZ{y:Operand}{i:Nat}:bJ P x ⟨d,.extract y i,ty,pos,aft,g⟩ K ds=OptK (tupD i (ds.sv y)) (PutD ds d K):=rfl
theorem ag0{T:TypeId}:bJ P x ⟨d,.alloc T,ty,pos,aft,g⟩ K ds=vcNew2 ds K T (bQ P T) d:=rfl
theorem an3{T:TypeId}{y:Operand}:bJ P x ⟨d,.box T y,ty,pos,aft,g⟩ K ds=vcNew2 ds K T (boxD (ds.sv y)) d:=rfl
theorem ahi{T:TypeId}{y z:Operand}:bJ P x ⟨d,.store T y z,ty,pos,aft,g⟩ K ds=vcStoreS x ds d K (ds.sv y) (ds.sv z) (lay P T):=rfl
theorem rI{T n:Nat}{ps:List (Nat×Operand)}:bJ P x ⟨d,.buildSlice T n ps.toArray,ty,pos,aft,g⟩ K ds=vcLit2 ds d K n (db P T) (pdvs ds ps):=rfl
theorem um{T:TypeId}{l c:Operand}:bJ P x ⟨d,.makeSlice T l c,ty,pos,aft,g⟩ K ds=vcMake2 ds d K (ds.sv l) (ds.sv c) (db P T) (zeroE P (db P T)):=rfl
theorem anE{as:List Operand}{ts:List TypeId}:bJ P x ⟨d,.call ⟨.builtin .len,as.toArray,ts.toArray⟩,ty,pos,aft,g⟩ K ds=one2 (LenA P (PutD ds d K)) (dvs ds as) ts:=rfl
theorem aot{as:List Operand}{ts:List TypeId}:bJ P x ⟨d,.call ⟨.builtin .cap,as.toArray,ts.toArray⟩,ty,pos,aft,g⟩ K ds=one2 (CapA P (PutD ds d K)) (dvs ds as) ts:=rfl
theorem anl{as:List Operand}{ts:List TypeId}:bJ P x ⟨d,.call ⟨.builtin .min,as.toArray,ts.toArray⟩,ty,pos,aft,g⟩ K ds=OptK (valsO (dvs ds as)) (MinV P (PutD ds d K) ts.toArray ty):=rfl
theorem anO{as:List Operand}{ts:List TypeId}:bJ P x ⟨d,.call ⟨.builtin .max,as.toArray,ts.toArray⟩,ty,pos,aft,g⟩ K ds=OptK (valsO (dvs ds as)) (MaxV P (PutD ds d K) ts.toArray ty):=rfl
theorem ac9{as:List Operand}{ts:List TypeId}:bJ P x ⟨d,.call ⟨.builtin .append,as.toArray,ts.toArray⟩,ty,pos,aft,g⟩ K ds=two2 (AppA P x ds d K) (dvs ds as) ts:=rfl
theorem ajo{as:List Operand}{ts:List TypeId}:bJ P x ⟨d,.call ⟨.builtin .copy,as.toArray,ts.toArray⟩,ty,pos,aft,g⟩ K ds=two2 (CopA P x ds d K) (dvs ds as) ts:=rfl
theorem agH{as:List Operand}{ts:List TypeId}:bJ P x ⟨d,.call ⟨.builtin .clear,as.toArray,ts.toArray⟩,ty,pos,aft,g⟩ K ds=one2 (ClrA P x ds d K) (dvs ds as) ts:=rfl
theorem al_{f:Operand}{as:List Operand}{ts:Array TypeId}:bJ P x ⟨d,.call ⟨.value f,as.toArray,ts⟩,ty,pos,aft,g⟩ K ds=vcFun2 P x d K (ds.sv f) (pubsD as ds):=rfl
end
theorem qW{P:Program}{op:BinOp}{T:TypeId}{y z:Operand}{K:DV->Prop}{a b:Value}:vcBinS P op T y z K (.d (.v a)) (.d (.v b))=AtP P (bj op T y z a b) K:=rfl
theorem ahF{k:IntKind}{n:Int}:plain (.int k n)=true:=rfl
theorem adh{b:Bool}:plain (.bool b)=true:=rfl
theorem w_{b:ByteArray}:plain (.string b)=true:=rfl
theorem ah0:plain (.slice none 0 0)=true:=rfl
theorem acR{P:Program}{e:Sem Value}{K:DV->Prop}:AtP P e K=AtPure P e (AtPK K):=rfl
attribute [go_sem] qd xS cond_true cond_false decide_true decide_false Bool.and_true Bool.true_and Bool.and_self Bool.and_false Bool.false_and Bool.or_true Bool.true_or Bool.or_false Bool.false_or Option.map_some Option.map_none Option.getD_some Option.getD_none and_self and_true true_and beq_self_eq_true Bool.true_beq Bool.false_beq Bool.not_true Bool.not_false forall_const
attribute [go_sem] abf xw yP alW agm apy anF aa8 wm ldInS.eq_1 stNoS.eq_1 stNoS.eq_2 stNoS.eq_3 stNoS.eq_4 dsNo.eq_1 dsNo.eq_2
attribute [go_sem] qW anW amk apG aiu anG wh aiX tl aaA ur acd rE abN adZ yY apz zO mY alE anp yQ kj jJ acV t_ qY rT tg aa3 nI wN uy af7 abb acA alI aiR agj aj0 aiP ahJ ac0 ua ab5 z_ yd ail aaq akQ aa9 aaR aab t8 wQ wZ zS xd rD iM abH aai abO aaa xg zK akX akA aip apE amD zT lX aiI xB aev acg acG abW t9 aaj adB amX akJ ye yg ara aae wP agY ah3 t7 ahj uj af5 zZ ag0 an3 ahi rI um anE aot anl anO ac9 ajo al_ ahF adh w_ ah0 acR akC
theorem ahC{pl:List (Nat×Nat)}{cs:List DV}:mm pl [] cs=some cs:=rfl
def FillB(pl:List (Nat×Nat))(r:List (Nat×DV))(cs:List DV)(d:DV)(off:Nat):Bool->Option (List DV)
 |true=>mm pl r (spliceD cs off (cellsD d))
 |false=>none
def FillO(pl:List (Nat×Nat))(r:List (Nat×DV))(cs:List DV)(d:DV):Option (Nat×Nat)->Option (List DV)
 |some (off,n)=>FillB pl r cs d off ((cellsD d).length==n&&onesD (cellsD d)&&decide (off+n<=cs.length))
 |none=>none
theorem adD{pl:List (Nat×Nat)}{i:Nat}{d:DV}{r:List (Nat×DV)}{cs:List DV}:mm pl ((i,d)::r) cs=FillO pl r cs d (plAt pl i):=by
 simp only[mm];cases plAt pl i with
 |none=>rfl
 |some q=>
  obtain⟨off,n⟩:=q;simp only[FillO];cases ((cellsD d).length==n&&onesD (cellsD d)&&decide (off+n<=cs.length))<;>rfl
def ElR(sz off len:Nat):Option Row->Option (List (List DV))
 |some (.arr _ sz' l _)=>bif sz'==sz&&decide (off+len<=l.length)then some ((l.drop off).take len)else none
 |_=>none
theorem aix{H:List (Nat×Row)}{sz id off len:Nat}:elemsD H sz (.rf id off len)=ElR sz off len (lk H id):=rfl
def EtR(sz off i:Nat):Option Row->Option (List DV)
 |some (.arr _ sz' l _)=>bif sz'==sz then l[off+i]? else none
 |some (.nst _ sz' l)=>bif sz'==sz then l[off+i]? else none
 |_=>none
theorem apA{H:List (Nat×Row)}{sz i id off len:Nat}:eltD H sz i (.rf id off len)=EtR sz off i (lk H id):=rfl
def VaR:Option Row->Option (List DV)
 |some (.var _ cs)=>some cs
 |_=>none
theorem am9{H:List (Nat×Row)}{id:Nat}:aar H id=VaR (lk H id):=rfl
def PubLD(r:List Operand)(ds:DS)(k off:Nat):Option eF->Option (List DV×DS)
 |some l=>consP (.pt ds.nx off) (pubsD r (ds.pub k l))
 |none=>none
def PubKD(r:List Operand)(ds:DS):DSV->Option (List DV×DS)
 | .d x=>consP x (pubsD r ds)
 | .loc k off=>PubLD r ds k off (ds.find k)
 |_=>none
theorem abA{y:Operand}{r:List Operand}{ds:DS}:pubsD (y::r) ds=PubKD r ds (ds.sv y):=rfl
def EmbP:Option DV->Option (List (List DV))->Option (List (List DV))
 |some d,some r=>some (cellsD d::r)
 |_,_=>none
theorem ad4{H:List (Nat×Row)}{i:Nat}{d:DV}{r:List (Nat×DV)}:embPs H ((i,d)::r)=EmbP (embD H d) (embPs H r):=rfl
def BasR(e sz id len:Nat):Option Row->Option (Option Nat×List (List DV))
 |some (.arr e' sz' l false)=>bif e'==e&&sz'==sz&&l.length==len then some (some id,l)else none
 |_=>none
theorem ak7{H:List (Nat×Row)}{e sz id len:Nat}:baseD H e sz (.rf id 0 len)=BasR e sz id len (lk H id):=rfl
def asr(P:Program)(T:TypeId):Prop:=match P.underlying T with|some (.func ..)=>True|_=>False
def apU(P:Program)(T:TypeId):Prop:=match P.underlying T with|some (.pointer _)=>True|_=>False
section
variable {P:Program} {op:BinOp} {T:TypeId} {K:DV->Prop}
theorem akc{f:FuncId}{a b:List DV}:vcNil P op T (.fn f a b) (.v .nilFunc) K=(asr P T/\nilK op K false):=rfl
theorem ai9{id off:Nat}:vcNil P op T (.pt id off) (.v (.pointer none)) K=(apU P T/\nilK op K false):=rfl
theorem al3{cs:List DV}:vcNil P op T (.fp cs) (.v (.pointer none)) K=(apU P T/\nilK op K false):=rfl
theorem alF{a:DV}:vcNil P op T a (.v (.slice none 0 0)) K=(ey P T=true/\OptK (lenD a) (NilN op K)):=rfl
def LenS(P:Program)(K:DV->Prop)(T:TypeId):Option Value->Prop
 |some (.string s)=>P.underlying T=some .string/\K (.v (.int .i64 s.size))
 |_=>False
theorem aao{a:DV}:vcLen2 P K a T none=LenS P K T (dV a):=rfl
end
section
variable {P:Program} {ds:DS} {d:Option Tmp} {K:DS->Prop} {n e sz:Nat} {ps:List (Nat×DV)} {x:Bool} {src dst:TypeId} {a:DV}
theorem aiU:ajY ds d K n e sz ps true=K (ds.put d (.d .e0)):=rfl
theorem acx:ajY ds d K n e sz ps false=LitE ds d K n e sz ps (embPs ds.H ps):=rfl
theorem acJ{id len:Nat}:yW P x src dst ds d K (.rf id 0 len) true=ConvM P x src ds d K id len (lk ds.H id):=rfl
theorem zF:yW P x src dst ds d K a false=OptK (elemsD ds.H 1 a) (xb P src dst ds d K):=rfl
end
attribute [go_sem] aix ElR.eq_1 apA EtR.eq_1 am9 VaR.eq_1 abA PubKD.eq_1 PubKD.eq_2 PubLD.eq_1 ad4 EmbP.eq_1 ak7 BasR.eq_1 akc ai9 al3 alF aao LenS.eq_1 aiU acx acJ zF u5 vo
attribute [go_sem] FillB.eq_1 FillO.eq_1 FillO.eq_2 plAt.eq_1 plAt.eq_2 plAt.eq_3 AtPK.eq_1 PutD.eq_1 PutS.eq_1 IdxN.eq_1 AppB.eq_1 AppX.eq_1
attribute [go_sem] ClrR.eq_1 ClrX.eq_1 ClrA.eq_1 vcClr2.eq_1 vcClr2.eq_2 agH
attribute [go_sem] CopyR.eq_1 CopyX.eq_1 LitL.eq_1 StoV.eq_1 StoP.eq_1 StoE2.eq_1 StoE1.eq_1 StoE.eq_1 StoY.eq_1 StoY.eq_2 StoY.eq_3 NilN.eq_1
attribute [go_sem] ConvM.eq_1 ConvV.eq_1 ConvV.eq_2 CutM.eq_1 CutM.eq_2 CutH.eq_1 CutL.eq_1 CutN.eq_1 CutE.eq_1 UnV.eq_1 FnK2.eq_1
attribute [go_sem] IndW.eq_1 IndV.eq_1 NewC.eq_1 CallD.eq_1 LenA.eq_1 CapA.eq_1 MinV.eq_1 MaxV.eq_1 AppA.eq_1 CopA.eq_1 RetD.eq_1 RetID.eq_1
attribute [go_sem] OptK.eq_1 consV.eq_1 elemsD.eq_1 elemsD.eq_3 elemsD.eq_4 lenD.eq_1 lenD.eq_2 lenD.eq_3 lenD.eq_4 lenD.eq_5 eltD.eq_1 ldsD.eq_1
attribute [go_sem] ldsD.eq_2 locCs.eq_1 locCs.eq_2 loadD.eq_1 loadD.eq_2 loadD.eq_3 loadD.eq_4 vcLoad2.eq_1 vcLoad2.eq_2 fieldD.eq_1 fieldD.eq_2 fieldD.eq_3
attribute [go_sem] fieldD.eq_4 vcField2.eq_1 vcField2.eq_2 fvalD.eq_1 vcIdx2.eq_1 ovC.eq_1 ovD.eq_1 ovD.eq_2 intO.eq_1 intO.eq_2 cutR.eq_1 cutD.eq_1
attribute [go_sem] cutD.eq_2 cutD.eq_3 cellsD.eq_1 cellsD.eq_2 buildD.eq_1 consD.eq_1 dvs.eq_1 dvs.eq_2 pconsD.eq_1 pdvs.eq_1 pdvs.eq_2 pubSVD.eq_1
attribute [go_sem] pubSVD.eq_2 pubRD.eq_1 pubRD.eq_2 dropKD.eq_1 dropKD.eq_2 DS.pub.eq_1 consP.eq_1 consP.eq_2 pubsD.eq_1 setRo.eq_1 setRo.eq_2 roH.eq_1
attribute [go_sem] roH.eq_2 roHs.eq_1 roHs.eq_2 DS.ros.eq_1 idC.eq_1 idC.eq_2 idCs.eq_1 idCs.eq_2 idsD.eq_1 idsD.eq_2 idsD.eq_3 idsD.eq_4
attribute [go_sem] idsD.eq_5 idsD.eq_6 idsDs.eq_1 idsDs.eq_2 rfD.eq_1 embC.eq_1 embF.eq_1 embV.eq_1 embV.eq_2 embV.eq_3 embV.eq_4 embV.eq_5
attribute [go_sem] embVs.eq_1 embVs.eq_2 ptD.eq_1 ptD.eq_2 embVo.eq_1 embVo.eq_2 embD.eq_1 embD.eq_2 embD.eq_3 embD.eq_4 embD.eq_5 embD.eq_6
attribute [go_sem] embD.eq_7 embD.eq_8 embD.eq_9 embD.eq_10 embDs.eq_1 embDs.eq_2 embPs.eq_1 idsPs.eq_1 idsPs.eq_2
attribute [go_sem] noPts.eq_1 noPts.eq_2 baseD.eq_1 baseD.eq_2 dropO.eq_1 dropO.eq_2 dropH.eq_1 dropH.eq_2 setH.eq_1 setH.eq_2
attribute [go_sem] vcApp2.eq_1 vcApp2.eq_2 copyL.eq_1 vcCopy2.eq_1 vcCopy2.eq_2 litOk.eq_1 litOk.eq_2 vcLit2.eq_1 vcMake2.eq_1 setLD.eq_1 vcStore2.eq_1 vcStore2.eq_2
attribute [go_sem] nilK.eq_1 nilK.eq_2 vcNil.eq_1 vcBin2.eq_1 vcBin2.eq_2 vcBinS.eq_1 vcConv2.eq_1 vcCut2.eq_1 vcCut2.eq_2 vcNilC.eq_1 vcNilC.eq_2 vcNilC.eq_3
attribute [go_sem] vcNilC.eq_4 vcPick2.eq_1 vcUn2.eq_1 vcFn2.eq_1 vcIndex2.eq_1 tupD.eq_1 addLD.eq_1 vcNew2.eq_1 vcNew2.eq_2 vcStoreS.eq_1 vcCutS.eq_1 boxD.eq_1
attribute [go_sem] zeroE.eq_1 zeroE.eq_2 vcLen2.eq_1 vcCap2.eq_1 vcCap2.eq_2 one2.eq_1 two2.eq_1 valsO.eq_1 valsO.eq_2 vcFun2.eq_1 vcFun2.eq_3 initD.eq_1
attribute [go_sem] initD.eq_2 dvO.eq_1 resCell.eq_1 tup2.eq_1 tup3.eq_1 tup4.eq_1 tup5.eq_1 resS.eq_1
attribute [go_sem] shDs.eq_1 shDs.eq_2 shRow.eq_1 shRow.eq_2 shH.eq_1 shH.eq_2
attribute [go_sem] plainDs.eq_1 plainDs.eq_2 aftC.eq_1 ldD.eq_1 spliceD.eq_1 onesD.eq_1 onesD.eq_2 oneD.eq_1 oneD.eq_2
attribute [go_sem] oneD.eq_3 undefD.eq_1 ldSVD.eq_1 ldSVD.eq_2 ldSVD.eq_3 stSVD.eq_1
attribute [go_sem] ahC adD arf amz aic adP aoe anH List.take_succ_cons List.take_zero List.drop_succ_cons List.drop_zero List.length_cons List.length_nil List.cons_append List.nil_append List.headD_cons List.all_cons List.all_nil List.map_cons List.map_nil List.take_nil List.drop_nil List.append_nil
theorem apj{sz off len e sz':Nat}{l:List (List DV)}:ElR sz off len (some (.nst e sz' l))=none:=rfl
theorem aoS{off len e sz':Nat}{l:List (List DV)}:rfD off len (some (.nst e sz' l))=none:=rfl
theorem ajQ{e sz id len e' sz':Nat}{l:List (List DV)}:BasR e sz id len (some (.nst e' sz' l))=none:=rfl
theorem ah6{H:List (Nat×Row)}{sz id off len:Nat}:tI H sz (.rf id off len)=ElNR sz off len (lk H id):=rfl
theorem am4{H:List (Nat×Row)}{e sz id len:Nat}:ml H e sz (.rf id 0 len)=BaNR e sz id len (lk H id):=rfl
theorem alJ{H:List (Nat×Row)}{e sz:Nat}:ml H e sz .e0=some (none,[]):=rfl
theorem agX{H:List (Nat×Row)}{e sz:Nat}:ml H e sz (.v (.slice none 0 0))=some (none,[]):=rfl
attribute [go_sem] EtR.eq_2 cutR.eq_2 apj aoS ajQ ah6 am4 alJ agX ElNR.eq_1 BaNR.eq_1 BaNR.eq_2 AppC.eq_1 AppY.eq_1 AppZ.eq_1 AppZ.eq_2 AppW.eq_1 AppW.eq_2 LitE.eq_1 LitE.eq_2 LitM.eq_1 StoN.eq_1 StoF.eq_1 StoF.eq_2 StoE.eq_2 shRow.eq_3 wkRow.eq_3 wkRow.eq_4 Option.map_none
def RnmB(a b:Option Nat):Bool:=
 match a,b with
 |some a,some b=>a==b
 |_,_=>false
def RnmC(a b:Option Nat):Bool->Bool
 |true=>false
 |false=>RnmB a b
theorem acj{r:Nat->Option Rn}{o:Option Nat}{i j:Nat}{x:Row}{l:List (Nat×Row)}:pK r o i ((j,x)::l)=(RnmC o (rnTo (r j)) (j==i)||pK r o i l):=by
 show((bif j==i then false else (match o,rnTo (r j)with|some a,some b=>a==b|_,_=>false))||pK r o i l)=_
 cases (j==i)<;>rfl
theorem agL{r:Nat->Option Rn}{o:Option Nat}{i:Nat}:pK r o i []=false:=rfl
attribute [go_sem] acj agL RnmC.eq_1 RnmC.eq_2 RnmB.eq_1 RnmB.eq_2 rnOf.eq_1 wkRf.eq_1 wkRf.eq_2 wkRf.eq_3 wkPt.eq_1 wkE0.eq_1 wkE0.eq_2 wkFz.eq_1 wkFz.eq_2 wkFz.eq_3 wkV.eq_1 wkFp.eq_1 wkDs.eq_1 wkDs.eq_2 wkS.eq_1 wkS.eq_2 wkS.eq_3 wkS.eq_4 wkR.eq_1 wkR.eq_2 wkLoc.eq_1 wkLoc.eq_2 wkL.eq_1 wkL.eq_2 wkRow.eq_1 wkRow.eq_2 wkRowN.eq_1 wkRowN.eq_2 wkRowN.eq_3 wkRowN.eq_4 wkH.eq_1 wkH.eq_2 rnTo.eq_1 rnTo.eq_2 wkInj.eq_1 wkInj.eq_2 wkKeys.eq_1 wkKeys.eq_2 Option.isSome_some
section
variable {r:Nat->Option Rn} {n sz id off len i:Nat} {l cs ds a b:List DV} {ll:List (List DV)} {v:Value} {y:DV} {es:List (UInt8×Nat)} {f f':FuncId} {a' b' cs':List DV}
theorem aqP:fT (.v v)=true:=rfl
theorem anx:fT (.fz sz ll)=true:=rfl
theorem aog:fT (.rf id off len)=true:=rfl
theorem apm:fT .e0=true:=rfl
theorem aoH:fT (.pt id off)=false:=rfl
theorem anQ:fT (.fp cs)=true:=rfl
theorem aoJ:fT (.mp es)=true:=rfl
theorem aop:fT (.mr id)=false:=rfl
theorem anA:fT (.cz sz ll)=true:=rfl
theorem apL:fT (.pe id i off)=false:=rfl
theorem ao0:fT (.fn f a b)=(noPts a&&noPts b):=rfl
theorem aiZ:fT (.agg cs)=noPts cs:=rfl
theorem ajm:fT (.tup cs)=noPts cs:=rfl
theorem asU:wkD r (.v v) y=wkV v y:=rfl
theorem aqK:wkD r (.fz sz ll) y=wkFz sz ll y:=rfl
theorem aqw:wkD r (.rf id off len) y=wkRf off len (r id) y:=rfl
theorem aqS:wkD r .e0 y=wkE0 y:=rfl
theorem aqJ:wkD r (.pt id off) y=wkPt off (r id) y:=rfl
theorem aqW:wkD r (.fp cs) y=wkFp cs y:=rfl
theorem arH:wkD r (.mr id) y=wkMr (r id) y:=rfl
theorem aqC:wkD r (.cz sz ll) y=aq_ sz ll y:=rfl
theorem aqH:wkD r (.fn f a b) (.fn f' a' b')=(f=f'/\wkDs r a a'/\wkDs r b b'):=rfl
theorem anV:wkD r (.agg cs) (.agg cs')=wkDs r cs cs':=rfl
theorem aoQ:wkD r (.tup cs) (.tup cs')=wkDs r cs cs':=rfl
theorem asc:shD n (.v v)= .v v:=rfl
theorem ary:shD n (.fz sz ll)= .fz sz ll:=rfl
theorem aqM:shD n (.rf id off len)= .rf (n+id) off len:=rfl
theorem aqG:shD n .e0= .e0:=rfl
theorem aqr:shD n (.pt id off)= .pt (n+id) off:=rfl
theorem aqT:shD n (.fp cs)= .fp cs:=rfl
theorem aqV:shD n (.mp es)= .mp es:=rfl
theorem arU:shD n (.mr id)= .mr (n+id):=rfl
theorem aro:shD n (.cz sz ll)= .cz sz ll:=rfl
theorem aqQ:shD n (.fn f a b)= .fn f (shDs n a) (shDs n b):=rfl
theorem aoP:shD n (.agg cs)= .agg (shDs n cs):=rfl
theorem aoM:shD n (.tup cs)= .tup (shDs n cs):=rfl
theorem akd:cI (.v v)=true:=rfl
theorem ad7:cI (.agg cs)=plainDs cs:=rfl
theorem abw:cI (.tup cs)=plainDs cs:=rfl
theorem ahD:cI (.fz sz ll)=false:=rfl
theorem agD:cI (.rf id off len)=false:=rfl
theorem ahy:cI .e0=false:=rfl
theorem aiD:cI (.pt id off)=false:=rfl
theorem ahq:cI (.fp cs)=false:=rfl
theorem agz:cI (.fn f a b)=false:=rfl
theorem af8:cI (.mp es)=false:=rfl
theorem air:cI (.mr id)=false:=rfl
theorem ahb:cI (.cz sz ll)=false:=rfl
end
attribute [go_sem] aqP anx aog apm aoH anQ aoJ aop anA apL ao0 aiZ ajm asU aqK aqw aqS aqJ aqW arH aqC aqH anV aoQ wkMr.eq_1
attribute [go_sem] asc ary aqM aqG aqr aqT aqV arU aro aqQ aoP aoM akd ad7 abw ahD agD ahy aiD ahq agz af8 air ahb
theorem an{α β:Type}{f:α->β}{l:List α}:List.take l.length (List.map f l)=List.map f l:=List.take_of_length_le (by simp)
theorem akY{α:Type}{l:List α}:List.take l.length l=l:=List.take_of_length_le (Nat.le_refl _)
theorem abz{α:Type}{p:α->Prop}:(∀x∈([]:List α),p x)=True:=by simp
attribute [go_sem] an akY List.forall_mem_cons abz Int.toNat_natCast
attribute [go_sem] Nat.reduceBEq Nat.reduceAdd Nat.reduceSub Nat.reduceMul Nat.reduceLeDiff Nat.reduceLT Nat.reduceEqDiff Int.reduceAdd Int.reduceBEq Int.reduceBNe Int.reduceToNat reduceCtorEq List.length_map Nat.zero_add Nat.add_zero
def lS:Code->Bool
 | .loop _=>false
 |_=>true
section
variable {P:Program} {Q:Exit->DS->Prop} {ds:DS} {id:Nat}
theorem yG{a b:Code}:lS (.seq a b)=true:=rfl
theorem tU{i:Nat}{l:Array Oper}{t:Bool}:lS (.region i l t)=true:=rfl
theorem xD{c:Operand}{a b:Code}:lS (.cond c a b)=true:=rfl
theorem uv{j:Nat}{a:Code}:lS (.block j a)=true:=rfl
theorem ab{x:Code}(h:lS x=true):vc2 P (.block id x) Q ds=vc2 P x (di id Q) ds:=by
 cases x<;>first|rfl|exact absurd h (by simp[lS])|skip
end
attribute [go_sem] List.isEmpty_nil List.isEmpty_cons eq_self or_true true_or or_false false_or yG tU xD uv
theorem cV{a:Int}{K:Value->Prop}(h: -9223372036854775808<=a/\a<=9223372036854775807)(hk:K (.int .i64 a)):bg .i64 a K:=by rw[dR h];exact hk
theorem gF{a:Int}{K:Value->Prop}(h:0<=a/\a<=255)(hk:K (.int .u8 a)):bg .u8 a K:=by rw[aaU h];exact hk
theorem rO{a:Int}{K:Value->Prop}(h:0<=a/\a<=65535)(hk:K (.int .u16 a)):bg .u16 a K:=by rw[ago h];exact hk
theorem oO{a:Int}{K:Value->Prop}(h:0<=a/\a<=4294967295)(hk:K (.int .u32 a)):bg .u32 a K:=by rw[agG h];exact hk
theorem aV{α β:Type}{f:α->β}{l:List α}{k:Nat}(h:k<l.length):(List.map f l)[k]? =some (f l[k]):=by simp[h]
theorem ant{k:Nat}:((k:Int)<0)=False:=by simp
theorem ape{k:Nat}:(0<=(k:Int))=True:=by simp
attribute [go_sem] ant ape List.getElem?_cons_zero List.getElem?_cons_succ
theorem vR: ∀{a b:List UInt8},List.map aA a=List.map aA b->a=b
 |[],[],_=>rfl
 |[],_::_,h=>by simp at h
 |_::_,[],h=>by simp at h
 | x::a,y::b,h=>by
  simp only[List.map_cons,List.cons.injEq]at h;have h1:=h.1;simp only[aA,List.cons.injEq,DV.v.injEq,Value.int.injEq,true_and,and_true]at h1
  have:x=y:=by
   have h2:x.toNat=y.toNat:=by exact_mod_cast h1
   exact UInt8.toNat_inj.1 h2
  rw[this,vR h.2]
theorem adK{P:Program}{src dst:TypeId}{ds:DS}{d:Option Tmp}{K:DS->Prop}{b:List UInt8}:
  xb P src dst ds d K (List.map aA b)=(apv P src=true/\P.underlying dst=some .string/\K (ds.put d (.d (.v (.string (uz b)))))):=by grind [xb,vR]
attribute [go_sem] adK ad1
section
variable {P:Program}
theorem OptK.mono{α:Type}{o:Option α}{K K':α->Prop}(h: ∀x,K x->K' x):OptK o K->OptK o K':=by
 cases o with
 |none=>exact id
 |some x=>exact h x
theorem AtP.mono{e:Sem Value}{K K':DV->Prop}(h: ∀d,K d->K' d):AtP P e K->AtP P e K':=AtPure.mono fun r hr=>⟨hr.1,h _ hr.2⟩
theorem CallS.mono{x:Bool}{f:FuncId}{args:List DV}{ds:DS}{K K':DV->DS->Prop}(h: ∀d ds,K d ds->K' d ds)(hc:CallS P x f args ds K):CallS P x f args ds K':=
 fun u0 β0 β us s u vs hr hv=>AtCall.mono (fun r u' ⟨β',us',ds',d,h1,h2,h3⟩=>⟨β',us',ds',d,h1,h2,h d ds' h3⟩) (hc u0 β0 β us s u vs hr hv)
theorem LeK2.mono{K K':DS->Prop}{ds:DS}(h: ∀ds,K ds->K' ds):LeK2 K ds->LeK2 K' ds
 | .inl h1=>.inl (h _ h1)
 | .inr ⟨ds1,h1,h2⟩=>.inr ⟨ds1,h1,h _ h2⟩
theorem acF{ds:DS}{d:Option Tmp}{K K':DS->Prop}{k off:Nat}{i:Int}{as:Option (Nat×Nat)}(h: ∀d,K d->K' d)(hh:IdxA2 ds d K k off i as):IdxA2 ds d K' k off i as:=by
 unfold IdxA2 at hh ⊢;split at hh
 ·exact⟨hh.1,h _ hh.2⟩
 ·exact hh.elim
theorem ahl{K K':DV->Prop}{cs:List DV}{i:Int}{as:Option (Nat×Bool×Nat)}(h: ∀d,K d->K' d)(hh:AggI K cs i as):AggI K' cs i as:=by
 unfold AggI at hh ⊢;split at hh
 ·exact⟨hh.1,OptK.mono h hh.2⟩
 ·exact hh.elim
theorem ala{P:Program}{T:TypeId}{K K':DV->Prop}{es:List (UInt8×Nat)}{v:Value}(h: ∀d,K d->K' d)(hh:LkU P T K es v):LkU P T K' es v:=by
 unfold LkU at hh ⊢;split at hh
 ·exact⟨hh.1,hh.2.imp fun k hk=>⟨hk.1,h _ hk.2⟩⟩
 ·exact hh.elim
theorem VcSem.mono{x:Bool}{o:Oper}{K K':DS->Prop}{ds:DS}(h: ∀ds,K ds->K' ds)(hh:VcSem P x o K ds):VcSem P x o K' ds:=
 fun u0 β0 β us s u hr=>aiq (fun s u ⟨β,us,ds,h1,h2⟩=>⟨β,us,ds,h1,h _ h2⟩) (hh u0 β0 β us s u hr)
theorem qT{x:Bool}{o:Oper}{K K':DS->Prop}{ds:DS}(h: ∀ds,K ds->K' ds)(hh:bJ P x o K ds):bJ P x o K' ds:=by
 have hp: ∀(ds:DS) d r,PutD ds d K r->PutD ds d K' r:=fun ds d r hr=>h _ hr
 unfold bJ at hh ⊢;cases hop:o.op<;>simp only[hop]at hh⊢
 case move=>exact h _ hh
 case assign=>exact h _ hh
 case pick=>unfold vcPick2 at hh ⊢; split at hh<;>first|exact h _ hh|exact hh.elim
 case load=>unfold vcLoad2 at hh ⊢; split at hh<;>first|exact OptK.mono (hp _ _) hh|exact hh.elim
 case nilCheck=>unfold vcNilC at hh ⊢; split at hh<;>first|exact h _ hh|exact hh.elim
 case binOp op T y z t2=>
  unfold vcBinS at hh ⊢;split at hh
  ·unfold vcBin2 at hh ⊢;split at hh
   ·exact AtP.mono (hp _ _) hh
   ·unfold vcNil at hh⊢
    have hn: ∀t,nilK op (PutD ds o.dst K) t->nilK op (PutD ds o.dst K') t:=by
     intro t ht;unfold nilK at ht ⊢;split at ht<;>first|exact hp _ _ _ ht|exact ht.elim
    split at hh
    ·exact⟨hh.1,OptK.mono (fun n hn'=>⟨fun h0=>hn _ (hn'.1 h0),fun h0 t=>hn _ (hn'.2 h0 t)⟩) hh.2⟩
    ·split at hh<;>first|exact⟨hh.1,hn _ hh.2⟩|exact hh.elim
    ·split at hh<;>first|exact⟨hh.1,hn _ hh.2⟩|exact hh.elim
    ·exact hh.elim
  ·exact hh.elim
 case unOp=>unfold vcUn2 at hh ⊢; split at hh<;>first|exact OptK.mono (fun v hv=>AtP.mono (hp _ _) hv) hh|exact hh.elim
 case convert src dst y=>
  unfold vcConv2 at hh ⊢;split at hh
  ·rename_i a hy;unfold ConvV at hh ⊢;split at hh
   ·exact AtP.mono (hp _ _) hh
   ·unfold yW at hh ⊢;cases hb:(src==dst)with
    | true=>
     rw[hb]at hh;simp only[cond_true]at hh ⊢;split at hh
     ·unfold ConvM at hh ⊢;split at hh
      ·exact⟨hh.1,hh.2.1,hh.2.2.1,hh.2.2.2.1,hh.2.2.2.2.1,h _ hh.2.2.2.2.2⟩
      ·exact hh.elim
     ·exact hh.elim
    |false=>
     rw[hb]at hh;simp only[cond_false]at hh ⊢;exact OptK.mono (fun l hl=>⟨hl.1,hl.2.1,hl.2.2.imp fun bs hbs=>⟨hbs.1,h _ hbs.2⟩⟩) hh
  ·exact hh.elim
 case makeFunc=>unfold vcFn2 at hh ⊢; split at hh<;>first|exact OptK.mono (fun q hq=>h _ hq) hh|exact hh.elim
 case build=>exact OptK.mono (hp _ _) hh
 case slice=>
  unfold vcCutS at hh ⊢;split at hh
  ·unfold vcCut2 at hh ⊢;split at hh
   ·exact⟨hh.1,AtP.mono (hp _ _) hh.2⟩
   ·refine OptK.mono (fun e he=>OptK.mono (fun n hn=>OptK.mono (fun l hl=>OptK.mono (fun hi hh=>⟨hh.1,?_⟩) hl) hn) he) hh
    have h2:=hh.2;unfold CutM at h2 ⊢;split at h2
    ·exact OptK.mono (hp _ _) h2
    ·exact⟨h2.1,h2.2.1,h2.2.2.1,h _ h2.2.2.2⟩
    ·exact h2.elim
  ·exact hh.elim
 case fieldAddr=>unfold vcField2 at hh ⊢; split at hh<;>first|exact OptK.mono (fun r hr=>h _ hr) hh|exact hh.elim
 case field=>exact OptK.mono (hp _ _) hh
 case indexAddr=>unfold vcIdx2 at hh ⊢; split at hh<;>first|exact OptK.mono (fun n hn=>⟨hn.1,hn.2.1,hn.2.2.1,h _ hn.2.2.2⟩) hh|exact acF h hh|exact hh.elim
 case makeMap=>exact VcSem.mono h hh
 case mapUpdate=>exact VcSem.mono h hh
 case insert=>exact VcSem.mono h hh
 case mapEntry=>exact VcSem.mono h hh
 case entryStore=>exact VcSem.mono h hh
 case lookup=>
  unfold LkS at hh ⊢;split at hh
  ·exact VcSem.mono h hh
  ·unfold aaF at hh ⊢; split at hh<;>first|exact ala (fun d hk=>hp _ _ _ hk) hh|exact hh.elim
 case index=>unfold vcIndex2 at hh ⊢; split at hh<;>first|exact ahl (fun d hk=>hp _ _ _ hk) hh|exact OptK.mono (fun v hv=>OptK.mono (fun w hw=>AtP.mono (hp _ _) hw) hv) hh|exact hh.elim
 case extract=>exact OptK.mono (hp _ _) hh
 case alloc=>unfold vcNew2 at hh ⊢; split at hh<;>first|exact⟨hh.1,OptK.mono (fun cs hc=>⟨hc.1,h _ hc.2⟩) hh.2⟩|exact hh.elim
 case box=>unfold vcNew2 at hh ⊢; split at hh<;>first|exact⟨hh.1,OptK.mono (fun cs hc=>⟨hc.1,h _ hc.2⟩) hh.2⟩|exact hh.elim
 case store=>
  unfold vcStoreS at hh ⊢;split at hh
  ·unfold vcStore2 at hh ⊢;split at hh
   ·refine⟨hh.1,hh.2.1,?_⟩;have h2:=hh.2.2;unfold StoY at h2 ⊢;split at h2
    ·exact OptK.mono (fun l hl=>⟨hl.1,h _ hl.2⟩) h2
    ·unfold StoP at h2 ⊢;split at h2
     ·exact⟨h2.1,h2.2.1,h _ h2.2.2⟩
     ·exact h2.elim
    ·unfold StoE at h2 ⊢;split at h2
     ·exact⟨h2.1,h2.2.1,h2.2.2.1,h2.2.2.2.1,h2.2.2.2.2.1,OptK.mono (fun cs hc=>by
       unfold StoE1 StoF at hc ⊢;split at hc
       ·exact⟨hc.1,hc.2.1,h _ hc.2.2⟩
       ·exact h _ hc) h2.2.2.2.2.2⟩
     ·exact⟨h2.1,h2.2.1,h2.2.2.1,OptK.mono (fun cs hc=>h _ hc) h2.2.2.2⟩
     ·exact h2.elim
    ·exact h2.elim
   ·exact hh.elim
  ·exact hh.elim
 case buildSlice T n ps=>
  unfold vcLit2 at hh ⊢;split at hh
  ·rename_i e sz bytes qs he hp;unfold ajY at hh ⊢;cases hb:(n==0&&qs.isEmpty)with
   |true=>rw[hb]at hh;exact h _ hh
   |false=>
    rw[hb]at hh;simp only[cond_false]at hh ⊢;unfold LitE at hh ⊢;split at hh
    ·exact⟨hh.1,hh.2.1,hh.2.2.1,hh.2.2.2.1,h _ hh.2.2.2.2⟩
    ·exact⟨hh.1,hh.2.1,hh.2.2.1,hh.2.2.2.1,h _ hh.2.2.2.2⟩
  ·exact hh.elim
 case makeSlice=>
  unfold vcMake2 at hh ⊢;split at hh
  ·split at hh<;>first|exact⟨hh.1,hh.2.1,hh.2.2.1,hh.2.2.2.1,h _ hh.2.2.2.2⟩|exact hh.elim
  ·exact hh.elim
 case call c=>
  unfold xl at hh ⊢;split at hh
  ·unfold one2 at hh ⊢;split at hh
   ·unfold LenA vcLen2 at hh ⊢;split at hh
    ·exact⟨hh.1,hp _ _ _ hh.2⟩
    ·split at hh<;>first|exact⟨hh.1,hp _ _ _ hh.2⟩|exact hh.elim
   ·exact hh.elim
  ·unfold one2 at hh ⊢;split at hh
   ·unfold CapA vcCap2 at hh ⊢;split at hh
    ·exact⟨hh.1,fun c hc=>hp _ _ _ (hh.2 c hc)⟩
    ·exact hh.elim
   ·exact hh.elim
  ·exact OptK.mono (fun vs hv=>AtP.mono (hp _ _) hv) hh
  ·exact OptK.mono (fun vs hv=>AtP.mono (hp _ _) hv) hh
  ·unfold two2 at hh ⊢;split at hh
   ·refine⟨hh.1,?_⟩;have h2:=hh.2;unfold vcApp2 at h2 ⊢;split at h2
    ·have hY: ∀e sz bytes s xs,AppY x ds o.dst K e sz bytes s xs->AppY x ds o.dst K' e sz bytes s xs:=fun e sz bytes s xs hy=>OptK.mono (fun b hb=>⟨hb.1,hb.2.1,hb.2.2.1,h _ hb.2.2.2⟩) hy
     unfold AppW at h2 ⊢;split at h2
     ·unfold AppX AppZ at h2 ⊢;split at h2
      ·exact⟨h2.1,h2.2.1,h2.2.2.1,h _ h2.2.2.2⟩
      ·exact hY _ _ _ _ _ h2
     ·exact OptK.mono (fun xs hx=>hY _ _ _ _ _ hx) h2
    ·exact h2.elim
   ·exact hh.elim
  ·unfold two2 at hh ⊢;split at hh
   ·refine⟨hh.1,?_⟩;have h2:=hh.2;unfold vcCopy2 at h2 ⊢;split at h2
    ·refine OptK.mono (fun xs hx=>?_) h2
     unfold CopyX at hx ⊢;split at hx
     ·unfold CopyR at hx ⊢;split at hx
      ·exact⟨hx.1,hx.2.1,hx.2.2.1,hx.2.2.2.1,hx.2.2.2.2.1,h _ hx.2.2.2.2.2⟩
      ·exact hx.elim
     ·exact hx.elim
    ·exact h2.elim
   ·exact hh.elim
  ·unfold one2 at hh ⊢;split at hh
   ·unfold ClrA vcClr2 at hh ⊢;split at hh
    ·unfold ClrX at hh ⊢;split at hh
     ·unfold ClrR at hh ⊢;split at hh
      ·exact⟨hh.1,hh.2.1,hh.2.2.1,hh.2.2.2.1,hh.2.2.2.2.1,hh.2.2.2.2.2.1,h _ hh.2.2.2.2.2.2⟩
      ·exact hh.elim
     ·exact hh.elim
    ·exact hh.elim
   ·exact hh.elim
  ·unfold vcFun2 at hh ⊢;split at hh
   ·split at hh
    ·exact CallS.mono (fun d ds hd=>h _ hd) hh
    ·exact hh.elim
   ·exact hh.elim
  ·exact hh.elim
theorem gS{x:Bool}{all:List Oper}{o:Oper}{K K':DS->Prop}{ds:DS}(h: ∀ds,K ds->K' ds)(hh:iE P x all o K ds):iE P x all o K' ds:=by
 unfold iE at hh ⊢;split at hh
 ·exact qT h hh
 ·split at hh
  ·split at hh
   ·exact⟨fun e=>qT h (hh.1 e),fun e=>h _ (hh.2 e)⟩
   ·exact h _ hh
   ·exact hh.elim
  ·exact hh.elim
theorem px{all:List Oper}{K K':DS->Prop}(h: ∀ds,K ds->K' ds): ∀(l:List Oper) (ds:DS),jB P all K l ds->jB P all K' l ds
 |[],ds,hh=>h _ hh
 |o::r,ds,hh=>gS (fun ds hd=>px h r ds hd) hh
theorem qk{all:List Oper}{K K':DS->Prop}(h: ∀ds,K ds->K' ds): ∀(l:List (Nat×Bool)) (ds:DS),iy P all K l ds->iy P all K' l ds
 |[],ds,hh=>h _ hh
 |(i,x)::r,ds,hh=>by
  simp only[iy]at hh ⊢;cases ho:bz all i with
  |none=>rw[ho]at hh;exact hh.elim
  |some o=>rw[ho]at hh;exact gS (fun ds hd=>qk h r ds hd) hh
theorem nW{all:List Oper}{ks:List Nat}{K K':DS->Prop}(h: ∀ds,K ds->K' ds): ∀(l:List (Nat×Bool)) (ds:DS),eQ P all ks K l ds->eQ P all ks K' l ds
 |[],ds,hh=>h _ hh
 |(i,x)::r,ds,hh=>by
  simp only[eQ]at hh ⊢;cases ho:bz all i with
  |none=>rw[ho]at hh;exact hh.elim
  |some o=>rw[ho]at hh;exact⟨hh.1,hh.2.1,gS (fun ds hd=>nW h r ds hd) hh.2.2⟩
theorem oh{all:List Oper}{ls kl:List Nat}{K K':DS->Prop}(h: ∀ds,K ds->K' ds): ∀(l:List (Nat×Bool)) (ds:DS),eo P all ls kl K l ds->eo P all ls kl K' l ds
 |[],ds,hh=>⟨hh.1,h _ hh.2⟩
 |(i,x)::r,ds,hh=>by
  simp only[eo]at hh ⊢;cases ho:bz all i with
  |none=>rw[ho]at hh;exact hh.elim
  |some o=>rw[ho]at hh;exact⟨hh.1,hh.2.1,hh.2.2.1,gS (fun ds hd=>oh h r ds hd) hh.2.2.2⟩
theorem jj{all:List Oper}{K K':DS->Prop}(h: ∀ds,K ds->K' ds): ∀(t:OT) (ds:DS),i4 P all K t ds->i4 P all K' t ds
 | .done,ds,hh=>h _ hh
 | .no,_,_=>trivial
 | .fl i t,ds,hh=>by
  simp only[i4]at hh ⊢;cases ho:bz all i with
  |none=>rw[ho]at hh;exact hh.elim
  |some o=>rw[ho]at hh;exact gS (fun ds hd=>jj h t ds hd) hh
 | .eff i x t alt,ds,hh=>by
  simp only[i4]at hh ⊢;refine⟨?_,jj h alt ds hh.2⟩;have h1:=hh.1;cases ho:bz all i with
  |none=>rw[ho]at h1;exact h1.elim
  |some o=>rw[ho]at h1;exact gS (fun ds hd=>jj h t ds hd) h1
theorem AtDraw2.mono{ops:Array Oper}{K K':DS->Prop}{ds:DS}(h: ∀ds,K ds->K' ds):AtDraw2 P ops K ds->AtDraw2 P ops K' ds
 | .inl ⟨ord,h1,h2⟩=>.inl ⟨ord,h1,qk h ord ds h2⟩
 | .inr (.inl ⟨t,h1,h2⟩)=>.inr (.inl ⟨t,h1,jj (fun ds hd=>LeK2.mono h hd) t ds h2⟩)
 | .inr (.inr (.inl ⟨ord,ks,h1,h2⟩))=>.inr (.inr (.inl ⟨ord,ks,h1,nW h ord ds h2⟩))
 | .inr (.inr (.inr (.inl ⟨ord,ls,kl,h1,h2⟩)))=>.inr (.inr (.inr (.inl ⟨ord,ls,kl,h1,oh h ord ds h2⟩)))
 | .inr (.inr (.inr (.inr h)))=>h.elim
theorem agi: ∀(c:Code) (Q Q':Exit->DS->Prop) (ds:DS),(∀e ds,Q e ds->Q' e ds)->vc2 P c Q ds->vc2 P c Q' ds:=by
 intro c
 induction c with
 |skip=>intro Q Q' ds h hh;exact h _ _ hh
 |region id ops draw=>
  intro Q Q' ds h hh;cases draw with
  |false=>exact px (h _) _ ds hh
  |true=>exact AtDraw2.mono (h _) hh
 | seq x y ihx ihy=>
  intro Q Q' ds h hh;refine ihx _ _ ds ?_ hh;intro e ds' hk;cases e with
  |normal=>
   simp only[SeqW2]at hk ⊢;cases hb:isIf x with
   |false=>rw[hb]at hk;exact ihy _ _ ds' h hk
   |true=>rw[hb]at hk;exact LeK2.mono (fun d hd=>ihy _ _ d h hd) hk
  |_=>exact h _ _ hk
 |cond c x y ihx ihy=>
  intro Q Q' ds h hh;simp only[vc2]at hh ⊢;split at hh
  ·exact⟨fun e=>ihx _ _ ds h (hh.1 e),fun e=>ihy _ _ ds h (hh.2 e)⟩
  ·exact hh.elim
 | block id x ih=>
  intro Q Q' ds h hh;refine ih _ _ ds ?_ hh;intro e ds' hk;cases e with
  |normal=>exact LeK2.mono (h _) hk
  |exit j=>
   simp only[di]at hk ⊢;cases hb:(j==id)with
   |true=>rw[hb]at hk;exact LeK2.mono (h _) hk
   |false=>rw[hb]at hk;exact h _ _ hk
  |_=>exact h _ _ hk
 |loop x ih=>
  intro Q Q' ds h hh;obtain⟨γ,st,F,μ,h0,hr⟩:=hh;refine⟨γ,st,F,μ,h0,fun g hg=>Vc2.mono ?_ (hr g hg)⟩
  intro e ds' hk;cases e<;>first|exact hk|exact h _ _ hk
 |exit id=>intro Q Q' ds h hh;exact h _ _ hh
 |ret=>intro Q Q' ds h hh;exact h _ _ hh
 |rangeFunc f ps x y=>intro Q Q' ds h hh;exact hh.elim
 |scope x=>intro Q Q' ds h hh;exact hh.elim
 |label l=>intro Q Q' ds h hh;exact hh.elim
 |goto l=>intro Q Q' ds h hh;exact hh.elim
 |refuse w=>intro Q Q' ds h hh;exact hh.elim
end
section
variable {P:Program} {Q:Exit->DS->Prop} {ρ:List (Nat×DSV)} {σ:List (Nat×eF)} {H:List (Nat×Row)} {nx nb:Nat}
def rP(P:Program)(y:Code)(Q:Exit->DS->Prop)(e:Exit)(ds:DS):Prop:=
 match e with
 | .normal=>Vc2 P y Q ds
 |e=>Q e ds
theorem Vc2.seq{x y:Code}{ds:DS}(h:Vc2 P x (rP P y Q) ds):Vc2 P (.seq x y) Q ds:=by
 intro u0 β0 β us s u hr;refine Vc.seq (Vc.mono ?_ (h u0 β0 β us s u hr));intro e s' u' hl;obtain⟨β',us',ds',h1,h2⟩:=hl;cases e with
 |normal=>exact h2 u0 β0 β' us' s' u' h1
 |exit j=>exact⟨β',us',ds',h1,h2⟩
 |ret=>exact⟨β',us',ds',h1,h2⟩
 |goto l=>exact⟨β',us',ds',h1,h2⟩
 |panic c=>exact⟨β',us',ds',h1,h2⟩
 |outgrown=>exact⟨β',us',ds',h1,h2⟩
def xf(id:Nat)(Q:Exit->DS->Prop)(e:Exit)(ds:DS):Prop:=
 match e with
 | .exit j=>bif j==id then Q .normal ds else Q (.exit j) ds
 |e=>Q e ds
theorem Vc2.block{id:Nat}{x:Code}{ds:DS}(h:Vc2 P x (xf id Q) ds):Vc2 P (.block id x) Q ds:=by
 intro u0 β0 β us s u hr;refine Vc.block (Vc.mono ?_ (h u0 β0 β us s u hr));intro e s' u' hl;cases e with
 |exit j=>
  obtain⟨β',us',ds',h1,h2⟩:=hl;simp only[xf]at h2;simp only[fw];cases hb:(j==id)<;>rw[hb]at h2<;>exact⟨β',us',ds',h1,h2⟩
 |normal=>exact hl
 |ret=>exact hl
 |goto l=>exact hl
 |panic c=>exact hl
 |outgrown=>exact hl
theorem Vc2.le{x:Code}{ds ds1:DS}(hle:leD ds1 ds)(h:Vc2 P x Q ds1):Vc2 P x Q ds:=by
 intro u0 β0 β us s u hr hm C a w hu hf hs;obtain⟨β1,s1,h1,h2⟩:=hle u0 β0 β us s u hr;exact h u0 β0 β1 us s1 u h2 hm C a w hu hf (hs.le_of h1)
def jN{γ:Type}(st:Nat->γ->DS)(F:Nat->γ->Prop)(k id id2:Nat)(Q:Exit->DS->Prop)(e:Exit)(ds:DS):Prop:=
 match e with
 | .normal=> ∃g',leD (st k g') ds/\F (k+1) g'
 | .exit j=>bif j==id2 then (∃g',leD (st k g') ds/\F (k+1) g')else bif j==id then LeK2 (Q .normal) ds else Q (.exit j) ds
 |e=>Q e ds
theorem uc{γ:Type}{st:Nat->γ->DS}{F:Nat->γ->Prop}{k id id2:Nat}{ds:DS}:jN st F k id id2 Q .normal ds= ∃g',leD (st k g') ds/\F (k+1) g':=rfl
theorem aaf{γ:Type}{st:Nat->γ->DS}{F:Nat->γ->Prop}{k id id2 j:Nat}{ds:DS}:jN st F k id id2 Q (.exit j) ds=bif j==id2 then (∃g',leD (st k g') ds/\F (k+1) g')else bif j==id then LeK2 (Q .normal) ds else Q (.exit j) ds:=rfl
theorem acY{γ:Type}{st:Nat->γ->DS}{F:Nat->γ->Prop}{k id id2:Nat}{ds:DS}:jN st F k id id2 Q .ret ds=Q .ret ds:=rfl
attribute [go_sem] uc aaf acY
def stR{γ:Type}(ti:Nat)(pre:γ->List (Nat×DSV))(ρ:List (Nat×DSV))(loc:γ->List (Nat×eF))(Hf:γ->List (Nat×Row))(nx nb:Nat)(k:Nat)(g:γ):DS:=⟨(ti,.d (.v (.int .i64 k)))::(pre g++ρ),loc g,Hf g,nx,nb⟩
theorem arR{γ:Type}{ti:Nat}{pre:γ->List (Nat×DSV)}{ρ:List (Nat×DSV)}{loc:γ->List (Nat×eF)}{Hf:γ->List (Nat×Row)}{nx nb k:Nat}{g:γ}:stR ti pre ρ loc Hf nx nb k g=⟨(ti,.d (.v (.int .i64 k)))::(pre g++ρ),loc g,Hf g,nx,nb⟩:=rfl
attribute [go_sem] arR
theorem aki{R ρ':List (Nat×DSV)}{σ:List (Nat×eF)}{H:List (Nat×Row)}{nx nb ti tj:Nat}{a b x:DV}(hj:lk R tj=none):leD ⟨(ti,.d b)::R,σ,H,nx,nb⟩ ⟨(ti,.d b)::(tj,.d x)::(ti,.d a)::R,σ,H,nx,nb⟩:=by
 refine m7 (fun t=>?_) rfl rfl rfl rfl
 show((lk ((ti,DSV.d b)::R) t).getD DSV.unk=DSV.unk)\/(lk ((ti,DSV.d b)::(tj,DSV.d x)::(ti,DSV.d a)::R) t).getD DSV.unk=(lk ((ti,DSV.d b)::R) t).getD DSV.unk
 by_cases h1:ti=t
 ·subst h1;rw[ax,ax];exact .inr rfl
 ·rw[aj h1,aj h1]
  by_cases h2:tj=t
  ·subst h2;rw[hj];exact .inl rfl
  ·rw[aj h2,aj h1];exact .inr rfl
theorem g_{ρ0:List (Nat×DSV)}{γ:Type}{body:Code}{id id2 r1 r2 ti tc tj:Nat}{T T2 T3 T4 y1 y2 y3:TypeId}{p1 p2 p3:String}{e1 e2 e3:Array Edge}{yn:Operand}
  (n:Nat) (pre:γ->List (Nat×DSV)) (loc:γ->List (Nat×eF)) (Hf:γ->List (Nat×Row)) (nx1:Nat) (F:Nat->γ->Prop) (g0:γ)
  (hle:leD (stR ti pre ρ loc Hf nx1 nb 0 g0) ⟨ρ0,σ,H,nx,nb⟩) (hF:F 0 g0)
  (hn: ∀g k,(stR ti pre ρ loc Hf nx1 nb k g).sv yn= .d (.v (.int .i64 n))) (hmax:n<=9223372036854775807) (hj: ∀g,lk (pre g++ρ) tj=none)
  (hbody: ∀k g,k<n->F k g->Vc2 P body (jN (stR ti pre ρ loc Hf nx1 nb) F k id id2 Q) ⟨(tc,.d (.v (.bool true)))::(ti,.d (.v (.int .i64 k)))::(pre g++ρ),loc g,Hf g,nx1,nb⟩)
  (hend: ∀g,F n g->Q .normal ⟨(tc,.d (.v (.bool false)))::(ti,.d (.v (.int .i64 n)))::(pre g++ρ),loc g,Hf g,nx1,nb⟩):
  vc2 P (.block id (.loop (.seq (.region r1 [⟨some tc,.binOp .lss T (.tmp ti) yn T2,y1,p1,e1,none⟩].toArray false)
   (.seq (.cond (.tmp tc) .skip (.exit id)) (.seq (.block id2 body)
    (.region r2 [⟨some tj,.binOp .add T3 (.tmp ti) (.const (.int .i64 1)) T4,y2,p2,e2,none⟩,⟨some ti,.move (.tmp tj),y3,p3,e3,none⟩].toArray false)))))) Q ⟨ρ0,σ,H,nx,nb⟩:=by
 refine⟨Nat×γ,fun x=>stR ti pre ρ loc Hf nx1 nb x.1 x.2,fun x=>x.1<=n/\F x.1 x.2,fun x=>n-x.1,⟨(0,g0),hle,Nat.zero_le _,hF⟩,?_⟩
 rintro⟨k,g⟩ ⟨hk,hF1⟩
 simp only at hk hF1⊢
 have hlkti:(stR ti pre ρ loc Hf nx1 nb k g).sv (.tmp ti)= .d (.v (.int .i64 k)):=by
  show(lk ((ti,_)::_) ti).getD DSV.unk=_;rw[ax];rfl
 refine Vc2.seq (Vc2.of ?_);rw[mY,iM,lX,yg,hlkti,hn g k,qW,acR,wF];refine⟨rfl,?_⟩;show rP P _ _ .normal _;refine Vc2.seq (Vc2.of ?_);rw[yQ]
 have hc:(DS.put (stR ti pre ρ loc Hf nx1 nb k g) (some tc) (.d (.v (.bool (decide ((k:Int)<(n:Int))))))).sv (.tmp tc)= .d (.v (.bool (decide (k<n)))):=by
  show(lk ((tc,_)::_) tc).getD DSV.unk=_;rw[ax];have:decide ((k:Int)<(n:Int))=decide (k<n):=by simp
  rw[this];rfl
 rw[hc];have hdec:decide ((k:Int)<(n:Int))=decide (k<n):=by simp
 by_cases hlt:k<n
 ·rw [show decide (k<n)=true from by simpa using hlt,kj,yY]
  show rP P _ _ .normal _;refine Vc2.seq (Vc2.block (Vc2.mono ?_ ?_ (Q:=jN (stR ti pre ρ loc Hf nx1 nb) F k id id2 Q)))
  ·intro e ds2 h
   have key: ∀ds2,(∃g',leD (stR ti pre ρ loc Hf nx1 nb k g') ds2/\F (k+1) g')->Vc2 P (.region r2 [⟨some tj,.binOp .add T3 (.tmp ti) (.const (.int .i64 1)) T4,y2,p2,e2,none⟩,⟨some ti,.move (.tmp tj),y3,p3,e3,none⟩].toArray false)
     (gY (fun x:Nat×γ=>stR ti pre ρ loc Hf nx1 nb x.1 x.2) (fun x=>x.1<=n/\F x.1 x.2) (fun x=>n-x.1) (k,g) (di id Q)) ds2:=by
    rintro ds2 ⟨g',hle',hF'⟩
    refine Vc2.le hle' (Vc2.of ?_)
    have hti:(stR ti pre ρ loc Hf nx1 nb k g').sv (.tmp ti)= .d (.v (.int .i64 k)):=by
     show(lk ((ti,_)::_) ti).getD DSV.unk=_;rw[ax];rfl
    rw[mY,iM,lX,yg,hti,wh,tl,qW,acR,xq,dR (by omega)]
    refine⟨rfl,?_⟩;unfold PutD;rw[iM,lX,aaj,rD];refine⟨(k+1,g'),?_,⟨hlt,hF'⟩,by simp;omega⟩
    have htj:(DS.put (stR ti pre ρ loc Hf nx1 nb k g') (some tj) (.d (.v (.int .i64 ((k:Int)+1))))).sv (.tmp tj)= .d (.v (.int .i64 ((k:Int)+1))):=by
     show(lk ((tj,_)::_) tj).getD DSV.unk=_;rw[ax];rfl
    rw[htj];exact aki (ρ':=[]) (hj g')
   cases e with
   |normal=>exact key ds2 h
   |exit j=>
    simp only[jN]at h;simp only[xf];cases hb:(j==id2)with
    |true=>rw[hb]at h;simp only[cond_true]at h ⊢; exact key ds2 h
    |false=>rw[hb]at h;simp only[cond_false]at h ⊢; exact h
   |ret=>exact h
   |goto l=>exact h
   |panic c=>exact h
   |outgrown=>exact h
  ·have h1:=hbody k g hlt hF1;rw[hdec,show decide (k<n)=true from by simpa using hlt]
   exact h1
 ·have hkn:k=n:=by omega
  subst hkn;rw[show decide (k<k)=false from by simp,jJ,zO]
  show di id Q (.exit id) _;rw[nI,beq_self_eq_true,qd];refine .inl ?_;rw[show decide ((k:Int)<(k:Int))=false from by simp]
  exact hend g hF1
theorem vy{γ:Type}{body:Code}{id id2 r1 r2 ti tc tj:Nat}{T T2 T3 T4 y1 y2 y3:TypeId}{p1 p2 p3:String}{e1 e2 e3:Array Edge}{yn:Operand}
  (n:Nat) (pre:γ->List (Nat×DSV)) (loc:γ->List (Nat×eF)) (Hf:γ->List (Nat×Row)) (nx1:Nat) (F:Nat->γ->Prop) (g0:γ)
  (hle:leD (stR ti pre ρ loc Hf nx1 nb 0 g0) ⟨ρ,σ,H,nx,nb⟩) (hF:F 0 g0)
  (hn: ∀g k,(stR ti pre ρ loc Hf nx1 nb k g).sv yn= .d (.v (.int .i64 n))) (hmax:n<=9223372036854775807) (hj: ∀g,lk (pre g++ρ) tj=none)
  (hbody: ∀k g,k<n->F k g->vc2 P body (jN (stR ti pre ρ loc Hf nx1 nb) F k id id2 Q) ⟨(tc,.d (.v (.bool true)))::(ti,.d (.v (.int .i64 k)))::(pre g++ρ),loc g,Hf g,nx1,nb⟩)
  (hend: ∀g,F n g->Q .normal ⟨(tc,.d (.v (.bool false)))::(ti,.d (.v (.int .i64 n)))::(pre g++ρ),loc g,Hf g,nx1,nb⟩):
  vc2 P (.block id (.loop (.seq (.region r1 [⟨some tc,.binOp .lss T (.tmp ti) yn T2,y1,p1,e1,none⟩].toArray false)
   (.seq (.cond (.tmp tc) .skip (.exit id)) (.seq (.block id2 body)
    (.region r2 [⟨some tj,.binOp .add T3 (.tmp ti) (.const (.int .i64 1)) T4,y2,p2,e2,none⟩,⟨some ti,.move (.tmp tj),y3,p3,e3,none⟩].toArray false)))))) Q ⟨ρ,σ,H,nx,nb⟩:=
 g_ n pre loc Hf nx1 F g0 hle hF hn hmax hj (fun k g h1 h2=>Vc2.of (hbody k g h1 h2)) hend
theorem anZ{γ:Type}{body:Code}{id:Nat}(pre:γ->List (Nat×DSV))(loc:γ->List (Nat×eF))(Hf:γ->List (Nat×Row))(nx1:Nat)(F:γ->Prop)(μ:γ->Nat)(g0:γ)
  (hle:leD ⟨pre g0++ρ,loc g0,Hf g0,nx1,nb⟩ ⟨ρ,σ,H,nx,nb⟩) (hF:F g0)
  (hround: ∀g,F g->vc2 P body (gY (fun g=>⟨pre g++ρ,loc g,Hf g,nx1,nb⟩) F μ g (di id Q)) ⟨pre g++ρ,loc g,Hf g,nx1,nb⟩):vc2 P (.block id (.loop body)) Q ⟨ρ,σ,H,nx,nb⟩:=
 ⟨γ,fun g=>⟨pre g++ρ,loc g,Hf g,nx1,nb⟩,F,μ,⟨g0,hle,hF⟩,fun g h=>Vc2.of (hround g h)⟩
theorem bt{γ:Type}{body:Code}{id:Nat}(pre:γ->List (Nat×DSV))(loc:γ->List (Nat×eF))(Hf:γ->List (Nat×Row))(nx1:Nat)(F:γ->Prop)(μ:γ->Nat)(g0:γ)
  (hle:leD ⟨pre g0++ρ,loc g0++σ,Hf g0,nx1,nb⟩ ⟨ρ,σ,H,nx,nb⟩) (hF:F g0)
  (hround: ∀g,F g->vc2 P body (gY (fun g=>⟨pre g++ρ,loc g++σ,Hf g,nx1,nb⟩) F μ g (di id Q)) ⟨pre g++ρ,loc g++σ,Hf g,nx1,nb⟩):vc2 P (.block id (.loop body)) Q ⟨ρ,σ,H,nx,nb⟩:=
 anZ pre (fun g=>loc g++σ) Hf nx1 F μ g0 hle hF hround
theorem aq{body:Code}{id id2 r1 r2 ti tc tj:Nat}{T T2 T3 T4 y1 y2 y3:TypeId}{p1 p2 p3:String}{e1 e2 e3:Array Edge}{yn:Operand}
  (n:Nat) (pre:Nat->List (Nat×DSV)) (loc:Nat->List (Nat×eF)) (Hf:Nat->List (Nat×Row)) (nx1:Nat) (F:Nat->Prop)
  (hle:leD ⟨(ti,.d (.v (.int .i64 (0:Nat))))::(pre 0++ρ),loc 0++σ,Hf 0,nx1,nb⟩ ⟨ρ,σ,H,nx,nb⟩) (hF:F 0)
  (hn: ∀g k,(stR ti pre ρ (fun g=>loc g++σ) Hf nx1 nb k g).sv yn= .d (.v (.int .i64 n))) (hmax:n<=9223372036854775807) (hj: ∀g,lk (pre g++ρ) tj=none)
  (hbody: ∀k,k<n->F k->vc2 P body (jN (stR ti pre ρ (fun g=>loc g++σ) Hf nx1 nb) (fun k g=>g=k/\F k) k id id2 Q) ⟨(tc,.d (.v (.bool true)))::(ti,.d (.v (.int .i64 k)))::(pre k++ρ),loc k++σ,Hf k,nx1,nb⟩)
  (hend:F n->Q .normal ⟨(tc,.d (.v (.bool false)))::(ti,.d (.v (.int .i64 n)))::(pre n++ρ),loc n++σ,Hf n,nx1,nb⟩):
  vc2 P (.block id (.loop (.seq (.region r1 [⟨some tc,.binOp .lss T (.tmp ti) yn T2,y1,p1,e1,none⟩].toArray false)
   (.seq (.cond (.tmp tc) .skip (.exit id)) (.seq (.block id2 body)
    (.region r2 [⟨some tj,.binOp .add T3 (.tmp ti) (.const (.int .i64 1)) T4,y2,p2,e2,none⟩,⟨some ti,.move (.tmp tj),y3,p3,e3,none⟩].toArray false)))))) Q ⟨ρ,σ,H,nx,nb⟩:=
 vy (γ:=Nat) n pre (fun g=>loc g++σ) Hf nx1 (fun k g=>g=k/\F k) 0 hle ⟨rfl,hF⟩ hn hmax hj (fun k g h1 h2=>by obtain⟨h2,h3⟩:=h2;subst h2;exact hbody _ h1 h3) (fun g h=>by obtain⟨h2,h3⟩:=h;subst h2;exact hend h3)
def aj5{γ:Type}(id:Nat)(st:γ->DS)(F:γ->Prop)(Q:Exit->DS->Prop)(e:Exit)(ds:DS):Prop:=
 match e with
 | .normal=> ∃g,leD (st g) ds/\F g
 | .exit j=>bif j==id then (∃g,leD (st g) ds/\F g)else Q (.exit j) ds
 |e=>Q e ds
theorem df{γ:Type}{id:Nat}{x:Code}{ds:DS}(st:γ->DS)(F:γ->Prop)(h1:vc2 P x (aj5 id st F Q) ds)(h2: ∀g,F g->Q .normal (st g)):vc2 P (.block id x) Q ds:=by
 refine agi x _ _ ds ?_ h1;intro e ds' h;have key:(∃g,leD (st g) ds'/\F g)->LeK2 (Q .normal) ds':=fun ⟨g,hle,hF⟩=>.inr ⟨_,hle,h2 g hF⟩
 cases e with
 |normal=>exact key h
 |exit j=>
  simp only[aj5]at h;simp only[di];cases hb:(j==id)with
  |true=>rw[hb]at h;exact key h
  |false=>rw[hb]at h;exact h
 |ret=>exact h
 |goto l=>exact h
 |panic c=>exact h
 |outgrown=>exact h
theorem acS{γ:Type}{id j:Nat}{st:γ->DS}{F:γ->Prop}{ds:DS}:aj5 id st F Q (.exit j) ds=bif j==id then (∃g,leD (st g) ds/\F g)else Q (.exit j) ds:=rfl
attribute [go_sem] acS
theorem CallS.eq{x:Bool}{f:FuncId}{args fargs:List DV}{r:Res}{K:DV->DS->Prop}{ds:DS}(hc:Con2 P f fargs (· =r))(he:embDs ds.H args=some fargs)
  (hp:noPts args=true\/cI r.d=true) (hk:K (bif cI r.d then r.d else shD ds.nx r.d) (aftC ds args r)):CallS P x f args ds K:=
 CallS.con hc he (hp.imp id fun h r' e=>by subst e;exact h) (fun r' e=>by subst e;exact hk)
end
def ba(e sz:Nat)(l:List (List DV)):Res:=⟨.rf 0 0 l.length,[(0,.arr e sz l false)],1⟩
def plR(d:DV):Res:=⟨d,[],0⟩
theorem gl_{K:DS->Prop}{ds:DS}(k:K ds):LeK2 K ds:=av k
theorem ga_{a:Int}{K:Value->Prop}(k:K (.int .i64 a))(h: -9223372036854775808<=a/\a<=9223372036854775807:=by omega):bg .i64 a K:=cV h k
theorem gn_{a b:Prop}(k:b)(h:a:=by omega):a/\b:=⟨h,k⟩
theorem g2_{p q:Prop}(k:q)(e:Lf2 q->p:=by intro k;((try (with_reducible refine av ?_));(try simp-implicitDefEqProofs only[go_sem,ab]);repeat ((first|(with_reducible refine av ?_)|(with_reducible refine cV (by omega) ?_)|(with_reducible refine And.intro (by omega) ?_));(try simp-implicitDefEqProofs only[go_sem,ab])));exact k.out):p:=e ⟨k⟩
theorem ws_{p:Prop}(h:p:=by simp-implicitDefEqProofs only[go_sem,ab]):p:=h
theorem gf_{p q a:Prop}(h1:a)(k:q)(e:a->Lf2 q->p:=by intro h1 k;(repeat first|simp-implicitDefEqProofs only[go_sem,ab,List.length_map,List.contains_nil,Int.toNat_natCast,bne_self_eq_false,List.cons_append,List.nil_append,List.append_eq,List.length_nil,List.length_cons,List.map_cons,List.map_nil,List.length_replicate,List.length_set,List.set_cons_zero,List.set_cons_succ,if_true,if_false,Bool.false_eq_true,Bool.true_and,h1]|with_reducible first|refine gl_ ?_|refine ga_ ?_|refine gn_ ?_);exact k.out):p:=e h1 ⟨k⟩
theorem wf_{p a:Prop}(h1:a)(e:a->p:=by intro h1;(repeat first|simp-implicitDefEqProofs only[go_sem,ab,List.length_map,List.contains_nil,Int.toNat_natCast,bne_self_eq_false,List.cons_append,List.nil_append,List.append_eq,List.length_nil,List.length_cons,List.map_cons,List.map_nil,List.length_replicate,List.length_set,List.set_cons_zero,List.set_cons_succ,if_true,if_false,Bool.false_eq_true,Bool.true_and,h1]|with_reducible refine gl_ ?_)):p:=e h1
theorem gx_{p q:Prop}(k:q)(e:Lf2 q->p:=by intro k;exact gf_ trivial k.out):p:=e ⟨k⟩
theorem wx_{p:Prop}(e:p:=by exact wf_ trivial):p:=e
theorem gg_{p q a b:Prop}(h1:a)(h2:b)(k:q)(e:a->b->Lf2 q->p:=by intro h1 h2 k;exact gf_ (And.intro @h1 @h2) k.out):p:=e h1 h2 ⟨k⟩
theorem wg_{p a b:Prop}(h1:a)(h2:b)(e:a->b->p:=by intro h1 h2;exact wf_ (And.intro @h1 @h2)):p:=e h1 h2
theorem gh_{p q a b c:Prop}(h1:a)(h2:b)(h3:c)(k:q)(e:a->b->c->Lf2 q->p:=by intro h1 h2 h3 k;exact gf_ (And.intro @h1 (And.intro @h2 @h3)) k.out):p:=e h1 h2 h3 ⟨k⟩
theorem wh_{p a b c:Prop}(h1:a)(h2:b)(h3:c)(e:a->b->c->p:=by intro h1 h2 h3;exact wf_ (And.intro @h1 (And.intro @h2 @h3))):p:=e h1 h2 h3
theorem gi_{p q a b c d:Prop}(h1:a)(h2:b)(h3:c)(h4:d)(k:q)(e:a->b->c->d->Lf2 q->p:=by intro h1 h2 h3 h4 k;exact gf_ (And.intro @h1 (And.intro @h2 (And.intro @h3 @h4))) k.out):p:=e h1 h2 h3 h4 ⟨k⟩
theorem wi_{p a b c d:Prop}(h1:a)(h2:b)(h3:c)(h4:d)(e:a->b->c->d->p:=by intro h1 h2 h3 h4;exact wf_ (And.intro @h1 (And.intro @h2 (And.intro @h3 @h4)))):p:=e h1 h2 h3 h4
theorem adT{P:Program}{Q:Exit->DS->Prop}{ρ0:List (Nat×DSV)}{σ:List (Nat×eF)}{H:List (Nat×Row)}{nx nb:Nat}{body:Code}{id id2 r1 r2 ti tc tj:Nat}{T T2 T3 T4 y1 y2 y3:TypeId}{p1 p2 p3:String}{e1 e2 e3:Array Edge}{yn:Operand}
  (n:Nat) (ρ:List (Nat×DSV)) (pre:Nat->List (Nat×DSV)) (loc:Nat->List (Nat×eF)) (Hf:Nat->List (Nat×Row)) (nx1:Nat) (F:Nat->Prop)
  (hle:leD ⟨(ti,.d (.v (.int .i64 (0:Nat))))::(pre 0++ρ),loc 0,Hf 0,nx1,nb⟩ ⟨ρ0,σ,H,nx,nb⟩) (hF:F 0)
  (hn: ∀g k,(stR ti pre ρ loc Hf nx1 nb k g).sv yn= .d (.v (.int .i64 n))) (hmax:n<=9223372036854775807) (hj: ∀g,lk (pre g++ρ) tj=none)
  (hbody: ∀k,k<n->F k->vc2 P body (jN (stR ti pre ρ loc Hf nx1 nb) (fun k g=>g=k/\F k) k id id2 Q) ⟨(tc,.d (.v (.bool true)))::(ti,.d (.v (.int .i64 k)))::(pre k++ρ),loc k,Hf k,nx1,nb⟩)
  (hend:F n->Q .normal ⟨(tc,.d (.v (.bool false)))::(ti,.d (.v (.int .i64 n)))::(pre n++ρ),loc n,Hf n,nx1,nb⟩):
  vc2 P (.block id (.loop (.seq (.region r1 [⟨some tc,.binOp .lss T (.tmp ti) yn T2,y1,p1,e1,none⟩].toArray false)
   (.seq (.cond (.tmp tc) .skip (.exit id)) (.seq (.block id2 body)
    (.region r2 [⟨some tj,.binOp .add T3 (.tmp ti) (.const (.int .i64 1)) T4,y2,p2,e2,none⟩,⟨some ti,.move (.tmp tj),y3,p3,e3,none⟩].toArray false)))))) Q ⟨ρ0,σ,H,nx,nb⟩:=
 g_ (γ:=Nat) n pre loc Hf nx1 (fun k g=>g=k/\F k) 0 hle ⟨rfl,hF⟩ hn hmax hj (fun k g h1 h2=>Vc2.of (by obtain⟨h2,h3⟩:=h2;subst h2;exact hbody _ h1 h3)) (fun g h=>by obtain⟨h2,h3⟩:=h;subst h2;exact hend h3)
def afV{γ:Type}(st:γ->DS)(F:γ->Prop)(Q:Exit->DS->Prop)(e:Exit)(ds:DS):Prop:=
 match e with
 | .normal=> ∃g,leD (st g) ds/\F g
 |e=>Q e ds
section
variable {γ:Type} {st:γ->DS} {F:γ->Prop} {Q:Exit->DS->Prop} {ds:DS} {P:Program} {x y:Code} {id:Nat}
theorem yj:afV st F Q .normal ds= ∃g,leD (st g) ds/\F g:=rfl
theorem ahc:afV st F Q .ret ds=Q .ret ds:=rfl
theorem adW{j:Nat}:afV st F Q (.exit j) ds=Q (.exit j) ds:=rfl
attribute [go_sem] yj ahc adW
theorem Vc2.seqJ(st:γ->DS)(F:γ->Prop)(hx:vc2 P x (afV st F Q) ds)(k: ∀g,F g->Vc2 P y Q (st g)):Vc2 P (.seq x y) Q ds:=by
 intro u0 β0 β us s u h;refine Vc.seq (Vc.mono ?_ (Vc2.of hx u0 β0 β us s u h))
 rintro e s' u' ⟨β',us',ds',h1,h2⟩
 cases e with
 |normal=>
  obtain⟨g,hle,hF⟩:=h2;obtain⟨β1,s1,h3,h4⟩:=hle _ _ _ _ _ _ h1;exact Vc.le h3 (k g hF _ _ _ _ _ _ h4)
 |exit j=>exact⟨β',us',ds',h1,h2⟩
 |ret=>exact⟨β',us',ds',h1,h2⟩
 |goto l=>exact⟨β',us',ds',h1,h2⟩
 |panic c=>exact⟨β',us',ds',h1,h2⟩
 |outgrown=>exact⟨β',us',ds',h1,h2⟩
theorem Vc2.blockV(h:Vc2 P x (di id Q) ds):Vc2 P (.block id x) Q ds:=by
 intro u0 β0 β us s u hr;refine Vc.blockW (Vc.mono ?_ (h u0 β0 β us s u hr));intro e s' u' hl;cases e with
 |normal=>exact LeK2.sound hl
 |exit j=>
  obtain⟨β',us',ds',h1,h2⟩:=hl;simp only[di]at h2;simp only[fq];cases hb:(j==id)with
  |true=>rw[hb]at h2;exact LeK2.sound ⟨β',us',ds',h1,h2⟩
  |false=>rw[hb]at h2;exact⟨β',us',ds',h1,h2⟩
 |ret=>exact hl
 |goto l=>exact hl
 |panic c=>exact hl
 |outgrown=>exact hl
theorem akp{body:Code}(st:γ->DS)(F:γ->Prop)(μ:γ->Nat)(g0:γ)(hle:leD (st g0) ds)(hF:F g0)
  (hround: ∀g,F g->Vc2 P body (gY st F μ g (di id Q)) (st g)):vc2 P (.block id (.loop body)) Q ds:=⟨γ,st,F,μ,⟨g0,hle,hF⟩,hround⟩
theorem xZ:rP P y Q .normal ds=Vc2 P y Q ds:=rfl
theorem aif:rP P y Q .ret ds=Q .ret ds:=rfl
theorem adq{j:Nat}:rP P y Q (.exit j) ds=Q (.exit j) ds:=rfl
attribute [go_sem] xZ aif adq
theorem yM{body:Code}(st:γ->DS)(F:γ->Prop)(μ:γ->Nat)(g0:γ)(hle:leD (st g0) ds)(hF:F g0)
  (hround: ∀g,F g->vc2 P body (gY st F μ g (di id Q)) (st g)):vc2 P (.block id (.loop body)) Q ds:=⟨γ,st,F,μ,⟨g0,hle,hF⟩,fun g h=>Vc2.of (hround g h)⟩
theorem Vc2.sq(h:vc2 P x (rP P y Q) ds):Vc2 P (.seq x y) Q ds:=Vc2.seq (Vc2.of h)
