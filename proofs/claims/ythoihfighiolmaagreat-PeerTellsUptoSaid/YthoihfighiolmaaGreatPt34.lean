import Derived.Test.YthoihfighiolmaaGreatPt33
set_option linter.unusedSectionVars false
set_option linter.unusedSimpArgs false
set_option linter.unusedVariables false
set_option maxRecDepth 10000
set_option maxHeartbeats 4000000
namespace Go.Eng
section
variable {α:Type}
theorem insG_pm{lt:α->α->Bool}{P:List α}{x:α}:(f9 lt P x).Perm (x::P):=by
 unfold f9 b_;refine List.perm_middle.trans ?_;rw[List.take_append_drop]
theorem jj{lt:α->α->Bool}: ∀(l P:List α),(l.foldl (f9 lt) P).Perm (P++l)
 |[],P=>by simp
 |x::r,P=>by
  refine(jj r _).trans ?_;refine(insG_pm.append_right r).trans ?_;exact List.perm_middle.symm
structure StO(lt:α->α->Bool):Prop where
 asy: ∀{a b},lt a b=true->lt b a=false
 tr: ∀{a b c},lt b a=false->lt c b=false->lt c a=false
theorem tg{lt:α->α->Bool}{x:α}{P:List α}: ∀(n:Nat),n<=P.length->cH lt x P n<=n/\(∀i y,cH lt x P n<=i->i<n->P[i]? =some y->lt x y=true)/\ ∀y,P[cH lt x P n-1]? =some y->0<cH lt x P n->lt x y=false
 |0,_=>⟨Nat.le_refl _,fun i y _ h=>by omega,fun y _ h=>by simp[cH]at h⟩
 | n+1,hn=>by
  obtain⟨h1,h2,h3⟩:=tg (lt:=lt) (x:=x) (P:=P) n (by omega)
  have hg:P[n]? =some P[n]:=List.getElem?_eq_getElem (by omega)
  simp only[cH,hg];cases hl:lt x P[n]with
  |true=>
   simp only[cond_true];refine⟨by omega,fun i y hi hin hy=>?_,h3⟩
   by_cases e:i=n
   ·subst e;rw[hg]at hy;cases hy;exact hl
   ·exact h2 i y hi (by omega) hy
  |false=>
   simp only[cond_false];refine⟨Nat.le_refl _,fun i y hi hin=>by omega,fun y hy _=>?_⟩
   rw[Nat.add_sub_cancel,hg]at hy;cases hy;exact hl
theorem wv{lt:α->α->Bool}(ho:StO lt){P:List α}{x:α}(h:P.Pairwise fun a b=>lt b a=false):(f9 lt P x).Pairwise fun a b=>lt b a=false:=by
 obtain⟨h1,h2,h3⟩:=tg (lt:=lt) (x:=x) (P:=P) P.length (Nat.le_refl _);unfold f9 b_;generalize cH lt x P P.length=j at h1 h2 h3;have hs:=List.pairwise_iff_getElem.1 h;refine List.pairwise_append.2 ⟨h.sublist (List.take_sublist _ _),List.pairwise_cons.2 ⟨fun b hb=>?_,h.sublist (List.drop_sublist _ _)⟩,fun a ha b hb=>?_⟩
 ·obtain⟨i,hi,rfl⟩:=List.getElem_of_mem hb;rw[List.getElem_drop];simp at hi;exact ho.asy (h2 (j+i) _ (by omega) (by omega) (List.getElem?_eq_getElem (by omega)))
 ·obtain⟨i,hi,rfl⟩:=List.getElem_of_mem ha;simp at hi;rw[List.getElem_take];rcases List.mem_cons.1 hb with rfl|hb
  ·have hj:lt b P[j-1]=false:=h3 _ (List.getElem?_eq_getElem (by omega)) (by omega)
   by_cases e:i=j-1
   ·subst e;exact hj
   ·exact ho.tr (hs i (j-1) (by omega) (by omega) (by omega)) hj
  ·obtain⟨k,hk,rfl⟩:=List.getElem_of_mem hb;rw[List.getElem_drop];simp at hk;exact hs i (j+k) (by omega) (by omega) (by omega)
theorem iU{lt:α->α->Bool}(ho:StO lt): ∀(l P:List α),(P.Pairwise fun a b=>lt b a=false)->(l.foldl (f9 lt) P).Pairwise fun a b=>lt b a=false
 |[],P,h=>h
 |x::r,P,h=>iU ho r _ (wv ho h)
theorem pO{lt:α->α->Bool}(ho:StO lt){L:List α}(h:L.Pairwise fun a b=>lt a b=true){i:Nat}(hi:i<L.length):L.countP (fun y=>lt y L[i])=i:=by
 have hs:=List.pairwise_iff_getElem.1 h
 have hself:lt L[i] L[i]=false:=by
  cases e:lt L[i] L[i]with
  |false=>rfl
  |true=>exact(ho.asy e).symm▸e▸rfl
 have e0:L.countP (fun y=>lt y L[i])=(L.take i++L.drop i).countP (fun y=>lt y L[i]):=by rw[List.take_append_drop]
 rw[e0,List.countP_append]
 have e1:(L.take i).countP (fun y=>lt y L[i])=i:=by
  rw[List.countP_eq_length.2 fun y hy=>?_,List.length_take];omega
  obtain⟨k,hk,rfl⟩:=List.getElem_of_mem hy;simp at hk;rw[List.getElem_take];exact hs k i (by omega) hi (by omega)
 have e2:(L.drop i).countP (fun y=>lt y L[i])=0:=by
  rw[List.countP_eq_zero];intro y hy;obtain⟨k,hk,rfl⟩:=List.getElem_of_mem hy;simp at hk;rw[List.getElem_drop]
  by_cases e:k=0
  ·subst e;simp[hself]
  ·simp[ho.asy (hs i (i+k) hi (by omega) (by omega))]
 omega
theorem aem{lt:α->α->Bool}(ho:StO lt){L:List α}(h:L.Pairwise fun a b=>lt a b=true)(n:Nat):L.take n=L.filter fun x=>decide (L.countP (fun y=>lt y x)<n):=by
 have key: ∀(l:List α) (p q:α->Bool),(∀x∈l,p x=q x)->l.filter p=l.filter q:=fun l p q h=>List.filter_congr h
 have e0:L.filter (fun x=>decide (L.countP (fun y=>lt y x)<n))=(L.take n++L.drop n).filter fun x=>decide (L.countP (fun y=>lt y x)<n):=by rw[List.take_append_drop]
 rw[e0,List.filter_append,List.filter_eq_self.2 fun a ha=>?_,List.filter_eq_nil_iff.2 fun a ha=>?_,List.append_nil]
 ·obtain⟨k,hk,rfl⟩:=List.getElem_of_mem ha;simp at hk;rw[List.getElem_drop,pO ho h (by omega)]
  simp
 ·obtain⟨k,hk,rfl⟩:=List.getElem_of_mem ha;simp at hk;rw[List.getElem_take,pO ho h (by omega)]
  simp;omega
theorem abV{lt:α->α->Bool}(ho:StO lt){L M:List α}(h:L.Pairwise fun a b=>lt a b=true)(h':M.Pairwise fun a b=>lt a b=true)(hp:L.Perm M):L=M:=by
 refine hp.eq_of_pairwise (le:=fun a b=>lt a b=true) (fun a b _ _ h1 h2=>?_) h h'
 rw[ho.asy h1]at h2;cases h2
theorem oq{lt:α->α->Bool}(ho:StO lt){l:List α}(h:l.Pairwise fun a b=>lt a b=true\/lt b a=true):(aG lt l).Pairwise fun a b=>lt a b=true:=by
 have h1:(aG lt l).Pairwise fun a b=>lt b a=false:=iU ho l [] List.Pairwise.nil
 have h2:(aG lt l).Pairwise fun a b=>lt a b=true\/lt b a=true:=((jj l []).pairwise_iff fun h=>h.symm).2 (by simpa using h)
 exact h1.imp₂ (fun a b h1 h2=>h2.resolve_right (by rw[h1];simp)) h2
end
theorem n_{a b:Nat}:e_ a b<0↔a<b:=by unfold e_;split<;>(try split)<;>omega
theorem ain{a b:Nat}:e_ a b≠0↔a≠b:=by unfold e_;split<;>(try split)<;>omega
def Btr(x y:Nat)(a b:GDesc):Bool:=if x≠y then decide (y<x)else if a.age≠b.age then decide (a.age<b.age)else decide (a.node<b.node)
theorem gQ{a b:jD}:aW a b=true↔b.o<a.o\/(a.o=b.o/\(a.d.age.toNat<b.d.age.toNat\/(a.d.age.toNat=b.d.age.toNat/\a.d.node.toNat<b.d.node.toNat))):=by
 unfold aW sf;simp only[ain,decide_eq_true_eq];split
 ·rw[n_];omega
 split
 ·rw[n_];omega
 ·rw[n_];omega
theorem agK{a b:jD}:aW a b=Btr a.o b.o a.d b.d:=by
 rw[Bool.eq_iff_iff,gQ];unfold Btr;have e1:a.d.age≠b.d.age↔a.d.age.toNat≠b.d.age.toNat:=by rw[ne_eq, <-UInt8.toNat_inj]
 simp only[e1];split
 ·simp;omega
 split
 ·simp[UInt8.lt_iff_toNat_lt];omega
 ·simp[UInt8.lt_iff_toNat_lt];omega
theorem agY:StO aW:=by
 refine⟨fun {a b} h=>?_,fun {a b c} h1 h2=>?_⟩
 ·cases e:aW b a with
  |false=>rfl
  |true=>rw[gQ]at h e;omega
 ·cases e:aW c a with
  |false=>rfl
  |true=>
   have h1': ¬aW b a=true:=by simp[h1]
   have h2': ¬aW c b=true:=by simp[h2]
   rw[gQ]at h1' h2' e;omega
theorem lF{a b:GDesc}:bG a b=true↔a.node.toNat<b.node.toNat:=by unfold bG;rw[decide_eq_true_eq,n_]
theorem agi:StO bG:=by
 refine⟨fun {a b} h=>?_,fun {a b c} h1 h2=>?_⟩
 ·cases e:bG b a with
  |false=>rfl
  |true=>rw[lF]at h e;omega
 ·cases e:bG c a with
  |false=>rfl
  |true=>
   have h1': ¬bG b a=true:=by simp[h1]
   have h2': ¬bG c b=true:=by simp[h2]
   rw[lF]at h1' h2' e;omega
theorem ahB{U:List GDesc}(hU:U.Pairwise fun a b=>a.node.toNat<b.node.toNat)(ov:GDesc->Nat)(room:Int):
  (if room<1 then []else aG bG (((aG aW ((U.map fun d=>(⟨d,ov d⟩:jD)).filter fun x=>decide (0<x.o))).take room.toNat).map (·.d)))=U.filter fun d=>decide (0<ov d)&&decide (((U.countP fun e=>Btr (ov e) (ov d) e d):Int)<room):=by
 have hS: ∀(f:GDesc->jD),(f=fun d=>⟨d,ov d⟩)->((U.map f).filter fun x=>decide (0<x.o)).Pairwise fun a b=>aW a b=true\/aW b a=true:=fun f hf=>by
  subst hf;refine List.Pairwise.filter _ (List.pairwise_map.2 (hU.imp fun {a b} h=>?_))
  rw[gQ,gQ];simp only;omega
 by_cases hr:room<1
 ·rw[if_pos hr];symm;rw[List.filter_eq_nil_iff];intro a _;simp;omega
 rw[if_neg hr];obtain⟨S,hSe⟩: ∃S,S=((U.map fun d=>(⟨d,ov d⟩:jD)).filter fun x=>decide (0<x.o)):=⟨_,rfl⟩
 have hS:=hS _ rfl;rw[<-hSe]at hS ⊢;have hrise:=oq agY hS;have hperm:(aG aW S).Perm S:=by have:=jj (lt:=aW) S [];simpa[aG]using this
 rw[aem agY hrise];have hcount: ∀x,(aG aW S).countP (fun y=>aW y x)=S.countP fun y=>aW y x:=fun x=>hperm.countP_eq _
 simp only[hcount]
 have hM:(((aG aW S).filter fun x=>decide (S.countP (fun y=>aW y x)<room.toNat)).map (·.d)).Perm (U.filter fun d=>decide (0<ov d)&&decide (((U.countP fun e=>Btr (ov e) (ov d) e d):Int)<room)):=by
  refine((hperm.filter _).map _).trans ?_
  have hc: ∀d,0<ov d->S.countP (fun y=>aW y ⟨d,ov d⟩)=U.countP fun e=>Btr (ov e) (ov d) e d:=fun d hd=>by
   rw[hSe,List.countP_filter,List.countP_map];refine List.countP_congr fun e _=>?_
   simp only[Function.comp,Bool.and_eq_true,decide_eq_true_eq,agK];refine⟨fun h=>h.1,fun h=>⟨h,?_⟩⟩
   unfold Btr at h;split at h
   ·have:=of_decide_eq_true h;omega
   ·rename_i h';omega
  have e:(S.filter fun x=>decide (S.countP (fun y=>aW y x)<room.toNat)).map (·.d)=U.filter fun d=>decide (0<ov d)&&decide (((U.countP fun e=>Btr (ov e) (ov d) e d):Int)<room):=by
   have hq: ∀d,0<ov d->(fun x=>decide (S.countP (fun y=>aW y x)<room.toNat)) ⟨d,ov d⟩=decide (((U.countP fun e=>Btr (ov e) (ov d) e d):Int)<room):=fun d hd=>by
    show decide _=_;rw[hc d hd,decide_eq_decide];omega
   generalize (fun x=>decide (S.countP (fun y=>aW y x)<room.toNat))=q at hq⊢
   rw[hSe,List.filter_filter,List.filter_map,List.map_map,show((fun x:jD=>x.d) ∘ fun d=>(⟨d,ov d⟩:jD))=id from rfl,List.map_id]
   refine List.filter_congr fun d _=>?_
   simp only[Function.comp]
   by_cases hd:0<ov d
   ·rw[<-hq d hd];simp[hd]
   ·simp[hd]
  rw[e]
 refine abV agi (oq agi ?_) ((hU.filter _).imp fun h=>lF.2 h) ((by have:=jj (lt:=bG) (((aG aW S).filter fun x=>decide (S.countP (fun y=>aW y x)<room.toNat)).map (·.d)) [];simpa[aG]using this:(aG bG _).Perm _).trans hM)
 refine(hM.pairwise_iff fun h=>h.symm).2 ((hU.filter _).imp fun h=>.inl (lF.2 h))
def eU(self:UInt8)(i:Nat)(b d:GDesc):GDesc:=if d.node.toNat=i/\d.node≠self/\d.inc≠0/\(b.inc=0\/cK d b=true)then d else b
def qH(self:UInt8)(ds:List GDesc)(i:Nat):GDesc:=ds.foldl (eU self i) zDesc
theorem p8{self:UInt8}{i:Nat}: ∀(ds:List GDesc) (l:List GDesc) {b:GDesc},l[i]? =some b->(eX self l ds)[i]? =some (ds.foldl (eU self i) b)
 |[],l,b,h=>h
 | d::r,l,b,h=>by
  show(eX self (g_ self l d) r)[i]? =some (r.foldl (eU self i) (eU self i b d));refine p8 r _ ?_;have hi:i<l.length:=(List.getElem?_eq_some_iff.1 h).1;unfold g_ eU
  by_cases h1:d.node=self\/d.inc=0
  ·rw[if_pos h1,if_neg (fun h2=>h1.elim h2.2.1 h2.2.2.1)];exact h
  rw[if_neg h1]
  by_cases h2:d.node.toNat=i
  ·subst h2;rw[h];simp only
   by_cases h3:b.inc=0\/cK d b=true
   ·rw[if_pos h3,if_pos ⟨trivial,fun e=>h1 (.inl e),fun e=>h1 (.inr e),h3⟩,List.getElem?_set_self hi]
   ·rw[if_neg h3,if_neg (fun h4=>h3 h4.2.2.2)];exact h
  ·rw[if_neg (fun h3=>h2 h3.1)]
   cases h4:l[d.node.toNat]? with
   |none=>exact h
   |some e=>
    simp only;split
    ·rw[List.getElem?_set_ne h2];exact h
    ·exact h
theorem r7(self:UInt8)(L:List (List GDesc)):aV self L=((List.range 256).map (qH self L.flatten)).filter fun d=>decide ((0:Int)<(d.inc.toNat:Int)):=by
 unfold aV
 congr 1
 apply List.ext_getElem?;intro i
 by_cases hi:i<256
 ·rw[p8 _ _ (b:=zDesc) (by unfold zL;rw[List.getElem?_replicate,if_pos hi]),List.getElem?_map,List.getElem?_range hi];rfl
 ·rw[List.getElem?_eq_none (by rw[jZ,show zL.length=256 from List.length_replicate];omega),List.getElem?_eq_none (by simp;omega)]
theorem s8{self:UInt8}{i:Nat}: ∀(ds:List GDesc) (b:GDesc),(b.inc≠0->b.node.toNat=i)->(ds.foldl (eU self i) b).inc≠0->(ds.foldl (eU self i) b).node.toNat=i
 |[],b,h,h'=>h h'
 |d::r,b,h,h'=>s8 r (eU self i b d) (fun h2=>by
  unfold eU at h2 ⊢;split
  ·rename_i h3;exact h3.1
  ·rename_i h3;rw[if_neg h3]at h2;exact h h2) h'
theorem acs(self:UInt8)(L:List (List GDesc)):(aV self L).Pairwise fun a b=>a.node.toNat<b.node.toNat:=by
 rw[r7,List.pairwise_filter,List.pairwise_map];refine List.pairwise_lt_range.imp fun {a b} hab h1 h2=>?_
 have k: ∀i,decide ((0:Int)<((qH self L.flatten i).inc.toNat:Int))=true->(qH self L.flatten i).node.toNat=i:=fun i hi=>s8 _ zDesc (fun h=>absurd rfl h) fun e=>by
  unfold qH at hi;rw[e]at hi;simp at hi
 rw[k a h1,k b h2];exact hab
end Go.Eng
namespace Go.Proofs.YthoihfighiolmaaGreat.V
open Go.Eng
theorem ab6(own:List GSpan)(self:UInt8)(room:Int)(ls:List (List GDesc)):
  cG own self room ls=(aV self ls).filter fun d=>decide (0<dP own d.filter)&&decide ((((aV self ls).countP fun e=>Btr (dP own e.filter) (dP own d.filter) e d):Nat)<room):=
 ahB (acs self ls) (fun d=>dP own d.filter) room
end Go.Proofs.YthoihfighiolmaaGreat.V
namespace Go.Eng
def ltU(a b:UInt8):Bool:=decide (a<b)
def iE(acc:List UInt8)(x:UInt8):List UInt8:=if acc.getLast? =some x then acc else acc++[x]
def dm(l:List UInt8):List UInt8:=l.foldl iE []
theorem j_{l:List UInt8}{j:Nat}(h:j<l.length):dm (l.take (j+1))=iE (dm (l.take j)) l[j]:=by
 rw[dm,List.take_add_one,List.getElem?_eq_getElem h,List.foldl_append];rfl
theorem sx{l:List UInt8}: ∀{j:Nat} (h:j<l.length),(dm (l.take (j+1))).getLast? =some l[j]:=by grind [j_,iE]
theorem wz(l:List UInt8): ∀j,(dm (l.take j)).length<=j
 |0=>by simp[dm]
 | j+1=>by
  have ih:=wz l j
  by_cases h:j<l.length
  ·rw[j_ h,iE];split
   ·omega
   ·rw[List.length_append];simp;omega
  ·rw[List.take_of_length_le (by omega)]at ih⊢
   omega
theorem abH{l:List UInt8}{j:Nat}(h:j+1<l.length)(he:l[j+1]=l[j]):dm (l.take (j+1+1))=dm (l.take (j+1)):=by grind [j_,iE,sx]
theorem uN{l:List UInt8}{j:Nat}(h:j+1<l.length)(he:l[j+1]≠l[j]):dm (l.take (j+1+1))=dm (l.take (j+1))++[l[j+1]]:=by grind [j_,iE,sx]
def gE(l:List UInt8)(j:Nat):List UInt8:=dm (l.take j)++l.drop (dm (l.take j)).length
theorem aff{l:List UInt8}{j:Nat}(h:j<=l.length):(gE l j).length=l.length:=by grind [wz,gE,List.length_append,List.length_drop]
theorem uG{l:List UInt8}{j i:Nat}(h1:(dm (l.take j)).length<=i):(gE l j)[i]? =l[i]?:=by grind [gE]
theorem ae2{l:List UInt8}{j:Nat}(h:j+1<l.length)(he:l[j+1]≠l[j])(hc:(dm (l.take (j+1))).length<l.length):(gE l (j+1)).set (dm (l.take (j+1))).length l[j+1]=gE l (j+1+1):=by
 rw[gE,gE,uN h he];generalize dm (l.take (j+1))=C at hc;rw[List.set_append_right _ _ (Nat.le_refl _),Nat.sub_self,List.drop_eq_getElem_cons hc,List.set_cons_zero,List.append_assoc,List.length_append];rfl
def cy(p:ah):List UInt8:=[p.view,p.near,aw p.ring].flatten.map (·.node)
def bA(p:ah):List UInt8:=dm (aG ltU (cy p))
def anN(e sz:Nat)(l:List (List DV))(n:Nat)(r:Res):Prop:= ∃k,r.d= .rf k 0 n/\lk r.H k=some (.arr e sz l false)
theorem Con2.own{P:Program}{f:FuncId}{args:List DV}{e sz n:Nat}{l:List (List DV)}(h:Con2 P f args (anN e sz l n)):Con2 P f args (· =⟨.rf 0 0 n,[(0,.arr e sz l false)],1⟩):=by
 intro u vs hv;obtain⟨hb,hc⟩:=h u vs hv;refine⟨hb,fun w hu=>(hc w hu).mono ?_⟩
 rintro e' w' ⟨r,u',h1,h2,h3,⟨d2,H2,nx2⟩,⟨k,rfl,hk⟩,β,us,s,hr,hs⟩
 have h0:=hr.slot 0;rw[hs]at h0;obtain⟨w0,e0,hv⟩: ∃w,SV.v r= .v w/\HV us (.rf k 0 n) β w:=h0;cases e0;have hrow:=(hr.row k _ hk).2;have hfin:HV us (.rf 0 0 n) (fun id=>if id=0 then β k else .no) r:=hv
 refine⟨_,u',h1,h2,h3,_,rfl,fun id=>if id=0 then β k else .no,us,⟨[(0,.v r)],[]⟩,⟨hr.base,hr.sub,fun t=>?_,fun k=>rfl,fun id r hr=>?_,fun id hi=>?_,fun id hi=>absurd hi (Nat.not_lt_zero _),Nat.zero_le _,fun i j ri rj b hij hi hj=>?_⟩,rfl⟩
 ·show HS us _ ((lk [(0,DSV.d (.rf 0 0 n))] t).getD DSV.unk) ((lk [(0,SV.v r)] t).getD SV.unk)
  by_cases e:0=t
  ·subst e;exact⟨_,rfl,hfin⟩
  ·rw[aj e];trivial
 ·have hr:lk [(0,Row.arr e sz l false)] id=some r:=hr
  by_cases e:0=id
  ·subst e;rw[au]at hr;cases hr;exact⟨Nat.zero_lt_one,hrow⟩
  ·rw[aj e]at hr;cases hr
 ·have hi:1<=id:=hi;exact if_neg (by omega)
 ·have hi:lk [(0,Row.arr e sz l false)] i=some ri:=hi;have hj:lk [(0,Row.arr e sz l false)] j=some rj:=hj
  by_cases e1:0=i
  ·subst e1;rw[aj hij]at hj;cases hj
  ·rw[aj e1]at hi;cases hi
end Go.Eng
namespace Go.Proofs.YthoihfighiolmaaGreat.V
open Go.Eng
attribute [local go_sem] zDesc aP af fzD plR bb a_ aE bj aC ak bk cR z8 z16 z32 z64 c00 encMg aH dE List.map_cons List.map_nil aQ
@[local go_sem] theorem anG:afQ Tryz.prog 5=true:=by kernel_rfl
theorem adi(a b:Nat):Con2 Tryz.prog 241 [.v (.int .u8 a),.v (.int .u8 b)] (· =plR (.v (.bool (decide ((a:Int)<(b:Int)))))):=by
 refine en_ Tryz.func241 [.tmp 4] (g2_ ?_);refine g2_ ?_;refine ce_ (p9 a) (g2_ ?_);exact⟨_,rfl,aa [] ws_⟩
theorem eF(a b:UInt8):Con2 Tryz.prog 241 [.v (.int .u8 a.toNat),.v (.int .u8 b.toNat)] (· =plR (.v (.bool (decide ((a.toNat:Int)<(b.toNat:Int)))))):=adi a.toNat b.toNat
theorem aiZ(l:List UInt8)(hl:l.length<=1000){L0:List (List DV)}{ρ σ nb K}(hk:K (.rf 1 0 (dm l).length) ⟨ρ,σ,[(1,.arr 5 1 ((dm l).map aQ) false),(0,.arr 32 1 L0 false)],2,nb⟩):
  CallS Tryz.prog false 80 [.rf 1 0 l.length] ⟨ρ,σ,[(1,.arr 5 1 (l.map aQ) false),(0,.arr 32 1 L0 false)],2,nb⟩ K:=by
 refine im_ Tryz.func80 [.tmp 2] (g2_ ?_);refine g2_ ?_
 by_cases h2:(l.length:Int)<2
 ·have e:dm l=l:=by
   match l,h2 with
   |[],_=>rfl
   |[x],_=>rfl
   |x::y::r,h=>simp at h;omega
  rw[e]at hk;rw[decide_eq_true h2];refine g2_ ?_;exact hk
 rw[decide_eq_false h2];refine g2_ ?_;refine av (γ:=Nat) (fun j=>[(3,.d (.v (.int .i64 ((j+1:Nat):Int))))]) (fun _=>[]) (fun j=>[(1,.arr 5 1 (l.map aQ) false),(0,.arr 32 1 L0 false)]) 2 (fun j=>j+1<=l.length/\dm (l.take (j+1))=l.take (j+1)) (fun j=>l.length-j) 0 (aa [] ?_) ⟨by omega,?_⟩ (fun j hj=>?_)
 ·refine g2_ ?_
  first|done|rfl|exact⟨rfl,rfl⟩
 ·cases l with
  |nil=>simp at h2
  |cons x r=>rfl
 obtain⟨hj1,hj2⟩:=hj;refine g2_ ?_
 by_cases h3:j+1<l.length
 ·rw [decide_eq_true (show((j+1:Nat):Int)<(l.length:Int)by omega)]
  have g1:(l.map aQ)[j+1]? =some [.v (.int .u8 l[j+1].toNat)]:=by rw[List.getElem?_map,List.getElem?_eq_getElem h3];rfl
  have g2:(l.map aQ)[j]? =some [.v (.int .u8 (l[j]'(by omega)).toNat)]:=by rw[List.getElem?_map,List.getElem?_eq_getElem (by omega)];rfl
  have e1:((j+1:Nat):Int)-1=(j:Nat):=by omega
  refine g2_ ?_;refine .inl ⟨[oF 0,oF 1,oF 4,oF 5,oF 2,oF 6,oF 3,oF 7,oF 8,oF 9],by kernel_rfl,?_⟩
  refine gh_ g1 g2 e1 ?_
  by_cases h4:l[j+1]=l[j]
  ·rw[show((l[j+1].toNat:Int)==(l[j].toNat:Int))=true by rw[h4];exact beq_self_eq_true _]
   refine gx_ ?_;have b0:dm (l.take (j+1+0+1))=l.take (j+1):=(abH h3 h4).trans hj2;have b1:gE l (j+1+0+1)=l:=by rw[gE,b0,List.length_take,Nat.min_eq_left (by omega),List.take_append_drop]
   have b2:(dm (l.take (j+1+0+1))).length=j+1:=by rw[b0,List.length_take];omega
   refine av (γ:=Nat) (fun k=>[(5,.d (.v (.int .i64 ((k+1:Nat):Int)))),(3,.d (.v (.int .i64 (dm (l.take (j+1+k+1))).length)))]) (fun _=>[]) (fun k=>[(1,.arr 5 1 ((gE l (j+1+k+1)).map aQ) false),(0,.arr 32 1 L0 false)]) 2 (fun k=>j+1+k+1<=l.length/\(dm (l.take (j+1+k+1))).length<=j+1+k) (fun k=>l.length-k) 0 (aa [] ?_) ⟨by omega,by rw[b2];omega⟩ (fun k hk2=>?_)
   ·refine gf_ (c2_ b1 b2) ?_
    first|done|rfl|exact⟨rfl,rfl⟩
   obtain⟨hk1,hk3⟩:=hk2;have hRl:((gE l (j+1+k+1)).map aQ).length=l.length:=by rw[List.length_map,aff hk1]
   refine g2_ ?_
   by_cases h5:k+1<l.length-(j+1)
   ·rw[decide_eq_true (show((k+1:Nat):Int)<((l.length-(j+1):Nat):Int)by omega)]
    have hq:j+1+k+1<l.length:=by omega
    have g3:((gE l (j+1+k+1)).map aQ)[j+1+(k+1)]? =some [.v (.int .u8 l[j+1+k+1].toNat)]:=by rw[List.getElem?_map,uG (by omega),List.getElem?_eq_getElem (by omega)];rfl
    have g4:((gE l (j+1+k+1)).map aQ)[j+1+k]? =some [.v (.int .u8 (l[j+1+k]'(by omega)).toNat)]:=by rw[List.getElem?_map,uG hk3,List.getElem?_eq_getElem (by omega)];rfl
    have e5:((k+1:Nat):Int)-1=(k:Nat):=by omega
    have hset:l[j+1+k+1]≠l[j+1+k]->((gE l (j+1+k+1)).map aQ).set (dm (l.take (j+1+k+1))).length [.v (.int .u8 l[j+1+k+1].toNat)]=(gE l (j+1+k+1+1)).map aQ:=fun h=>by
     rw[<-ae2 hq h (by omega),List.map_set];rfl
    have hcn:l[j+1+k+1]≠l[j+1+k]->(dm (l.take (j+1+k+1+1))).length=(dm (l.take (j+1+k+1))).length+1:=fun h=>by rw[uN hq h,List.length_append];rfl
    have hce:l[j+1+k+1]=l[j+1+k]->dm (l.take (j+1+k+1+1))=dm (l.take (j+1+k+1)):=abH hq;have hcr:l[j+1+k+1]=l[j+1+k]->gE l (j+1+k+1+1)=gE l (j+1+k+1):=fun h=>by rw[gE,gE,hce h]
    refine g2_ ?_;refine .inl ⟨[oF 0,oF 1,oF 4,oF 5,oF 2,oF 6,oF 3,oF 7,oF 8,oF 9],by kernel_rfl,?_⟩
    refine gi_ g3 g4 e5 hRl ?_
    by_cases h6:l[j+1+k+1]=l[j+1+k]
    ·rw[show((l[j+1+k+1].toNat:Int) !=(l[j+1+k].toNat:Int))=false by rw[h6];exact bne_self_eq_false _]
     refine g2_ ?_;refine⟨k+1,aa [] ?_,⟨by omega,by rw[show j+1+(k+1)+1=j+1+k+1+1 by omega,hce h6];omega⟩,by omega⟩
     rw[show j+1+(k+1)+1=j+1+k+1+1 by omega,hce h6,hcr h6]
     refine g2_ ?_;rfl
    ·rw[show((l[j+1+k+1].toNat:Int) !=(l[j+1+k].toNat:Int))=true from bne_iff_ne.2 (fun h=>h6 (UInt8.toNat_inj.1 (by omega)))]
     have hcl:(dm (l.take (j+1+k+1))).length<l.length:=by omega
     have gC:((gE l (j+1+k+1)).map aQ)[(dm (l.take (j+1+k+1))).length]? =some [.v (.int .u8 l[(dm (l.take (j+1+k+1))).length].toNat)]:=by rw[List.getElem?_map,uG (Nat.le_refl _),List.getElem?_eq_getElem hcl];rfl
     have hs6:=hset h6;have hc6:=hcn h6;refine gf_ (c4_ g3 g4 gC (c2_ e5 hRl)) ?_;refine⟨k+1,aa [] ?_,⟨by omega,by rw[show j+1+(k+1)+1=j+1+k+1+1 by omega,hc6];omega⟩,by omega⟩
     rw[show j+1+(k+1)+1=j+1+k+1+1 by omega, <-hs6,hc6]
     refine g2_ ?_;exact⟨rfl,rfl,rfl,rfl⟩
   ·rw[decide_eq_false (show ¬((k+1:Nat):Int)<((l.length-(j+1):Nat):Int)by omega)]
    have eN:l.take (j+1+k+1)=l:=List.take_of_length_le (by omega)
    have eR:(gE l (j+1+k+1)).map aQ=(dm l++l.drop (dm l).length).map aQ:=by rw[gE,eN]
    have eL:(dm l).length<l.length:=by rw[eN]at hk3;omega
    have eT:List.take (dm l).length ((dm l++l.drop (dm l).length).map aQ)=(dm l).map aQ:=by rw[<-List.map_take,List.take_left]
    rw[eN,eR];rw[eR]at hRl;refine gf_ hRl ?_;rw[Nat.sub_zero,eT];exact hk
  ·rw[show((l[j+1].toNat:Int)==(l[j].toNat:Int))=false from beq_eq_false_iff_ne.2 (fun h=>h4 (UInt8.toNat_inj.1 (by omega)))]
   refine g2_ ?_;refine⟨j+1,aa [] ?_,⟨by omega,?_⟩,by omega⟩
   ·refine g2_ ?_;rfl
   ·rw[uN h3 h4,hj2];rw[List.take_add_one (i:=j+1),List.getElem?_eq_getElem h3];rfl
 ·rw[decide_eq_false (show ¬((j+1:Nat):Int)<(l.length:Int)by omega)]
  have e:dm l=l:=by
   have:=hj2;rw[List.take_of_length_le (by omega)]at this
   exact this
  rw[e]at hk;refine g2_ ?_;exact hk
theorem acj(p:ah)(h1:p.view.length<=300)(h2:p.near.length<=300)(h4:p.ring.succ.filter.length<=4000000)(h5:p.ring.pred.filter.length<=4000000)(h12:(cy p).length<=700)
  (hs: ∀{L0:List (List DV)} {ρ:List (Nat×DSV)} {σ:List (Nat×ek)} {nb:Nat} {K:DV->DS->Prop},K (.tup []) ⟨ρ,σ,[(1,.arr 5 1 ((aG ltU (cy p)).map aQ) false),(0,.arr 32 1 L0 false)],2,nb⟩->
   CallS Tryz.prog false 79 [.rf 1 0 (cy p).length] ⟨ρ,σ,[(1,.arr 5 1 ((cy p).map aQ) false),(0,.arr 32 1 L0 false)],2,nb⟩ K):Con2 Tryz.prog 21 [.agg (ak p)] (· =⟨.rf 0 0 (bA p).length,[(0,.arr 5 1 ((bA p).map aQ) false)],1⟩):=by
 refine Con2.own ?_;have hr:=j7 p.ring h4 h5;have hrl:=cQ p.ring;have el:cy p=[p.view,p.near,aw p.ring].flatten.map (·.node):=rfl
 unfold bA;generalize aw p.ring=B at hr hrl el;obtain⟨L,hL⟩: ∃L:List (List GDesc),L=[p.view,p.near,B]:=⟨_,rfl⟩;rw[<-hL]at el;have hLl:L.length=3:=by rw[hL];rfl
 have hge: ∀k (hk:k<3),([[fzD p.view],[fzD p.near],[fzD B]]:List (List DV))[k]? =some [fzD (L[k]'(by omega))]:=fun k hk=>by
  subst hL
  match k,hk with
  |0,_=>rfl
  |1,_=>rfl
  |2,_=>rfl
 have hll: ∀k (hk:k<3),(L[k]'(by omega)).length<=300:=fun k hk=>by
  subst hL
  match k,hk with
  |0,_=>exact h1
  |1,_=>exact h2
  |2,_=>exact Nat.le_trans hrl (by omega)
 refine en_ Tryz.func21 [.tmp 2] (g2_ ?_);refine g2_ ?_;refine .inl ⟨[oF 0,oF 2,oF 4,oF 9,oF 1,oF 3,oF 5,oT 6,oF 7,oF 8],by kernel_rfl,g2_ ?_⟩
 refine ce_ hr (g2_ ?_);refine ay 3 (fun k=>[(3,.d (.rf 1 0 ((L.take k).flatten.map (·.node)).length))]) (fun _=>[]) (fun k=>[(1,.arr 5 1 (((L.take k).flatten.map (·.node)).map aQ) false),(0,.arr 32 1 [[fzD p.view],[fzD p.near],[fzD B]] false)]) 2 (fun k=>True) (aa [(1,.nil 1),(0,.to 0)] ?_) trivial (fun g k=>by first|rfl|(repeat first|simp-implicitDefEqProofs only[go_sem,ab]|with_reducible refine gl_ ?_)) (by omega) (fun g=>ws_) (fun k hk hF=>?_) (fun hF=>?_)
 ·repeat first|simp-implicitDefEqProofs only[go_sem,ab,List.take_zero,List.flatten_nil]|with_reducible refine gl_ ?_
  first|done|rfl|exact⟨rfl,rfl⟩
 ·have hg:=hge k hk;have hl:=hll k hk;have hsn:(L.take (k+1)).flatten=(L.take k).flatten++L[k]:=by rw[List.take_add_one,List.getElem?_eq_getElem (by omega),List.flatten_append];simp
  generalize L[k]=lk at hg hl hsn
  have hfl:(L.take k).flatten.length<=900:=by
   rw[hL]
   match k,hk with
   |0,_=>simp
   |1,_=>simp;omega
   |2,_=>simp;omega
  simp only[fzD]at hg;refine gf_ hg ?_;refine ay lk.length (fun j=>[(3,.d (.rf 1 0 (((L.take k).flatten++lk.take j).map (·.node)).length))]) (fun _=>[]) (fun j=>[(1,.arr 5 1 ((((L.take k).flatten++lk.take j).map (·.node)).map aQ) false),(0,.arr 32 1 [[fzD p.view],[fzD p.near],[fzD B]] false)]) 2 (fun j=>True) (aa [(1,.to 1),(0,.to 0)] ?_) trivial (fun g j=>by first|rfl|(repeat first|simp-implicitDefEqProofs only[go_sem,ab]|with_reducible refine gl_ ?_)) (by omega) (fun g=>ws_) (fun j hj _=>?_) (fun _=>?_)
  ·repeat first|simp-implicitDefEqProofs only[go_sem,ab,List.take_zero,List.append_nil]|with_reducible refine gl_ ?_
   first|done|rfl|exact⟨rfl,rfl⟩
  ·have hs2:(L.take k).flatten++lk.take (j+1)=((L.take k).flatten++lk.take j)++[lk[j]]:=by rw[List.take_add_one,List.getElem?_eq_getElem hj,List.append_assoc];rfl
   have hfl2:((L.take k).flatten++lk.take j).length<=1200:=by rw[List.length_append,List.length_take];omega
   generalize (L.take k).flatten++lk.take j=A at hs2 hfl2;refine gf_ (mE_ hj) ?_;generalize lk[j]=d at hs2;refine gx_ ?_;refine⟨j+1,aa [(1,.to 3),(0,.to 0)] ?_,rfl⟩;exact y1_ hs2
  ·rw[List.take_of_length_le (Nat.le_refl lk.length), <-hsn];refine g2_ ?_;refine⟨k+1,aa [(1,.to 1),(0,.to 0)] ?_,rfl⟩;exact ws_
 ·rw[List.take_of_length_le (show L.length<=3 by omega), <-el]
  refine g2_ ?_;refine hs ?_;have h13:(aG ltU (cy p)).length=(cy p).length:=cm;refine g2_ ?_;rw[<-h13];refine aiZ (aG ltU (cy p)) (by omega) ?_
  refine g2_ ?_;exact⟨⟨_,_,_⟩,⟨1,rfl,rfl⟩,fT _⟩
theorem aea(p:ah)(h1:p.view.length<=300)(h2:p.near.length<=300)(h4:p.ring.succ.filter.length<=4000000)(h5:p.ring.pred.filter.length<=4000000)(h12:(cy p).length<=700)
  (hs: ∀{L0:List (List DV)} {ρ:List (Nat×DSV)} {σ:List (Nat×ek)} {nb:Nat} {K:DV->DS->Prop},K (.tup []) ⟨ρ,σ,[(1,.arr 5 1 ((aG ltU (cy p)).map aQ) false),(0,.arr 32 1 L0 false)],2,nb⟩->
   CallS Tryz.prog false 79 [.rf 1 0 (cy p).length] ⟨ρ,σ,[(1,.arr 5 1 ((cy p).map aQ) false),(0,.arr 32 1 L0 false)],2,nb⟩ K):Con2 Tryz.prog 21 [.agg (ak p)] (· =plR (.fz 1 ((bA p).map aQ))):=
 Con2.emb (acj p h1 h2 h4 h5 h12 hs) (wf_ @aF) rfl
end Go.Proofs.YthoihfighiolmaaGreat.V
namespace Go.Eng
theorem akH:StO ltU:=by
 refine⟨fun {a b} h=>?_,fun {a b c} h1 h2=>?_⟩
 ·simp only[ltU,decide_eq_true_eq,decide_eq_false_iff_not,UInt8.lt_iff_toNat_lt]at *; omega
 ·simp only[ltU,decide_eq_false_iff_not,UInt8.lt_iff_toNat_lt]at *; omega
theorem mC: ∀(l acc:List UInt8),(acc++l).Pairwise (fun a b=>ltU b a=false)->acc.Pairwise (fun a b=>ltU a b=true)->(l.foldl iE acc).Pairwise (fun a b=>ltU a b=true)/\ ∀x,x∈l.foldl iE acc↔x∈acc\/x∈l
 |[],acc,_,h=>⟨h,fun x=>by simp⟩
 | y ::r,acc,h1,h2=>by
  have hle: ∀a∈acc,ltU y a=false:=fun a ha=>(List.pairwise_append.1 h1).2.2 a ha y List.mem_cons_self
  have h3:(acc++r).Pairwise fun a b=>ltU b a=false:=h1.sublist (List.Sublist.append_left (List.sublist_cons_self y r) acc)
  rw[List.foldl_cons]
  by_cases e:acc.getLast? =some y
  ·rw[show iE acc y=acc from if_pos e]
   obtain⟨g1,g2⟩:=mC r acc h3 h2;refine⟨g1,fun x=>?_⟩
   rw[g2,List.mem_cons];have hy:=List.mem_of_getLast? e;constructor
   ·exact fun h=>h.imp id .inr
   ·rintro(h|rfl|h)
    ·exact .inl h
    ·exact .inl hy
    ·exact .inr h
  ·rw [show iE acc y=acc++[y]from if_neg e]
   have hlt: ∀a∈acc,ltU a y=true:=fun a ha=>by
    have h4:=hle a ha;cases hz:acc.getLast? with
    |none=>rw[List.getLast?_eq_none_iff]at hz;subst hz;cases ha
    | some z=>
     have hzy:z≠y:=fun h=>e (by rw[hz,h])
     have hzl:=hle z (List.mem_of_getLast? hz)
     have haz:a=z\/ltU a z=true:=by
      obtain⟨ys,rfl⟩:=List.getLast?_eq_some_iff.1 hz;rcases List.mem_append.1 ha with ha|ha
      ·exact .inr ((List.pairwise_append.1 h2).2.2 a ha z (List.mem_singleton.2 rfl))
      ·exact .inl (List.mem_singleton.1 ha)
     simp only[ltU,decide_eq_true_eq,decide_eq_false_iff_not,UInt8.lt_iff_toNat_lt,ne_eq, <-UInt8.toNat_inj]at *;rcases haz with haz|haz<;>omega
   obtain⟨g1,g2⟩:=mC r (acc++[y]) (by simpa using h1) (List.pairwise_append.2 ⟨h2,List.pairwise_singleton _ _,fun a ha b hb=>by rw[List.mem_singleton.1 hb];exact hlt a ha⟩)
   refine⟨g1,fun x=>?_⟩
   rw[g2];simp only[List.mem_append,List.mem_cons,List.not_mem_nil,or_false,or_assoc]
theorem ag6{lt:UInt8->UInt8->Bool}(ho:StO lt): ∀{L M:List UInt8},L.Pairwise (fun a b=>lt a b=true)->M.Pairwise (fun a b=>lt a b=true)->(∀x,x∈L↔x∈M)->L=M:=fun {L M} h h' hm=>by
 have nd: ∀{K:List UInt8},K.Pairwise (fun a b=>lt a b=true)->K.Nodup:=fun hk=>hk.imp fun {a b} h e=>by subst e;have:=ho.asy h;rw[h]at this;cases this
 exact abV ho h h' ((List.perm_ext_iff_of_nodup (nd h) (nd h')).2 hm)
theorem ajR(l:List UInt8):dm (aG ltU l)=((List.range 256).map UInt8.ofNat).filter fun x=>decide (x∈l):=by
 have hp:(aG ltU l).Perm l:=by have:=jj (lt:=ltU) l [];simpa[aG]using this
 obtain⟨h1,h2⟩:=mC (aG ltU l) [] (by simpa[aG]using iU akH l [] List.Pairwise.nil) List.Pairwise.nil
 refine ag6 akH h1 (List.Pairwise.filter _ (List.pairwise_map.2 (List.pairwise_lt_range.imp_of_mem fun {a b} ha hb h=>?_))) fun x=>?_
 ·simp only[List.mem_range]at ha hb;simp only[ltU,decide_eq_true_eq,UInt8.lt_iff_toNat_lt,UInt8.toNat_ofNat'];omega
 ·show x∈List.foldl iE [] _↔_;rw[h2,hp.mem_iff,List.mem_filter];simp only[List.not_mem_nil,false_or,decide_eq_true_eq];refine⟨fun h=>⟨List.mem_map.2 ⟨x.toNat,List.mem_range.2 x.toNat_lt,UInt8.ofNat_toNat⟩,h⟩,fun h=>h.2⟩
