import Derived.Test.YtmhmahcdanclnaaGreatNb28
set_option linter.unusedSectionVars false
set_option linter.unusedSimpArgs false
set_option linter.unusedVariables false
set_option maxRecDepth 10000
namespace Go.Eng
def gD(l:List GDesc):List DV:=l.flatMap ah
def zA:List DV:=(List.replicate 256 ()).flatMap fun _=>[.v (.int .u8 0),.v (.int .u16 0),.v (.int .u8 0),.v (.slice none 0 0)]
theorem cY(d:GDesc):(ah d).length=4:=rfl
theorem qC: ∀(l:List GDesc),(gD l).length=l.length*4
 |[]=>rfl
 |x::r=>by
  have:=qC r;unfold gD at this ⊢;rw[List.flatMap_cons,List.length_append,cY,this,List.length_cons];omega
theorem xO: ∀(l:List GDesc) {n:Nat} (h:n<l.length),((gD l).drop (n*4)).take 4=ah l[n]
 |x::r,0,_=>by
  show((ah x++gD r).drop 0).take 4=_;rw[List.drop_zero,List.take_append_of_le_length (by rw[cY];omega),List.take_of_length_le (by rw[cY];omega)];rfl
 |x::r,n+1,hn=>by
  show((ah x++gD r).drop ((n+1)*4)).take 4=_;rw[List.drop_append,List.drop_of_length_le (by rw[cY];omega),List.nil_append,cY,show(n+1)*4-4=n*4 by omega]
  exact xO r (by simpa using hn)
theorem an3(l:List GDesc){n:Nat}(h:l.length*4=n):(gD l).take n=gD l:=List.take_of_length_le (by rw[qC];omega)
theorem tw: ∀(l:List GDesc) (d:GDesc) {n:Nat} (h:n<l.length),spliceD (gD l) (n*4) (ah d)=gD (l.set n d)
 |x::r,d,0,_=>by
  show(ah x++gD r).take (0*4)++ah d++(ah x++gD r).drop (0*4+(ah d).length)=ah d++gD r;rw[cY,List.drop_append,List.drop_of_length_le (by rw[cY];omega),cY]
  simp
 |x::r,d,n+1,hn=>by
  have ih:=tw r d (n:=n) (by simpa using hn)
  unfold spliceD at ih ⊢;rw[cY]at ih ⊢;show(ah x++gD r).take ((n+1)*4)++ah d++(ah x++gD r).drop ((n+1)*4+4)=ah x++gD (r.set n d);rw[List.take_append,List.drop_append,List.take_of_length_le (by rw[cY];omega),List.drop_of_length_le (l:=ah x) (by rw[cY];omega),cY,show(n+1)*4-4=n*4 by omega,show(n+1)*4+4-4=n*4+4 by omega, <-ih]
  simp
theorem qa{r:Nat->Option Rn}: ∀{a a' b b':List DV},wkDs r a a'->wkDs r b b'->wkDs r (a++b) (a'++b')
 |[],a',b,b',h,h'=>by simp only[wkDs]at h;subst h;exact h'
 |d::l,[],b,b',h,_=>by simp[wkDs]at h
 |d::l,e::m,b,b',h,h'=>by
  simp only[wkDs]at h;show wkDs r (d::(l++b)) (e::(m++b'));simp only[wkDs];exact⟨h.1,qa h.2 h'⟩
def zL:List GDesc:=List.replicate 256 zDesc
theorem aex(r:Nat->Option Rn):wkDs r (gD zL) zA:=by simp_all [List.replicate_succ,List.flatMap_cons,ah,zDesc,wkDs,wkD,wkV,wkFz,gD,zL,zA]
theorem dV(r:Nat->Option Rn): ∀(l:List GDesc),wkDs r (gD l) (gD l)
 |[]=>rfl
 |x::l=>qa (a:=ah x) (a':=ah x) (by simp[ah,wkDs,wkD,wkV,wkFz]) (dV r l)
def jU(self:UInt8)(l:List GDesc)(d:GDesc):List GDesc:=
 if d.node=self\/d.inc=0 then l else match l[d.node.toNat]? with
  |some e=>if e.inc=0\/iz d e=true then l.set d.node.toNat d else l
  |none=>l
theorem ahl{self:UInt8}{l:List GDesc}{d:GDesc}:(jU self l d).length=l.length:=by grind [jU]
def fK(self:UInt8)(l:List GDesc)(ds:List GDesc):List GDesc:=ds.foldl (jU self) l
theorem oE{self:UInt8}: ∀{ds l:List GDesc},(fK self l ds).length=l.length
 |[],l=>rfl
 |d::r,l=>by
  show(fK self (jU self l d) r).length=_;rw[oE,ahl]
def bY(self:UInt8)(L:List (List GDesc)):List GDesc:=(fK self zL L.flatten).filter fun d=>decide ((0:Int)<(d.inc.toNat:Int))
end Go.Eng
namespace Go.Proofs.YtmhmahcdanclnaaGreat.V
open Go.Eng
attribute [local go_sem] aS ah fzD plR a_ aO aQ aA aC ak aB aT z8 z16 z32 z64 encMg ba
@[local go_sem] theorem aro:bN Tryz.prog 315=some zA:=by kernel_rfl
theorem aqP:onesD zA=true:=by kernel_rfl
def ma(L:List (List GDesc)):List (List DV):=L.map fun l=>[fzD l]
theorem uJ(self:UInt8)(L:List (List GDesc))(hL:L.length<=4000000)(hl: ∀l∈L,cf l):Con2 Tryz.prog 237 [.v (.int .u8 self.toNat),.fz 1 (ma L)] (· =plR (fzD (bY self L))):=by
 refine Con2.ofEmb ?_;have hLl:(ma L).length=L.length:=by rw[ma,List.length_map]
 have hge0: ∀k (hk:k<L.length),(ma L)[k]? =some [fzD L[k]]:=fun k hk=>by rw[ma,List.getElem?_map,List.getElem?_eq_getElem hk];rfl
 generalize ma L=E at hLl hge0;refine en_ Tryz.func237 [.tmp 4] ?_;refine g2_ ?_;refine⟨aqP,?_⟩;refine gf_ hLl ?_;refine aq L.length (fun k=>[]) (fun k=>[(5,⟨gD (fK self zL (L.take k).flatten),315⟩)]) (fun k=>[]) 0 (fun _=>True) (aa [] ?_) trivial (fun g k=>ws_) (by omega) (fun g=>ws_) (fun k hk _=>?_) (fun _=>?_)
 ·refine x1_ @List.flatten_nil.{0} ?_;exact⟨rfl,aex _⟩
 ·have hge:=hge0 k hk;obtain⟨hb,hb2⟩:=hl _ (List.getElem_mem hk);refine gf_ hge ?_;generalize hlk:L[k]=lk at hb hb2;refine aq lk.length (fun j=>[]) (fun j=>[(5,⟨gD (fK self zL ((L.take k).flatten++lk.take j)),315⟩)]) (fun j=>[]) 0 (fun _=>True) (aa [] ?_) trivial (fun g j=>ws_) (by omega) (fun g=>ws_) (fun j hj _=>?_) (fun _=>?_)
  ·refine x0_ ?_;exact⟨rfl,dV _ _⟩
  ·have hnd:=lk[j].node.toNat_lt
   have hstep:fK self zL ((L.take k).flatten++lk.take (j+1))=jU self (fK self zL ((L.take k).flatten++lk.take j)) lk[j]:=by
    rw[List.take_add_one,List.getElem?_eq_getElem hj, <-List.append_assoc,fK,List.foldl_append];rfl
   have hlen:(fK self zL ((L.take k).flatten++lk.take j)).length=256:=by rw[oE];simp[zL]
   refine gf_ (mE_ hj) ?_;generalize lk[j]=d at hstep hnd;generalize hA:fK self zL ((L.take k).flatten++lk.take j)=A at hstep hlen;have hn:d.node.toNat<A.length:=by omega
   have hA1:(gD A).length=1024:=by rw[qC,hlen]
   have hw:=xO A hn;have hsp:=tw A d hn;have hge2:=List.getElem?_eq_getElem hn;have hnw:=acD d A[d.node.toNat]
   have hst:jU self A d=if d.node=self\/d.inc=0 then A else if A[d.node.toNat].inc=0\/iz d A[d.node.toNat]=true then A.set d.node.toNat d else A:=by
    unfold jU;rw[hge2]
   generalize A[d.node.toNat]=e at hw hnw hst;rw[hst]at hstep;simp only[ah]at hw hsp;rw[bW]
   by_cases h1:d.node=self
   ·rw[if_pos (.inl h1)]at hstep;rw[decide_eq_true h1];refine g2_ ?_;refine⟨j+1,aa [] ?_,rfl⟩;refine gf_ hstep ?_
    first|done|exact dV _ _|exact⟨rfl,dV _ _⟩|trace_state
   rw[decide_eq_false h1];refine g2_ ?_;rw[nJ]
   by_cases h2:d.inc=0
   ·rw[if_pos (.inr h2)]at hstep;rw[decide_eq_true h2];refine g2_ ?_;refine⟨j+1,aa [] ?_,rfl⟩;refine gf_ hstep ?_
    first|done|exact dV _ _|exact⟨rfl,dV _ _⟩|trace_state
   rw[if_neg (by simp[h1,h2])]at hstep
   rw[decide_eq_false h2];have hle:decide (d.node.toNat*4<=1020)=true:=decide_eq_true (by omega)
   have hle2:d.node.toNat*4<=1020:=by omega
   refine gh_ hA1 hw hle ?_;rw[nJ]
   by_cases h3:e.inc=0
   ·rw[if_pos (.inl h3)]at hstep;rw[decide_eq_true h3];refine gf_ (c4_ hA1 hw hle (c2_ hle2 hsp)) ?_;refine⟨j+1,aa [] ?_,rfl⟩;refine gf_ hstep ?_
    first|done|exact dV _ _|exact⟨rfl,dV _ _⟩|trace_state
   rw[decide_eq_false h3];refine g2_ ?_;refine ce_ hnw (g2_ ?_);cases h4:iz d e with
   |true=>
    rw[if_pos (.inr h4)]at hstep;refine gf_ (c4_ hA1 hw hle (c2_ hle2 hsp)) ?_;refine⟨j+1,aa [] ?_,rfl⟩;refine gf_ hstep ?_
    first|done|exact dV _ _|exact⟨rfl,dV _ _⟩|trace_state
   |false=>
    rw[if_neg (by simp[h3,h4])]at hstep
    refine g2_ ?_;refine⟨j+1,aa [] ?_,rfl⟩;refine gf_ hstep ?_
    first|done|exact dV _ _|exact⟨rfl,dV _ _⟩|trace_state
  ·have hend:(L.take (k+1)).flatten=(L.take k).flatten++lk.take lk.length:=by
    rw[List.take_add_one,List.getElem?_eq_getElem hk,hlk,List.take_of_length_le (Nat.le_refl _)];simp
   refine g2_ ?_;refine⟨k+1,aa [] ?_,rfl⟩;refine gf_ hend ?_
   first|done|exact dV _ _|exact⟨rfl,dV _ _⟩|trace_state
 ·rw [List.take_of_length_le (Nat.le_refl _)];have hlen:(fK self zL L.flatten).length=256:=by rw[oE];simp[zL]
  have hok: ∀d∈fK self zL L.flatten,d.filter.length<=4000000:=by
   have key: ∀(D A:List GDesc),(∀d∈A,d.filter.length<=4000000)->(∀d∈D,d.filter.length<=4000000)-> ∀d∈fK self A D,d.filter.length<=4000000:=by
    intro D
    induction D with
    |nil=>intro A hA _;exact hA
    | cons x r ih=>
     intro A hA hD;refine ih (jU self A x) ?_ (fun d hd=>hD d (List.mem_cons_of_mem _ hd))
     intro d hd;unfold jU at hd;split at hd
     ·exact hA d hd
     ·split at hd
      ·split at hd
       ·rcases List.mem_or_eq_of_mem_set hd with h|rfl
        ·exact hA d h
        ·exact hD _ List.mem_cons_self
       ·exact hA d hd
      ·exact hA d hd
   refine key _ _ ?_ ?_
   ·intro d hd;rw[List.eq_of_mem_replicate hd];simp[zDesc]
   ·intro d hd;obtain⟨l,h1,h2⟩:=List.mem_flatten.1 hd;exact(hl l h1).2 d h2
  unfold bY;generalize fK self zL L.flatten=A at hlen hok;have hA1:(gD A).length=1024:=by rw[qC,hlen]
  have hA2:(gD A).take 1024=gD A:=an3 A (by rw[hlen])
  refine gg_ hA1 hA2 ?_;generalize hP:(fun d:GDesc=>decide ((0:Int)<(d.inc.toNat:Int)))=P
  have hPd: ∀d,P d=decide ((0:Int)<(d.inc.toNat:Int)):=fun d=>by rw[<-hP]
  have hle3: ∀k,((A.take k).filter P).length<=256:=fun k=>by have:=gP (f:=P) A k;omega
  refine aq 256 (fun k=>[(11,.d (.rf 0 0 ((A.take k).filter P).length))]) (fun _=>[]) (fun k=>[(0,.arr 34 4 (((A.take k).filter P).map ah) false)]) 1 (fun _=>True) (aa [(0,.nil 4)] ?_) trivial (fun g k=>by first|rfl|((repeat first|simp-implicitDefEqProofs only[go_sem,ab]|with_reducible refine gl_ ?_);rfl)) (by omega) (fun g=>ws_) (fun k hk _=>?_) (fun _=>?_)
  ·refine x0_ ?_
   repeat' (first|exact dV _ _|rfl|exact aex _|(refine And.intro ?_ ?_))
   all_goals trace_state
  ·have hk2:k<A.length:=by omega
   have hw:=xO A hk2;have hsn:=fb (f:=P) hk2;have hle4:=hle3 k;have hle:decide (k*4<=1020)=true:=decide_eq_true (by omega)
   rw[hPd]at hsn;generalize A[k]=d at hw hsn;simp only[ah]at hw;refine gh_ hA1 hw hle ?_
   by_cases h:(0:Int)<(d.inc.toNat:Int)
   ·rw[decide_eq_true h];refine gx_ ?_;refine⟨k+1,aa [(0,.to 2)] ?_,rfl⟩;refine x1_ (c3_ hsn h decide_true) ?_
    repeat' (first|exact dV _ _|exact aex _|(refine And.intro ?_ ?_)|(with_reducible rfl)|(simp[ah];done))
   ·rw[decide_eq_false h];refine g2_ ?_;refine⟨k+1,aa [(0,.to 0)] ?_,rfl⟩;refine x1_ (c3_ hsn h decide_false) ?_
    repeat' (first|exact dV _ _|exact aex _|(refine And.intro ?_ ?_)|(with_reducible rfl)|(simp[ah];done))
  ·rw[List.take_of_length_le (by omega)]
   have hcp:=bg (A.filter P) ⟨by have:=List.length_filter_le P A;omega,fun d hd=>hok d (List.mem_filter.1 hd).1⟩
   refine g2_ ?_;refine ce_ hcp (g2_ ?_);refine ae ?_ rfl;exact ws_
end Go.Proofs.YtmhmahcdanclnaaGreat.V
namespace Go.Eng
section
variable {α:Type}
def du(lt:α->α->Bool)(x:α)(P:List α):Nat->Nat
 |0=>0
 |j+1=>match P[j]? with
  |some y=>bif lt x y then du lt x P j else j+1
  |none=>j+1
def b_(P:List α)(x:α)(j:Nat):List α:=P.take j++x::P.drop j
def jZ(lt:α->α->Bool)(P:List α)(x:α):List α:=b_ P x (du lt x P P.length)
def aW(lt:α->α->Bool)(l:List α):List α:=l.foldl (jZ lt) []
theorem na{lt:α->α->Bool}{x:α}{P:List α}{j:Nat}(h:j<P.length)(hl:lt x P[j]=true):du lt x P (j+1)=du lt x P j:=by
 simp only[du,List.getElem?_eq_getElem h,hl,cond_true]
theorem mI{lt:α->α->Bool}{x:α}{P:List α}{j:Nat}(h:j<P.length)(hl:lt x P[j]=false):du lt x P (j+1)=j+1:=by
 simp only[du,List.getElem?_eq_getElem h,hl,cond_false]
theorem cX{P:List α}{x:α}{j:Nat}:(b_ P x j).length=P.length+1:=by grind [b_]
theorem sd{P:List α}{x:α}{j:Nat}(h:j<=P.length):(b_ P x j)[j]? =some x:=by grind [b_]
theorem nZ{P:List α}{x:α}{j:Nat}(h:j<P.length):(b_ P x (j+1))[j]? =some P[j]:=by grind [b_]
theorem qG{P:List α}{x:α}{j:Nat}(h:j<P.length):((b_ P x (j+1)).set (j+1) P[j]).set j x=b_ P x j:=by
 apply List.ext_getElem?;intro k;have l1:=cX (P:=P) (x:=x) (j:=j+1);rw[List.getElem?_set]
 by_cases e1:j=k
 ·subst e1;rw[if_pos rfl,if_pos (by simp only[List.length_set];omega),sd (by omega)]
 rw[if_neg e1,List.getElem?_set]
 by_cases e2:j+1=k
 ·subst e2;rw[if_pos rfl,if_pos (by omega)]
  symm;rw[b_,List.getElem?_append_right (by simp;omega)]
  have:j+1-(P.take j).length=1:=by simp;omega
  rw[this,List.getElem?_cons_succ,List.getElem?_drop,Nat.add_zero,List.getElem?_eq_getElem h]
 rw[if_neg e2];simp only[b_]
 by_cases e3:k<j
 ·rw[List.getElem?_append_left (by simp;omega),List.getElem?_append_left (by simp;omega),List.getElem?_take_of_lt (by omega),List.getElem?_take_of_lt (by omega)]
 ·rw[List.getElem?_append_right (by simp;omega),List.getElem?_append_right (by simp;omega)]
  have a1:k-(P.take (j+1)).length=(k-(j+2))+1:=by simp;omega
  have a2:k-(P.take j).length=(k-(j+2))+2:=by simp;omega
  rw[a1,a2,List.getElem?_cons_succ,List.getElem?_cons_succ,List.getElem?_drop,List.getElem?_drop]
  congr 1;omega
theorem sO{l:List α}{i:Nat}(P:List α)(h:i<l.length)(hP:P.length=i):P++l.drop i=b_ P l[i] P.length++l.drop (i+1):=by
 rw[b_,List.take_length,List.drop_length,List.drop_eq_getElem_cons h,List.append_assoc];rfl
theorem akH{lt:α->α->Bool}{P:List α}{x:α}:(jZ lt P x).length=P.length+1:=cX
theorem kx{lt:α->α->Bool}: ∀(l P:List α),(l.foldl (jZ lt) P).length=P.length+l.length
 |[],P=>rfl
 |x::r,P=>by rw[List.foldl_cons,kx r,akH,List.length_cons];omega
theorem ch{lt:α->α->Bool}{l:List α}:(aW lt l).length=l.length:=by rw[aW,kx];simp
theorem p_{lt:α->α->Bool}{l:List α}{i:Nat}(h:i<l.length):aW lt (l.take (i+1))=jZ lt (aW lt (l.take i)) l[i]:=by
 rw[aW,List.take_add_one,List.getElem?_eq_getElem h,List.foldl_append];rfl
theorem ahq{P:List α}{x y:α}{j:Nat}(h:y∈b_ P x j):y=x\/y∈P:=by grind [b_]
theorem fT{lt:α->α->Bool}: ∀{l P:List α} {y:α},y∈l.foldl (jZ lt) P->y∈l\/y∈P
 |[],P,y,h=>.inr h
 | x::r,P,y,h=>by
  rcases fT (l:=r) (P:=jZ lt P x) h with h|h
  ·exact .inl (List.mem_cons_of_mem _ h)
  ·rcases ahq h with h|h
   ·exact .inl (by rw[h];exact List.mem_cons_self)
   ·exact .inr h
end
structure tU where
 d:GDesc
 o:Nat
def gl(a b:Nat):Int:=if a<b then-1 else if b<a then 1 else 0
def yr(a b:tU):Int:=if gl b.o a.o≠0 then gl b.o a.o else if gl a.d.age.toNat b.d.age.toNat≠0 then gl a.d.age.toNat b.d.age.toNat else gl a.d.node.toNat b.d.node.toNat
def cN(a b:tU):Bool:=decide (yr a b<0)
def cQ(a b:GDesc):Bool:=decide (gl a.node.toNat b.node.toNat<0)
end Go.Eng
namespace Go.Proofs.YtmhmahcdanclnaaGreat.V
open Go.Eng
def fScored(own:List GSpan)(l:List GDesc):List tU:=(l.map fun d=>⟨d,t7 own d.filter⟩).filter fun x=>decide (0<x.o)
def cU(own:List GSpan)(self:UInt8)(room:Int)(ls:List (List GDesc)):List GDesc:=
 if room<1 then []else aW cQ (((aW cN (fScored own (bY self ls))).take room.toNat).map (·.d))
def gq(far:UInt16->UInt16->UInt16)(here:UInt16)(dom:List GSpan)(l:List GDesc):Nat->Nat×UInt16
 |0=>(0,far here (fx dom (l.headD zDesc)))
 |k+1=>match l[k]? with
  |some d=>if far here (fx dom d)<(gq far here dom l k).2 then (k,far here (fx dom d))else gq far here dom l k
  |none=>gq far here dom l k
def dm(far:UInt16->UInt16->UInt16)(here:UInt16)(dom:List GSpan)(l:List GDesc):GDesc:=l.getD (gq far here dom l l.length).1 zDesc
def dD(dom:List GSpan)(self:GDesc)(ls:List (List GDesc)):eE:=
 if bY self.node ls=[]then ⟨false,false,zDesc,zDesc⟩
 else ⟨true,true,dm (fun h t=>t-h) (fx dom self) dom (bY self.node ls),dm (fun h t=>h-t) (fx dom self) dom (bY self.node ls)⟩
attribute[local go_sem] aS ah fzD plR a_ z8 z16 z32 z64 c00
theorem ra(a:Int):Con2 Tryz.prog 314 [.v (.int .u8 a)] (· =plR (.v (.bool false))):=by
 refine en_ Tryz.func314 [.tmp 2] (g2_ ?_);refine gx_ ?_;exact⟨_,rfl,aa [] wx_⟩
theorem uQ(a:Int):Con2 Tryz.prog 361 [.v (.int .u32 a)] (· =plR (.v (.bool false))):=by
 refine en_ Tryz.func361 [.tmp 2] (g2_ ?_);refine gx_ ?_;exact⟨_,rfl,aa [] wx_⟩
theorem se(a b:Nat):Con2 Tryz.prog 243 [.v (.int .u8 a),.v (.int .u8 b)] (· =plR (.v (.int .i64 (gl a b)))):=by
 refine en_ Tryz.func243 [.tmp 4] (g2_ ?_);refine g2_ ?_;refine ce_ (ra a) (g2_ ?_);refine ce_ (ra b) (g2_ ?_)
 by_cases h1:(a:Int)<(b:Int)
 ·rw[decide_eq_true h1];refine g2_ ?_;exact⟨_,rfl,aa [] (by simp-implicitDefEqProofs only[go_sem,ab,gl,show a<b by omega,if_true])⟩
 rw[decide_eq_false h1];refine g2_ ?_
 by_cases h2:(b:Int)<(a:Int)
 ·rw[decide_eq_true h2];refine g2_ ?_;exact⟨_,rfl,aa [] (by simp-implicitDefEqProofs only[go_sem,ab,gl,show ¬a<b by omega,show b<a by omega,if_true,if_false])⟩
 rw[decide_eq_false h2];refine g2_ ?_;exact⟨_,rfl,aa [] (by simp-implicitDefEqProofs only[go_sem,ab,gl,show ¬a<b by omega,show ¬b<a by omega,if_true,if_false])⟩
theorem ahA(a b:Nat):Con2 Tryz.prog 312 [.v (.int .u32 a),.v (.int .u32 b)] (· =plR (.v (.int .i64 (gl a b)))):=by
 refine en_ Tryz.func312 [.tmp 4] (g2_ ?_);refine g2_ ?_;refine ce_ (uQ a) (g2_ ?_);refine ce_ (uQ b) (g2_ ?_)
 by_cases h1:(a:Int)<(b:Int)
 ·rw[decide_eq_true h1];refine g2_ ?_;exact⟨_,rfl,aa [] (by simp-implicitDefEqProofs only[go_sem,ab,gl,show a<b by omega,if_true])⟩
 rw[decide_eq_false h1];refine g2_ ?_
 by_cases h2:(b:Int)<(a:Int)
 ·rw[decide_eq_true h2];refine g2_ ?_;exact⟨_,rfl,aa [] (by simp-implicitDefEqProofs only[go_sem,ab,gl,show ¬a<b by omega,show b<a by omega,if_true,if_false])⟩
 rw[decide_eq_false h2];refine g2_ ?_;exact⟨_,rfl,aa [] (by simp-implicitDefEqProofs only[go_sem,ab,gl,show ¬a<b by omega,show ¬b<a by omega,if_true,if_false])⟩
def or3(a b c:Int):Int:=if a≠0 then a else if b≠0 then b else c
theorem amE(a b c:Int):Con2 Tryz.prog 311 [.fz 1 [[.v (.int .i64 a)],[.v (.int .i64 b)],[.v (.int .i64 c)]]] (· =plR (.v (.int .i64 (or3 a b c)))):=by
 refine en_ Tryz.func311 [.tmp 2] (g2_ ?_);refine g2_ ?_;refine aq 3 (fun k=>[]) (fun _=>[]) (fun k=>[]) 0 (fun k=>(0<k->a=0)/\(1<k->b=0)/\(2<k->c=0)) (aa [] ?_) (by omega) (fun g k=>by first|rfl|(repeat first|simp-implicitDefEqProofs only[go_sem,ab]|with_reducible refine gl_ ?_)) (by omega) (fun g=>ws_) (fun k hk hF=>?_) (fun hF=>?_)
 ·exact v0_
  first|done|rfl|exact⟨rfl,rfl⟩
 ·obtain⟨f1,f2,f3⟩:=hF
  obtain⟨x,hx,hgo⟩: ∃x:Int,([[DV.v (.int .i64 a)],[.v (.int .i64 b)],[.v (.int .i64 c)]]:List (List DV))[k]? =some [.v (.int .i64 x)]/\((x≠0->or3 a b c=x)/\(x=0->((0<k+1->a=0)/\(1<k+1->b=0)/\(2<k+1->c=0)))):=by
   match k,hk with
   |0,_=>exact⟨a,rfl,fun h=>if_pos h,fun h=>by omega⟩
   |1,_=>exact⟨b,rfl,fun h=>by have:=f1 (by omega);rw[or3,if_neg (by omega),if_pos h],fun h=>by omega⟩
   |2,_=>exact⟨c,rfl,fun h=>by have:=f1 (by omega);have:=f2 (by omega);rw[or3,if_neg (by omega),if_neg (by omega)],fun h=>by omega⟩
  refine gf_ hx ?_;refine eu (fun h=>?_) (fun h=>?_)
  ·rw[hgo.1 h];refine g2_ ?_;exact⟨_,rfl,aa [] ws_⟩
  ·refine g2_ ?_;exact⟨k+1,aa [] ws_,rfl,hgo.2 (by omega)⟩
 ·obtain⟨f1,f2,f3⟩:=hF;have e:or3 a b c=0:=by rw[or3,if_neg (by omega),if_neg (by omega)];omega
  rw[e];refine g2_ ?_;exact⟨_,rfl,aa [] ws_⟩
theorem aio(x y:tU):Con2 Tryz.prog 240 [.agg (ah x.d),.v (.int .u32 x.o),.agg (ah y.d),.v (.int .u32 y.o)] (· =plR (.v (.int .i64 (yr x y)))):=by
 have e:yr x y=or3 (gl y.o x.o) (gl x.d.age.toNat y.d.age.toNat) (gl x.d.node.toNat y.d.node.toNat):=rfl;rw[e];have k1:=ahA y.o x.o;have k2:=se x.d.age.toNat y.d.age.toNat;have k3:=se x.d.node.toNat y.d.node.toNat;have k4:=amE (gl y.o x.o) (gl x.d.age.toNat y.d.age.toNat) (gl x.d.node.toNat y.d.node.toNat);generalize gl y.o x.o=a at k1 k4;generalize gl x.d.age.toNat y.d.age.toNat=b at k2 k4;generalize gl x.d.node.toNat y.d.node.toNat=c at k3 k4;refine en_ Tryz.func240 [.tmp 8] (g2_ ?_);refine g2_ ?_;refine .inl ⟨[oF 0,oF 1,oF 3,oF 5,oF 8,oF 10,oF 4,oF 6,oF 9,oF 11,oT 2,oT 7,oF 12,oF 13,oF 14,oF 15],by kernel_rfl,g2_ ?_⟩
 refine ce_ k1 (g2_ ?_);refine ce_ k2 (g2_ ?_);refine ce_ k3 (g2_ ?_);refine ce_ k4 (g2_ ?_);exact⟨_,rfl,aa [] ws_⟩
def aos:Nat->Nat
 |0=>0
 |1=>1
 |2=>2
 |3=>2
 |4=>3
 |5=>3
 |6=>3
 |7=>3
 |_=>4
theorem amd(n:Nat)(hn:n<=12):Con2 Tryz.prog 344 [.v (.int .u64 n)] (· =plR (.v (.int .i64 (aos n)))):=by
 refine en_ Tryz.func344 [.tmp 2] (g2_ ?_);refine g2_ ?_;rw[show decide ((4294967296:Int)<=n)=false from decide_eq_false (by omega)]
 refine g2_ ?_;rw[show decide ((65536:Int)<=n)=false from decide_eq_false (by omega)]
 refine g2_ ?_;rw[show decide ((256:Int)<=n)=false from decide_eq_false (by omega)]
 refine g2_ ?_;refine gF (by omega) ?_
 refine g2_ ?_;refine⟨.int .u8 (aos n),fun w=>?_,?_⟩
 ·match n,hn with
  |0,_=>show _=_;kernel_rfl
  |1,_=>show _=_;kernel_rfl
  |2,_=>show _=_;kernel_rfl
  |3,_=>show _=_;kernel_rfl
  |4,_=>show _=_;kernel_rfl
  |5,_=>show _=_;kernel_rfl
  |6,_=>show _=_;kernel_rfl
  |7,_=>show _=_;kernel_rfl
  |8,_=>show _=_;kernel_rfl
  |9,_=>show _=_;kernel_rfl
  |10,_=>show _=_;kernel_rfl
  |11,_=>show _=_;kernel_rfl
  |12,_=>show _=_;kernel_rfl
  |k+13,h=>omega
 have hb:aos n<=4:=by
  match n,hn with
  |0,_=>decide
  |1,_=>decide
  |2,_=>decide
  |3,_=>decide
  |4,_=>decide
  |5,_=>decide
  |6,_=>decide
  |7,_=>decide
  |k+8,_=>exact Nat.le_refl 4
 refine gf_ @Int.zero_add ?_;exact⟨_,rfl,aa [] (wf_ @Int.zero_add)⟩
theorem zy(n:Nat)(hn:n<=12):Con2 Tryz.prog 275 [.v (.int .u64 n)] (· =plR (.v (.int .i64 (aos n)))):=by
 refine en_ Tryz.func275 [.tmp 2] (g2_ ?_);refine g2_ ?_;refine ce_ (amd n hn) (g2_ ?_);exact⟨_,rfl,aa [] ws_⟩
end Go.Proofs.YtmhmahcdanclnaaGreat.V
namespace Go.Eng
def bS(s:tU):List DV:=[.v (.int .u8 s.d.node.toNat),.v (.int .u16 s.d.inc.toNat),.v (.int .u8 s.d.age.toNat),.fz 2 (s.d.filter.map aS),.v (.int .u32 s.o)]
end Go.Eng
namespace Go.Proofs.YtmhmahcdanclnaaGreat.V
open Go.Eng
attribute [local go_sem] aS ah fzD plR a_ z8 z16 z32 z64 c00 bS
theorem alS(x y:tU):Con2 Tryz.prog 239 [.agg (bS x),.agg (bS y)] (· =plR (.v (.int .i64 (yr x y)))):=by
 refine en_ Tryz.func239 [.tmp 4] (g2_ ?_);refine g2_ ?_;refine ce_ (aio x y) (g2_ ?_);exact⟨_,rfl,aa [] ws_⟩
def apn(a b:GDesc):Int:=gl a.node.toNat b.node.toNat
theorem aiW(x y:GDesc):Con2 Tryz.prog 242 [.agg (ah x),.agg (ah y)] (· =plR (.v (.int .i64 (apn x y)))):=by
 refine en_ Tryz.func242 [.tmp 4] (g2_ ?_);refine g2_ ?_;refine ce_ (se x.node.toNat y.node.toNat) (g2_ ?_);exact⟨_,rfl,aa [] (by simp-implicitDefEqProofs only[go_sem,ab];rfl)⟩
theorem anT(l:List tU)(hl:l.length<=12){ρ σ nb K}(hk:K (.tup []) ⟨ρ,σ,[(0,.arr 268 5 ((aW cN l).map bS) false)],1,nb⟩):
  CallS Tryz.prog false 353 [.rf 0 0 l.length,.v (.int .i64 0),.v (.int .i64 l.length),.fn 239 [] []] ⟨ρ,σ,[(0,.arr 268 5 (l.map bS) false)],1,nb⟩ K:=by
 refine im_ Tryz.func353 [] (g2_ ?_);refine g2_ ?_;refine bm (γ:=Nat) (fun i=>[(8,.d (.v (.int .i64 (i:Nat))))]) (fun _=>[]) (fun i=>[(0,.arr 268 5 ((aW cN (l.take i)++l.drop i).map bS) false)]) 1 (fun i=>1<=i/\(l.length<i->i=1)) (fun i=>l.length+1-i) 1 (aa [] ?_) ⟨by omega,by omega⟩ (fun i hi=>?_)
 ·have e:aW cN (l.take 1)++l.drop 1=l:=by
   cases l with
   |nil=>rfl
   |cons x r=>rfl
  refine gf_ e ?_
  first|rfl|exact⟨rfl,rfl⟩|trace_state
 obtain⟨hi1,hi2⟩:=hi;refine g2_ ?_
 by_cases hlt:i<l.length
 ·rw[decide_eq_true (show(i:Int)<(l.length:Int)by omega)]
  refine g2_ ?_;obtain⟨P,hP⟩: ∃P,P=aW cN (l.take i):=⟨_,rfl⟩;have hPl:P.length=i:=by rw[hP,ch,List.length_take];omega
  obtain⟨x,hx⟩: ∃x,x=l[i]:=⟨_,rfl⟩
  have hnext:du cN x P i<=i->b_ P x (du cN x P i)++l.drop (i+1)=aW cN (l.take (i+1))++l.drop (i+1):=by
   intro _;rw[p_ hlt, <-hP, <-hx,jZ,hPl]
  have h0:aW cN (l.take i)++l.drop i=b_ P x i++l.drop (i+1):=by
   rw[<-hP,hx];have:=sO P hlt hPl;rwa[hPl]at this
  rw[h0];generalize hD:l.drop (i+1)=rest at hnext
  have r1: ∀j,j<=i->((b_ P x j++rest).map bS)[j]? =some (bS x):=fun j hj=>by
   rw[List.getElem?_map,List.getElem?_append_left (by rw[cX];omega),sd (by omega)];rfl
  have r2: ∀j,(hj:j<i)->((b_ P x (j+1)++rest).map bS)[j]? =some (bS (P[j]'(by omega))):=fun j hj=>by
   rw[List.getElem?_map,List.getElem?_append_left (by rw[cX];omega),nZ (by omega)];rfl
  have r3: ∀j,((b_ P x j++rest).map bS).length=l.length:=fun j=>by
   rw[List.length_map,List.length_append,cX, <-hD,List.length_drop];omega
  have r4: ∀j,(hj:j<i)->((((b_ P x (j+1)++rest).map bS).set (j+1) (bS (P[j]'(by omega)))).set j (bS x))=(b_ P x j++rest).map bS:=fun j hj=>by
   rw[<-List.map_set, <-List.map_set,List.set_append_left _ _ (by rw[cX];omega),List.set_append_left _ _ (by rw[List.length_set,cX];omega),qG (by omega)]
  refine bm (γ:=Nat) (fun j=>[(9,.d (.v (.int .i64 (j:Nat))))]) (fun _=>[]) (fun j=>[(0,.arr 268 5 ((b_ P x j++rest).map bS) false)]) 1 (fun j=>j<=i/\du cN x P j=du cN x P i) (fun j=>j) i (aa [] ?_) ⟨Nat.le_refl _,rfl⟩ (fun j hj=>?_)
  ·repeat first|simp-implicitDefEqProofs only[go_sem,ab]|with_reducible refine gl_ ?_
   first|done|rfl|exact⟨rfl,rfl⟩
  obtain⟨hj1,hj2⟩:=hj;cases j with
  |zero=>
   rw[<-hj2]at hnext;refine g2_ ?_;refine .inl ⟨[oF 0,oF 1,oF 2,oF 3,oF 4,oF 5,oF 6,oF 9,oF 10,oF 7,oF 11,oF 8,oF 12,oF 13,oF 14,oF 15,oF 16],by kernel_rfl,g2_ ?_⟩
   rw[show decide ((0:Int)<0)=false from rfl]
   have hz:b_ P x 0++rest=aW cN (l.take (i+1))++l.drop (i+1):=by rw[hD];exact hnext (Nat.zero_le _)
   rw[hz];refine g2_ ?_;refine⟨i+1,aa [] ?_,⟨by omega,by omega⟩,by omega⟩
   refine g2_ ?_;rfl
  | succ j=>
   have hjP:j<P.length:=by omega
   have hcc:=alS x P[j];have q1:=r1 (j+1) hj1;have q2:=r2 j (by omega)
   have q3:=r3 (j+1);have q4:=r4 j (by omega)
   generalize q6:(b_ P x (j+1)++rest).map bS=R at q1 q2 q3 q4;have q5: ∀v,(R.set (j+1) v)[j]? =some (bS P[j]):=fun v=>by rw[List.getElem?_set_ne (by omega)];exact q2
   simp only[bS]at q1 q2 q4 q5;refine g2_ ?_;refine .inl ⟨[oF 0,oF 1,oF 2,oF 3,oF 4,oF 5,oF 6,oF 9,oF 10,oF 7,oF 11,oF 8,oF 12,oF 13,oF 14,oF 15,oF 16],by kernel_rfl,g2_ ?_⟩
   rw[show decide ((0:Int)<((j+1:Nat):Int))=true from decide_eq_true (by omega)]
   have e1:((j+1:Nat):Int)-1=(j:Nat):=by omega
   refine gi_ q1 q2 q3 e1 ?_;refine ce_ hcc (g2_ ?_)
   by_cases hc:yr x P[j]<0
   ·rw[decide_eq_true hc];have hs:du cN x P (j+1)=du cN x P j:=na hjP (decide_eq_true hc);refine g2_ ?_;refine .inl ⟨[oF 0,oF 1,oF 2,oF 3,oF 5,oF 6,oF 10,oF 11,oF 4,oF 7,oF 12,oF 8,oF 13,oF 9,oF 14,oF 15,oF 16,oF 17],by kernel_rfl,gf_ (c4_ q1 q2 q3 (c2_ q5 e1)) ?_⟩
    refine⟨j,aa [] ?_,⟨by omega,by omega⟩,by omega⟩
    rw[<-q4];exact ws_
   ·rw[decide_eq_false hc];have hs:du cN x P (j+1)=j+1:=mI hjP (decide_eq_false hc);rw[<-hj2,hs]at hnext;rw[<-q6,hnext hj1, <-hD];refine g2_ ?_;refine⟨i+1,aa [] ?_,⟨by omega,by omega⟩,by omega⟩
    refine g2_ ?_;rfl
 ·rw[decide_eq_false (show ¬(i:Int)<(l.length:Int)by omega)]
  have e:aW cN (l.take i)++l.drop i=aW cN l:=by
   by_cases h:l.length=0
   ·have:=List.eq_nil_of_length_eq_zero h;subst this;simp
   ·rw[List.take_of_length_le (by omega),List.drop_eq_nil_of_le (by omega),List.append_nil]
  rw[e];refine g2_ ?_;exact hk
theorem aod(l:List tU)(m:Int)(hl:l.length<=12){ρ σ nb K}(hk:K (.tup []) ⟨ρ,σ,[(0,.arr 268 5 ((aW cN l).map bS) false)],1,nb⟩):
  CallS Tryz.prog false 310 [.rf 0 0 l.length,.v (.int .i64 0),.v (.int .i64 l.length),.v (.int .i64 m),.fn 239 [] []] ⟨ρ,σ,[(0,.arr 268 5 (l.map bS) false)],1,nb⟩ K:=by
 refine im_ Tryz.func310 [] (g2_ ?_);refine g2_ ?_;refine bm (γ:=Unit) (fun _=>[]) (fun _=>[]) (fun _=>[(0,.arr 268 5 (l.map bS) false)]) 1 (fun _=>True) (fun _=>0) () (aa [] ws_) trivial (fun i hi=>?_)
 refine g2_ ?_;rw[show decide ((l.length:Int)-0<=12)=true from decide_eq_true (by omega)]
 refine g2_ ?_;refine anT l hl ?_;refine g2_ ?_;exact hk
theorem ak_(l:List tU)(hl:l.length<=12){ρ σ nb K}(hk:K (.tup []) ⟨ρ,σ,[(0,.arr 268 5 ((aW cN l).map bS) false)],1,nb⟩):
  CallS Tryz.prog false 238 [.rf 0 0 l.length,.fn 239 [] []] ⟨ρ,σ,[(0,.arr 268 5 (l.map bS) false)],1,nb⟩ K:=by
 refine im_ Tryz.func238 [] (g2_ ?_);refine g2_ ?_;refine i5 (by omega) ?_
 refine g2_ ?_;refine ce_ (zy l.length hl) (g2_ ?_);refine aod l _ hl ?_;refine g2_ ?_;exact hk
theorem anY(l:List GDesc)(hl:l.length<=12){L0:List (List DV)}{ρ σ nb K}(hk:K (.tup []) ⟨ρ,σ,[(1,.arr 34 4 ((aW cQ l).map ah) false),(0,.arr 268 5 L0 false)],2,nb⟩):
  CallS Tryz.prog false 362 [.rf 1 0 l.length,.v (.int .i64 0),.v (.int .i64 l.length),.fn 242 [] []] ⟨ρ,σ,[(1,.arr 34 4 (l.map ah) false),(0,.arr 268 5 L0 false)],2,nb⟩ K:=by
 refine im_ Tryz.func362 [] (g2_ ?_);refine g2_ ?_;refine bm (γ:=Nat) (fun i=>[(8,.d (.v (.int .i64 (i:Nat))))]) (fun _=>[]) (fun i=>[(1,.arr 34 4 ((aW cQ (l.take i)++l.drop i).map ah) false),(0,.arr 268 5 L0 false)]) 2 (fun i=>1<=i/\(l.length<i->i=1)) (fun i=>l.length+1-i) 1 (aa [] ?_) ⟨by omega,by omega⟩ (fun i hi=>?_)
 ·have e:aW cQ (l.take 1)++l.drop 1=l:=by
   cases l with
   |nil=>rfl
   |cons x r=>rfl
  refine gf_ e ?_
  first|rfl|exact⟨rfl,rfl⟩|trace_state
 obtain⟨hi1,hi2⟩:=hi;refine g2_ ?_
 by_cases hlt:i<l.length
 ·rw[decide_eq_true (show(i:Int)<(l.length:Int)by omega)]
  refine g2_ ?_;obtain⟨P,hP⟩: ∃P,P=aW cQ (l.take i):=⟨_,rfl⟩;have hPl:P.length=i:=by rw[hP,ch,List.length_take];omega
  obtain⟨x,hx⟩: ∃x,x=l[i]:=⟨_,rfl⟩
  have hnext:du cQ x P i<=i->b_ P x (du cQ x P i)++l.drop (i+1)=aW cQ (l.take (i+1))++l.drop (i+1):=by
   intro _;rw[p_ hlt, <-hP, <-hx,jZ,hPl]
  have h0:aW cQ (l.take i)++l.drop i=b_ P x i++l.drop (i+1):=by
   rw[<-hP,hx];have:=sO P hlt hPl;rwa[hPl]at this
  rw[h0];generalize hD:l.drop (i+1)=rest at hnext
  have r1: ∀j,j<=i->((b_ P x j++rest).map ah)[j]? =some (ah x):=fun j hj=>by
   rw[List.getElem?_map,List.getElem?_append_left (by rw[cX];omega),sd (by omega)];rfl
  have r2: ∀j,(hj:j<i)->((b_ P x (j+1)++rest).map ah)[j]? =some (ah (P[j]'(by omega))):=fun j hj=>by
   rw[List.getElem?_map,List.getElem?_append_left (by rw[cX];omega),nZ (by omega)];rfl
  have r3: ∀j,((b_ P x j++rest).map ah).length=l.length:=fun j=>by
   rw[List.length_map,List.length_append,cX, <-hD,List.length_drop];omega
  have r4: ∀j,(hj:j<i)->((((b_ P x (j+1)++rest).map ah).set (j+1) (ah (P[j]'(by omega)))).set j (ah x))=(b_ P x j++rest).map ah:=fun j hj=>by
   rw[<-List.map_set, <-List.map_set,List.set_append_left _ _ (by rw[cX];omega),List.set_append_left _ _ (by rw[List.length_set,cX];omega),qG (by omega)]
  refine bm (γ:=Nat) (fun j=>[(9,.d (.v (.int .i64 (j:Nat))))]) (fun _=>[]) (fun j=>[(1,.arr 34 4 ((b_ P x j++rest).map ah) false),(0,.arr 268 5 L0 false)]) 2 (fun j=>j<=i/\du cQ x P j=du cQ x P i) (fun j=>j) i (aa [] ?_) ⟨Nat.le_refl _,rfl⟩ (fun j hj=>?_)
  ·repeat first|simp-implicitDefEqProofs only[go_sem,ab]|with_reducible refine gl_ ?_
   first|done|rfl|exact⟨rfl,rfl⟩
  obtain⟨hj1,hj2⟩:=hj;cases j with
  |zero=>
   rw[<-hj2]at hnext;refine g2_ ?_;refine .inl ⟨[oF 0,oF 1,oF 2,oF 3,oF 4,oF 5,oF 6,oF 9,oF 10,oF 7,oF 11,oF 8,oF 12,oF 13,oF 14,oF 15,oF 16],by kernel_rfl,g2_ ?_⟩
   rw[show decide ((0:Int)<0)=false from rfl]
   have hz:b_ P x 0++rest=aW cQ (l.take (i+1))++l.drop (i+1):=by rw[hD];exact hnext (Nat.zero_le _)
   rw[hz];refine g2_ ?_;refine⟨i+1,aa [] ?_,⟨by omega,by omega⟩,by omega⟩
   refine gx_ ?_;rfl
  | succ j=>
   have hjP:j<P.length:=by omega
   have hcc:=aiW x P[j];have q1:=r1 (j+1) hj1;have q2:=r2 j (by omega)
   have q3:=r3 (j+1);have q4:=r4 j (by omega)
   generalize q6:(b_ P x (j+1)++rest).map ah=R at q1 q2 q3 q4;have q5: ∀v,(R.set (j+1) v)[j]? =some (ah P[j]):=fun v=>by rw[List.getElem?_set_ne (by omega)];exact q2
   simp only[ah]at q1 q2 q4 q5;refine g2_ ?_;refine .inl ⟨[oF 0,oF 1,oF 2,oF 3,oF 4,oF 5,oF 6,oF 9,oF 10,oF 7,oF 11,oF 8,oF 12,oF 13,oF 14,oF 15,oF 16],by kernel_rfl,g2_ ?_⟩
   rw[show decide ((0:Int)<((j+1:Nat):Int))=true from decide_eq_true (by omega)]
   have e1:((j+1:Nat):Int)-1=(j:Nat):=by omega
   refine gi_ q1 q2 q3 e1 ?_;refine ce_ hcc (g2_ ?_)
   by_cases hc:apn x P[j]<0
   ·rw[decide_eq_true hc];have hs:du cQ x P (j+1)=du cQ x P j:=na hjP (decide_eq_true hc);refine g2_ ?_;refine .inl ⟨[oF 0,oF 1,oF 2,oF 3,oF 5,oF 6,oF 10,oF 11,oF 4,oF 7,oF 12,oF 8,oF 13,oF 9,oF 14,oF 15,oF 16,oF 17],by kernel_rfl,gf_ (c4_ q1 q2 q3 (c2_ q5 e1)) ?_⟩
    refine⟨j,aa [] ?_,⟨by omega,by omega⟩,by omega⟩
    rw[<-q4];exact ws_
   ·rw[decide_eq_false hc];have hs:du cQ x P (j+1)=j+1:=mI hjP (decide_eq_false hc);rw[<-hj2,hs]at hnext;rw[<-q6,hnext hj1, <-hD];refine g2_ ?_;refine⟨i+1,aa [] ?_,⟨by omega,by omega⟩,by omega⟩
    refine g2_ ?_;rfl
 ·rw[decide_eq_false (show ¬(i:Int)<(l.length:Int)by omega)]
  have e:aW cQ (l.take i)++l.drop i=aW cQ l:=by
   by_cases h:l.length=0
   ·have:=List.eq_nil_of_length_eq_zero h;subst this;simp
   ·rw[List.take_of_length_le (by omega),List.drop_eq_nil_of_le (by omega),List.append_nil]
  rw[e];refine g2_ ?_;exact hk
theorem an1(l:List GDesc)(m:Int)(hl:l.length<=12){L0:List (List DV)}{ρ σ nb K}(hk:K (.tup []) ⟨ρ,σ,[(1,.arr 34 4 ((aW cQ l).map ah) false),(0,.arr 268 5 L0 false)],2,nb⟩):
  CallS Tryz.prog false 313 [.rf 1 0 l.length,.v (.int .i64 0),.v (.int .i64 l.length),.v (.int .i64 m),.fn 242 [] []] ⟨ρ,σ,[(1,.arr 34 4 (l.map ah) false),(0,.arr 268 5 L0 false)],2,nb⟩ K:=by
 refine im_ Tryz.func313 [] (g2_ ?_);refine g2_ ?_;refine bm (γ:=Unit) (fun _=>[]) (fun _=>[]) (fun _=>[(1,.arr 34 4 (l.map ah) false),(0,.arr 268 5 L0 false)]) 2 (fun _=>True) (fun _=>0) () (aa [] ws_) trivial (fun i hi=>?_)
 refine g2_ ?_;rw[show decide ((l.length:Int)-0<=12)=true from decide_eq_true (by omega)]
 refine g2_ ?_;refine anY l hl ?_;refine g2_ ?_;exact hk
theorem aiQ(l:List GDesc)(hl:l.length<=12){L0:List (List DV)}{ρ σ nb K}(hk:K (.tup []) ⟨ρ,σ,[(1,.arr 34 4 ((aW cQ l).map ah) false),(0,.arr 268 5 L0 false)],2,nb⟩):
  CallS Tryz.prog false 241 [.rf 1 0 l.length,.fn 242 [] []] ⟨ρ,σ,[(1,.arr 34 4 (l.map ah) false),(0,.arr 268 5 L0 false)],2,nb⟩ K:=by
 refine im_ Tryz.func241 [] (g2_ ?_);refine g2_ ?_;refine i5 (by omega) ?_
 refine g2_ ?_;refine ce_ (zy l.length hl) (g2_ ?_);refine an1 l _ hl ?_;refine g2_ ?_;exact hk
end Go.Proofs.YtmhmahcdanclnaaGreat.V
namespace Go.Proofs.YtmhmahcdanclnaaGreat.V
open Go.Eng
attribute [local go_sem] aS ah fzD plR a_ z8 z16 z32 z64 c00
theorem o_(own:List GSpan)(l:List GDesc)(k:Nat):(fScored own (l.take k)).length<=l.length:=by
 refine Nat.le_trans (List.length_filter_le _ _) ?_;rw[List.length_map,List.length_take];omega
theorem wE{own:List GSpan}{l:List GDesc}{k:Nat}(h:k<l.length):fScored own (l.take (k+1))=fScored own (l.take k)++(if 0<t7 own l[k].filter then [⟨l[k],t7 own l[k].filter⟩]else []):=by grind [fScored,List.take_add_one,List.getElem?_eq_getElem,t7]
theorem o8(own:List GSpan)(self:UInt8)(room:Int)(L:List (List GDesc))(hL:L.length<=4000000)(hl: ∀l∈L,cf l)(h1:own.length<=4000000)(h2: ∀s∈own,okS s)(hok: ∀d∈bY self L,d.filter.length<=4000000/\ ∀s∈d.filter,okS s)(h12:(bY self L).length<=12):
  Con2 Tryz.prog 151 [fzS own,.v (.int .u8 self.toNat),.v (.int .i64 room),.fz 1 (ma L)] (· =plR (fzD (cU own self room L))):=by
 refine Con2.ofEmb ?_;have hu:=uJ self L hL hl;unfold cU;generalize bY self L=known at hu hok h12;refine en_ Tryz.func151 [.tmp 8] (g2_ ?_);refine g2_ ?_
 by_cases hr:room<1
 ·rw[decide_eq_true hr,if_pos hr];refine g2_ ?_;refine ae ?_ rfl;exact wx_
 rw[decide_eq_false hr,if_neg hr];refine g2_ ?_;refine ce_ hu (g2_ ?_);refine aq known.length (fun k=>[(9,.d (.rf 0 0 (fScored own (known.take k)).length))]) (fun _=>[]) (fun k=>[(0,.arr 268 5 ((fScored own (known.take k)).map bS) false)]) 1 (fun _=>True) (aa [(0,.nil 5)] ?_) trivial (fun g k=>ws_) (by omega) (fun g=>ws_) (fun k hk _=>?_) (fun _=>?_)
 ·exact v1_ (c4_ @List.take_zero.{0} @fScored.eq_1 @List.filter_nil.{0} @List.map_nil.{0,0})
  first|rfl|exact⟨rfl,rfl⟩|trace_state
 ·have hsl:=o_ own known k;have hsn:=wE (own:=own) hk;have hd:=hok _ (List.getElem_mem hk);have hov:=aeU own known[k].filter (by omega) (by omega) h2 hd.2
  refine gf_ (mE_ hk) ?_;generalize known[k]=d at hsn hov;refine ce_ hov (g2_ ?_)
  by_cases h3:(0:Int)<(t7 own d.filter:Int)
  ·rw[decide_eq_true h3];rw[if_pos (by omega)]at hsn
   refine gx_ ?_;refine⟨k+1,aa [(0,.to 2)] ?_,rfl⟩;refine u1_ (c2_ hsn @List.length_append.{0}) ?_;rw[List.map_append];rfl
  ·rw[decide_eq_false h3];rw[if_neg (by omega),List.append_nil]at hsn
   refine gx_ ?_;refine⟨k+1,aa [(0,.to 0)] ?_,rfl⟩;exact y1_ hsn
 ·have he:known.take known.length=known:=List.take_of_length_le (by omega)
  have hsl:=o_ own known known.length;rw[he]at hsl ⊢;generalize fScored own known=S at hsl;refine g2_ ?_;refine ak_ S (by omega) ?_
  refine g2_ ?_;obtain⟨T,hT⟩: ∃T,T=aW cN S:=⟨_,rfl⟩;have hTl:T.length=S.length:=by rw[hT,ch]
  rw[<-hT];obtain⟨m,hm⟩: ∃m:Nat,m=min room.toNat T.length:=⟨_,rfl⟩;have hmi:(if (S.length:Int)<room then (S.length:Int)else room)=(m:Int):=by split<;>omega
  have htk:T.take room.toNat=T.take m:=by
   by_cases h:room.toNat<=T.length
   ·rw[show m=room.toNat by omega]
   ·rw[List.take_of_length_le (by omega),List.take_of_length_le (by omega)]
  rw[htk,hmi];refine aq m (fun k=>[(13,.d (.rf 1 0 ((T.take k).map (·.d)).length))]) (fun _=>[]) (fun k=>[(1,.arr 34 4 (((T.take k).map (·.d)).map ah) false),(0,.arr 268 5 (T.map bS) false)]) 2 (fun _=>True) (aa [(1,.nil 4),(0,.to 0)] ?_) trivial (fun g k=>ws_) (by omega) (fun g=>ws_) (fun k hk _=>?_) (fun _=>?_)
  ·repeat first|simp-implicitDefEqProofs only[go_sem,ab,List.take_zero,List.map_nil]|with_reducible refine gl_ ?_
   first|done|rfl|exact⟨rfl,rfl⟩
  ·have hkT:k<T.length:=by omega
   have hg:(T.map bS)[k]? =some (bS T[k]):=by rw[List.getElem?_map,List.getElem?_eq_getElem hkT];rfl
   have hsn:(T.take (k+1)).map (·.d)=(T.take k).map (·.d)++[T[k].d]:=by
    rw[List.take_add_one,List.getElem?_eq_getElem hkT,List.map_append];rfl
   have hcl:((T.take k).map (·.d)).length<=12:=by rw[List.length_map,List.length_take];omega
   generalize (T.take k).map (·.d)=C at hsn hcl
   simp only[bS]at hg;refine gg_ hg hTl ?_;refine⟨k+1,aa [(1,.to 3),(0,.to 0)] ?_,rfl⟩;have hsl2:(T.take (k+1)).length=C.length+1:=by have:=congrArg List.length hsn;rw[List.length_map,List.length_append]at this;exact this
   refine u1_ (c2_ hsn @List.length_append.{0}) ?_;rw[List.map_append];exact⟨hsl2,rfl⟩
  ·have hcl:((T.take m).map (·.d)).length<=12:=by rw[List.length_map,List.length_take];omega
   generalize (T.take m).map (·.d)=C at hcl
   refine g2_ ?_;refine aiQ C hcl ?_;refine g2_ ?_;refine ae ?_ rfl;refine gf_ @ch ?_;rw[List.take_of_length_le (by rw[List.length_map,ch];exact Nat.le_refl _)]
attribute[local go_sem] ba
theorem jr{far:UInt16->UInt16->UInt16}{here:UInt16}{dom:List GSpan}{l:List GDesc}(h:l≠[]): ∀k,(gq far here dom l k).1<l.length
 |0=>by cases l with
  |nil=>exact absurd rfl h
  |cons x r=>exact Nat.zero_lt_succ _
 | k+1=>by
  unfold gq;cases h2:l[k]? with
  |none=>exact jr h k
  |some d=>
   simp only;split
   ·exact(List.getElem?_eq_some_iff.1 h2).1
   ·exact jr h k
theorem abB{far:UInt16->UInt16->UInt16}{here:UInt16}{dom:List GSpan}{l:List GDesc}{k:Nat}(h:k<l.length):gq far here dom l (k+1)=if far here (fx dom l[k])<(gq far here dom l k).2 then (k,far here (fx dom l[k]))else gq far here dom l k:=by
 rw[gq,List.getElem?_eq_getElem h]
theorem pU(clo:FuncId)(far:UInt16->UInt16->UInt16)(hfar: ∀a b:UInt16,Con2 Tryz.prog clo [.v (.int .u16 a.toNat),.v (.int .u16 b.toNat)] (· =plR (.v (.int .u16 (far a b).toNat))))(dom:List GSpan)(here:UInt16)(known:List GDesc)(hne:known≠[])(hmax:known.length<=100000)
  (h4:dom.length<=4) (hd: ∀s∈dom,okS s) (hok: ∀d∈known,d.filter.length<=4000000/\ ∀s∈d.filter,okS s) {ρ σ nb K}
  (hk:K (.agg (ah (dm far here dom known))) ⟨ρ,σ,[(2,.var 32 [fzD known]),(1,.var 23 [fzS dom]),(0,.var 30 [.v (.int .u16 here.toNat)])],3,nb⟩):
  CallS Tryz.prog false 245 [.fn clo [] [],.pt 0 0,.pt 1 0,.pt 2 0] ⟨ρ,σ,[(2,.var 32 [fzD known]),(1,.var 23 [fzS dom]),(0,.var 30 [.v (.int .u16 here.toNat)])],3,nb⟩ K:=by
 obtain⟨d0,hd0⟩: ∃d0,known[0]? =some d0:=⟨known[0]'(by cases known;exact absurd rfl hne;simp),List.getElem?_eq_getElem _⟩
 have hlen:0<known.length:=by cases known;exact absurd rfl hne;simp
 have hh:known.headD zDesc=d0:=by cases known with
  |nil=>exact absurd rfl hne
  |cons x r=>simpa using hd0
 have hm0:d0∈known:=List.mem_of_getElem? hd0;have hp0:=mM dom d0 h4 (by have:=(hok d0 hm0).1;omega) hd (hok d0 hm0).2
 have hg0:(known.map ah)[0]? =some (ah d0):=by rw[List.getElem?_map,hd0];rfl
 have hf0:=hfar here (fx dom d0);simp only[ah]at hg0;have ek0:gq far here dom known 0=(0,far here (fx dom d0)):=by rw[gq,hh]
 refine im_ Tryz.func245 [.cell 5 34] (g2_ ?_);refine g2_ ?_;refine .inl ⟨[oF 0,oF 1,oF 2,oF 3,oF 4,oF 5,oT 6,oF 7,oF 8],by kernel_rfl,gf_ hg0 ?_⟩
 refine ce_ hp0 (g2_ ?_);refine ce_ hf0 (g2_ ?_);refine aq known.length (fun k=>[(6,.d (.v (.int .i64 (gq far here dom known k).1))),(7,.d (.v (.int .u16 (gq far here dom known k).2.toNat)))]) (fun _=>[]) (fun k=>[(2,.var 32 [fzD known]),(1,.var 23 [fzS dom]),(0,.var 30 [.v (.int .u16 here.toNat)])]) 3 (fun _=>True) (aa [] ?_) trivial (fun g k=>ws_) (by omega) (fun g=>ws_) (fun k hk2 _=>?_) (fun _=>?_)
 ·repeat first|simp-implicitDefEqProofs only[go_sem,ab,ek0]|with_reducible refine gl_ ?_
  first|done|rfl|exact⟨rfl,rfl⟩
 ·have hmk:=hok _ (List.getElem_mem hk2);have hpk:=mM dom known[k] h4 (by have:=hmk.1;omega) hd hmk.2
  have hfk:=hfar here (fx dom known[k]);have hsu:=abB (far:=far) (here:=here) (dom:=dom) hk2;have hlt1:=jr (far:=far) (here:=here) (dom:=dom) hne k;refine gf_ (mE_ hk2) ?_;refine .inl ⟨[oF 0,oF 1,oF 2,oF 3,oT 4,oF 5,oF 6],by kernel_rfl,g2_ ?_⟩
  refine ce_ hpk (g2_ ?_);refine ce_ hfk (g2_ ?_)
  by_cases hc:((far here (fx dom known[k])).toNat:Int)<((gq far here dom known k).2.toNat:Int)
  ·rw[decide_eq_true hc];rw[if_pos ((fQ _ _).1 hc)]at hsu;refine g2_ ?_;refine⟨k+1,aa [] ?_,rfl⟩;exact wf_ hsu
  ·rw[decide_eq_false hc];rw[if_neg (fun h=>hc ((fQ _ _).2 h))]at hsu
   refine g2_ ?_;refine⟨k+1,aa [] ?_,rfl⟩;exact wf_ hsu
 ·have hb:=jr (far:=far) (here:=here) (dom:=dom) hne known.length
  have hgb:(known.map ah)[(gq far here dom known known.length).1]? =some (ah (dm far here dom known)):=by
   rw[List.getElem?_map,dm,List.getD_eq_getElem?_getD,List.getElem?_eq_getElem hb];rfl
  have hmb:dm far here dom known∈known:=by
   rw[dm,List.getD_eq_getElem?_getD,List.getElem?_eq_getElem hb];exact List.getElem_mem hb
  have hone:=aiL (dm far here dom known) (hok _ hmb).1;generalize dm far here dom known=X at hgb hone hk;generalize (gq far here dom known known.length).1=B at hgb hb;simp only[ah]at hgb;refine gf_ hgb ?_;refine ce_ hone (g2_ ?_);exact hk
theorem alF(a b:UInt16):Con2 Tryz.prog 247 [.v (.int .u16 a.toNat),.v (.int .u16 b.toNat)] (· =plR (.v (.int .u16 (b-a).toNat))):=by
 refine en_ Tryz.func247 [.tmp 4] (g2_ ?_);refine g2_ ?_;refine ce_ (yi a b) (g2_ ?_);exact⟨_,rfl,aa [] ws_⟩
theorem akA(a b:UInt16):Con2 Tryz.prog 249 [.v (.int .u16 a.toNat),.v (.int .u16 b.toNat)] (· =plR (.v (.int .u16 (a-b).toNat))):=by
 refine en_ Tryz.func249 [.tmp 4] (g2_ ?_);refine g2_ ?_;refine ce_ (yi b a) (g2_ ?_);exact⟨_,rfl,aa [] ws_⟩
theorem pP(dom:List GSpan)(self:GDesc)(L:List (List GDesc))(hL:L.length<=4000000)(hl: ∀l∈L,cf l)(h4:dom.length<=4)(hd: ∀s∈dom,okS s)(hs:self.filter.length<=4000000)(hss: ∀s∈self.filter,okS s)(hok: ∀d∈bY self.node L,d.filter.length<=4000000/\ ∀s∈d.filter,okS s)(hlm:(bY self.node L).length<=100000):
  Con2 Tryz.prog 152 [fzS dom,.agg (ah self),.fz 1 (ma L)] (· =plR (.agg (ba (dD dom self L)))):=by
 refine Con2.ofEmb ?_;have hu:=uJ self.node L hL hl;have hp:=mM dom self h4 (by omega) hd hss
 unfold dD;generalize bY self.node L=known at hu hok hlm;refine en_ Tryz.func152 [.cell 6 36] (g2_ ?_);refine g2_ ?_;refine ce_ hu (g2_ ?_);refine kK (fun h=>?_) (fun h=>?_)
 ·have e:known=[]:=List.eq_nil_of_length_eq_zero (by omega)
  rw[if_pos e];refine g2_ ?_;refine ae ?_ rfl;exact wf_ @zDesc.eq_1
 ·have e:known≠[]:=fun e=>h (by rw[e];rfl)
  rw[if_neg e];refine g2_ ?_;refine ce_ hp (g2_ ?_);refine pU 247 (fun h t=>t-h) alF dom _ known e hlm h4 hd hok ?_
  refine g2_ ?_;refine pU 249 (fun h t=>h-t) akA dom _ known e hlm h4 hd hok ?_
  refine g2_ ?_;refine ae ?_ rfl;exact ws_
end Go.Proofs.YtmhmahcdanclnaaGreat.V
namespace Go.Eng
def okF(d:GDesc):Prop:=d.filter.length<=4000000/\ ∀s∈d.filter,okS s
theorem uX:okF zDesc:=⟨Nat.zero_le _,fun s h=>by cases h⟩
theorem alv{self:UInt8}{P:GDesc->Prop}{l:List GDesc}{d:GDesc}(hl: ∀i e,l[i]? =some e->e.inc=0\/(e.node.toNat=i/\P e))(hd:P d): ∀i e,(jU self l d)[i]? =some e->e.inc=0\/(e.node.toNat=i/\P e):=by grind [jU]
theorem nS{self:UInt8}{P:GDesc->Prop}: ∀{ds l:List GDesc},(∀i e,l[i]? =some e->e.inc=0\/(e.node.toNat=i/\P e))->(∀d∈ds,P d)-> ∀i e,(fK self l ds)[i]? =some e->e.inc=0\/(e.node.toNat=i/\P e)
 |[],l,hl,_=>hl
 |d::r,l,hl,hd=>by
  show ∀i e,(fK self (jU self l d) r)[i]? =some e->_;exact nS (alv hl (hd d List.mem_cons_self)) fun x hx=>hd x (List.mem_cons_of_mem _ hx)
theorem ajy{P:GDesc->Prop}(i:Nat)(e:GDesc)(h:zL[i]? =some e):e.inc=0\/(e.node.toNat=i/\P e):=by
 unfold zL at h;rw[List.getElem?_replicate]at h;split at h
 ·cases h;exact .inl rfl
 ·cases h
theorem iE{self:UInt8}{L:List (List GDesc)}{d:GDesc}(h:d∈bY self L): ∃l∈L,d∈l:=by
 obtain⟨h1,h2⟩:=List.mem_filter.1 h;obtain⟨i,hi,hd⟩:=List.mem_iff_getElem.1 h1;rcases nS (P:=fun d=>d∈L.flatten) ajy (fun d hd=>hd) i d (by rw[List.getElem?_eq_getElem hi,hd])with h3|h3
 ·rw[h3]at h2;simp at h2
 ·exact List.mem_flatten.1 h3.2
theorem mi{α:Type}{f:α->Bool}: ∀{l:List α},(∀x∈l,f x=false)->l.filter f=[]
 |[],_=>rfl
 |x::r,h=>by rw[List.filter_cons,h x List.mem_cons_self];exact mi fun y hy=>h y (List.mem_cons_of_mem _ hy)
theorem abE{self:UInt8}{L:List (List GDesc)}{n:Nat}(h: ∀l∈L, ∀d∈l,d.node.toNat<n):(bY self L).length<=n:=by
 unfold bY;have key:=nS (self:=self) (P:=fun d=>d.node.toNat<n) ajy (ds:=L.flatten) (fun d hd=>by obtain⟨l,h1,h2⟩:=List.mem_flatten.1 hd;exact h l h1 d h2)
 generalize fK self zL L.flatten=A at key;rw[<-List.take_append_drop n A,List.filter_append,List.length_append];have h1:=List.length_filter_le (fun d:GDesc=>decide ((0:Int)<(d.inc.toNat:Int))) (A.take n)
 have h2:(A.drop n).filter (fun d:GDesc=>decide ((0:Int)<(d.inc.toNat:Int)))=[]:=mi fun x hx=>by
  obtain⟨i,hi,hd⟩:=List.mem_iff_getElem.1 hx;have h3:A[n+i]? =some x:=by rw[<-List.getElem?_drop,List.getElem?_eq_getElem hi,hd]
  rcases key _ _ h3 with h4|h4
  ·rw[h4];rfl
  ·omega
 rw[h2];rw[List.length_take]at h1;simp only[List.length_nil];omega
end Go.Eng
namespace Go.Proofs.YtmhmahcdanclnaaGreat.V
open Go.Eng
theorem ou{own:List GSpan}{self:UInt8}{room:Int}{L:List (List GDesc)}{d:GDesc}(h:d∈cU own self room L):d∈bY self L:=by
 unfold cU at h;split at h
 ·cases h
 ·rcases fT h with h|h
  ·obtain⟨x,hx,rfl⟩:=List.mem_map.1 h;rcases fT (List.mem_of_mem_take hx)with h|h
   ·obtain⟨h,_⟩:=List.mem_filter.1 h;obtain⟨y,hy,rfl⟩:=List.mem_map.1 h;exact hy
   ·cases h
  ·cases h
theorem u_{own:List GSpan}{self:UInt8}{room:Int}{L:List (List GDesc)}:(cU own self room L).length<=(bY self L).length:=by grind [ch,List.length_map,List.length_take,cU,fScored]
theorem qA{p:af}{d:GDesc}(h:cq p d=true):d.node.toNat<p.table.length:=by grind [cq]
theorem lO{r:eE}{d:GDesc}(h:d∈aX r):(r.hs=true/\d=r.succ)\/(r.hp=true/\d=r.pred):=by grind [aX,gy]
theorem fk(r:eE):(aX r).length<=2:=by
 unfold aX gy
 repeat' split
 all_goals simp
def bC(p:af)(r:eE):eE:=⟨r.hs&&cq p r.succ,r.hp&&cq p r.pred,if r.hs&& !cq p r.succ then zDesc else r.succ,if r.hp&& !cq p r.pred then zDesc else r.pred⟩
def aD(c:ao)(p:af)(l:List GDesc):af:=
 let v:=pCur p p.view
 let b:=aX (bC p p.ring)
 let m:=pUse c p l
 let n:=cU p.filter p.node c.near [v,pCur p p.near,b,m]
 { p with view:=v,near:=n,ring:=dD c.schema (pSelf p) [v,n,b,m] }
structure okG(p:af):Prop where
 ok:okP p
 filter: ∀s∈p.filter,okS s
 view: ∀d∈p.view,okF d
 near: ∀d∈p.near,okF d
 succ:okF p.ring.succ
 pred:okF p.ring.pred
 table:p.table.length<=12
structure okM(n:Nat)(L:List (List GDesc)):Prop where
 ds: ∀l∈L,cf l
 f: ∀l∈L, ∀d∈l,okF d
 lt: ∀l∈L, ∀d∈l,d.node.toNat<n
theorem okM.u{n:Nat}{L:List (List GDesc)}(h:okM n L)(self:UInt8):(∀d∈bY self L,d.filter.length<=4000000/\ ∀s∈d.filter,okS s)/\(bY self L).length<=n:=
 ⟨fun d hd=>by obtain⟨l,h1,h2⟩:=iE hd;exact h.f l h1 d h2,abE h.lt⟩
theorem bQ{p:af}{l:List GDesc}(h:cf l):cf (pCur p l):=fm h
theorem qq{c:ao}{p:af}{l:List GDesc}(hp:okG p)(hl:cf l)(hl2: ∀d∈l,okF d):okM 12 [pCur p p.view,pCur p p.near,aX (bC p p.ring),pUse c p l]/\
  ∀room,okM 12 [pCur p p.view,cU p.filter p.node room [pCur p p.view,pCur p p.near,aX (bC p p.ring),pUse c p l],aX (bC p p.ring),pUse c p l]:=by
 have ht:=hp.table
 have a: ∀l,(∀d∈l,okF d)-> ∀d∈pCur p l,okF d/\d.node.toNat<12:=fun l hl d hd=>by
  obtain⟨h1,h2⟩:=List.mem_filter.1 hd;have:=qA h2;exact⟨hl d h1,by omega⟩
 have b: ∀d∈aX (bC p p.ring),okF d/\d.node.toNat<12:=fun d hd=>by
  rcases lO hd with ⟨h1,rfl⟩|⟨h1,rfl⟩
  ·have h2:p.ring.hs=true/\cq p p.ring.succ=true:=by simpa[bC]using h1
   have e:(bC p p.ring).succ=p.ring.succ:=by simp[bC,h2.2]
   have:=qA h2.2;rw[e];exact⟨hp.succ,by omega⟩
  ·have h2:p.ring.hp=true/\cq p p.ring.pred=true:=by simpa[bC]using h1
   have e:(bC p p.ring).pred=p.ring.pred:=by simp[bC,h2.2]
   have:=qA h2.2;rw[e];exact⟨hp.pred,by omega⟩
 have hb:cf (aX (bC p p.ring)):=⟨by have:=fk (bC p p.ring);omega,fun d hd=>(b d hd).1.1⟩
 have hf: ∀d∈pFine c l,okF d:=fun d hd=>hl2 d (List.mem_filter.1 hd).1
 have m1:okM 12 [pCur p p.view,pCur p p.near,aX (bC p p.ring),pUse c p l]:=by
  refine⟨fun l' h=>?_,fun l' h d hd=>?_,fun l' h d hd=>?_⟩
  ·simp at h;rcases h with rfl|rfl|rfl|rfl
   ·exact bQ hp.ok.view
   ·exact bQ hp.ok.near
   ·exact hb
   ·exact fm (fm hl)
  ·simp at h;rcases h with rfl|rfl|rfl|rfl
   ·exact(a _ hp.view d hd).1
   ·exact(a _ hp.near d hd).1
   ·exact(b d hd).1
   ·exact(a _ hf d hd).1
  ·simp at h;rcases h with rfl|rfl|rfl|rfl
   ·exact(a _ hp.view d hd).2
   ·exact(a _ hp.near d hd).2
   ·exact(b d hd).2
   ·exact(a _ hf d hd).2
 refine⟨m1,fun room=>?_⟩
 have hn: ∀d∈cU p.filter p.node room [pCur p p.view,pCur p p.near,aX (bC p p.ring),pUse c p l],okF d/\d.node.toNat<12:=fun d hd=>by
  obtain⟨l',h1,h2⟩:=iE (ou hd);exact⟨m1.f l' h1 d h2,m1.lt l' h1 d h2⟩
 have hn2:cf (cU p.filter p.node room [pCur p p.view,pCur p p.near,aX (bC p p.ring),pUse c p l]):=
  ⟨Nat.le_trans u_ (Nat.le_trans (m1.u p.node).2 (by omega)),fun d hd=>(hn d hd).1.1⟩
 generalize cU p.filter p.node room [pCur p p.view,pCur p p.near,aX (bC p p.ring),pUse c p l]=N at hn hn2;refine⟨fun l' h=>?_,fun l' h d hd=>?_,fun l' h d hd=>?_⟩
 ·simp at h;rcases h with rfl|rfl|rfl|rfl
  ·exact bQ hp.ok.view
  ·exact hn2
  ·exact hb
  ·exact fm (fm hl)
 ·simp at h;rcases h with rfl|rfl|rfl|rfl
  ·exact(a _ hp.view d hd).1
  ·exact(hn d hd).1
  ·exact(b d hd).1
  ·exact(a _ hf d hd).1
 ·simp at h;rcases h with rfl|rfl|rfl|rfl
  ·exact(a _ hp.view d hd).2
  ·exact(hn d hd).2
  ·exact(b d hd).2
  ·exact(a _ hf d hd).2
end Go.Proofs.YtmhmahcdanclnaaGreat.V
namespace Go.Eng
theorem gb{p:af}(h:okP p){v n:List GDesc}{r:eE}(hv:cf v)(hn:cf n)(h1:r.succ.filter.length<=4000000)(h2:r.pred.filter.length<=4000000):okP { p with view:=v,near:=n,ring:=r }:=
 ⟨h.filter,hv,hn,h1,h2,h.sent,h.table,h.heard,h.rows,h.reports,h.evs,h.pulls⟩
end Go.Eng
namespace Go.Proofs.YtmhmahcdanclnaaGreat.V
open Go.Eng
attribute [local go_sem] zDesc aS ah fzD plR a_ aO aQ aA aC ak aB aT z8 z16 z32 z64 encMg ba bP ma List.map_cons List.map_nil
def zPc:List DV:=[.v (.int .u8 0),.v (.int .u16 0),.v (.bool false),.v (.slice none 0 0),.v (.slice none 0 0),.v (.slice none 0 0),.v (.bool false),.v (.bool false),.v (.int .u8 0),.v (.int .u16 0),.v (.int .u8 0),.v (.slice none 0 0),.v (.int .u8 0),.v (.int .u16 0),.v (.int .u8 0),.v (.slice none 0 0),.v (.bool false),.v (.int .u8 0),.v (.int .u8 0),.v (.slice none 0 0),.v (.slice none 0 0),.v (.int .u32 0),.v (.slice none 0 0),.v (.int .u32 0),.v (.slice none 0 0),.v (.slice none 0 0),.v (.int .i64 0),.v (.slice none 0 0),.v (.slice none 0 0),.v (.int .i64 0),.v (.int .i64 0),.v (.int .i64 0)]
set_option maxHeartbeats 4000000 in
theorem ct (c:ao) (p:af) (l:List GDesc) (hc:c.schema.length<=4) (hcs: ∀s∈c.schema,okS s) (hp:okG p) (hl:cf l) (hl2: ∀d∈l,okF d):
  Con2 Tryz.prog 79 [.agg (aC c),.agg (ak p),fzD l] (· =plR (.agg (ak (aD c p l)))):=by
 refine Con2.ofEmb ?_
 obtain⟨m1,m2⟩:=qq (c:=c) hp hl hl2
 have m2:=m2 c.near
 have u1:=m1.u p.node
 have u2:=m2.u p.node
 have hk:=hp.ok
 have k1:Con2 Tryz.prog 147 [.agg (ak p),fzD p.view] (· =plR (fzD (pCur p p.view))):=aaK p p.view hk hk.view
 have k2:Con2 Tryz.prog 147 [.agg (ak { p with view:=pCur p p.view }),fzD p.near] (· =plR (fzD (pCur p p.near))):=aaK { p with view:=pCur p p.view } p.near (gb hk (bQ hk.view) hk.near hk.succ hk.pred) hk.near
 have k3:Con2 Tryz.prog 148 [.agg (ak { p with view:=pCur p p.view,near:=pCur p p.near }),.agg (ah p.ring.succ)] (· =plR (.v (.bool (cq p p.ring.succ)))):=wc _ _ (gb hk (bQ hk.view) (bQ hk.near) hk.succ hk.pred)
 have k4: ∀hs su,su.filter.length<=4000000->Con2 Tryz.prog 148 [.agg (ak { p with view:=pCur p p.view,near:=pCur p p.near,ring:=⟨hs,p.ring.hp,su,p.ring.pred⟩ }),.agg (ah p.ring.pred)] (· =plR (.v (.bool (cq p p.ring.pred)))):=fun hs su h=>
  wc _ _ (gb (r:=⟨hs,p.ring.hp,su,p.ring.pred⟩) hk (bQ hk.view) (bQ hk.near) h hk.pred)
 have hsf:(bC p p.ring).succ.filter.length<=4000000:=by
  simp only[bC];split
  ·exact Nat.zero_le _
  ·exact hk.succ
 have hpf:(bC p p.ring).pred.filter.length<=4000000:=by
  simp only[bC];split
  ·exact Nat.zero_le _
  ·exact hk.pred
 have k5:=gO (bC p p.ring) hsf hpf
 have k6:Con2 Tryz.prog 150 [.agg (aC c),.agg (ak { p with view:=pCur p p.view,near:=pCur p p.near,ring:=bC p p.ring }),fzD l] (· =plR (fzD (pUse c p l))):=ob c _ l (by omega) (gb hk (bQ hk.view) (bQ hk.near) hsf hpf) hl
 have k7:=o8 p.filter p.node c.near _ (by simp) m1.ds hk.filter hp.filter u1.1 u1.2
 have k8:Con2 Tryz.prog 81 [.agg (ak { p with view:=pCur p p.view,near:=cU p.filter p.node c.near [pCur p p.view,pCur p p.near,aX (bC p p.ring),pUse c p l],ring:=bC p p.ring })] (· =plR (.agg (ah (pSelf p)))):=
  i7 _ (gb hk (bQ hk.view) (m2.ds _ (by simp)) hsf hpf)
 have k9:=pP c.schema (pSelf p) _ (by simp) m2.ds hc hcs hk.filter hp.filter u2.1 (Nat.le_trans u2.2 (by omega))
 have hres:aD c p l={ p with view:=pCur p p.view,near:=cU p.filter p.node c.near [pCur p p.view,pCur p p.near,aX (bC p p.ring),pUse c p l],ring:=dD c.schema (pSelf p) [pCur p p.view,cU p.filter p.node c.near [pCur p p.view,pCur p p.near,aX (bC p p.ring),pUse c p l],aX (bC p p.ring),pUse c p l] }:=rfl
 rw[hres]
 clear hres m1 m2 u1 u2 hsf hpf
 generalize dD c.schema (pSelf p) [pCur p p.view,cU p.filter p.node c.near [pCur p p.view,pCur p p.near,aX (bC p p.ring),pUse c p l],aX (bC p p.ring),pUse c p l]=R at k9
 generalize cU p.filter p.node c.near [pCur p p.view,pCur p p.near,aX (bC p p.ring),pUse c p l]=N at k7 k8 k9
 generalize pUse c p l=M at k6 k7 k9
 generalize aX (bC p p.ring)=B at k5 k7 k9
 generalize pSelf p=S at k8 k9
 generalize pCur p p.view=v at k1 k2 k3 k4 k6 k7 k8 k9
 generalize pCur p p.near=n at k2 k3 k4 k6 k7 k8
 have hr: ∀a b s q,bC p p.ring=⟨a,b,s,q⟩->bC p p.ring=⟨a,b,s,q⟩:=fun _ _ _ _ h=>h
 unfold bC at hr
 generalize hR:bC p p.ring=r at k5 k6 k8
 unfold bC at hR
 clear hr
 obtain⟨q,hq⟩: ∃q:eE,q=⟨p.ring.hs&&cq p p.ring.succ,p.ring.hp,if (p.ring.hs&& !cq p p.ring.succ)=true then zDesc else p.ring.succ,p.ring.pred⟩:=⟨_,rfl⟩
 have hqs:q.succ.filter.length<=4000000:=by
  rw[hq]
  simp only
  split
  ·exact Nat.zero_le _
  ·exact hk.succ
 have k4':=k4 q.hs q.succ hqs
 rw[show(⟨q.hs,p.ring.hp,q.succ,p.ring.pred⟩:eE)=q by rw[hq]]at k4'
 have q1:q.hp=p.ring.hp:=by rw[hq]
 have q2:q.pred=p.ring.pred:=by rw[hq]
 refine ev_ Tryz.func79 [.cell 6 49] ?_
 refine Vc2.sq (g2_ ?_)
 refine Vc2.sq (g2_ ?_)
 refine cw_ k1 (g2_ ?_)
 refine Vc2.sq (g2_ ?_)
 refine cw_ k2 (g2_ ?_)
 refine Vc2.seqJ (γ:=Unit) (fun _=>⟨[(2,.d (fzD l)),(3,.loc 3 0),(4,.loc 4 0),(6,.loc 6 0)],[(3,⟨aC c,26⟩),(4,⟨ak { p with view:=v,near:=n,ring:=q },49⟩),(6,⟨zPc,49⟩)],[],0,0⟩) (fun _=>True) ?_ (fun _ _=>?_)
 ·refine g2_ ?_
  cases h1:p.ring.hs with
  |false=>
   rw[show q=⟨false,p.ring.hp,p.ring.succ,p.ring.pred⟩by rw[hq];simp[h1]]
   refine gf_ h1 ?_
   refine⟨(),aa [] ?_⟩
   repeat first|simp-implicitDefEqProofs only[go_sem,ab,h1,zPc]|with_reducible refine gl_ ?_
   first|done|rfl|exact⟨rfl,rfl⟩
  | true=>
   refine gf_ h1 ?_
   refine cx_ k3 (wf_ h1) (g2_ ?_)
   cases h2:cq p p.ring.succ with
   |false=>
    rw[show q=⟨false,p.ring.hp,zDesc,p.ring.pred⟩by rw[hq];simp[h1,h2]]
    refine gf_ h1 ?_
    refine⟨(),aa [] ?_⟩
    repeat first|simp-implicitDefEqProofs only[go_sem,ab,h1,zPc]|with_reducible refine gl_ ?_
    first|done|rfl|exact⟨rfl,rfl⟩
   |true=>
    rw[show q=⟨true,p.ring.hp,p.ring.succ,p.ring.pred⟩by rw[hq];simp[h1,h2]]
    refine gf_ h1 ?_
    refine⟨(),aa [] ?_⟩
    repeat first|simp-implicitDefEqProofs only[go_sem,ab,h1,zPc]|with_reducible refine gl_ ?_
    first|done|rfl|exact⟨rfl,rfl⟩
 have er:r=⟨q.hs,q.hp&&cq p q.pred,q.succ,if (q.hp&& !cq p q.pred)=true then zDesc else q.pred⟩:=by
  rw[<-hR,hq]
 rw[<-q2]at k4'
 clear hq hR k3 k4 hqs q1 q2
 refine Vc2.seqJ (γ:=Unit) (fun _=>⟨[(2,.d (fzD l)),(3,.loc 3 0),(4,.loc 4 0),(6,.loc 6 0)],[(3,⟨aC c,26⟩),(4,⟨ak { p with view:=v,near:=n,ring:=r },49⟩),(6,⟨zPc,49⟩)],[],0,0⟩) (fun _=>True) ?_ (fun _ _=>?_)
 ·refine g2_ ?_
  cases h1:q.hp with
  |false=>
   rw[show r=⟨q.hs,false,q.succ,q.pred⟩by rw[er];simp[h1]]
   refine gf_ h1 ?_
   refine⟨(),aa [] ?_⟩
   repeat first|simp-implicitDefEqProofs only[go_sem,ab,h1,zPc]|with_reducible refine gl_ ?_
   first|done|rfl|exact⟨rfl,rfl⟩
  | true=>
   refine gf_ h1 ?_
   refine cx_ k4' (wf_ h1) (g2_ ?_)
   cases h2:cq p q.pred with
   |false=>
    rw[show r=⟨q.hs,false,q.succ,zDesc⟩by rw[er];simp[h1,h2]]
    refine gf_ h1 ?_
    refine⟨(),aa [] ?_⟩
    repeat first|simp-implicitDefEqProofs only[go_sem,ab,h1,zPc]|with_reducible refine gl_ ?_
    first|done|rfl|exact⟨rfl,rfl⟩
   |true=>
    rw[show r=⟨q.hs,true,q.succ,q.pred⟩by rw[er];simp[h1,h2]]
    refine gf_ h1 ?_
    refine⟨(),aa [] ?_⟩
    repeat first|simp-implicitDefEqProofs only[go_sem,ab,h1,zPc]|with_reducible refine gl_ ?_
    first|done|rfl|exact⟨rfl,rfl⟩
 clear er
 refine Vc2.of ?_
 refine g2_ ?_
 refine cw_ k5 (g2_ ?_)
 refine cw_ k6 (g2_ ?_)
 refine cw_ k7 (g2_ ?_)
 refine .inr (.inl ⟨(.fl 0 (.fl 2 (.fl 4 (.fl 6 (.fl 8 (.fl 9 (.fl 1 (.fl 5 (.fl 7 (.eff 3 true (.eff 10 true (.eff 11 false (.fl 12 (.eff 13 false .done .no)) .no) .no) (.eff 10 true (.eff 3 true (.eff 11 false (.fl 12 (.eff 13 false .done .no)) .no) .no) .no))))))))))),by kernel_rfl,g2_ ?_⟩)
 repeat' (first
  |(with_reducible refine And.intro ?_ ?_)
  |(refine cw_ k8 (g2_ ?_))
  |(refine cw_ k9 (g2_ ?_))
  |(with_reducible refine av ?_;refine g2_ ?_))
 all_goals
  first
   |(show 32<=zPc.length;decide)
   |(refine ae ?_ rfl;(focus (simp-implicitDefEqProofs only[go_sem,ab];done)))
