import Derived.Test.YtmhmahcdanclnaaGreatNo28
set_option linter.unusedSectionVars false
set_option linter.unusedSimpArgs false
set_option linter.unusedVariables false
set_option maxRecDepth 10000
namespace Go.Eng
def gA(l:List GDesc):List DV:=l.flatMap ah
def zA:List DV:=(List.replicate 256 ()).flatMap fun _=>[.v (.int .u8 0),.v (.int .u16 0),.v (.int .u8 0),.v (.slice none 0 0)]
theorem dd(d:GDesc):(ah d).length=4:=rfl
theorem qC: ∀(l:List GDesc),(gA l).length=l.length*4
 |[]=>rfl
 |x::r=>by
  have:=qC r;unfold gA at this ⊢;rw[List.flatMap_cons,List.length_append,dd,this,List.length_cons];omega
theorem xC: ∀(l:List GDesc) {n:Nat} (h:n<l.length),((gA l).drop (n*4)).take 4=ah l[n]
 |x::r,0,_=>by
  show((ah x++gA r).drop 0).take 4=_;rw[List.drop_zero,List.take_append_of_le_length (by rw[dd];omega),List.take_of_length_le (by rw[dd];omega)];rfl
 |x::r,n+1,hn=>by
  show((ah x++gA r).drop ((n+1)*4)).take 4=_;rw[List.drop_append,List.drop_of_length_le (by rw[dd];omega),List.nil_append,dd,show(n+1)*4-4=n*4 by omega]
  exact xC r (by simpa using hn)
theorem anX(l:List GDesc){n:Nat}(h:l.length*4=n):(gA l).take n=gA l:=List.take_of_length_le (by rw[qC];omega)
theorem sd: ∀(l:List GDesc) (d:GDesc) {n:Nat} (h:n<l.length),spliceD (gA l) (n*4) (ah d)=gA (l.set n d)
 |x::r,d,0,_=>by
  show(ah x++gA r).take (0*4)++ah d++(ah x++gA r).drop (0*4+(ah d).length)=ah d++gA r;rw[dd,List.drop_append,List.drop_of_length_le (by rw[dd];omega),dd]
  simp
 |x::r,d,n+1,hn=>by
  have ih:=sd r d (n:=n) (by simpa using hn)
  unfold spliceD at ih ⊢;rw[dd]at ih ⊢;show(ah x++gA r).take ((n+1)*4)++ah d++(ah x++gA r).drop ((n+1)*4+4)=ah x++gA (r.set n d);rw[List.take_append,List.drop_append,List.take_of_length_le (by rw[dd];omega),List.drop_of_length_le (l:=ah x) (by rw[dd];omega),dd,show(n+1)*4-4=n*4 by omega,show(n+1)*4+4-4=n*4+4 by omega, <-ih]
  simp
theorem p7{r:Nat->Option Rn}: ∀{a a' b b':List DV},wkDs r a a'->wkDs r b b'->wkDs r (a++b) (a'++b')
 |[],a',b,b',h,h'=>by simp only[wkDs]at h;subst h;exact h'
 |d::l,[],b,b',h,_=>by simp[wkDs]at h
 |d::l,e::m,b,b',h,h'=>by
  simp only[wkDs]at h;show wkDs r (d::(l++b)) (e::(m++b'));simp only[wkDs];exact⟨h.1,p7 h.2 h'⟩
def zL:List GDesc:=List.replicate 256 zDesc
theorem aeG(r:Nat->Option Rn):wkDs r (gA zL) zA:=by simp_all [List.replicate_succ,List.flatMap_cons,ah,zDesc,wkDs,wkD,wkV,wkFz,gA,zL,zA]
theorem ed(r:Nat->Option Rn): ∀(l:List GDesc),wkDs r (gA l) (gA l)
 |[]=>rfl
 |x::l=>p7 (a:=ah x) (a':=ah x) (by simp[ah,wkDs,wkD,wkV,wkFz]) (ed r l)
def jX(self:UInt8)(l:List GDesc)(d:GDesc):List GDesc:=
 if d.node=self\/d.inc=0 then l else match l[d.node.toNat]? with
  |some e=>if e.inc=0\/ij d e=true then l.set d.node.toNat d else l
  |none=>l
theorem ais{self:UInt8}{l:List GDesc}{d:GDesc}:(jX self l d).length=l.length:=by grind [jX]
def fI(self:UInt8)(l:List GDesc)(ds:List GDesc):List GDesc:=ds.foldl (jX self) l
theorem oS{self:UInt8}: ∀{ds l:List GDesc},(fI self l ds).length=l.length
 |[],l=>rfl
 |d::r,l=>by
  show(fI self (jX self l d) r).length=_;rw[oS,ais]
def cf(self:UInt8)(L:List (List GDesc)):List GDesc:=(fI self zL L.flatten).filter fun d=>decide ((0:Int)<(d.inc.toNat:Int))
end Go.Eng
namespace Go.Proofs.YtmhmahcdanclnaaGreat.V
open Go.Eng
attribute [local go_sem] aS ah fzD plR ba aL aR aC aE ak az aU z8 z16 z32 z64 encMg a_
@[local go_sem] theorem ar1:bQ Tryz.prog 315=some zA:=by kernel_rfl
theorem aq1:onesD zA=true:=by kernel_rfl
def mn(L:List (List GDesc)):List (List DV):=L.map fun l=>[fzD l]
theorem uU(self:UInt8)(L:List (List GDesc))(hL:L.length<=4000000)(hl: ∀l∈L,cg l):Con2 Tryz.prog 237 [.v (.int .u8 self.toNat),.fz 1 (mn L)] (· =plR (fzD (cf self L))):=by
 refine Con2.ofEmb ?_;have hLl:(mn L).length=L.length:=by rw[mn,List.length_map]
 have hge0: ∀k (hk:k<L.length),(mn L)[k]? =some [fzD L[k]]:=fun k hk=>by rw[mn,List.getElem?_map,List.getElem?_eq_getElem hk];rfl
 generalize mn L=E at hLl hge0;refine en_ Tryz.func237 [.tmp 4] ?_;refine g2_ ?_;refine⟨aq1,?_⟩;refine gf_ hLl ?_;refine aq L.length (fun k=>[]) (fun k=>[(5,⟨gA (fI self zL (L.take k).flatten),315⟩)]) (fun k=>[]) 0 (fun _=>True) (aa [] ?_) trivial (fun g k=>ws_) (by omega) (fun g=>ws_) (fun k hk _=>?_) (fun _=>?_)
 ·refine x1_ @List.flatten_nil.{0} ?_;exact⟨rfl,aeG _⟩
 ·have hge:=hge0 k hk;obtain⟨hb,hb2⟩:=hl _ (List.getElem_mem hk);refine gf_ hge ?_;generalize hlk:L[k]=lk at hb hb2;refine aq lk.length (fun j=>[]) (fun j=>[(5,⟨gA (fI self zL ((L.take k).flatten++lk.take j)),315⟩)]) (fun j=>[]) 0 (fun _=>True) (aa [] ?_) trivial (fun g j=>ws_) (by omega) (fun g=>ws_) (fun j hj _=>?_) (fun _=>?_)
  ·refine x0_ ?_;exact⟨rfl,ed _ _⟩
  ·have hnd:=lk[j].node.toNat_lt
   have hstep:fI self zL ((L.take k).flatten++lk.take (j+1))=jX self (fI self zL ((L.take k).flatten++lk.take j)) lk[j]:=by
    rw[List.take_add_one,List.getElem?_eq_getElem hj, <-List.append_assoc,fI,List.foldl_append];rfl
   have hlen:(fI self zL ((L.take k).flatten++lk.take j)).length=256:=by rw[oS];simp[zL]
   refine gf_ (mE_ hj) ?_;generalize lk[j]=d at hstep hnd;generalize hA:fI self zL ((L.take k).flatten++lk.take j)=A at hstep hlen;have hn:d.node.toNat<A.length:=by omega
   have hA1:(gA A).length=1024:=by rw[qC,hlen]
   have hw:=xC A hn;have hsp:=sd A d hn;have hge2:=List.getElem?_eq_getElem hn;have hnw:=ac2 d A[d.node.toNat]
   have hst:jX self A d=if d.node=self\/d.inc=0 then A else if A[d.node.toNat].inc=0\/ij d A[d.node.toNat]=true then A.set d.node.toNat d else A:=by
    unfold jX;rw[hge2]
   generalize A[d.node.toNat]=e at hw hnw hst;rw[hst]at hstep;simp only[ah]at hw hsp;rw[ch]
   by_cases h1:d.node=self
   ·rw[if_pos (.inl h1)]at hstep;rw[decide_eq_true h1];refine g2_ ?_;refine⟨j+1,aa [] ?_,rfl⟩;refine gf_ hstep ?_
    first|done|exact ed _ _|exact⟨rfl,ed _ _⟩|trace_state
   rw[decide_eq_false h1];refine g2_ ?_;rw[nv]
   by_cases h2:d.inc=0
   ·rw[if_pos (.inr h2)]at hstep;rw[decide_eq_true h2];refine g2_ ?_;refine⟨j+1,aa [] ?_,rfl⟩;refine gf_ hstep ?_
    first|done|exact ed _ _|exact⟨rfl,ed _ _⟩|trace_state
   rw[if_neg (by simp[h1,h2])]at hstep
   rw[decide_eq_false h2];have hle:decide (d.node.toNat*4<=1020)=true:=decide_eq_true (by omega)
   have hle2:d.node.toNat*4<=1020:=by omega
   refine gh_ hA1 hw hle ?_;rw[nv]
   by_cases h3:e.inc=0
   ·rw[if_pos (.inl h3)]at hstep;rw[decide_eq_true h3];refine gf_ (c4_ hA1 hw hle (c2_ hle2 hsp)) ?_;refine⟨j+1,aa [] ?_,rfl⟩;refine gf_ hstep ?_
    first|done|exact ed _ _|exact⟨rfl,ed _ _⟩|trace_state
   rw[decide_eq_false h3];refine g2_ ?_;refine ce_ hnw (g2_ ?_);cases h4:ij d e with
   |true=>
    rw[if_pos (.inr h4)]at hstep;refine gf_ (c4_ hA1 hw hle (c2_ hle2 hsp)) ?_;refine⟨j+1,aa [] ?_,rfl⟩;refine gf_ hstep ?_
    first|done|exact ed _ _|exact⟨rfl,ed _ _⟩|trace_state
   |false=>
    rw[if_neg (by simp[h3,h4])]at hstep
    refine g2_ ?_;refine⟨j+1,aa [] ?_,rfl⟩;refine gf_ hstep ?_
    first|done|exact ed _ _|exact⟨rfl,ed _ _⟩|trace_state
  ·have hend:(L.take (k+1)).flatten=(L.take k).flatten++lk.take lk.length:=by
    rw[List.take_add_one,List.getElem?_eq_getElem hk,hlk,List.take_of_length_le (Nat.le_refl _)];simp
   refine g2_ ?_;refine⟨k+1,aa [] ?_,rfl⟩;refine gf_ hend ?_
   first|done|exact ed _ _|exact⟨rfl,ed _ _⟩|trace_state
 ·rw [List.take_of_length_le (Nat.le_refl _)];have hlen:(fI self zL L.flatten).length=256:=by rw[oS];simp[zL]
  have hok: ∀d∈fI self zL L.flatten,d.filter.length<=4000000:=by
   have key: ∀(D A:List GDesc),(∀d∈A,d.filter.length<=4000000)->(∀d∈D,d.filter.length<=4000000)-> ∀d∈fI self A D,d.filter.length<=4000000:=by
    intro D
    induction D with
    |nil=>intro A hA _;exact hA
    | cons x r ih=>
     intro A hA hD;refine ih (jX self A x) ?_ (fun d hd=>hD d (List.mem_cons_of_mem _ hd))
     intro d hd;unfold jX at hd;split at hd
     ·exact hA d hd
     ·split at hd
      ·split at hd
       ·rcases List.mem_or_eq_of_mem_set hd with h|rfl
        ·exact hA d h
        ·exact hD _ List.mem_cons_self
       ·exact hA d hd
      ·exact hA d hd
   refine key _ _ ?_ ?_
   ·intro d hd;rw[List.eq_of_mem_replicate hd];simp[zDesc]
   ·intro d hd;obtain⟨l,h1,h2⟩:=List.mem_flatten.1 hd;exact(hl l h1).2 d h2
  unfold cf;generalize fI self zL L.flatten=A at hlen hok;have hA1:(gA A).length=1024:=by rw[qC,hlen]
  have hA2:(gA A).take 1024=gA A:=anX A (by rw[hlen])
  refine gg_ hA1 hA2 ?_;generalize hP:(fun d:GDesc=>decide ((0:Int)<(d.inc.toNat:Int)))=P
  have hPd: ∀d,P d=decide ((0:Int)<(d.inc.toNat:Int)):=fun d=>by rw[<-hP]
  have hle3: ∀k,((A.take k).filter P).length<=256:=fun k=>by have:=gQ (f:=P) A k;omega
  refine aq 256 (fun k=>[(11,.d (.rf 0 0 ((A.take k).filter P).length))]) (fun _=>[]) (fun k=>[(0,.arr 34 4 (((A.take k).filter P).map ah) false)]) 1 (fun _=>True) (aa [(0,.nil 4)] ?_) trivial (fun g k=>by first|rfl|((repeat first|simp-implicitDefEqProofs only[go_sem,ab]|with_reducible refine gl_ ?_);rfl)) (by omega) (fun g=>ws_) (fun k hk _=>?_) (fun _=>?_)
  ·refine x0_ ?_
   repeat' (first|exact ed _ _|rfl|exact aeG _|(refine And.intro ?_ ?_))
   all_goals trace_state
  ·have hk2:k<A.length:=by omega
   have hw:=xC A hk2;have hsn:=fc (f:=P) hk2;have hle4:=hle3 k;have hle:decide (k*4<=1020)=true:=decide_eq_true (by omega)
   rw[hPd]at hsn;generalize A[k]=d at hw hsn;simp only[ah]at hw;refine gh_ hA1 hw hle ?_
   by_cases h:(0:Int)<(d.inc.toNat:Int)
   ·rw[decide_eq_true h];refine gx_ ?_;refine⟨k+1,aa [(0,.to 2)] ?_,rfl⟩;refine x1_ (c3_ hsn h decide_true) ?_
    repeat' (first|exact ed _ _|exact aeG _|(refine And.intro ?_ ?_)|(with_reducible rfl)|(simp[ah];done))
   ·rw[decide_eq_false h];refine g2_ ?_;refine⟨k+1,aa [(0,.to 0)] ?_,rfl⟩;refine x1_ (c3_ hsn h decide_false) ?_
    repeat' (first|exact ed _ _|exact aeG _|(refine And.intro ?_ ?_)|(with_reducible rfl)|(simp[ah];done))
  ·rw[List.take_of_length_le (by omega)]
   have hcp:=bh (A.filter P) ⟨by have:=List.length_filter_le P A;omega,fun d hd=>hok d (List.mem_filter.1 hd).1⟩
   refine g2_ ?_;refine ce_ hcp (g2_ ?_);refine ae ?_ rfl;exact ws_
end Go.Proofs.YtmhmahcdanclnaaGreat.V
namespace Go.Eng
section
variable {α:Type}
def dF(lt:α->α->Bool)(x:α)(P:List α):Nat->Nat
 |0=>0
 |j+1=>match P[j]? with
  |some y=>bif lt x y then dF lt x P j else j+1
  |none=>j+1
def ck(P:List α)(x:α)(j:Nat):List α:=P.take j++x::P.drop j
def j4(lt:α->α->Bool)(P:List α)(x:α):List α:=ck P x (dF lt x P P.length)
def aW(lt:α->α->Bool)(l:List α):List α:=l.foldl (j4 lt) []
theorem mL{lt:α->α->Bool}{x:α}{P:List α}{j:Nat}(h:j<P.length)(hl:lt x P[j]=true):dF lt x P (j+1)=dF lt x P j:=by
 simp only[dF,List.getElem?_eq_getElem h,hl,cond_true]
theorem m_{lt:α->α->Bool}{x:α}{P:List α}{j:Nat}(h:j<P.length)(hl:lt x P[j]=false):dF lt x P (j+1)=j+1:=by
 simp only[dF,List.getElem?_eq_getElem h,hl,cond_false]
theorem de{P:List α}{x:α}{j:Nat}:(ck P x j).length=P.length+1:=by grind [ck]
theorem sY{P:List α}{x:α}{j:Nat}(h:j<=P.length):(ck P x j)[j]? =some x:=by grind [ck]
theorem nK{P:List α}{x:α}{j:Nat}(h:j<P.length):(ck P x (j+1))[j]? =some P[j]:=by grind [ck]
theorem rR{P:List α}{x:α}{j:Nat}(h:j<P.length):((ck P x (j+1)).set (j+1) P[j]).set j x=ck P x j:=by
 apply List.ext_getElem?;intro k;have l1:=de (P:=P) (x:=x) (j:=j+1);rw[List.getElem?_set]
 by_cases e1:j=k
 ·subst e1;rw[if_pos rfl,if_pos (by simp only[List.length_set];omega),sY (by omega)]
 rw[if_neg e1,List.getElem?_set]
 by_cases e2:j+1=k
 ·subst e2;rw[if_pos rfl,if_pos (by omega)]
  symm;rw[ck,List.getElem?_append_right (by simp;omega)]
  have:j+1-(P.take j).length=1:=by simp;omega
  rw[this,List.getElem?_cons_succ,List.getElem?_drop,Nat.add_zero,List.getElem?_eq_getElem h]
 rw[if_neg e2];simp only[ck]
 by_cases e3:k<j
 ·rw[List.getElem?_append_left (by simp;omega),List.getElem?_append_left (by simp;omega),List.getElem?_take_of_lt (by omega),List.getElem?_take_of_lt (by omega)]
 ·rw[List.getElem?_append_right (by simp;omega),List.getElem?_append_right (by simp;omega)]
  have a1:k-(P.take (j+1)).length=(k-(j+2))+1:=by simp;omega
  have a2:k-(P.take j).length=(k-(j+2))+2:=by simp;omega
  rw[a1,a2,List.getElem?_cons_succ,List.getElem?_cons_succ,List.getElem?_drop,List.getElem?_drop]
  congr 1;omega
theorem sA{l:List α}{i:Nat}(P:List α)(h:i<l.length)(hP:P.length=i):P++l.drop i=ck P l[i] P.length++l.drop (i+1):=by
 rw[ck,List.take_length,List.drop_length,List.drop_eq_getElem_cons h,List.append_assoc];rfl
theorem ajf{lt:α->α->Bool}{P:List α}{x:α}:(j4 lt P x).length=P.length+1:=de
theorem kY{lt:α->α->Bool}: ∀(l P:List α),(l.foldl (j4 lt) P).length=P.length+l.length
 |[],P=>rfl
 |x::r,P=>by rw[List.foldl_cons,kY r,ajf,List.length_cons];omega
theorem cr{lt:α->α->Bool}{l:List α}:(aW lt l).length=l.length:=by rw[aW,kY];simp
theorem p8{lt:α->α->Bool}{l:List α}{i:Nat}(h:i<l.length):aW lt (l.take (i+1))=j4 lt (aW lt (l.take i)) l[i]:=by
 rw[aW,List.take_add_one,List.getElem?_eq_getElem h,List.foldl_append];rfl
theorem aha{P:List α}{x y:α}{j:Nat}(h:y∈ck P x j):y=x\/y∈P:=by grind [ck]
theorem fN{lt:α->α->Bool}: ∀{l P:List α} {y:α},y∈l.foldl (j4 lt) P->y∈l\/y∈P
 |[],P,y,h=>.inr h
 | x::r,P,y,h=>by
  rcases fN (l:=r) (P:=j4 lt P x) h with h|h
  ·exact .inl (List.mem_cons_of_mem _ h)
  ·rcases aha h with h|h
   ·exact .inl (by rw[h];exact List.mem_cons_self)
   ·exact .inr h
end
structure ui where
 d:GDesc
 o:Nat
def gm(a b:Nat):Int:=if a<b then-1 else if b<a then 1 else 0
def abi(a b:ui):Int:=if gm b.o a.o≠0 then gm b.o a.o else if gm a.d.age.toNat b.d.age.toNat≠0 then gm a.d.age.toNat b.d.age.toNat else gm a.d.node.toNat b.d.node.toNat
def cZ(a b:ui):Bool:=decide (abi a b<0)
def cX(a b:GDesc):Bool:=decide (gm a.node.toNat b.node.toNat<0)
end Go.Eng
namespace Go.Proofs.YtmhmahcdanclnaaGreat.V
open Go.Eng
def fScored(own:List GSpan)(l:List GDesc):List ui:=(l.map fun d=>⟨d,xj own d.filter⟩).filter fun x=>decide (0<x.o)
def c_(own:List GSpan)(self:UInt8)(room:Int)(ls:List (List GDesc)):List GDesc:=
 if room<1 then []else aW cX (((aW cZ (fScored own (cf self ls))).take room.toNat).map (·.d))
def gi(far:UInt16->UInt16->UInt16)(here:UInt16)(dom:List GSpan)(l:List GDesc):Nat->Nat×UInt16
 |0=>(0,far here (fy dom (l.headD zDesc)))
 |k+1=>match l[k]? with
  |some d=>if far here (fy dom d)<(gi far here dom l k).2 then (k,far here (fy dom d))else gi far here dom l k
  |none=>gi far here dom l k
def dx(far:UInt16->UInt16->UInt16)(here:UInt16)(dom:List GSpan)(l:List GDesc):GDesc:=l.getD (gi far here dom l l.length).1 zDesc
def dK(dom:List GSpan)(self:GDesc)(ls:List (List GDesc)):ep:=
 if cf self.node ls=[]then ⟨false,false,zDesc,zDesc⟩
 else ⟨true,true,dx (fun h t=>t-h) (fy dom self) dom (cf self.node ls),dx (fun h t=>h-t) (fy dom self) dom (cf self.node ls)⟩
attribute[local go_sem] aS ah fzD plR ba z8 z16 z32 z64 c00
theorem tJ(a:Int):Con2 Tryz.prog 314 [.v (.int .u8 a)] (· =plR (.v (.bool false))):=by
 refine en_ Tryz.func314 [.tmp 2] (g2_ ?_);refine gx_ ?_;exact⟨_,rfl,aa [] wx_⟩
theorem vT(a:Int):Con2 Tryz.prog 361 [.v (.int .u32 a)] (· =plR (.v (.bool false))):=by
 refine en_ Tryz.func361 [.tmp 2] (g2_ ?_);refine gx_ ?_;exact⟨_,rfl,aa [] wx_⟩
theorem sG(a b:Nat):Con2 Tryz.prog 243 [.v (.int .u8 a),.v (.int .u8 b)] (· =plR (.v (.int .i64 (gm a b)))):=by
 refine en_ Tryz.func243 [.tmp 4] (g2_ ?_);refine g2_ ?_;refine ce_ (tJ a) (g2_ ?_);refine ce_ (tJ b) (g2_ ?_)
 by_cases h1:(a:Int)<(b:Int)
 ·rw[decide_eq_true h1];refine g2_ ?_;exact⟨_,rfl,aa [] (by simp-implicitDefEqProofs only[go_sem,ab,gm,show a<b by omega,if_true])⟩
 rw[decide_eq_false h1];refine g2_ ?_
 by_cases h2:(b:Int)<(a:Int)
 ·rw[decide_eq_true h2];refine g2_ ?_;exact⟨_,rfl,aa [] (by simp-implicitDefEqProofs only[go_sem,ab,gm,show ¬a<b by omega,show b<a by omega,if_true,if_false])⟩
 rw[decide_eq_false h2];refine g2_ ?_;exact⟨_,rfl,aa [] (by simp-implicitDefEqProofs only[go_sem,ab,gm,show ¬a<b by omega,show ¬b<a by omega,if_true,if_false])⟩
theorem aiQ(a b:Nat):Con2 Tryz.prog 312 [.v (.int .u32 a),.v (.int .u32 b)] (· =plR (.v (.int .i64 (gm a b)))):=by
 refine en_ Tryz.func312 [.tmp 4] (g2_ ?_);refine g2_ ?_;refine ce_ (vT a) (g2_ ?_);refine ce_ (vT b) (g2_ ?_)
 by_cases h1:(a:Int)<(b:Int)
 ·rw[decide_eq_true h1];refine g2_ ?_;exact⟨_,rfl,aa [] (by simp-implicitDefEqProofs only[go_sem,ab,gm,show a<b by omega,if_true])⟩
 rw[decide_eq_false h1];refine g2_ ?_
 by_cases h2:(b:Int)<(a:Int)
 ·rw[decide_eq_true h2];refine g2_ ?_;exact⟨_,rfl,aa [] (by simp-implicitDefEqProofs only[go_sem,ab,gm,show ¬a<b by omega,show b<a by omega,if_true,if_false])⟩
 rw[decide_eq_false h2];refine g2_ ?_;exact⟨_,rfl,aa [] (by simp-implicitDefEqProofs only[go_sem,ab,gm,show ¬a<b by omega,show ¬b<a by omega,if_true,if_false])⟩
def or3(a b c:Int):Int:=if a≠0 then a else if b≠0 then b else c
theorem ane(a b c:Int):Con2 Tryz.prog 311 [.fz 1 [[.v (.int .i64 a)],[.v (.int .i64 b)],[.v (.int .i64 c)]]] (· =plR (.v (.int .i64 (or3 a b c)))):=by
 refine en_ Tryz.func311 [.tmp 2] (g2_ ?_);refine g2_ ?_;refine aq 3 (fun k=>[]) (fun _=>[]) (fun k=>[]) 0 (fun k=>(0<k->a=0)/\(1<k->b=0)/\(2<k->c=0)) (aa [] ?_) (by omega) (fun g k=>by first|rfl|(repeat first|simp-implicitDefEqProofs only[go_sem,ab]|with_reducible refine gl_ ?_)) (by omega) (fun g=>ws_) (fun k hk hF=>?_) (fun hF=>?_)
 ·exact v0_
  first|done|rfl|exact⟨rfl,rfl⟩
 ·obtain⟨f1,f2,f3⟩:=hF
  obtain⟨x,hx,hgo⟩: ∃x:Int,([[DV.v (.int .i64 a)],[.v (.int .i64 b)],[.v (.int .i64 c)]]:List (List DV))[k]? =some [.v (.int .i64 x)]/\((x≠0->or3 a b c=x)/\(x=0->((0<k+1->a=0)/\(1<k+1->b=0)/\(2<k+1->c=0)))):=by
   match k,hk with
   |0,_=>exact⟨a,rfl,fun h=>if_pos h,fun h=>by omega⟩
   |1,_=>exact⟨b,rfl,fun h=>by have:=f1 (by omega);rw[or3,if_neg (by omega),if_pos h],fun h=>by omega⟩
   |2,_=>exact⟨c,rfl,fun h=>by have:=f1 (by omega);have:=f2 (by omega);rw[or3,if_neg (by omega),if_neg (by omega)],fun h=>by omega⟩
  refine gf_ hx ?_;refine cU (fun h=>?_) (fun h=>?_)
  ·rw[hgo.1 h];refine g2_ ?_;exact⟨_,rfl,aa [] ws_⟩
  ·refine g2_ ?_;exact⟨k+1,aa [] ws_,rfl,hgo.2 (by omega)⟩
 ·obtain⟨f1,f2,f3⟩:=hF;have e:or3 a b c=0:=by rw[or3,if_neg (by omega),if_neg (by omega)];omega
  rw[e];refine g2_ ?_;exact⟨_,rfl,aa [] ws_⟩
theorem ajv(x y:ui):Con2 Tryz.prog 240 [.agg (ah x.d),.v (.int .u32 x.o),.agg (ah y.d),.v (.int .u32 y.o)] (· =plR (.v (.int .i64 (abi x y)))):=by
 have e:abi x y=or3 (gm y.o x.o) (gm x.d.age.toNat y.d.age.toNat) (gm x.d.node.toNat y.d.node.toNat):=rfl;rw[e];have k1:=aiQ y.o x.o;have k2:=sG x.d.age.toNat y.d.age.toNat;have k3:=sG x.d.node.toNat y.d.node.toNat;have k4:=ane (gm y.o x.o) (gm x.d.age.toNat y.d.age.toNat) (gm x.d.node.toNat y.d.node.toNat);generalize gm y.o x.o=a at k1 k4;generalize gm x.d.age.toNat y.d.age.toNat=b at k2 k4;generalize gm x.d.node.toNat y.d.node.toNat=c at k3 k4;refine en_ Tryz.func240 [.tmp 8] (g2_ ?_);refine g2_ ?_;refine .inl ⟨[oF 0,oF 1,oF 3,oF 5,oF 8,oF 10,oF 4,oF 6,oF 9,oF 11,oT 2,oT 7,oF 12,oF 13,oF 14,oF 15],by kernel_rfl,g2_ ?_⟩
 refine ce_ k1 (g2_ ?_);refine ce_ k2 (g2_ ?_);refine ce_ k3 (g2_ ?_);refine ce_ k4 (g2_ ?_);exact⟨_,rfl,aa [] ws_⟩
def ans:Nat->Nat
 |0=>0
 |1=>1
 |2=>2
 |3=>2
 |4=>3
 |5=>3
 |6=>3
 |7=>3
 |_=>4
theorem ake(n:Nat)(hn:n<=12):Con2 Tryz.prog 344 [.v (.int .u64 n)] (· =plR (.v (.int .i64 (ans n)))):=by
 refine en_ Tryz.func344 [.tmp 2] (g2_ ?_);refine g2_ ?_;rw[show decide ((4294967296:Int)<=n)=false from decide_eq_false (by omega)]
 refine g2_ ?_;rw[show decide ((65536:Int)<=n)=false from decide_eq_false (by omega)]
 refine g2_ ?_;rw[show decide ((256:Int)<=n)=false from decide_eq_false (by omega)]
 refine g2_ ?_;refine gF (by omega) ?_
 refine g2_ ?_;refine⟨.int .u8 (ans n),fun w=>?_,?_⟩
 ·match n,hn with
  |0,_=>show _=_;kernel_rfl
  |1,_=>show _=_;kernel_rfl
  |2,_=>show _=_;kernel_rfl
  |3,_=>show _=_;kernel_rfl
  |4,_=>show _=_;kernel_rfl
  |5,_=>show _=_;kernel_rfl
  |6,_=>show _=_;kernel_rfl
  |7,_=>show _=_;kernel_rfl
  |8,_=>show _=_;kernel_rfl
  |9,_=>show _=_;kernel_rfl
  |10,_=>show _=_;kernel_rfl
  |11,_=>show _=_;kernel_rfl
  |12,_=>show _=_;kernel_rfl
  |k+13,h=>omega
 have hb:ans n<=4:=by
  match n,hn with
  |0,_=>decide
  |1,_=>decide
  |2,_=>decide
  |3,_=>decide
  |4,_=>decide
  |5,_=>decide
  |6,_=>decide
  |7,_=>decide
  |k+8,_=>exact Nat.le_refl 4
 refine gf_ @Int.zero_add ?_;exact⟨_,rfl,aa [] (wf_ @Int.zero_add)⟩
theorem aac(n:Nat)(hn:n<=12):Con2 Tryz.prog 275 [.v (.int .u64 n)] (· =plR (.v (.int .i64 (ans n)))):=by
 refine en_ Tryz.func275 [.tmp 2] (g2_ ?_);refine g2_ ?_;refine ce_ (ake n hn) (g2_ ?_);exact⟨_,rfl,aa [] ws_⟩
end Go.Proofs.YtmhmahcdanclnaaGreat.V
namespace Go.Eng
def bU(s:ui):List DV:=[.v (.int .u8 s.d.node.toNat),.v (.int .u16 s.d.inc.toNat),.v (.int .u8 s.d.age.toNat),.fz 2 (s.d.filter.map aS),.v (.int .u32 s.o)]
end Go.Eng
namespace Go.Proofs.YtmhmahcdanclnaaGreat.V
open Go.Eng
attribute [local go_sem] aS ah fzD plR ba z8 z16 z32 z64 c00 bU
theorem ak5(x y:ui):Con2 Tryz.prog 239 [.agg (bU x),.agg (bU y)] (· =plR (.v (.int .i64 (abi x y)))):=by
 refine en_ Tryz.func239 [.tmp 4] (g2_ ?_);refine g2_ ?_;refine ce_ (ajv x y) (g2_ ?_);exact⟨_,rfl,aa [] ws_⟩
def ap2(a b:GDesc):Int:=gm a.node.toNat b.node.toNat
theorem ajn(x y:GDesc):Con2 Tryz.prog 242 [.agg (ah x),.agg (ah y)] (· =plR (.v (.int .i64 (ap2 x y)))):=by
 refine en_ Tryz.func242 [.tmp 4] (g2_ ?_);refine g2_ ?_;refine ce_ (sG x.node.toNat y.node.toNat) (g2_ ?_);exact⟨_,rfl,aa [] (by simp-implicitDefEqProofs only[go_sem,ab];rfl)⟩
theorem aov(l:List ui)(hl:l.length<=12){ρ σ nb K}(hk:K (.tup []) ⟨ρ,σ,[(0,.arr 268 5 ((aW cZ l).map bU) false)],1,nb⟩):
  CallS Tryz.prog false 353 [.rf 0 0 l.length,.v (.int .i64 0),.v (.int .i64 l.length),.fn 239 [] []] ⟨ρ,σ,[(0,.arr 268 5 (l.map bU) false)],1,nb⟩ K:=by
 refine im_ Tryz.func353 [] (g2_ ?_);refine g2_ ?_;refine bt (γ:=Nat) (fun i=>[(8,.d (.v (.int .i64 (i:Nat))))]) (fun _=>[]) (fun i=>[(0,.arr 268 5 ((aW cZ (l.take i)++l.drop i).map bU) false)]) 1 (fun i=>1<=i/\(l.length<i->i=1)) (fun i=>l.length+1-i) 1 (aa [] ?_) ⟨by omega,by omega⟩ (fun i hi=>?_)
 ·have e:aW cZ (l.take 1)++l.drop 1=l:=by
   cases l with
   |nil=>rfl
   |cons x r=>rfl
  refine gf_ e ?_
  first|rfl|exact⟨rfl,rfl⟩|trace_state
 obtain⟨hi1,hi2⟩:=hi;refine g2_ ?_
 by_cases hlt:i<l.length
 ·rw[decide_eq_true (show(i:Int)<(l.length:Int)by omega)]
  refine g2_ ?_;obtain⟨P,hP⟩: ∃P,P=aW cZ (l.take i):=⟨_,rfl⟩;have hPl:P.length=i:=by rw[hP,cr,List.length_take];omega
  obtain⟨x,hx⟩: ∃x,x=l[i]:=⟨_,rfl⟩
  have hnext:dF cZ x P i<=i->ck P x (dF cZ x P i)++l.drop (i+1)=aW cZ (l.take (i+1))++l.drop (i+1):=by
   intro _;rw[p8 hlt, <-hP, <-hx,j4,hPl]
  have h0:aW cZ (l.take i)++l.drop i=ck P x i++l.drop (i+1):=by
   rw[<-hP,hx];have:=sA P hlt hPl;rwa[hPl]at this
  rw[h0];generalize hD:l.drop (i+1)=rest at hnext
  have r1: ∀j,j<=i->((ck P x j++rest).map bU)[j]? =some (bU x):=fun j hj=>by
   rw[List.getElem?_map,List.getElem?_append_left (by rw[de];omega),sY (by omega)];rfl
  have r2: ∀j,(hj:j<i)->((ck P x (j+1)++rest).map bU)[j]? =some (bU (P[j]'(by omega))):=fun j hj=>by
   rw[List.getElem?_map,List.getElem?_append_left (by rw[de];omega),nK (by omega)];rfl
  have r3: ∀j,((ck P x j++rest).map bU).length=l.length:=fun j=>by
   rw[List.length_map,List.length_append,de, <-hD,List.length_drop];omega
  have r4: ∀j,(hj:j<i)->((((ck P x (j+1)++rest).map bU).set (j+1) (bU (P[j]'(by omega)))).set j (bU x))=(ck P x j++rest).map bU:=fun j hj=>by
   rw[<-List.map_set, <-List.map_set,List.set_append_left _ _ (by rw[de];omega),List.set_append_left _ _ (by rw[List.length_set,de];omega),rR (by omega)]
  refine bt (γ:=Nat) (fun j=>[(9,.d (.v (.int .i64 (j:Nat))))]) (fun _=>[]) (fun j=>[(0,.arr 268 5 ((ck P x j++rest).map bU) false)]) 1 (fun j=>j<=i/\dF cZ x P j=dF cZ x P i) (fun j=>j) i (aa [] ?_) ⟨Nat.le_refl _,rfl⟩ (fun j hj=>?_)
  ·repeat first|simp-implicitDefEqProofs only[go_sem,ab]|with_reducible refine gl_ ?_
   first|done|rfl|exact⟨rfl,rfl⟩
  obtain⟨hj1,hj2⟩:=hj;cases j with
  |zero=>
   rw[<-hj2]at hnext;refine g2_ ?_;refine .inl ⟨[oF 0,oF 1,oF 2,oF 3,oF 4,oF 5,oF 6,oF 9,oF 10,oF 7,oF 11,oF 8,oF 12,oF 13,oF 14,oF 15,oF 16],by kernel_rfl,g2_ ?_⟩
   rw[show decide ((0:Int)<0)=false from rfl]
   have hz:ck P x 0++rest=aW cZ (l.take (i+1))++l.drop (i+1):=by rw[hD];exact hnext (Nat.zero_le _)
   rw[hz];refine g2_ ?_;refine⟨i+1,aa [] ?_,⟨by omega,by omega⟩,by omega⟩
   refine g2_ ?_;rfl
  | succ j=>
   have hjP:j<P.length:=by omega
   have hcc:=ak5 x P[j];have q1:=r1 (j+1) hj1;have q2:=r2 j (by omega)
   have q3:=r3 (j+1);have q4:=r4 j (by omega)
   generalize q6:(ck P x (j+1)++rest).map bU=R at q1 q2 q3 q4;have q5: ∀v,(R.set (j+1) v)[j]? =some (bU P[j]):=fun v=>by rw[List.getElem?_set_ne (by omega)];exact q2
   simp only[bU]at q1 q2 q4 q5;refine g2_ ?_;refine .inl ⟨[oF 0,oF 1,oF 2,oF 3,oF 4,oF 5,oF 6,oF 9,oF 10,oF 7,oF 11,oF 8,oF 12,oF 13,oF 14,oF 15,oF 16],by kernel_rfl,g2_ ?_⟩
   rw[show decide ((0:Int)<((j+1:Nat):Int))=true from decide_eq_true (by omega)]
   have e1:((j+1:Nat):Int)-1=(j:Nat):=by omega
   refine gi_ q1 q2 q3 e1 ?_;refine ce_ hcc (g2_ ?_)
   by_cases hc:abi x P[j]<0
   ·rw[decide_eq_true hc];have hs:dF cZ x P (j+1)=dF cZ x P j:=mL hjP (decide_eq_true hc);refine g2_ ?_;refine .inl ⟨[oF 0,oF 1,oF 2,oF 3,oF 5,oF 6,oF 10,oF 11,oF 4,oF 7,oF 12,oF 8,oF 13,oF 9,oF 14,oF 15,oF 16,oF 17],by kernel_rfl,gf_ (c4_ q1 q2 q3 (c2_ q5 e1)) ?_⟩
    refine⟨j,aa [] ?_,⟨by omega,by omega⟩,by omega⟩
    rw[<-q4];exact ws_
   ·rw[decide_eq_false hc];have hs:dF cZ x P (j+1)=j+1:=m_ hjP (decide_eq_false hc);rw[<-hj2,hs]at hnext;rw[<-q6,hnext hj1, <-hD];refine g2_ ?_;refine⟨i+1,aa [] ?_,⟨by omega,by omega⟩,by omega⟩
    refine g2_ ?_;rfl
 ·rw[decide_eq_false (show ¬(i:Int)<(l.length:Int)by omega)]
  have e:aW cZ (l.take i)++l.drop i=aW cZ l:=by
   by_cases h:l.length=0
   ·have:=List.eq_nil_of_length_eq_zero h;subst this;simp
   ·rw[List.take_of_length_le (by omega),List.drop_eq_nil_of_le (by omega),List.append_nil]
  rw[e];refine g2_ ?_;exact hk
theorem ang(l:List ui)(m:Int)(hl:l.length<=12){ρ σ nb K}(hk:K (.tup []) ⟨ρ,σ,[(0,.arr 268 5 ((aW cZ l).map bU) false)],1,nb⟩):
  CallS Tryz.prog false 310 [.rf 0 0 l.length,.v (.int .i64 0),.v (.int .i64 l.length),.v (.int .i64 m),.fn 239 [] []] ⟨ρ,σ,[(0,.arr 268 5 (l.map bU) false)],1,nb⟩ K:=by
 refine im_ Tryz.func310 [] (g2_ ?_);refine g2_ ?_;refine bt (γ:=Unit) (fun _=>[]) (fun _=>[]) (fun _=>[(0,.arr 268 5 (l.map bU) false)]) 1 (fun _=>True) (fun _=>0) () (aa [] ws_) trivial (fun i hi=>?_)
 refine g2_ ?_;rw[show decide ((l.length:Int)-0<=12)=true from decide_eq_true (by omega)]
 refine g2_ ?_;refine aov l hl ?_;refine g2_ ?_;exact hk
theorem aj3(l:List ui)(hl:l.length<=12){ρ σ nb K}(hk:K (.tup []) ⟨ρ,σ,[(0,.arr 268 5 ((aW cZ l).map bU) false)],1,nb⟩):
  CallS Tryz.prog false 238 [.rf 0 0 l.length,.fn 239 [] []] ⟨ρ,σ,[(0,.arr 268 5 (l.map bU) false)],1,nb⟩ K:=by
 refine im_ Tryz.func238 [] (g2_ ?_);refine g2_ ?_;refine iT (by omega) ?_
 refine g2_ ?_;refine ce_ (aac l.length hl) (g2_ ?_);refine ang l _ hl ?_;refine g2_ ?_;exact hk
theorem aoK(l:List GDesc)(hl:l.length<=12){L0:List (List DV)}{ρ σ nb K}(hk:K (.tup []) ⟨ρ,σ,[(1,.arr 34 4 ((aW cX l).map ah) false),(0,.arr 268 5 L0 false)],2,nb⟩):
  CallS Tryz.prog false 362 [.rf 1 0 l.length,.v (.int .i64 0),.v (.int .i64 l.length),.fn 242 [] []] ⟨ρ,σ,[(1,.arr 34 4 (l.map ah) false),(0,.arr 268 5 L0 false)],2,nb⟩ K:=by
 refine im_ Tryz.func362 [] (g2_ ?_);refine g2_ ?_;refine bt (γ:=Nat) (fun i=>[(8,.d (.v (.int .i64 (i:Nat))))]) (fun _=>[]) (fun i=>[(1,.arr 34 4 ((aW cX (l.take i)++l.drop i).map ah) false),(0,.arr 268 5 L0 false)]) 2 (fun i=>1<=i/\(l.length<i->i=1)) (fun i=>l.length+1-i) 1 (aa [] ?_) ⟨by omega,by omega⟩ (fun i hi=>?_)
 ·have e:aW cX (l.take 1)++l.drop 1=l:=by
   cases l with
   |nil=>rfl
   |cons x r=>rfl
  refine gf_ e ?_
  first|rfl|exact⟨rfl,rfl⟩|trace_state
 obtain⟨hi1,hi2⟩:=hi;refine g2_ ?_
 by_cases hlt:i<l.length
 ·rw[decide_eq_true (show(i:Int)<(l.length:Int)by omega)]
  refine g2_ ?_;obtain⟨P,hP⟩: ∃P,P=aW cX (l.take i):=⟨_,rfl⟩;have hPl:P.length=i:=by rw[hP,cr,List.length_take];omega
  obtain⟨x,hx⟩: ∃x,x=l[i]:=⟨_,rfl⟩
  have hnext:dF cX x P i<=i->ck P x (dF cX x P i)++l.drop (i+1)=aW cX (l.take (i+1))++l.drop (i+1):=by
   intro _;rw[p8 hlt, <-hP, <-hx,j4,hPl]
  have h0:aW cX (l.take i)++l.drop i=ck P x i++l.drop (i+1):=by
   rw[<-hP,hx];have:=sA P hlt hPl;rwa[hPl]at this
  rw[h0];generalize hD:l.drop (i+1)=rest at hnext
  have r1: ∀j,j<=i->((ck P x j++rest).map ah)[j]? =some (ah x):=fun j hj=>by
   rw[List.getElem?_map,List.getElem?_append_left (by rw[de];omega),sY (by omega)];rfl
  have r2: ∀j,(hj:j<i)->((ck P x (j+1)++rest).map ah)[j]? =some (ah (P[j]'(by omega))):=fun j hj=>by
   rw[List.getElem?_map,List.getElem?_append_left (by rw[de];omega),nK (by omega)];rfl
  have r3: ∀j,((ck P x j++rest).map ah).length=l.length:=fun j=>by
   rw[List.length_map,List.length_append,de, <-hD,List.length_drop];omega
  have r4: ∀j,(hj:j<i)->((((ck P x (j+1)++rest).map ah).set (j+1) (ah (P[j]'(by omega)))).set j (ah x))=(ck P x j++rest).map ah:=fun j hj=>by
   rw[<-List.map_set, <-List.map_set,List.set_append_left _ _ (by rw[de];omega),List.set_append_left _ _ (by rw[List.length_set,de];omega),rR (by omega)]
  refine bt (γ:=Nat) (fun j=>[(9,.d (.v (.int .i64 (j:Nat))))]) (fun _=>[]) (fun j=>[(1,.arr 34 4 ((ck P x j++rest).map ah) false),(0,.arr 268 5 L0 false)]) 2 (fun j=>j<=i/\dF cX x P j=dF cX x P i) (fun j=>j) i (aa [] ?_) ⟨Nat.le_refl _,rfl⟩ (fun j hj=>?_)
  ·repeat first|simp-implicitDefEqProofs only[go_sem,ab]|with_reducible refine gl_ ?_
   first|done|rfl|exact⟨rfl,rfl⟩
  obtain⟨hj1,hj2⟩:=hj;cases j with
  |zero=>
   rw[<-hj2]at hnext;refine g2_ ?_;refine .inl ⟨[oF 0,oF 1,oF 2,oF 3,oF 4,oF 5,oF 6,oF 9,oF 10,oF 7,oF 11,oF 8,oF 12,oF 13,oF 14,oF 15,oF 16],by kernel_rfl,g2_ ?_⟩
   rw[show decide ((0:Int)<0)=false from rfl]
   have hz:ck P x 0++rest=aW cX (l.take (i+1))++l.drop (i+1):=by rw[hD];exact hnext (Nat.zero_le _)
   rw[hz];refine g2_ ?_;refine⟨i+1,aa [] ?_,⟨by omega,by omega⟩,by omega⟩
   refine gx_ ?_;rfl
  | succ j=>
   have hjP:j<P.length:=by omega
   have hcc:=ajn x P[j];have q1:=r1 (j+1) hj1;have q2:=r2 j (by omega)
   have q3:=r3 (j+1);have q4:=r4 j (by omega)
   generalize q6:(ck P x (j+1)++rest).map ah=R at q1 q2 q3 q4;have q5: ∀v,(R.set (j+1) v)[j]? =some (ah P[j]):=fun v=>by rw[List.getElem?_set_ne (by omega)];exact q2
   simp only[ah]at q1 q2 q4 q5;refine g2_ ?_;refine .inl ⟨[oF 0,oF 1,oF 2,oF 3,oF 4,oF 5,oF 6,oF 9,oF 10,oF 7,oF 11,oF 8,oF 12,oF 13,oF 14,oF 15,oF 16],by kernel_rfl,g2_ ?_⟩
   rw[show decide ((0:Int)<((j+1:Nat):Int))=true from decide_eq_true (by omega)]
   have e1:((j+1:Nat):Int)-1=(j:Nat):=by omega
   refine gi_ q1 q2 q3 e1 ?_;refine ce_ hcc (g2_ ?_)
   by_cases hc:ap2 x P[j]<0
   ·rw[decide_eq_true hc];have hs:dF cX x P (j+1)=dF cX x P j:=mL hjP (decide_eq_true hc);refine g2_ ?_;refine .inl ⟨[oF 0,oF 1,oF 2,oF 3,oF 5,oF 6,oF 10,oF 11,oF 4,oF 7,oF 12,oF 8,oF 13,oF 9,oF 14,oF 15,oF 16,oF 17],by kernel_rfl,gf_ (c4_ q1 q2 q3 (c2_ q5 e1)) ?_⟩
    refine⟨j,aa [] ?_,⟨by omega,by omega⟩,by omega⟩
    rw[<-q4];exact ws_
   ·rw[decide_eq_false hc];have hs:dF cX x P (j+1)=j+1:=m_ hjP (decide_eq_false hc);rw[<-hj2,hs]at hnext;rw[<-q6,hnext hj1, <-hD];refine g2_ ?_;refine⟨i+1,aa [] ?_,⟨by omega,by omega⟩,by omega⟩
    refine g2_ ?_;rfl
 ·rw[decide_eq_false (show ¬(i:Int)<(l.length:Int)by omega)]
  have e:aW cX (l.take i)++l.drop i=aW cX l:=by
   by_cases h:l.length=0
   ·have:=List.eq_nil_of_length_eq_zero h;subst this;simp
   ·rw[List.take_of_length_le (by omega),List.drop_eq_nil_of_le (by omega),List.append_nil]
  rw[e];refine g2_ ?_;exact hk
theorem apP(l:List GDesc)(m:Int)(hl:l.length<=12){L0:List (List DV)}{ρ σ nb K}(hk:K (.tup []) ⟨ρ,σ,[(1,.arr 34 4 ((aW cX l).map ah) false),(0,.arr 268 5 L0 false)],2,nb⟩):
  CallS Tryz.prog false 313 [.rf 1 0 l.length,.v (.int .i64 0),.v (.int .i64 l.length),.v (.int .i64 m),.fn 242 [] []] ⟨ρ,σ,[(1,.arr 34 4 (l.map ah) false),(0,.arr 268 5 L0 false)],2,nb⟩ K:=by
 refine im_ Tryz.func313 [] (g2_ ?_);refine g2_ ?_;refine bt (γ:=Unit) (fun _=>[]) (fun _=>[]) (fun _=>[(1,.arr 34 4 (l.map ah) false),(0,.arr 268 5 L0 false)]) 2 (fun _=>True) (fun _=>0) () (aa [] ws_) trivial (fun i hi=>?_)
 refine g2_ ?_;rw[show decide ((l.length:Int)-0<=12)=true from decide_eq_true (by omega)]
 refine g2_ ?_;refine aoK l hl ?_;refine g2_ ?_;exact hk
theorem amW(l:List GDesc)(hl:l.length<=12){L0:List (List DV)}{ρ σ nb K}(hk:K (.tup []) ⟨ρ,σ,[(1,.arr 34 4 ((aW cX l).map ah) false),(0,.arr 268 5 L0 false)],2,nb⟩):
  CallS Tryz.prog false 241 [.rf 1 0 l.length,.fn 242 [] []] ⟨ρ,σ,[(1,.arr 34 4 (l.map ah) false),(0,.arr 268 5 L0 false)],2,nb⟩ K:=by
 refine im_ Tryz.func241 [] (g2_ ?_);refine g2_ ?_;refine iT (by omega) ?_
 refine g2_ ?_;refine ce_ (aac l.length hl) (g2_ ?_);refine apP l _ hl ?_;refine g2_ ?_;exact hk
end Go.Proofs.YtmhmahcdanclnaaGreat.V
namespace Go.Proofs.YtmhmahcdanclnaaGreat.V
open Go.Eng
attribute [local go_sem] aS ah fzD plR ba z8 z16 z32 z64 c00
theorem pR(own:List GSpan)(l:List GDesc)(k:Nat):(fScored own (l.take k)).length<=l.length:=by
 refine Nat.le_trans (List.length_filter_le _ _) ?_;rw[List.length_map,List.length_take];omega
theorem xK{own:List GSpan}{l:List GDesc}{k:Nat}(h:k<l.length):fScored own (l.take (k+1))=fScored own (l.take k)++(if 0<xj own l[k].filter then [⟨l[k],xj own l[k].filter⟩]else []):=by grind [fScored,List.take_add_one,List.getElem?_eq_getElem,xj]
theorem pA(own:List GSpan)(self:UInt8)(room:Int)(L:List (List GDesc))(hL:L.length<=4000000)(hl: ∀l∈L,cg l)(h1:own.length<=4000000)(h2: ∀s∈own,okS s)(hok: ∀d∈cf self L,d.filter.length<=4000000/\ ∀s∈d.filter,okS s)(h12:(cf self L).length<=12):
  Con2 Tryz.prog 151 [fzS own,.v (.int .u8 self.toNat),.v (.int .i64 room),.fz 1 (mn L)] (· =plR (fzD (c_ own self room L))):=by
 refine Con2.ofEmb ?_;have hu:=uU self L hL hl;unfold c_;generalize cf self L=known at hu hok h12;refine en_ Tryz.func151 [.tmp 8] (g2_ ?_);refine g2_ ?_
 by_cases hr:room<1
 ·rw[decide_eq_true hr,if_pos hr];refine g2_ ?_;refine ae ?_ rfl;exact wx_
 rw[decide_eq_false hr,if_neg hr];refine g2_ ?_;refine ce_ hu (g2_ ?_);refine aq known.length (fun k=>[(9,.d (.rf 0 0 (fScored own (known.take k)).length))]) (fun _=>[]) (fun k=>[(0,.arr 268 5 ((fScored own (known.take k)).map bU) false)]) 1 (fun _=>True) (aa [(0,.nil 5)] ?_) trivial (fun g k=>ws_) (by omega) (fun g=>ws_) (fun k hk _=>?_) (fun _=>?_)
 ·exact v1_ (c4_ @List.take_zero.{0} @fScored.eq_1 @List.filter_nil.{0} @List.map_nil.{0,0})
  first|rfl|exact⟨rfl,rfl⟩|trace_state
 ·have hsl:=pR own known k;have hsn:=xK (own:=own) hk;have hd:=hok _ (List.getElem_mem hk);have hov:=apK own known[k].filter (by omega) (by omega) h2 hd.2
  refine gf_ (mE_ hk) ?_;generalize known[k]=d at hsn hov;refine ce_ hov (g2_ ?_)
  by_cases h3:(0:Int)<(xj own d.filter:Int)
  ·rw[decide_eq_true h3];rw[if_pos (by omega)]at hsn
   refine gx_ ?_;refine⟨k+1,aa [(0,.to 2)] ?_,rfl⟩;refine u1_ (c2_ hsn @List.length_append.{0}) ?_;rw[List.map_append];rfl
  ·rw[decide_eq_false h3];rw[if_neg (by omega),List.append_nil]at hsn
   refine gx_ ?_;refine⟨k+1,aa [(0,.to 0)] ?_,rfl⟩;exact y1_ hsn
 ·have he:known.take known.length=known:=List.take_of_length_le (by omega)
  have hsl:=pR own known known.length;rw[he]at hsl ⊢;generalize fScored own known=S at hsl;refine g2_ ?_;refine aj3 S (by omega) ?_
  refine g2_ ?_;obtain⟨T,hT⟩: ∃T,T=aW cZ S:=⟨_,rfl⟩;have hTl:T.length=S.length:=by rw[hT,cr]
  rw[<-hT];obtain⟨m,hm⟩: ∃m:Nat,m=min room.toNat T.length:=⟨_,rfl⟩;have hmi:(if (S.length:Int)<room then (S.length:Int)else room)=(m:Int):=by split<;>omega
  have htk:T.take room.toNat=T.take m:=by
   by_cases h:room.toNat<=T.length
   ·rw[show m=room.toNat by omega]
   ·rw[List.take_of_length_le (by omega),List.take_of_length_le (by omega)]
  rw[htk,hmi];refine aq m (fun k=>[(13,.d (.rf 1 0 ((T.take k).map (·.d)).length))]) (fun _=>[]) (fun k=>[(1,.arr 34 4 (((T.take k).map (·.d)).map ah) false),(0,.arr 268 5 (T.map bU) false)]) 2 (fun _=>True) (aa [(1,.nil 4),(0,.to 0)] ?_) trivial (fun g k=>ws_) (by omega) (fun g=>ws_) (fun k hk _=>?_) (fun _=>?_)
  ·repeat first|simp-implicitDefEqProofs only[go_sem,ab,List.take_zero,List.map_nil]|with_reducible refine gl_ ?_
   first|done|rfl|exact⟨rfl,rfl⟩
  ·have hkT:k<T.length:=by omega
   have hg:(T.map bU)[k]? =some (bU T[k]):=by rw[List.getElem?_map,List.getElem?_eq_getElem hkT];rfl
   have hsn:(T.take (k+1)).map (·.d)=(T.take k).map (·.d)++[T[k].d]:=by
    rw[List.take_add_one,List.getElem?_eq_getElem hkT,List.map_append];rfl
   have hcl:((T.take k).map (·.d)).length<=12:=by rw[List.length_map,List.length_take];omega
   generalize (T.take k).map (·.d)=C at hsn hcl
   simp only[bU]at hg;refine gg_ hg hTl ?_;refine⟨k+1,aa [(1,.to 3),(0,.to 0)] ?_,rfl⟩;have hsl2:(T.take (k+1)).length=C.length+1:=by have:=congrArg List.length hsn;rw[List.length_map,List.length_append]at this;exact this
   refine u1_ (c2_ hsn @List.length_append.{0}) ?_;rw[List.map_append];exact⟨hsl2,rfl⟩
  ·have hcl:((T.take m).map (·.d)).length<=12:=by rw[List.length_map,List.length_take];omega
   generalize (T.take m).map (·.d)=C at hcl
   refine g2_ ?_;refine amW C hcl ?_;refine g2_ ?_;refine ae ?_ rfl;refine gf_ @cr ?_;rw[List.take_of_length_le (by rw[List.length_map,cr];exact Nat.le_refl _)]
attribute[local go_sem] a_
theorem jm{far:UInt16->UInt16->UInt16}{here:UInt16}{dom:List GSpan}{l:List GDesc}(h:l≠[]): ∀k,(gi far here dom l k).1<l.length
 |0=>by cases l with
  |nil=>exact absurd rfl h
  |cons x r=>exact Nat.zero_lt_succ _
 | k+1=>by
  unfold gi;cases h2:l[k]? with
  |none=>exact jm h k
  |some d=>
   simp only;split
   ·exact(List.getElem?_eq_some_iff.1 h2).1
   ·exact jm h k
theorem ab0{far:UInt16->UInt16->UInt16}{here:UInt16}{dom:List GSpan}{l:List GDesc}{k:Nat}(h:k<l.length):gi far here dom l (k+1)=if far here (fy dom l[k])<(gi far here dom l k).2 then (k,far here (fy dom l[k]))else gi far here dom l k:=by
 rw[gi,List.getElem?_eq_getElem h]
theorem qi(clo:FuncId)(far:UInt16->UInt16->UInt16)(hfar: ∀a b:UInt16,Con2 Tryz.prog clo [.v (.int .u16 a.toNat),.v (.int .u16 b.toNat)] (· =plR (.v (.int .u16 (far a b).toNat))))(dom:List GSpan)(here:UInt16)(known:List GDesc)(hne:known≠[])(hmax:known.length<=100000)
  (h4:dom.length<=4) (hd: ∀s∈dom,okS s) (hok: ∀d∈known,d.filter.length<=4000000/\ ∀s∈d.filter,okS s) {ρ σ nb K}
  (hk:K (.agg (ah (dx far here dom known))) ⟨ρ,σ,[(2,.var 32 [fzD known]),(1,.var 23 [fzS dom]),(0,.var 30 [.v (.int .u16 here.toNat)])],3,nb⟩):
  CallS Tryz.prog false 245 [.fn clo [] [],.pt 0 0,.pt 1 0,.pt 2 0] ⟨ρ,σ,[(2,.var 32 [fzD known]),(1,.var 23 [fzS dom]),(0,.var 30 [.v (.int .u16 here.toNat)])],3,nb⟩ K:=by
 obtain⟨d0,hd0⟩: ∃d0,known[0]? =some d0:=⟨known[0]'(by cases known;exact absurd rfl hne;simp),List.getElem?_eq_getElem _⟩
 have hlen:0<known.length:=by cases known;exact absurd rfl hne;simp
 have hh:known.headD zDesc=d0:=by cases known with
  |nil=>exact absurd rfl hne
  |cons x r=>simpa using hd0
 have hm0:d0∈known:=List.mem_of_getElem? hd0;have hp0:=mW dom d0 h4 (by have:=(hok d0 hm0).1;omega) hd (hok d0 hm0).2
 have hg0:(known.map ah)[0]? =some (ah d0):=by rw[List.getElem?_map,hd0];rfl
 have hf0:=hfar here (fy dom d0);simp only[ah]at hg0;have ek0:gi far here dom known 0=(0,far here (fy dom d0)):=by rw[gi,hh]
 refine im_ Tryz.func245 [.cell 5 34] (g2_ ?_);refine g2_ ?_;refine .inl ⟨[oF 0,oF 1,oF 2,oF 3,oF 4,oF 5,oT 6,oF 7,oF 8],by kernel_rfl,gf_ hg0 ?_⟩
 refine ce_ hp0 (g2_ ?_);refine ce_ hf0 (g2_ ?_);refine aq known.length (fun k=>[(6,.d (.v (.int .i64 (gi far here dom known k).1))),(7,.d (.v (.int .u16 (gi far here dom known k).2.toNat)))]) (fun _=>[]) (fun k=>[(2,.var 32 [fzD known]),(1,.var 23 [fzS dom]),(0,.var 30 [.v (.int .u16 here.toNat)])]) 3 (fun _=>True) (aa [] ?_) trivial (fun g k=>ws_) (by omega) (fun g=>ws_) (fun k hk2 _=>?_) (fun _=>?_)
 ·repeat first|simp-implicitDefEqProofs only[go_sem,ab,ek0]|with_reducible refine gl_ ?_
  first|done|rfl|exact⟨rfl,rfl⟩
 ·have hmk:=hok _ (List.getElem_mem hk2);have hpk:=mW dom known[k] h4 (by have:=hmk.1;omega) hd hmk.2
  have hfk:=hfar here (fy dom known[k]);have hsu:=ab0 (far:=far) (here:=here) (dom:=dom) hk2;have hlt1:=jm (far:=far) (here:=here) (dom:=dom) hne k;refine gf_ (mE_ hk2) ?_;refine .inl ⟨[oF 0,oF 1,oF 2,oF 3,oT 4,oF 5,oF 6],by kernel_rfl,g2_ ?_⟩
  refine ce_ hpk (g2_ ?_);refine ce_ hfk (g2_ ?_)
  by_cases hc:((far here (fy dom known[k])).toNat:Int)<((gi far here dom known k).2.toNat:Int)
  ·rw[decide_eq_true hc];rw[if_pos ((gD _ _).1 hc)]at hsu;refine g2_ ?_;refine⟨k+1,aa [] ?_,rfl⟩;exact wf_ hsu
  ·rw[decide_eq_false hc];rw[if_neg (fun h=>hc ((gD _ _).2 h))]at hsu
   refine g2_ ?_;refine⟨k+1,aa [] ?_,rfl⟩;exact wf_ hsu
 ·have hb:=jm (far:=far) (here:=here) (dom:=dom) hne known.length
  have hgb:(known.map ah)[(gi far here dom known known.length).1]? =some (ah (dx far here dom known)):=by
   rw[List.getElem?_map,dx,List.getD_eq_getElem?_getD,List.getElem?_eq_getElem hb];rfl
  have hmb:dx far here dom known∈known:=by
   rw[dx,List.getD_eq_getElem?_getD,List.getElem?_eq_getElem hb];exact List.getElem_mem hb
  have hone:=amH (dx far here dom known) (hok _ hmb).1;generalize dx far here dom known=X at hgb hone hk;generalize (gi far here dom known known.length).1=B at hgb hb;simp only[ah]at hgb;refine gf_ hgb ?_;refine ce_ hone (g2_ ?_);exact hk
theorem alx(a b:UInt16):Con2 Tryz.prog 247 [.v (.int .u16 a.toNat),.v (.int .u16 b.toNat)] (· =plR (.v (.int .u16 (b-a).toNat))):=by
 refine en_ Tryz.func247 [.tmp 4] (g2_ ?_);refine g2_ ?_;refine ce_ (zN a b) (g2_ ?_);exact⟨_,rfl,aa [] ws_⟩
theorem akN(a b:UInt16):Con2 Tryz.prog 249 [.v (.int .u16 a.toNat),.v (.int .u16 b.toNat)] (· =plR (.v (.int .u16 (a-b).toNat))):=by
 refine en_ Tryz.func249 [.tmp 4] (g2_ ?_);refine g2_ ?_;refine ce_ (zN b a) (g2_ ?_);exact⟨_,rfl,aa [] ws_⟩
theorem pZ(dom:List GSpan)(self:GDesc)(L:List (List GDesc))(hL:L.length<=4000000)(hl: ∀l∈L,cg l)(h4:dom.length<=4)(hd: ∀s∈dom,okS s)(hs:self.filter.length<=4000000)(hss: ∀s∈self.filter,okS s)(hok: ∀d∈cf self.node L,d.filter.length<=4000000/\ ∀s∈d.filter,okS s)(hlm:(cf self.node L).length<=100000):
  Con2 Tryz.prog 152 [fzS dom,.agg (ah self),.fz 1 (mn L)] (· =plR (.agg (a_ (dK dom self L)))):=by
 refine Con2.ofEmb ?_;have hu:=uU self.node L hL hl;have hp:=mW dom self h4 (by omega) hd hss
 unfold dK;generalize cf self.node L=known at hu hok hlm;refine en_ Tryz.func152 [.cell 6 36] (g2_ ?_);refine g2_ ?_;refine ce_ hu (g2_ ?_);refine kR (fun h=>?_) (fun h=>?_)
 ·have e:known=[]:=List.eq_nil_of_length_eq_zero (by omega)
  rw[if_pos e];refine g2_ ?_;refine ae ?_ rfl;exact wf_ @zDesc.eq_1
 ·have e:known≠[]:=fun e=>h (by rw[e];rfl)
  rw[if_neg e];refine g2_ ?_;refine ce_ hp (g2_ ?_);refine qi 247 (fun h t=>t-h) alx dom _ known e hlm h4 hd hok ?_
  refine g2_ ?_;refine qi 249 (fun h t=>h-t) akN dom _ known e hlm h4 hd hok ?_
  refine g2_ ?_;refine ae ?_ rfl;exact ws_
end Go.Proofs.YtmhmahcdanclnaaGreat.V
namespace Go.Eng
def okF(d:GDesc):Prop:=d.filter.length<=4000000/\ ∀s∈d.filter,okS s
theorem uP:okF zDesc:=⟨Nat.zero_le _,fun s h=>by cases h⟩
theorem alv{self:UInt8}{P:GDesc->Prop}{l:List GDesc}{d:GDesc}(hl: ∀i e,l[i]? =some e->e.inc=0\/(e.node.toNat=i/\P e))(hd:P d): ∀i e,(jX self l d)[i]? =some e->e.inc=0\/(e.node.toNat=i/\P e):=by grind [jX]
theorem nG{self:UInt8}{P:GDesc->Prop}: ∀{ds l:List GDesc},(∀i e,l[i]? =some e->e.inc=0\/(e.node.toNat=i/\P e))->(∀d∈ds,P d)-> ∀i e,(fI self l ds)[i]? =some e->e.inc=0\/(e.node.toNat=i/\P e)
 |[],l,hl,_=>hl
 |d::r,l,hl,hd=>by
  show ∀i e,(fI self (jX self l d) r)[i]? =some e->_;exact nG (alv hl (hd d List.mem_cons_self)) fun x hx=>hd x (List.mem_cons_of_mem _ hx)
theorem akx{P:GDesc->Prop}(i:Nat)(e:GDesc)(h:zL[i]? =some e):e.inc=0\/(e.node.toNat=i/\P e):=by
 unfold zL at h;rw[List.getElem?_replicate]at h;split at h
 ·cases h;exact .inl rfl
 ·cases h
theorem hX{self:UInt8}{L:List (List GDesc)}{d:GDesc}(h:d∈cf self L): ∃l∈L,d∈l:=by
 obtain⟨h1,h2⟩:=List.mem_filter.1 h;obtain⟨i,hi,hd⟩:=List.mem_iff_getElem.1 h1;rcases nG (P:=fun d=>d∈L.flatten) akx (fun d hd=>hd) i d (by rw[List.getElem?_eq_getElem hi,hd])with h3|h3
 ·rw[h3]at h2;simp at h2
 ·exact List.mem_flatten.1 h3.2
theorem mc{α:Type}{f:α->Bool}: ∀{l:List α},(∀x∈l,f x=false)->l.filter f=[]
 |[],_=>rfl
 |x::r,h=>by rw[List.filter_cons,h x List.mem_cons_self];exact mc fun y hy=>h y (List.mem_cons_of_mem _ hy)
theorem ab4{self:UInt8}{L:List (List GDesc)}{n:Nat}(h: ∀l∈L, ∀d∈l,d.node.toNat<n):(cf self L).length<=n:=by
 unfold cf;have key:=nG (self:=self) (P:=fun d=>d.node.toNat<n) akx (ds:=L.flatten) (fun d hd=>by obtain⟨l,h1,h2⟩:=List.mem_flatten.1 hd;exact h l h1 d h2)
 generalize fI self zL L.flatten=A at key;rw[<-List.take_append_drop n A,List.filter_append,List.length_append];have h1:=List.length_filter_le (fun d:GDesc=>decide ((0:Int)<(d.inc.toNat:Int))) (A.take n)
 have h2:(A.drop n).filter (fun d:GDesc=>decide ((0:Int)<(d.inc.toNat:Int)))=[]:=mc fun x hx=>by
  obtain⟨i,hi,hd⟩:=List.mem_iff_getElem.1 hx;have h3:A[n+i]? =some x:=by rw[<-List.getElem?_drop,List.getElem?_eq_getElem hi,hd]
  rcases key _ _ h3 with h4|h4
  ·rw[h4];rfl
  ·omega
 rw[h2];rw[List.length_take]at h1;simp only[List.length_nil];omega
end Go.Eng
namespace Go.Proofs.YtmhmahcdanclnaaGreat.V
open Go.Eng
theorem o9{own:List GSpan}{self:UInt8}{room:Int}{L:List (List GDesc)}{d:GDesc}(h:d∈c_ own self room L):d∈cf self L:=by
 unfold c_ at h;split at h
 ·cases h
 ·rcases fN h with h|h
  ·obtain⟨x,hx,rfl⟩:=List.mem_map.1 h;rcases fN (List.mem_of_mem_take hx)with h|h
   ·obtain⟨h,_⟩:=List.mem_filter.1 h;obtain⟨y,hy,rfl⟩:=List.mem_map.1 h;exact hy
   ·cases h
  ·cases h
theorem uN{own:List GSpan}{self:UInt8}{room:Int}{L:List (List GDesc)}:(c_ own self room L).length<=(cf self L).length:=by grind [cr,List.length_map,List.length_take,c_,fScored]
theorem qD{p:af}{d:GDesc}(h:cC p d=true):d.node.toNat<p.table.length:=by grind [cC]
theorem l8{r:ep}{d:GDesc}(h:d∈aY r):(r.hs=true/\d=r.succ)\/(r.hp=true/\d=r.pred):=by grind [aY,gh]
theorem f5(r:ep):(aY r).length<=2:=by
 unfold aY gh
 repeat' split
 all_goals simp
def bH(p:af)(r:ep):ep:=⟨r.hs&&cC p r.succ,r.hp&&cC p r.pred,if r.hs&& !cC p r.succ then zDesc else r.succ,if r.hp&& !cC p r.pred then zDesc else r.pred⟩
def aB(c:ar)(p:af)(l:List GDesc):af:=
 let v:=pCur p p.view
 let b:=aY (bH p p.ring)
 let m:=pUse c p l
 let n:=c_ p.filter p.node c.near [v,pCur p p.near,b,m]
 { p with view:=v,near:=n,ring:=dK c.schema (pSelf p) [v,n,b,m] }
structure okG(p:af):Prop where
 ok:okP p
 filter: ∀s∈p.filter,okS s
 view: ∀d∈p.view,okF d
 near: ∀d∈p.near,okF d
 succ:okF p.ring.succ
 pred:okF p.ring.pred
 table:p.table.length<=12
structure okM(n:Nat)(L:List (List GDesc)):Prop where
 ds: ∀l∈L,cg l
 f: ∀l∈L, ∀d∈l,okF d
 lt: ∀l∈L, ∀d∈l,d.node.toNat<n
theorem okM.u{n:Nat}{L:List (List GDesc)}(h:okM n L)(self:UInt8):(∀d∈cf self L,d.filter.length<=4000000/\ ∀s∈d.filter,okS s)/\(cf self L).length<=n:=
 ⟨fun d hd=>by obtain⟨l,h1,h2⟩:=hX hd;exact h.f l h1 d h2,ab4 h.lt⟩
theorem bV{p:af}{l:List GDesc}(h:cg l):cg (pCur p l):=fi h
theorem qM{c:ar}{p:af}{l:List GDesc}(hp:okG p)(hl:cg l)(hl2: ∀d∈l,okF d):okM 12 [pCur p p.view,pCur p p.near,aY (bH p p.ring),pUse c p l]/\
  ∀room,okM 12 [pCur p p.view,c_ p.filter p.node room [pCur p p.view,pCur p p.near,aY (bH p p.ring),pUse c p l],aY (bH p p.ring),pUse c p l]:=by
 have ht:=hp.table
 have a: ∀l,(∀d∈l,okF d)-> ∀d∈pCur p l,okF d/\d.node.toNat<12:=fun l hl d hd=>by
  obtain⟨h1,h2⟩:=List.mem_filter.1 hd;have:=qD h2;exact⟨hl d h1,by omega⟩
 have b: ∀d∈aY (bH p p.ring),okF d/\d.node.toNat<12:=fun d hd=>by
  rcases l8 hd with ⟨h1,rfl⟩|⟨h1,rfl⟩
  ·have h2:p.ring.hs=true/\cC p p.ring.succ=true:=by simpa[bH]using h1
   have e:(bH p p.ring).succ=p.ring.succ:=by simp[bH,h2.2]
   have:=qD h2.2;rw[e];exact⟨hp.succ,by omega⟩
  ·have h2:p.ring.hp=true/\cC p p.ring.pred=true:=by simpa[bH]using h1
   have e:(bH p p.ring).pred=p.ring.pred:=by simp[bH,h2.2]
   have:=qD h2.2;rw[e];exact⟨hp.pred,by omega⟩
 have hb:cg (aY (bH p p.ring)):=⟨by have:=f5 (bH p p.ring);omega,fun d hd=>(b d hd).1.1⟩
 have hf: ∀d∈pFine c l,okF d:=fun d hd=>hl2 d (List.mem_filter.1 hd).1
 have m1:okM 12 [pCur p p.view,pCur p p.near,aY (bH p p.ring),pUse c p l]:=by
  refine⟨fun l' h=>?_,fun l' h d hd=>?_,fun l' h d hd=>?_⟩
  ·simp at h;rcases h with rfl|rfl|rfl|rfl
   ·exact bV hp.ok.view
   ·exact bV hp.ok.near
   ·exact hb
   ·exact fi (fi hl)
  ·simp at h;rcases h with rfl|rfl|rfl|rfl
   ·exact(a _ hp.view d hd).1
   ·exact(a _ hp.near d hd).1
   ·exact(b d hd).1
   ·exact(a _ hf d hd).1
  ·simp at h;rcases h with rfl|rfl|rfl|rfl
   ·exact(a _ hp.view d hd).2
   ·exact(a _ hp.near d hd).2
   ·exact(b d hd).2
   ·exact(a _ hf d hd).2
 refine⟨m1,fun room=>?_⟩
 have hn: ∀d∈c_ p.filter p.node room [pCur p p.view,pCur p p.near,aY (bH p p.ring),pUse c p l],okF d/\d.node.toNat<12:=fun d hd=>by
  obtain⟨l',h1,h2⟩:=hX (o9 hd);exact⟨m1.f l' h1 d h2,m1.lt l' h1 d h2⟩
 have hn2:cg (c_ p.filter p.node room [pCur p p.view,pCur p p.near,aY (bH p p.ring),pUse c p l]):=
  ⟨Nat.le_trans uN (Nat.le_trans (m1.u p.node).2 (by omega)),fun d hd=>(hn d hd).1.1⟩
 generalize c_ p.filter p.node room [pCur p p.view,pCur p p.near,aY (bH p p.ring),pUse c p l]=N at hn hn2;refine⟨fun l' h=>?_,fun l' h d hd=>?_,fun l' h d hd=>?_⟩
 ·simp at h;rcases h with rfl|rfl|rfl|rfl
  ·exact bV hp.ok.view
  ·exact hn2
  ·exact hb
  ·exact fi (fi hl)
 ·simp at h;rcases h with rfl|rfl|rfl|rfl
  ·exact(a _ hp.view d hd).1
  ·exact(hn d hd).1
  ·exact(b d hd).1
  ·exact(a _ hf d hd).1
 ·simp at h;rcases h with rfl|rfl|rfl|rfl
  ·exact(a _ hp.view d hd).2
  ·exact(hn d hd).2
  ·exact(b d hd).2
  ·exact(a _ hf d hd).2
end Go.Proofs.YtmhmahcdanclnaaGreat.V
namespace Go.Eng
theorem f_{p:af}(h:okP p){v n:List GDesc}{r:ep}(hv:cg v)(hn:cg n)(h1:r.succ.filter.length<=4000000)(h2:r.pred.filter.length<=4000000):okP { p with view:=v,near:=n,ring:=r }:=
 ⟨h.filter,hv,hn,h1,h2,h.sent,h.table,h.heard,h.rows,h.reports,h.evs,h.pulls⟩
end Go.Eng
namespace Go.Proofs.YtmhmahcdanclnaaGreat.V
open Go.Eng
attribute [local go_sem] zDesc aS ah fzD plR ba aL aR aC aE ak az aU z8 z16 z32 z64 encMg a_ b_ mn List.map_cons List.map_nil
def zPc:List DV:=[.v (.int .u8 0),.v (.int .u16 0),.v (.bool false),.v (.slice none 0 0),.v (.slice none 0 0),.v (.slice none 0 0),.v (.bool false),.v (.bool false),.v (.int .u8 0),.v (.int .u16 0),.v (.int .u8 0),.v (.slice none 0 0),.v (.int .u8 0),.v (.int .u16 0),.v (.int .u8 0),.v (.slice none 0 0),.v (.bool false),.v (.int .u8 0),.v (.int .u8 0),.v (.slice none 0 0),.v (.slice none 0 0),.v (.int .u32 0),.v (.slice none 0 0),.v (.int .u32 0),.v (.slice none 0 0),.v (.slice none 0 0),.v (.int .i64 0),.v (.slice none 0 0),.v (.slice none 0 0),.v (.int .i64 0),.v (.int .i64 0),.v (.int .i64 0)]
set_option maxHeartbeats 4000000 in
theorem cD (c:ar) (p:af) (l:List GDesc) (hc:c.schema.length<=4) (hcs: ∀s∈c.schema,okS s) (hp:okG p) (hl:cg l) (hl2: ∀d∈l,okF d):
  Con2 Tryz.prog 79 [.agg (aE c),.agg (ak p),fzD l] (· =plR (.agg (ak (aB c p l)))):=by
 refine Con2.ofEmb ?_
 obtain⟨m1,m2⟩:=qM (c:=c) hp hl hl2
 have m2:=m2 c.near
 have u1:=m1.u p.node
 have u2:=m2.u p.node
 have hk:=hp.ok
 have k1:Con2 Tryz.prog 147 [.agg (ak p),fzD p.view] (· =plR (fzD (pCur p p.view))):=aaV p p.view hk hk.view
 have k2:Con2 Tryz.prog 147 [.agg (ak { p with view:=pCur p p.view }),fzD p.near] (· =plR (fzD (pCur p p.near))):=aaV { p with view:=pCur p p.view } p.near (f_ hk (bV hk.view) hk.near hk.succ hk.pred) hk.near
 have k3:Con2 Tryz.prog 148 [.agg (ak { p with view:=pCur p p.view,near:=pCur p p.near }),.agg (ah p.ring.succ)] (· =plR (.v (.bool (cC p p.ring.succ)))):=v9 _ _ (f_ hk (bV hk.view) (bV hk.near) hk.succ hk.pred)
 have k4: ∀hs su,su.filter.length<=4000000->Con2 Tryz.prog 148 [.agg (ak { p with view:=pCur p p.view,near:=pCur p p.near,ring:=⟨hs,p.ring.hp,su,p.ring.pred⟩ }),.agg (ah p.ring.pred)] (· =plR (.v (.bool (cC p p.ring.pred)))):=fun hs su h=>
  v9 _ _ (f_ (r:=⟨hs,p.ring.hp,su,p.ring.pred⟩) hk (bV hk.view) (bV hk.near) h hk.pred)
 have hsf:(bH p p.ring).succ.filter.length<=4000000:=by
  simp only[bH];split
  ·exact Nat.zero_le _
  ·exact hk.succ
 have hpf:(bH p p.ring).pred.filter.length<=4000000:=by
  simp only[bH];split
  ·exact Nat.zero_le _
  ·exact hk.pred
 have k5:=i7 (bH p p.ring) hsf hpf
 have k6:Con2 Tryz.prog 150 [.agg (aE c),.agg (ak { p with view:=pCur p p.view,near:=pCur p p.near,ring:=bH p p.ring }),fzD l] (· =plR (fzD (pUse c p l))):=oq c _ l (by omega) (f_ hk (bV hk.view) (bV hk.near) hsf hpf) hl
 have k7:=pA p.filter p.node c.near _ (by simp) m1.ds hk.filter hp.filter u1.1 u1.2
 have k8:Con2 Tryz.prog 81 [.agg (ak { p with view:=pCur p p.view,near:=c_ p.filter p.node c.near [pCur p p.view,pCur p p.near,aY (bH p p.ring),pUse c p l],ring:=bH p p.ring })] (· =plR (.agg (ah (pSelf p)))):=
  ji _ (f_ hk (bV hk.view) (m2.ds _ (by simp)) hsf hpf)
 have k9:=pZ c.schema (pSelf p) _ (by simp) m2.ds hc hcs hk.filter hp.filter u2.1 (Nat.le_trans u2.2 (by omega))
 have hres:aB c p l={ p with view:=pCur p p.view,near:=c_ p.filter p.node c.near [pCur p p.view,pCur p p.near,aY (bH p p.ring),pUse c p l],ring:=dK c.schema (pSelf p) [pCur p p.view,c_ p.filter p.node c.near [pCur p p.view,pCur p p.near,aY (bH p p.ring),pUse c p l],aY (bH p p.ring),pUse c p l] }:=rfl
 rw[hres]
 clear hres m1 m2 u1 u2 hsf hpf
 generalize dK c.schema (pSelf p) [pCur p p.view,c_ p.filter p.node c.near [pCur p p.view,pCur p p.near,aY (bH p p.ring),pUse c p l],aY (bH p p.ring),pUse c p l]=R at k9
 generalize c_ p.filter p.node c.near [pCur p p.view,pCur p p.near,aY (bH p p.ring),pUse c p l]=N at k7 k8 k9
 generalize pUse c p l=M at k6 k7 k9
 generalize aY (bH p p.ring)=B at k5 k7 k9
 generalize pSelf p=S at k8 k9
 generalize pCur p p.view=v at k1 k2 k3 k4 k6 k7 k8 k9
 generalize pCur p p.near=n at k2 k3 k4 k6 k7 k8
 have hr: ∀a b s q,bH p p.ring=⟨a,b,s,q⟩->bH p p.ring=⟨a,b,s,q⟩:=fun _ _ _ _ h=>h
 unfold bH at hr
 generalize hR:bH p p.ring=r at k5 k6 k8
 unfold bH at hR
 clear hr
 obtain⟨q,hq⟩: ∃q:ep,q=⟨p.ring.hs&&cC p p.ring.succ,p.ring.hp,if (p.ring.hs&& !cC p p.ring.succ)=true then zDesc else p.ring.succ,p.ring.pred⟩:=⟨_,rfl⟩
 have hqs:q.succ.filter.length<=4000000:=by
  rw[hq]
  simp only
  split
  ·exact Nat.zero_le _
  ·exact hk.succ
 have k4':=k4 q.hs q.succ hqs
 rw[show(⟨q.hs,p.ring.hp,q.succ,p.ring.pred⟩:ep)=q by rw[hq]]at k4'
 have q1:q.hp=p.ring.hp:=by rw[hq]
 have q2:q.pred=p.ring.pred:=by rw[hq]
 refine ev_ Tryz.func79 [.cell 6 49] ?_
 refine Vc2.sq (g2_ ?_)
 refine Vc2.sq (g2_ ?_)
 refine cw_ k1 (g2_ ?_)
 refine Vc2.sq (g2_ ?_)
 refine cw_ k2 (g2_ ?_)
 refine Vc2.seqJ (γ:=Unit) (fun _=>⟨[(2,.d (fzD l)),(3,.loc 3 0),(4,.loc 4 0),(6,.loc 6 0)],[(3,⟨aE c,26⟩),(4,⟨ak { p with view:=v,near:=n,ring:=q },49⟩),(6,⟨zPc,49⟩)],[],0,0⟩) (fun _=>True) ?_ (fun _ _=>?_)
 ·refine g2_ ?_
  cases h1:p.ring.hs with
  |false=>
   rw[show q=⟨false,p.ring.hp,p.ring.succ,p.ring.pred⟩by rw[hq];simp[h1]]
   refine gf_ h1 ?_
   refine⟨(),aa [] ?_⟩
   repeat first|simp-implicitDefEqProofs only[go_sem,ab,h1,zPc]|with_reducible refine gl_ ?_
   first|done|rfl|exact⟨rfl,rfl⟩
  | true=>
   refine gf_ h1 ?_
   refine cx_ k3 (wf_ h1) (g2_ ?_)
   cases h2:cC p p.ring.succ with
   |false=>
    rw[show q=⟨false,p.ring.hp,zDesc,p.ring.pred⟩by rw[hq];simp[h1,h2]]
    refine gf_ h1 ?_
    refine⟨(),aa [] ?_⟩
    repeat first|simp-implicitDefEqProofs only[go_sem,ab,h1,zPc]|with_reducible refine gl_ ?_
    first|done|rfl|exact⟨rfl,rfl⟩
   |true=>
    rw[show q=⟨true,p.ring.hp,p.ring.succ,p.ring.pred⟩by rw[hq];simp[h1,h2]]
    refine gf_ h1 ?_
    refine⟨(),aa [] ?_⟩
    repeat first|simp-implicitDefEqProofs only[go_sem,ab,h1,zPc]|with_reducible refine gl_ ?_
    first|done|rfl|exact⟨rfl,rfl⟩
 have er:r=⟨q.hs,q.hp&&cC p q.pred,q.succ,if (q.hp&& !cC p q.pred)=true then zDesc else q.pred⟩:=by
  rw[<-hR,hq]
 rw[<-q2]at k4'
 clear hq hR k3 k4 hqs q1 q2
 refine Vc2.seqJ (γ:=Unit) (fun _=>⟨[(2,.d (fzD l)),(3,.loc 3 0),(4,.loc 4 0),(6,.loc 6 0)],[(3,⟨aE c,26⟩),(4,⟨ak { p with view:=v,near:=n,ring:=r },49⟩),(6,⟨zPc,49⟩)],[],0,0⟩) (fun _=>True) ?_ (fun _ _=>?_)
 ·refine g2_ ?_
  cases h1:q.hp with
  |false=>
   rw[show r=⟨q.hs,false,q.succ,q.pred⟩by rw[er];simp[h1]]
   refine gf_ h1 ?_
   refine⟨(),aa [] ?_⟩
   repeat first|simp-implicitDefEqProofs only[go_sem,ab,h1,zPc]|with_reducible refine gl_ ?_
   first|done|rfl|exact⟨rfl,rfl⟩
  | true=>
   refine gf_ h1 ?_
   refine cx_ k4' (wf_ h1) (g2_ ?_)
   cases h2:cC p q.pred with
   |false=>
    rw[show r=⟨q.hs,false,q.succ,zDesc⟩by rw[er];simp[h1,h2]]
    refine gf_ h1 ?_
    refine⟨(),aa [] ?_⟩
    repeat first|simp-implicitDefEqProofs only[go_sem,ab,h1,zPc]|with_reducible refine gl_ ?_
    first|done|rfl|exact⟨rfl,rfl⟩
   |true=>
    rw[show r=⟨q.hs,true,q.succ,q.pred⟩by rw[er];simp[h1,h2]]
    refine gf_ h1 ?_
    refine⟨(),aa [] ?_⟩
    repeat first|simp-implicitDefEqProofs only[go_sem,ab,h1,zPc]|with_reducible refine gl_ ?_
    first|done|rfl|exact⟨rfl,rfl⟩
 clear er
 refine Vc2.of ?_
 refine g2_ ?_
 refine cw_ k5 (g2_ ?_)
 refine cw_ k6 (g2_ ?_)
 refine cw_ k7 (g2_ ?_)
 refine .inr (.inl ⟨(.fl 0 (.fl 2 (.fl 4 (.fl 6 (.fl 8 (.fl 9 (.fl 1 (.fl 5 (.fl 7 (.eff 3 true (.eff 10 true (.eff 11 false (.fl 12 (.eff 13 false .done .no)) .no) .no) (.eff 10 true (.eff 3 true (.eff 11 false (.fl 12 (.eff 13 false .done .no)) .no) .no) .no))))))))))),by kernel_rfl,g2_ ?_⟩)
 repeat' (first
  |(with_reducible refine And.intro ?_ ?_)
  |(refine cw_ k8 (g2_ ?_))
  |(refine cw_ k9 (g2_ ?_))
  |(with_reducible refine av ?_;refine g2_ ?_))
 all_goals
  first
   |(show 32<=zPc.length;decide)
   |(refine ae ?_ rfl;(focus (simp-implicitDefEqProofs only[go_sem,ab];done)))
