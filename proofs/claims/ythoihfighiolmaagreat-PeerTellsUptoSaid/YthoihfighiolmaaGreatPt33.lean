import Derived.Test.YthoihfighiolmaaGreatPt32
set_option linter.unusedSectionVars false
set_option linter.unusedSimpArgs false
set_option linter.unusedVariables false
set_option maxRecDepth 10000
namespace Go.Eng
def f5(l:List GDesc):List DV:=l.flatMap af
def zA:List DV:=(List.replicate 256 ()).flatMap fun _=>[.v (.int .u8 0),.v (.int .u16 0),.v (.int .u8 0),.v (.slice none 0 0)]
theorem db(d:GDesc):(af d).length=4:=rfl
theorem ob: ∀(l:List GDesc),(f5 l).length=l.length*4
 |[]=>rfl
 |x::r=>by
  have:=ob r;unfold f5 at this ⊢;rw[List.flatMap_cons,List.length_append,db,this,List.length_cons];omega
theorem tO: ∀(l:List GDesc) {n:Nat} (h:n<l.length),((f5 l).drop (n*4)).take 4=af l[n]
 |x::r,0,_=>by
  show((af x++f5 r).drop 0).take 4=_;rw[List.drop_zero,List.take_append_of_le_length (by rw[db];omega),List.take_of_length_le (by rw[db];omega)];rfl
 |x::r,n+1,hn=>by
  show((af x++f5 r).drop ((n+1)*4)).take 4=_;rw[List.drop_append,List.drop_of_length_le (by rw[db];omega),List.nil_append,db,show(n+1)*4-4=n*4 by omega]
  exact tO r (by simpa using hn)
theorem ah7(l:List GDesc){n:Nat}(h:l.length*4=n):(f5 l).take n=f5 l:=List.take_of_length_le (by rw[ob];omega)
theorem o0: ∀(l:List GDesc) (d:GDesc) {n:Nat} (h:n<l.length),spliceD (f5 l) (n*4) (af d)=f5 (l.set n d)
 |x::r,d,0,_=>by
  show(af x++f5 r).take (0*4)++af d++(af x++f5 r).drop (0*4+(af d).length)=af d++f5 r;rw[db,List.drop_append,List.drop_of_length_le (by rw[db];omega),db]
  simp
 |x::r,d,n+1,hn=>by
  have ih:=o0 r d (n:=n) (by simpa using hn)
  unfold spliceD at ih ⊢;rw[db]at ih ⊢;show(af x++f5 r).take ((n+1)*4)++af d++(af x++f5 r).drop ((n+1)*4+4)=af x++f5 (r.set n d);rw[List.take_append,List.drop_append,List.take_of_length_le (by rw[db];omega),List.drop_of_length_le (l:=af x) (by rw[db];omega),db,show(n+1)*4-4=n*4 by omega,show(n+1)*4+4-4=n*4+4 by omega, <-ih]
  simp
theorem nP{r:Nat->Option Rn}: ∀{a a' b b':List DV},wkDs r a a'->wkDs r b b'->wkDs r (a++b) (a'++b')
 |[],a',b,b',h,h'=>by simp only[wkDs]at h;subst h;exact h'
 |d::l,[],b,b',h,_=>by simp[wkDs]at h
 |d::l,e::m,b,b',h,h'=>by
  simp only[wkDs]at h;show wkDs r (d::(l++b)) (e::(m++b'));simp only[wkDs];exact⟨h.1,nP h.2 h'⟩
def zL:List GDesc:=List.replicate 256 zDesc
theorem abz(r:Nat->Option Rn):wkDs r (f5 zL) zA:=by simp_all [List.replicate_succ,List.flatMap_cons,af,zDesc,wkDs,wkD,wkV,wkFz,f5,zL,zA]
theorem d6(r:Nat->Option Rn): ∀(l:List GDesc),wkDs r (f5 l) (f5 l)
 |[]=>rfl
 |x::l=>nP (a:=af x) (a':=af x) (by simp[af,wkDs,wkD,wkV,wkFz]) (d6 r l)
def g_(self:UInt8)(l:List GDesc)(d:GDesc):List GDesc:=
 if d.node=self\/d.inc=0 then l else match l[d.node.toNat]? with
  |some e=>if e.inc=0\/cK d e=true then l.set d.node.toNat d else l
  |none=>l
theorem ab5{self:UInt8}{l:List GDesc}{d:GDesc}:(g_ self l d).length=l.length:=by grind [g_]
def eX(self:UInt8)(l:List GDesc)(ds:List GDesc):List GDesc:=ds.foldl (g_ self) l
theorem jZ{self:UInt8}: ∀{ds l:List GDesc},(eX self l ds).length=l.length
 |[],l=>rfl
 |d::r,l=>by
  show(eX self (g_ self l d) r).length=_;rw[jZ,ab5]
def aV(self:UInt8)(L:List (List GDesc)):List GDesc:=(eX self zL L.flatten).filter fun d=>decide ((0:Int)<(d.inc.toNat:Int))
end Go.Eng
namespace Go.Proofs.YthoihfighiolmaaGreat.V
open Go.Eng
attribute [local go_sem] aP af fzD plR bb a_ aE bj aC ak bk cR z8 z16 z32 z64 encMg aH
@[local go_sem] theorem anj:cX Tryz.prog 330=some zA:=by kernel_rfl
theorem ale:onesD zA=true:=by kernel_rfl
def fk(L:List (List GDesc)):List (List DV):=L.map fun l=>[fzD l]
theorem sm(self:UInt8)(L:List (List GDesc))(hL:L.length<=4000000)(hl: ∀l∈L,aR l):Con2 Tryz.prog 273 [.v (.int .u8 self.toNat),.fz 1 (fk L)] (· =plR (fzD (aV self L))):=by
 refine Con2.ofEmb ?_;have hLl:(fk L).length=L.length:=by rw[fk,List.length_map]
 have hge0: ∀k (hk:k<L.length),(fk L)[k]? =some [fzD L[k]]:=fun k hk=>by rw[fk,List.getElem?_map,List.getElem?_eq_getElem hk];rfl
 generalize fk L=E at hLl hge0;refine en_ Tryz.func273 [.tmp 4] ?_;refine g2_ ?_;refine⟨ale,?_⟩;refine gf_ hLl ?_;refine ay L.length (fun k=>[]) (fun k=>[(5,⟨f5 (eX self zL (L.take k).flatten),330⟩)]) (fun k=>[]) 0 (fun _=>True) (aa [] ?_) trivial (fun g k=>ws_) (by omega) (fun g=>ws_) (fun k hk _=>?_) (fun _=>?_)
 ·refine x1_ @List.flatten_nil.{0} ?_;exact⟨rfl,abz _⟩
 ·have hge:=hge0 k hk;obtain⟨hb,hb2⟩:=hl _ (List.getElem_mem hk);refine gf_ hge ?_;generalize hlk:L[k]=lk at hb hb2;refine ay lk.length (fun j=>[]) (fun j=>[(5,⟨f5 (eX self zL ((L.take k).flatten++lk.take j)),330⟩)]) (fun j=>[]) 0 (fun _=>True) (aa [] ?_) trivial (fun g j=>ws_) (by omega) (fun g=>ws_) (fun j hj _=>?_) (fun _=>?_)
  ·refine x0_ ?_;exact⟨rfl,d6 _ _⟩
  ·have hnd:=lk[j].node.toNat_lt
   have hstep:eX self zL ((L.take k).flatten++lk.take (j+1))=g_ self (eX self zL ((L.take k).flatten++lk.take j)) lk[j]:=by
    rw[List.take_add_one,List.getElem?_eq_getElem hj, <-List.append_assoc,eX,List.foldl_append];rfl
   have hlen:(eX self zL ((L.take k).flatten++lk.take j)).length=256:=by rw[jZ];simp[zL]
   refine gf_ (mE_ hj) ?_;generalize lk[j]=d at hstep hnd;generalize hA:eX self zL ((L.take k).flatten++lk.take j)=A at hstep hlen;have hn:d.node.toNat<A.length:=by omega
   have hA1:(f5 A).length=1024:=by rw[ob,hlen]
   have hw:=tO A hn;have hsp:=o0 A d hn;have hge2:=List.getElem?_eq_getElem hn;have hnw:=yg d A[d.node.toNat]
   have hst:g_ self A d=if d.node=self\/d.inc=0 then A else if A[d.node.toNat].inc=0\/cK d A[d.node.toNat]=true then A.set d.node.toNat d else A:=by
    unfold g_;rw[hge2]
   generalize A[d.node.toNat]=e at hw hnw hst;rw[hst]at hstep;simp only[af]at hw hsp;rw[bt]
   by_cases h1:d.node=self
   ·rw[if_pos (.inl h1)]at hstep;rw[decide_eq_true h1];refine g2_ ?_;refine⟨j+1,aa [] ?_,rfl⟩;refine gf_ hstep ?_
    first|done|exact d6 _ _|exact⟨rfl,d6 _ _⟩|trace_state
   rw[decide_eq_false h1];refine g2_ ?_;rw[sC]
   by_cases h2:d.inc=0
   ·rw[if_pos (.inr h2)]at hstep;rw[decide_eq_true h2];refine g2_ ?_;refine⟨j+1,aa [] ?_,rfl⟩;refine gf_ hstep ?_
    first|done|exact d6 _ _|exact⟨rfl,d6 _ _⟩|trace_state
   rw[if_neg (by simp[h1,h2])]at hstep
   rw[decide_eq_false h2];have hle:decide (d.node.toNat*4<=1020)=true:=decide_eq_true (by omega)
   have hle2:d.node.toNat*4<=1020:=by omega
   refine gh_ hA1 hw hle ?_;rw[sC]
   by_cases h3:e.inc=0
   ·rw[if_pos (.inl h3)]at hstep;rw[decide_eq_true h3];refine gf_ (c4_ hA1 hw hle (c2_ hle2 hsp)) ?_;refine⟨j+1,aa [] ?_,rfl⟩;refine gf_ hstep ?_
    first|done|exact d6 _ _|exact⟨rfl,d6 _ _⟩|trace_state
   rw[decide_eq_false h3];refine g2_ ?_;refine ce_ hnw (g2_ ?_);cases h4:cK d e with
   |true=>
    rw[if_pos (.inr h4)]at hstep;refine gf_ (c4_ hA1 hw hle (c2_ hle2 hsp)) ?_;refine⟨j+1,aa [] ?_,rfl⟩;refine gf_ hstep ?_
    first|done|exact d6 _ _|exact⟨rfl,d6 _ _⟩|trace_state
   |false=>
    rw[if_neg (by simp[h3,h4])]at hstep
    refine g2_ ?_;refine⟨j+1,aa [] ?_,rfl⟩;refine gf_ hstep ?_
    first|done|exact d6 _ _|exact⟨rfl,d6 _ _⟩|trace_state
  ·have hend:(L.take (k+1)).flatten=(L.take k).flatten++lk.take lk.length:=by
    rw[List.take_add_one,List.getElem?_eq_getElem hk,hlk,List.take_of_length_le (Nat.le_refl _)];simp
   refine g2_ ?_;refine⟨k+1,aa [] ?_,rfl⟩;refine gf_ hend ?_
   first|done|exact d6 _ _|exact⟨rfl,d6 _ _⟩|trace_state
 ·rw [List.take_of_length_le (Nat.le_refl _)];have hlen:(eX self zL L.flatten).length=256:=by rw[jZ];simp[zL]
  have hok: ∀d∈eX self zL L.flatten,d.filter.length<=4000000:=by
   have key: ∀(D A:List GDesc),(∀d∈A,d.filter.length<=4000000)->(∀d∈D,d.filter.length<=4000000)-> ∀d∈eX self A D,d.filter.length<=4000000:=by
    intro D
    induction D with
    |nil=>intro A hA _;exact hA
    | cons x r ih=>
     intro A hA hD;refine ih (g_ self A x) ?_ (fun d hd=>hD d (List.mem_cons_of_mem _ hd))
     intro d hd;unfold g_ at hd;split at hd
     ·exact hA d hd
     ·split at hd
      ·split at hd
       ·rcases List.mem_or_eq_of_mem_set hd with h|rfl
        ·exact hA d h
        ·exact hD _ List.mem_cons_self
       ·exact hA d hd
      ·exact hA d hd
   refine key _ _ ?_ ?_
   ·intro d hd;rw[List.eq_of_mem_replicate hd];simp[zDesc]
   ·intro d hd;obtain⟨l,h1,h2⟩:=List.mem_flatten.1 hd;exact(hl l h1).2 d h2
  unfold aV;generalize eX self zL L.flatten=A at hlen hok;have hA1:(f5 A).length=1024:=by rw[ob,hlen]
  have hA2:(f5 A).take 1024=f5 A:=ah7 A (by rw[hlen])
  refine gg_ hA1 hA2 ?_;generalize hP:(fun d:GDesc=>decide ((0:Int)<(d.inc.toNat:Int)))=P
  have hPd: ∀d,P d=decide ((0:Int)<(d.inc.toNat:Int)):=fun d=>by rw[<-hP]
  have hle3: ∀k,((A.take k).filter P).length<=256:=fun k=>by have:=gh (f:=P) A k;omega
  refine ay 256 (fun k=>[(11,.d (.rf 0 0 ((A.take k).filter P).length))]) (fun _=>[]) (fun k=>[(0,.arr 34 4 (((A.take k).filter P).map af) false)]) 1 (fun _=>True) (aa [(0,.nil 4)] ?_) trivial (fun g k=>by first|rfl|((repeat first|simp-implicitDefEqProofs only[go_sem,ab]|with_reducible refine gl_ ?_);rfl)) (by omega) (fun g=>ws_) (fun k hk _=>?_) (fun _=>?_)
  ·refine x0_ ?_
   repeat' (first|exact d6 _ _|rfl|exact abz _|(refine And.intro ?_ ?_))
   all_goals trace_state
  ·have hk2:k<A.length:=by omega
   have hw:=tO A hk2;have hsn:=eY (f:=P) hk2;have hle4:=hle3 k;have hle:decide (k*4<=1020)=true:=decide_eq_true (by omega)
   rw[hPd]at hsn;generalize A[k]=d at hw hsn;simp only[af]at hw;refine gh_ hA1 hw hle ?_
   by_cases h:(0:Int)<(d.inc.toNat:Int)
   ·rw[decide_eq_true h];refine gx_ ?_;refine⟨k+1,aa [(0,.to 2)] ?_,rfl⟩;refine x1_ (c3_ hsn h decide_true) ?_
    repeat' (first|exact d6 _ _|exact abz _|(refine And.intro ?_ ?_)|(with_reducible rfl)|(simp[af];done))
   ·rw[decide_eq_false h];refine g2_ ?_;refine⟨k+1,aa [(0,.to 0)] ?_,rfl⟩;refine x1_ (c3_ hsn h decide_false) ?_
    repeat' (first|exact d6 _ _|exact abz _|(refine And.intro ?_ ?_)|(with_reducible rfl)|(simp[af];done))
  ·rw[List.take_of_length_le (by omega)]
   have hcp:=bh (A.filter P) ⟨by have:=List.length_filter_le P A;omega,fun d hd=>hok d (List.mem_filter.1 hd).1⟩
   refine g2_ ?_;refine ce_ hcp (g2_ ?_);refine ae ?_ rfl;exact ws_
end Go.Proofs.YthoihfighiolmaaGreat.V
namespace Go.Eng
section
variable {α:Type}
def cH(lt:α->α->Bool)(x:α)(P:List α):Nat->Nat
 |0=>0
 |j+1=>match P[j]? with
  |some y=>bif lt x y then cH lt x P j else j+1
  |none=>j+1
def b_(P:List α)(x:α)(j:Nat):List α:=P.take j++x::P.drop j
def f9(lt:α->α->Bool)(P:List α)(x:α):List α:=b_ P x (cH lt x P P.length)
def aG(lt:α->α->Bool)(l:List α):List α:=l.foldl (f9 lt) []
theorem kY{lt:α->α->Bool}{x:α}{P:List α}{j:Nat}(h:j<P.length)(hl:lt x P[j]=true):cH lt x P (j+1)=cH lt x P j:=by
 simp only[cH,List.getElem?_eq_getElem h,hl,cond_true]
theorem ly{lt:α->α->Bool}{x:α}{P:List α}{j:Nat}(h:j<P.length)(hl:lt x P[j]=false):cH lt x P (j+1)=j+1:=by
 simp only[cH,List.getElem?_eq_getElem h,hl,cond_false]
theorem da{P:List α}{x:α}{j:Nat}:(b_ P x j).length=P.length+1:=by grind [b_]
theorem ot{P:List α}{x:α}{j:Nat}(h:j<=P.length):(b_ P x j)[j]? =some x:=by grind [b_]
theorem l4{P:List α}{x:α}{j:Nat}(h:j<P.length):(b_ P x (j+1))[j]? =some P[j]:=by grind [b_]
theorem pk{P:List α}{x:α}{j:Nat}(h:j<P.length):((b_ P x (j+1)).set (j+1) P[j]).set j x=b_ P x j:=by
 apply List.ext_getElem?;intro k;have l1:=da (P:=P) (x:=x) (j:=j+1);rw[List.getElem?_set]
 by_cases e1:j=k
 ·subst e1;rw[if_pos rfl,if_pos (by simp only[List.length_set];omega),ot (by omega)]
 rw[if_neg e1,List.getElem?_set]
 by_cases e2:j+1=k
 ·subst e2;rw[if_pos rfl,if_pos (by omega)]
  symm;rw[b_,List.getElem?_append_right (by simp;omega)]
  have:j+1-(P.take j).length=1:=by simp;omega
  rw[this,List.getElem?_cons_succ,List.getElem?_drop,Nat.add_zero,List.getElem?_eq_getElem h]
 rw[if_neg e2];simp only[b_]
 by_cases e3:k<j
 ·rw[List.getElem?_append_left (by simp;omega),List.getElem?_append_left (by simp;omega),List.getElem?_take_of_lt (by omega),List.getElem?_take_of_lt (by omega)]
 ·rw[List.getElem?_append_right (by simp;omega),List.getElem?_append_right (by simp;omega)]
  have a1:k-(P.take (j+1)).length=(k-(j+2))+1:=by simp;omega
  have a2:k-(P.take j).length=(k-(j+2))+2:=by simp;omega
  rw[a1,a2,List.getElem?_cons_succ,List.getElem?_cons_succ,List.getElem?_drop,List.getElem?_drop]
  congr 1;omega
theorem pI{l:List α}{i:Nat}(P:List α)(h:i<l.length)(hP:P.length=i):P++l.drop i=b_ P l[i] P.length++l.drop (i+1):=by
 rw[b_,List.take_length,List.drop_length,List.drop_eq_getElem_cons h,List.append_assoc];rfl
theorem afW{lt:α->α->Bool}{P:List α}{x:α}:(f9 lt P x).length=P.length+1:=da
theorem jx{lt:α->α->Bool}: ∀(l P:List α),(l.foldl (f9 lt) P).length=P.length+l.length
 |[],P=>rfl
 |x::r,P=>by rw[List.foldl_cons,jx r,afW,List.length_cons];omega
theorem cm{lt:α->α->Bool}{l:List α}:(aG lt l).length=l.length:=by rw[aG,jx];simp
theorem nT{lt:α->α->Bool}{l:List α}{i:Nat}(h:i<l.length):aG lt (l.take (i+1))=f9 lt (aG lt (l.take i)) l[i]:=by
 rw[aG,List.take_add_one,List.getElem?_eq_getElem h,List.foldl_append];rfl
theorem adh{P:List α}{x y:α}{j:Nat}(h:y∈b_ P x j):y=x\/y∈P:=by grind [b_]
theorem gK{lt:α->α->Bool}: ∀{l P:List α} {y:α},y∈l.foldl (f9 lt) P->y∈l\/y∈P
 |[],P,y,h=>.inr h
 | x::r,P,y,h=>by
  rcases gK (l:=r) (P:=f9 lt P x) h with h|h
  ·exact .inl (List.mem_cons_of_mem _ h)
  ·rcases adh h with h|h
   ·exact .inl (by rw[h];exact List.mem_cons_self)
   ·exact .inr h
end
structure jD where
 d:GDesc
 o:Nat
def e_(a b:Nat):Int:=if a<b then-1 else if b<a then 1 else 0
def sf(a b:jD):Int:=if e_ b.o a.o≠0 then e_ b.o a.o else if e_ a.d.age.toNat b.d.age.toNat≠0 then e_ a.d.age.toNat b.d.age.toNat else e_ a.d.node.toNat b.d.node.toNat
def aW(a b:jD):Bool:=decide (sf a b<0)
def bG(a b:GDesc):Bool:=decide (e_ a.node.toNat b.node.toNat<0)
end Go.Eng
namespace Go.Proofs.YthoihfighiolmaaGreat.V
open Go.Eng
def fScored(own:List GSpan)(l:List GDesc):List jD:=(l.map fun d=>⟨d,dP own d.filter⟩).filter fun x=>decide (0<x.o)
def cG(own:List GSpan)(self:UInt8)(room:Int)(ls:List (List GDesc)):List GDesc:=
 if room<1 then []else aG bG (((aG aW (fScored own (aV self ls))).take room.toNat).map (·.d))
def cS(far:UInt16->UInt16->UInt16)(here:UInt16)(dom:List GSpan)(l:List GDesc):Nat->Nat×UInt16
 |0=>(0,far here (bw dom (l.headD zDesc)))
 |k+1=>match l[k]? with
  |some d=>if far here (bw dom d)<(cS far here dom l k).2 then (k,far here (bw dom d))else cS far here dom l k
  |none=>cS far here dom l k
def dv(far:UInt16->UInt16->UInt16)(here:UInt16)(dom:List GSpan)(l:List GDesc):GDesc:=l.getD (cS far here dom l l.length).1 zDesc
def bN(dom:List GSpan)(self:GDesc)(ls:List (List GDesc)):b9:=
 if aV self.node ls=[]then ⟨false,false,zDesc,zDesc⟩
 else ⟨true,true,dv (fun h t=>t-h) (bw dom self) dom (aV self.node ls),dv (fun h t=>h-t) (bw dom self) dom (aV self.node ls)⟩
attribute[local go_sem] aP af fzD plR bb z8 z16 z32 z64 c00
theorem p9(a:Int):Con2 Tryz.prog 324 [.v (.int .u8 a)] (· =plR (.v (.bool false))):=by
 refine en_ Tryz.func324 [.tmp 2] (g2_ ?_);refine gx_ ?_;exact⟨_,rfl,aa [] wx_⟩
theorem sZ(a:Int):Con2 Tryz.prog 370 [.v (.int .u32 a)] (· =plR (.v (.bool false))):=by
 refine en_ Tryz.func370 [.tmp 2] (g2_ ?_);refine gx_ ?_;exact⟨_,rfl,aa [] wx_⟩
theorem pA(a b:Nat):Con2 Tryz.prog 280 [.v (.int .u8 a),.v (.int .u8 b)] (· =plR (.v (.int .i64 (e_ a b)))):=by
 refine en_ Tryz.func280 [.tmp 4] (g2_ ?_);refine g2_ ?_;refine ce_ (p9 a) (g2_ ?_);refine ce_ (p9 b) (g2_ ?_)
 by_cases h1:(a:Int)<(b:Int)
 ·rw[decide_eq_true h1];refine g2_ ?_;exact⟨_,rfl,aa [] (by simp-implicitDefEqProofs only[go_sem,ab,e_,show a<b by omega,if_true])⟩
 rw[decide_eq_false h1];refine g2_ ?_
 by_cases h2:(b:Int)<(a:Int)
 ·rw[decide_eq_true h2];refine g2_ ?_;exact⟨_,rfl,aa [] (by simp-implicitDefEqProofs only[go_sem,ab,e_,show ¬a<b by omega,show b<a by omega,if_true,if_false])⟩
 rw[decide_eq_false h2];refine g2_ ?_;exact⟨_,rfl,aa [] (by simp-implicitDefEqProofs only[go_sem,ab,e_,show ¬a<b by omega,show ¬b<a by omega,if_true,if_false])⟩
theorem adC(a b:Nat):Con2 Tryz.prog 337 [.v (.int .u32 a),.v (.int .u32 b)] (· =plR (.v (.int .i64 (e_ a b)))):=by
 refine en_ Tryz.func337 [.tmp 4] (g2_ ?_);refine g2_ ?_;refine ce_ (sZ a) (g2_ ?_);refine ce_ (sZ b) (g2_ ?_)
 by_cases h1:(a:Int)<(b:Int)
 ·rw[decide_eq_true h1];refine g2_ ?_;exact⟨_,rfl,aa [] (by simp-implicitDefEqProofs only[go_sem,ab,e_,show a<b by omega,if_true])⟩
 rw[decide_eq_false h1];refine g2_ ?_
 by_cases h2:(b:Int)<(a:Int)
 ·rw[decide_eq_true h2];refine g2_ ?_;exact⟨_,rfl,aa [] (by simp-implicitDefEqProofs only[go_sem,ab,e_,show ¬a<b by omega,show b<a by omega,if_true,if_false])⟩
 rw[decide_eq_false h2];refine g2_ ?_;exact⟨_,rfl,aa [] (by simp-implicitDefEqProofs only[go_sem,ab,e_,show ¬a<b by omega,show ¬b<a by omega,if_true,if_false])⟩
def or3(a b c:Int):Int:=if a≠0 then a else if b≠0 then b else c
theorem ajr(a b c:Int):Con2 Tryz.prog 336 [.fz 1 [[.v (.int .i64 a)],[.v (.int .i64 b)],[.v (.int .i64 c)]]] (· =plR (.v (.int .i64 (or3 a b c)))):=by
 refine en_ Tryz.func336 [.tmp 2] (g2_ ?_);refine g2_ ?_;refine ay 3 (fun k=>[]) (fun _=>[]) (fun k=>[]) 0 (fun k=>(0<k->a=0)/\(1<k->b=0)/\(2<k->c=0)) (aa [] ?_) (by omega) (fun g k=>by first|rfl|(repeat first|simp-implicitDefEqProofs only[go_sem,ab]|with_reducible refine gl_ ?_)) (by omega) (fun g=>ws_) (fun k hk hF=>?_) (fun hF=>?_)
 ·exact v0_
  first|done|rfl|exact⟨rfl,rfl⟩
 ·obtain⟨f1,f2,f3⟩:=hF
  obtain⟨x,hx,hgo⟩: ∃x:Int,([[DV.v (.int .i64 a)],[.v (.int .i64 b)],[.v (.int .i64 c)]]:List (List DV))[k]? =some [.v (.int .i64 x)]/\((x≠0->or3 a b c=x)/\(x=0->((0<k+1->a=0)/\(1<k+1->b=0)/\(2<k+1->c=0)))):=by
   match k,hk with
   |0,_=>exact⟨a,rfl,fun h=>if_pos h,fun h=>by omega⟩
   |1,_=>exact⟨b,rfl,fun h=>by have:=f1 (by omega);rw[or3,if_neg (by omega),if_pos h],fun h=>by omega⟩
   |2,_=>exact⟨c,rfl,fun h=>by have:=f1 (by omega);have:=f2 (by omega);rw[or3,if_neg (by omega),if_neg (by omega)],fun h=>by omega⟩
  refine gf_ hx ?_;refine cu (fun h=>?_) (fun h=>?_)
  ·rw[hgo.1 h];refine g2_ ?_;exact⟨_,rfl,aa [] ws_⟩
  ·refine g2_ ?_;exact⟨k+1,aa [] ws_,rfl,hgo.2 (by omega)⟩
 ·obtain⟨f1,f2,f3⟩:=hF;have e:or3 a b c=0:=by rw[or3,if_neg (by omega),if_neg (by omega)];omega
  rw[e];refine g2_ ?_;exact⟨_,rfl,aa [] ws_⟩
theorem agU(x y:jD):Con2 Tryz.prog 277 [.agg (af x.d),.v (.int .u32 x.o),.agg (af y.d),.v (.int .u32 y.o)] (· =plR (.v (.int .i64 (sf x y)))):=by
 have e:sf x y=or3 (e_ y.o x.o) (e_ x.d.age.toNat y.d.age.toNat) (e_ x.d.node.toNat y.d.node.toNat):=rfl;rw[e];have k1:=adC y.o x.o;have k2:=pA x.d.age.toNat y.d.age.toNat;have k3:=pA x.d.node.toNat y.d.node.toNat;have k4:=ajr (e_ y.o x.o) (e_ x.d.age.toNat y.d.age.toNat) (e_ x.d.node.toNat y.d.node.toNat);generalize e_ y.o x.o=a at k1 k4;generalize e_ x.d.age.toNat y.d.age.toNat=b at k2 k4;generalize e_ x.d.node.toNat y.d.node.toNat=c at k3 k4;refine en_ Tryz.func277 [.tmp 8] (g2_ ?_);refine g2_ ?_;refine .inl ⟨[oF 0,oF 1,oF 3,oF 5,oF 8,oF 10,oF 4,oF 6,oF 9,oF 11,oT 2,oT 7,oF 12,oF 13,oF 14,oF 15],by kernel_rfl,g2_ ?_⟩
 refine ce_ k1 (g2_ ?_);refine ce_ k2 (g2_ ?_);refine ce_ k3 (g2_ ?_);refine ce_ k4 (g2_ ?_);exact⟨_,rfl,aa [] ws_⟩
def aju:Nat->Nat
 |0=>0
 |1=>1
 |2=>2
 |3=>2
 |4=>3
 |5=>3
 |6=>3
 |7=>3
 |_=>4
theorem afd(n:Nat)(hn:n<=12):Con2 Tryz.prog 245 [.v (.int .u64 n)] (· =plR (.v (.int .i64 (aju n)))):=by
 refine en_ Tryz.func245 [.tmp 2] (g2_ ?_);refine g2_ ?_;rw[show decide ((4294967296:Int)<=n)=false from decide_eq_false (by omega)]
 refine g2_ ?_;rw[show decide ((65536:Int)<=n)=false from decide_eq_false (by omega)]
 refine g2_ ?_;rw[show decide ((256:Int)<=n)=false from decide_eq_false (by omega)]
 refine g2_ ?_;refine dx (by omega) ?_
 refine g2_ ?_;refine⟨.int .u8 (aju n),fun w=>?_,?_⟩
 ·match n,hn with
  |0,_=>show _=_;kernel_rfl
  |1,_=>show _=_;kernel_rfl
  |2,_=>show _=_;kernel_rfl
  |3,_=>show _=_;kernel_rfl
  |4,_=>show _=_;kernel_rfl
  |5,_=>show _=_;kernel_rfl
  |6,_=>show _=_;kernel_rfl
  |7,_=>show _=_;kernel_rfl
  |8,_=>show _=_;kernel_rfl
  |9,_=>show _=_;kernel_rfl
  |10,_=>show _=_;kernel_rfl
  |11,_=>show _=_;kernel_rfl
  |12,_=>show _=_;kernel_rfl
  |k+13,h=>omega
 have hb:aju n<=4:=by
  match n,hn with
  |0,_=>decide
  |1,_=>decide
  |2,_=>decide
  |3,_=>decide
  |4,_=>decide
  |5,_=>decide
  |6,_=>decide
  |7,_=>decide
  |k+8,_=>exact Nat.le_refl 4
 refine gf_ @Int.zero_add ?_;exact⟨_,rfl,aa [] (wf_ @Int.zero_add)⟩
theorem vk(n:Nat)(hn:n<=12):Con2 Tryz.prog 156 [.v (.int .u64 n)] (· =plR (.v (.int .i64 (aju n)))):=by
 refine en_ Tryz.func156 [.tmp 2] (g2_ ?_);refine g2_ ?_;refine ce_ (afd n hn) (g2_ ?_);exact⟨_,rfl,aa [] ws_⟩
end Go.Proofs.YthoihfighiolmaaGreat.V
namespace Go.Eng
def bZ(s:jD):List DV:=[.v (.int .u8 s.d.node.toNat),.v (.int .u16 s.d.inc.toNat),.v (.int .u8 s.d.age.toNat),.fz 2 (s.d.filter.map aP),.v (.int .u32 s.o)]
end Go.Eng
namespace Go.Proofs.YthoihfighiolmaaGreat.V
open Go.Eng
attribute [local go_sem] aP af fzD plR bb z8 z16 z32 z64 c00 bZ
theorem ah1(x y:jD):Con2 Tryz.prog 276 [.agg (bZ x),.agg (bZ y)] (· =plR (.v (.int .i64 (sf x y)))):=by
 refine en_ Tryz.func276 [.tmp 4] (g2_ ?_);refine g2_ ?_;refine ce_ (agU x y) (g2_ ?_);exact⟨_,rfl,aa [] ws_⟩
def akN(a b:GDesc):Int:=e_ a.node.toNat b.node.toNat
theorem aeA(x y:GDesc):Con2 Tryz.prog 279 [.agg (af x),.agg (af y)] (· =plR (.v (.int .i64 (akN x y)))):=by
 refine en_ Tryz.func279 [.tmp 4] (g2_ ?_);refine g2_ ?_;refine ce_ (pA x.node.toNat y.node.toNat) (g2_ ?_);exact⟨_,rfl,aa [] (by simp-implicitDefEqProofs only[go_sem,ab];rfl)⟩
theorem ai4(l:List jD)(hl:l.length<=12){ρ σ nb K}(hk:K (.tup []) ⟨ρ,σ,[(0,.arr 292 5 ((aG aW l).map bZ) false)],1,nb⟩):
  CallS Tryz.prog false 362 [.rf 0 0 l.length,.v (.int .i64 0),.v (.int .i64 l.length),.fn 276 [] []] ⟨ρ,σ,[(0,.arr 292 5 (l.map bZ) false)],1,nb⟩ K:=by
 refine im_ Tryz.func362 [] (g2_ ?_);refine g2_ ?_;refine av (γ:=Nat) (fun i=>[(8,.d (.v (.int .i64 (i:Nat))))]) (fun _=>[]) (fun i=>[(0,.arr 292 5 ((aG aW (l.take i)++l.drop i).map bZ) false)]) 1 (fun i=>1<=i/\(l.length<i->i=1)) (fun i=>l.length+1-i) 1 (aa [] ?_) ⟨by omega,by omega⟩ (fun i hi=>?_)
 ·have e:aG aW (l.take 1)++l.drop 1=l:=by
   cases l with
   |nil=>rfl
   |cons x r=>rfl
  refine gf_ e ?_
  first|rfl|exact⟨rfl,rfl⟩|trace_state
 obtain⟨hi1,hi2⟩:=hi;refine g2_ ?_
 by_cases hlt:i<l.length
 ·rw[decide_eq_true (show(i:Int)<(l.length:Int)by omega)]
  refine g2_ ?_;obtain⟨P,hP⟩: ∃P,P=aG aW (l.take i):=⟨_,rfl⟩;have hPl:P.length=i:=by rw[hP,cm,List.length_take];omega
  obtain⟨x,hx⟩: ∃x,x=l[i]:=⟨_,rfl⟩
  have hnext:cH aW x P i<=i->b_ P x (cH aW x P i)++l.drop (i+1)=aG aW (l.take (i+1))++l.drop (i+1):=by
   intro _;rw[nT hlt, <-hP, <-hx,f9,hPl]
  have h0:aG aW (l.take i)++l.drop i=b_ P x i++l.drop (i+1):=by
   rw[<-hP,hx];have:=pI P hlt hPl;rwa[hPl]at this
  rw[h0];generalize hD:l.drop (i+1)=rest at hnext
  have r1: ∀j,j<=i->((b_ P x j++rest).map bZ)[j]? =some (bZ x):=fun j hj=>by
   rw[List.getElem?_map,List.getElem?_append_left (by rw[da];omega),ot (by omega)];rfl
  have r2: ∀j,(hj:j<i)->((b_ P x (j+1)++rest).map bZ)[j]? =some (bZ (P[j]'(by omega))):=fun j hj=>by
   rw[List.getElem?_map,List.getElem?_append_left (by rw[da];omega),l4 (by omega)];rfl
  have r3: ∀j,((b_ P x j++rest).map bZ).length=l.length:=fun j=>by
   rw[List.length_map,List.length_append,da, <-hD,List.length_drop];omega
  have r4: ∀j,(hj:j<i)->((((b_ P x (j+1)++rest).map bZ).set (j+1) (bZ (P[j]'(by omega)))).set j (bZ x))=(b_ P x j++rest).map bZ:=fun j hj=>by
   rw[<-List.map_set, <-List.map_set,List.set_append_left _ _ (by rw[da];omega),List.set_append_left _ _ (by rw[List.length_set,da];omega),pk (by omega)]
  refine av (γ:=Nat) (fun j=>[(9,.d (.v (.int .i64 (j:Nat))))]) (fun _=>[]) (fun j=>[(0,.arr 292 5 ((b_ P x j++rest).map bZ) false)]) 1 (fun j=>j<=i/\cH aW x P j=cH aW x P i) (fun j=>j) i (aa [] ?_) ⟨Nat.le_refl _,rfl⟩ (fun j hj=>?_)
  ·repeat first|simp-implicitDefEqProofs only[go_sem,ab]|with_reducible refine gl_ ?_
   first|done|rfl|exact⟨rfl,rfl⟩
  obtain⟨hj1,hj2⟩:=hj;cases j with
  |zero=>
   rw[<-hj2]at hnext;refine g2_ ?_;refine .inl ⟨[oF 0,oF 1,oF 2,oF 3,oF 4,oF 5,oF 6,oF 9,oF 10,oF 7,oF 11,oF 8,oF 12,oF 13,oF 14,oF 15,oF 16],by kernel_rfl,g2_ ?_⟩
   rw[show decide ((0:Int)<0)=false from rfl]
   have hz:b_ P x 0++rest=aG aW (l.take (i+1))++l.drop (i+1):=by rw[hD];exact hnext (Nat.zero_le _)
   rw[hz];refine g2_ ?_;refine⟨i+1,aa [] ?_,⟨by omega,by omega⟩,by omega⟩
   refine g2_ ?_;rfl
  | succ j=>
   have hjP:j<P.length:=by omega
   have hcc:=ah1 x P[j];have q1:=r1 (j+1) hj1;have q2:=r2 j (by omega)
   have q3:=r3 (j+1);have q4:=r4 j (by omega)
   generalize q6:(b_ P x (j+1)++rest).map bZ=R at q1 q2 q3 q4;have q5: ∀v,(R.set (j+1) v)[j]? =some (bZ P[j]):=fun v=>by rw[List.getElem?_set_ne (by omega)];exact q2
   simp only[bZ]at q1 q2 q4 q5;refine g2_ ?_;refine .inl ⟨[oF 0,oF 1,oF 2,oF 3,oF 4,oF 5,oF 6,oF 9,oF 10,oF 7,oF 11,oF 8,oF 12,oF 13,oF 14,oF 15,oF 16],by kernel_rfl,g2_ ?_⟩
   rw[show decide ((0:Int)<((j+1:Nat):Int))=true from decide_eq_true (by omega)]
   have e1:((j+1:Nat):Int)-1=(j:Nat):=by omega
   refine gi_ q1 q2 q3 e1 ?_;refine ce_ hcc (g2_ ?_)
   by_cases hc:sf x P[j]<0
   ·rw[decide_eq_true hc];have hs:cH aW x P (j+1)=cH aW x P j:=kY hjP (decide_eq_true hc);refine g2_ ?_;refine .inl ⟨[oF 0,oF 1,oF 2,oF 3,oF 5,oF 6,oF 10,oF 11,oF 4,oF 7,oF 12,oF 8,oF 13,oF 9,oF 14,oF 15,oF 16,oF 17],by kernel_rfl,gf_ (c4_ q1 q2 q3 (c2_ q5 e1)) ?_⟩
    refine⟨j,aa [] ?_,⟨by omega,by omega⟩,by omega⟩
    rw[<-q4];exact ws_
   ·rw[decide_eq_false hc];have hs:cH aW x P (j+1)=j+1:=ly hjP (decide_eq_false hc);rw[<-hj2,hs]at hnext;rw[<-q6,hnext hj1, <-hD];refine g2_ ?_;refine⟨i+1,aa [] ?_,⟨by omega,by omega⟩,by omega⟩
    refine g2_ ?_;rfl
 ·rw[decide_eq_false (show ¬(i:Int)<(l.length:Int)by omega)]
  have e:aG aW (l.take i)++l.drop i=aG aW l:=by
   by_cases h:l.length=0
   ·have:=List.eq_nil_of_length_eq_zero h;subst this;simp
   ·rw[List.take_of_length_le (by omega),List.drop_eq_nil_of_le (by omega),List.append_nil]
  rw[e];refine g2_ ?_;exact hk
theorem ajZ(l:List jD)(m:Int)(hl:l.length<=12){ρ σ nb K}(hk:K (.tup []) ⟨ρ,σ,[(0,.arr 292 5 ((aG aW l).map bZ) false)],1,nb⟩):
  CallS Tryz.prog false 335 [.rf 0 0 l.length,.v (.int .i64 0),.v (.int .i64 l.length),.v (.int .i64 m),.fn 276 [] []] ⟨ρ,σ,[(0,.arr 292 5 (l.map bZ) false)],1,nb⟩ K:=by
 refine im_ Tryz.func335 [] (g2_ ?_);refine g2_ ?_;refine av (γ:=Unit) (fun _=>[]) (fun _=>[]) (fun _=>[(0,.arr 292 5 (l.map bZ) false)]) 1 (fun _=>True) (fun _=>0) () (aa [] ws_) trivial (fun i hi=>?_)
 refine g2_ ?_;rw[show decide ((l.length:Int)-0<=12)=true from decide_eq_true (by omega)]
 refine g2_ ?_;refine ai4 l hl ?_;refine g2_ ?_;exact hk
theorem ags(l:List jD)(hl:l.length<=12){ρ σ nb K}(hk:K (.tup []) ⟨ρ,σ,[(0,.arr 292 5 ((aG aW l).map bZ) false)],1,nb⟩):
  CallS Tryz.prog false 275 [.rf 0 0 l.length,.fn 276 [] []] ⟨ρ,σ,[(0,.arr 292 5 (l.map bZ) false)],1,nb⟩ K:=by
 refine im_ Tryz.func275 [] (g2_ ?_);refine g2_ ?_;refine fX (by omega) ?_
 refine g2_ ?_;refine ce_ (vk l.length hl) (g2_ ?_);refine ajZ l _ hl ?_;refine g2_ ?_;exact hk
theorem ajK(l:List GDesc)(hl:l.length<=12){L0:List (List DV)}{ρ σ nb K}(hk:K (.tup []) ⟨ρ,σ,[(1,.arr 34 4 ((aG bG l).map af) false),(0,.arr 292 5 L0 false)],2,nb⟩):
  CallS Tryz.prog false 371 [.rf 1 0 l.length,.v (.int .i64 0),.v (.int .i64 l.length),.fn 279 [] []] ⟨ρ,σ,[(1,.arr 34 4 (l.map af) false),(0,.arr 292 5 L0 false)],2,nb⟩ K:=by
 refine im_ Tryz.func371 [] (g2_ ?_);refine g2_ ?_;refine av (γ:=Nat) (fun i=>[(8,.d (.v (.int .i64 (i:Nat))))]) (fun _=>[]) (fun i=>[(1,.arr 34 4 ((aG bG (l.take i)++l.drop i).map af) false),(0,.arr 292 5 L0 false)]) 2 (fun i=>1<=i/\(l.length<i->i=1)) (fun i=>l.length+1-i) 1 (aa [] ?_) ⟨by omega,by omega⟩ (fun i hi=>?_)
 ·have e:aG bG (l.take 1)++l.drop 1=l:=by
   cases l with
   |nil=>rfl
   |cons x r=>rfl
  refine gf_ e ?_
  first|rfl|exact⟨rfl,rfl⟩|trace_state
 obtain⟨hi1,hi2⟩:=hi;refine g2_ ?_
 by_cases hlt:i<l.length
 ·rw[decide_eq_true (show(i:Int)<(l.length:Int)by omega)]
  refine g2_ ?_;obtain⟨P,hP⟩: ∃P,P=aG bG (l.take i):=⟨_,rfl⟩;have hPl:P.length=i:=by rw[hP,cm,List.length_take];omega
  obtain⟨x,hx⟩: ∃x,x=l[i]:=⟨_,rfl⟩
  have hnext:cH bG x P i<=i->b_ P x (cH bG x P i)++l.drop (i+1)=aG bG (l.take (i+1))++l.drop (i+1):=by
   intro _;rw[nT hlt, <-hP, <-hx,f9,hPl]
  have h0:aG bG (l.take i)++l.drop i=b_ P x i++l.drop (i+1):=by
   rw[<-hP,hx];have:=pI P hlt hPl;rwa[hPl]at this
  rw[h0];generalize hD:l.drop (i+1)=rest at hnext
  have r1: ∀j,j<=i->((b_ P x j++rest).map af)[j]? =some (af x):=fun j hj=>by
   rw[List.getElem?_map,List.getElem?_append_left (by rw[da];omega),ot (by omega)];rfl
  have r2: ∀j,(hj:j<i)->((b_ P x (j+1)++rest).map af)[j]? =some (af (P[j]'(by omega))):=fun j hj=>by
   rw[List.getElem?_map,List.getElem?_append_left (by rw[da];omega),l4 (by omega)];rfl
  have r3: ∀j,((b_ P x j++rest).map af).length=l.length:=fun j=>by
   rw[List.length_map,List.length_append,da, <-hD,List.length_drop];omega
  have r4: ∀j,(hj:j<i)->((((b_ P x (j+1)++rest).map af).set (j+1) (af (P[j]'(by omega)))).set j (af x))=(b_ P x j++rest).map af:=fun j hj=>by
   rw[<-List.map_set, <-List.map_set,List.set_append_left _ _ (by rw[da];omega),List.set_append_left _ _ (by rw[List.length_set,da];omega),pk (by omega)]
  refine av (γ:=Nat) (fun j=>[(9,.d (.v (.int .i64 (j:Nat))))]) (fun _=>[]) (fun j=>[(1,.arr 34 4 ((b_ P x j++rest).map af) false),(0,.arr 292 5 L0 false)]) 2 (fun j=>j<=i/\cH bG x P j=cH bG x P i) (fun j=>j) i (aa [] ?_) ⟨Nat.le_refl _,rfl⟩ (fun j hj=>?_)
  ·repeat first|simp-implicitDefEqProofs only[go_sem,ab]|with_reducible refine gl_ ?_
   first|done|rfl|exact⟨rfl,rfl⟩
  obtain⟨hj1,hj2⟩:=hj;cases j with
  |zero=>
   rw[<-hj2]at hnext;refine g2_ ?_;refine .inl ⟨[oF 0,oF 1,oF 2,oF 3,oF 4,oF 5,oF 6,oF 9,oF 10,oF 7,oF 11,oF 8,oF 12,oF 13,oF 14,oF 15,oF 16],by kernel_rfl,g2_ ?_⟩
   rw[show decide ((0:Int)<0)=false from rfl]
   have hz:b_ P x 0++rest=aG bG (l.take (i+1))++l.drop (i+1):=by rw[hD];exact hnext (Nat.zero_le _)
   rw[hz];refine g2_ ?_;refine⟨i+1,aa [] ?_,⟨by omega,by omega⟩,by omega⟩
   refine gx_ ?_;rfl
  | succ j=>
   have hjP:j<P.length:=by omega
   have hcc:=aeA x P[j];have q1:=r1 (j+1) hj1;have q2:=r2 j (by omega)
   have q3:=r3 (j+1);have q4:=r4 j (by omega)
   generalize q6:(b_ P x (j+1)++rest).map af=R at q1 q2 q3 q4;have q5: ∀v,(R.set (j+1) v)[j]? =some (af P[j]):=fun v=>by rw[List.getElem?_set_ne (by omega)];exact q2
   simp only[af]at q1 q2 q4 q5;refine g2_ ?_;refine .inl ⟨[oF 0,oF 1,oF 2,oF 3,oF 4,oF 5,oF 6,oF 9,oF 10,oF 7,oF 11,oF 8,oF 12,oF 13,oF 14,oF 15,oF 16],by kernel_rfl,g2_ ?_⟩
   rw[show decide ((0:Int)<((j+1:Nat):Int))=true from decide_eq_true (by omega)]
   have e1:((j+1:Nat):Int)-1=(j:Nat):=by omega
   refine gi_ q1 q2 q3 e1 ?_;refine ce_ hcc (g2_ ?_)
   by_cases hc:akN x P[j]<0
   ·rw[decide_eq_true hc];have hs:cH bG x P (j+1)=cH bG x P j:=kY hjP (decide_eq_true hc);refine g2_ ?_;refine .inl ⟨[oF 0,oF 1,oF 2,oF 3,oF 5,oF 6,oF 10,oF 11,oF 4,oF 7,oF 12,oF 8,oF 13,oF 9,oF 14,oF 15,oF 16,oF 17],by kernel_rfl,gf_ (c4_ q1 q2 q3 (c2_ q5 e1)) ?_⟩
    refine⟨j,aa [] ?_,⟨by omega,by omega⟩,by omega⟩
    rw[<-q4];exact ws_
   ·rw[decide_eq_false hc];have hs:cH bG x P (j+1)=j+1:=ly hjP (decide_eq_false hc);rw[<-hj2,hs]at hnext;rw[<-q6,hnext hj1, <-hD];refine g2_ ?_;refine⟨i+1,aa [] ?_,⟨by omega,by omega⟩,by omega⟩
    refine g2_ ?_;rfl
 ·rw[decide_eq_false (show ¬(i:Int)<(l.length:Int)by omega)]
  have e:aG bG (l.take i)++l.drop i=aG bG l:=by
   by_cases h:l.length=0
   ·have:=List.eq_nil_of_length_eq_zero h;subst this;simp
   ·rw[List.take_of_length_le (by omega),List.drop_eq_nil_of_le (by omega),List.append_nil]
  rw[e];refine g2_ ?_;exact hk
theorem aje(l:List GDesc)(m:Int)(hl:l.length<=12){L0:List (List DV)}{ρ σ nb K}(hk:K (.tup []) ⟨ρ,σ,[(1,.arr 34 4 ((aG bG l).map af) false),(0,.arr 292 5 L0 false)],2,nb⟩):
  CallS Tryz.prog false 338 [.rf 1 0 l.length,.v (.int .i64 0),.v (.int .i64 l.length),.v (.int .i64 m),.fn 279 [] []] ⟨ρ,σ,[(1,.arr 34 4 (l.map af) false),(0,.arr 292 5 L0 false)],2,nb⟩ K:=by
 refine im_ Tryz.func338 [] (g2_ ?_);refine g2_ ?_;refine av (γ:=Unit) (fun _=>[]) (fun _=>[]) (fun _=>[(1,.arr 34 4 (l.map af) false),(0,.arr 292 5 L0 false)]) 2 (fun _=>True) (fun _=>0) () (aa [] ws_) trivial (fun i hi=>?_)
 refine g2_ ?_;rw[show decide ((l.length:Int)-0<=12)=true from decide_eq_true (by omega)]
 refine g2_ ?_;refine ajK l hl ?_;refine g2_ ?_;exact hk
theorem ahN(l:List GDesc)(hl:l.length<=12){L0:List (List DV)}{ρ σ nb K}(hk:K (.tup []) ⟨ρ,σ,[(1,.arr 34 4 ((aG bG l).map af) false),(0,.arr 292 5 L0 false)],2,nb⟩):
  CallS Tryz.prog false 278 [.rf 1 0 l.length,.fn 279 [] []] ⟨ρ,σ,[(1,.arr 34 4 (l.map af) false),(0,.arr 292 5 L0 false)],2,nb⟩ K:=by
 refine im_ Tryz.func278 [] (g2_ ?_);refine g2_ ?_;refine fX (by omega) ?_
 refine g2_ ?_;refine ce_ (vk l.length hl) (g2_ ?_);refine aje l _ hl ?_;refine g2_ ?_;exact hk
end Go.Proofs.YthoihfighiolmaaGreat.V
namespace Go.Proofs.YthoihfighiolmaaGreat.V
open Go.Eng
attribute [local go_sem] aP af fzD plR bb z8 z16 z32 z64 c00
theorem nk(own:List GSpan)(l:List GDesc)(k:Nat):(fScored own (l.take k)).length<=l.length:=by
 refine Nat.le_trans (List.length_filter_le _ _) ?_;rw[List.length_map,List.length_take];omega
theorem tx{own:List GSpan}{l:List GDesc}{k:Nat}(h:k<l.length):fScored own (l.take (k+1))=fScored own (l.take k)++(if 0<dP own l[k].filter then [⟨l[k],dP own l[k].filter⟩]else []):=by grind [fScored,List.take_add_one,List.getElem?_eq_getElem,dP]
theorem xD(own:List GSpan)(self:UInt8)(room:Int)(L:List (List GDesc))(hL:L.length<=4000000)(hl: ∀l∈L,aR l)(h1:own.length<=4000000)(h2: ∀s∈own,okS s)(hok: ∀d∈aV self L,d.filter.length<=4000000/\ ∀s∈d.filter,okS s)(h12:(aV self L).length<=12):
  Con2 Tryz.prog 182 [fzS own,.v (.int .u8 self.toNat),.v (.int .i64 room),.fz 1 (fk L)] (· =plR (fzD (cG own self room L))):=by
 refine Con2.ofEmb ?_;have hu:=sm self L hL hl;unfold cG;generalize aV self L=known at hu hok h12;refine en_ Tryz.func182 [.tmp 8] (g2_ ?_);refine g2_ ?_
 by_cases hr:room<1
 ·rw[decide_eq_true hr,if_pos hr];refine g2_ ?_;refine ae ?_ rfl;exact wx_
 rw[decide_eq_false hr,if_neg hr];refine g2_ ?_;refine ce_ hu (g2_ ?_);refine ay known.length (fun k=>[(9,.d (.rf 0 0 (fScored own (known.take k)).length))]) (fun _=>[]) (fun k=>[(0,.arr 292 5 ((fScored own (known.take k)).map bZ) false)]) 1 (fun _=>True) (aa [(0,.nil 5)] ?_) trivial (fun g k=>ws_) (by omega) (fun g=>ws_) (fun k hk _=>?_) (fun _=>?_)
 ·exact v1_ (c4_ @List.take_zero.{0} @fScored.eq_1 @List.filter_nil.{0} @List.map_nil.{0,0})
  first|rfl|exact⟨rfl,rfl⟩|trace_state
 ·have hsl:=nk own known k;have hsn:=tx (own:=own) hk;have hd:=hok _ (List.getElem_mem hk);have hov:=aj_ own known[k].filter (by omega) (by omega) h2 hd.2
  refine gf_ (mE_ hk) ?_;generalize known[k]=d at hsn hov;refine ce_ hov (g2_ ?_)
  by_cases h3:(0:Int)<(dP own d.filter:Int)
  ·rw[decide_eq_true h3];rw[if_pos (by omega)]at hsn
   refine gx_ ?_;refine⟨k+1,aa [(0,.to 2)] ?_,rfl⟩;refine u1_ (c2_ hsn @List.length_append.{0}) ?_;rw[List.map_append];rfl
  ·rw[decide_eq_false h3];rw[if_neg (by omega),List.append_nil]at hsn
   refine gx_ ?_;refine⟨k+1,aa [(0,.to 0)] ?_,rfl⟩;exact y1_ hsn
 ·have he:known.take known.length=known:=List.take_of_length_le (by omega)
  have hsl:=nk own known known.length;rw[he]at hsl ⊢;generalize fScored own known=S at hsl;refine g2_ ?_;refine ags S (by omega) ?_
  refine g2_ ?_;obtain⟨T,hT⟩: ∃T,T=aG aW S:=⟨_,rfl⟩;have hTl:T.length=S.length:=by rw[hT,cm]
  rw[<-hT];obtain⟨m,hm⟩: ∃m:Nat,m=min room.toNat T.length:=⟨_,rfl⟩;have hmi:(if (S.length:Int)<room then (S.length:Int)else room)=(m:Int):=by split<;>omega
  have htk:T.take room.toNat=T.take m:=by
   by_cases h:room.toNat<=T.length
   ·rw[show m=room.toNat by omega]
   ·rw[List.take_of_length_le (by omega),List.take_of_length_le (by omega)]
  rw[htk,hmi];refine ay m (fun k=>[(13,.d (.rf 1 0 ((T.take k).map (·.d)).length))]) (fun _=>[]) (fun k=>[(1,.arr 34 4 (((T.take k).map (·.d)).map af) false),(0,.arr 292 5 (T.map bZ) false)]) 2 (fun _=>True) (aa [(1,.nil 4),(0,.to 0)] ?_) trivial (fun g k=>ws_) (by omega) (fun g=>ws_) (fun k hk _=>?_) (fun _=>?_)
  ·repeat first|simp-implicitDefEqProofs only[go_sem,ab,List.take_zero,List.map_nil]|with_reducible refine gl_ ?_
   first|done|rfl|exact⟨rfl,rfl⟩
  ·have hkT:k<T.length:=by omega
   have hg:(T.map bZ)[k]? =some (bZ T[k]):=by rw[List.getElem?_map,List.getElem?_eq_getElem hkT];rfl
   have hsn:(T.take (k+1)).map (·.d)=(T.take k).map (·.d)++[T[k].d]:=by
    rw[List.take_add_one,List.getElem?_eq_getElem hkT,List.map_append];rfl
   have hcl:((T.take k).map (·.d)).length<=12:=by rw[List.length_map,List.length_take];omega
   generalize (T.take k).map (·.d)=C at hsn hcl
   simp only[bZ]at hg;refine gg_ hg hTl ?_;refine⟨k+1,aa [(1,.to 3),(0,.to 0)] ?_,rfl⟩;have hsl2:(T.take (k+1)).length=C.length+1:=by have:=congrArg List.length hsn;rw[List.length_map,List.length_append]at this;exact this
   refine u1_ (c2_ hsn @List.length_append.{0}) ?_;rw[List.map_append];exact⟨hsl2,rfl⟩
  ·have hcl:((T.take m).map (·.d)).length<=12:=by rw[List.length_map,List.length_take];omega
   generalize (T.take m).map (·.d)=C at hcl
   refine g2_ ?_;refine ahN C hcl ?_;refine g2_ ?_;refine ae ?_ rfl;refine gf_ @cm ?_;rw[List.take_of_length_le (by rw[List.length_map,cm];exact Nat.le_refl _)]
attribute[local go_sem] aH
theorem iA{far:UInt16->UInt16->UInt16}{here:UInt16}{dom:List GSpan}{l:List GDesc}(h:l≠[]): ∀k,(cS far here dom l k).1<l.length
 |0=>by cases l with
  |nil=>exact absurd rfl h
  |cons x r=>exact Nat.zero_lt_succ _
 | k+1=>by
  unfold cS;cases h2:l[k]? with
  |none=>exact iA h k
  |some d=>
   simp only;split
   ·exact(List.getElem?_eq_some_iff.1 h2).1
   ·exact iA h k
theorem yk{far:UInt16->UInt16->UInt16}{here:UInt16}{dom:List GSpan}{l:List GDesc}{k:Nat}(h:k<l.length):cS far here dom l (k+1)=if far here (bw dom l[k])<(cS far here dom l k).2 then (k,far here (bw dom l[k]))else cS far here dom l k:=by
 rw[cS,List.getElem?_eq_getElem h]
theorem nz(clo:FuncId)(far:UInt16->UInt16->UInt16)(hfar: ∀a b:UInt16,Con2 Tryz.prog clo [.v (.int .u16 a.toNat),.v (.int .u16 b.toNat)] (· =plR (.v (.int .u16 (far a b).toNat))))(dom:List GSpan)(here:UInt16)(known:List GDesc)(hne:known≠[])(hmax:known.length<=100000)
  (h4:dom.length<=4) (hd: ∀s∈dom,okS s) (hok: ∀d∈known,d.filter.length<=4000000/\ ∀s∈d.filter,okS s) {ρ σ nb K}
  (hk:K (.agg (af (dv far here dom known))) ⟨ρ,σ,[(2,.var 32 [fzD known]),(1,.var 23 [fzS dom]),(0,.var 30 [.v (.int .u16 here.toNat)])],3,nb⟩):
  CallS Tryz.prog false 282 [.fn clo [] [],.pt 0 0,.pt 1 0,.pt 2 0] ⟨ρ,σ,[(2,.var 32 [fzD known]),(1,.var 23 [fzS dom]),(0,.var 30 [.v (.int .u16 here.toNat)])],3,nb⟩ K:=by
 obtain⟨d0,hd0⟩: ∃d0,known[0]? =some d0:=⟨known[0]'(by cases known;exact absurd rfl hne;simp),List.getElem?_eq_getElem _⟩
 have hlen:0<known.length:=by cases known;exact absurd rfl hne;simp
 have hh:known.headD zDesc=d0:=by cases known with
  |nil=>exact absurd rfl hne
  |cons x r=>simpa using hd0
 have hm0:d0∈known:=List.mem_of_getElem? hd0;have hp0:=kW dom d0 h4 (by have:=(hok d0 hm0).1;omega) hd (hok d0 hm0).2
 have hg0:(known.map af)[0]? =some (af d0):=by rw[List.getElem?_map,hd0];rfl
 have hf0:=hfar here (bw dom d0);simp only[af]at hg0;have ek0:cS far here dom known 0=(0,far here (bw dom d0)):=by rw[cS,hh]
 refine im_ Tryz.func282 [.cell 5 34] (g2_ ?_);refine g2_ ?_;refine .inl ⟨[oF 0,oF 1,oF 2,oF 3,oF 4,oF 5,oT 6,oF 7,oF 8],by kernel_rfl,gf_ hg0 ?_⟩
 refine ce_ hp0 (g2_ ?_);refine ce_ hf0 (g2_ ?_);refine ay known.length (fun k=>[(6,.d (.v (.int .i64 (cS far here dom known k).1))),(7,.d (.v (.int .u16 (cS far here dom known k).2.toNat)))]) (fun _=>[]) (fun k=>[(2,.var 32 [fzD known]),(1,.var 23 [fzS dom]),(0,.var 30 [.v (.int .u16 here.toNat)])]) 3 (fun _=>True) (aa [] ?_) trivial (fun g k=>ws_) (by omega) (fun g=>ws_) (fun k hk2 _=>?_) (fun _=>?_)
 ·repeat first|simp-implicitDefEqProofs only[go_sem,ab,ek0]|with_reducible refine gl_ ?_
  first|done|rfl|exact⟨rfl,rfl⟩
 ·have hmk:=hok _ (List.getElem_mem hk2);have hpk:=kW dom known[k] h4 (by have:=hmk.1;omega) hd hmk.2
  have hfk:=hfar here (bw dom known[k]);have hsu:=yk (far:=far) (here:=here) (dom:=dom) hk2;have hlt1:=iA (far:=far) (here:=here) (dom:=dom) hne k;refine gf_ (mE_ hk2) ?_;refine .inl ⟨[oF 0,oF 1,oF 2,oF 3,oT 4,oF 5,oF 6],by kernel_rfl,g2_ ?_⟩
  refine ce_ hpk (g2_ ?_);refine ce_ hfk (g2_ ?_)
  by_cases hc:((far here (bw dom known[k])).toNat:Int)<((cS far here dom known k).2.toNat:Int)
  ·rw[decide_eq_true hc];rw[if_pos ((cZ _ _).1 hc)]at hsu;refine g2_ ?_;refine⟨k+1,aa [] ?_,rfl⟩;exact wf_ hsu
  ·rw[decide_eq_false hc];rw[if_neg (fun h=>hc ((cZ _ _).2 h))]at hsu
   refine g2_ ?_;refine⟨k+1,aa [] ?_,rfl⟩;exact wf_ hsu
 ·have hb:=iA (far:=far) (here:=here) (dom:=dom) hne known.length
  have hgb:(known.map af)[(cS far here dom known known.length).1]? =some (af (dv far here dom known)):=by
   rw[List.getElem?_map,dv,List.getD_eq_getElem?_getD,List.getElem?_eq_getElem hb];rfl
  have hmb:dv far here dom known∈known:=by
   rw[dv,List.getD_eq_getElem?_getD,List.getElem?_eq_getElem hb];exact List.getElem_mem hb
  have hone:=aht (dv far here dom known) (hok _ hmb).1;generalize dv far here dom known=X at hgb hone hk;generalize (cS far here dom known known.length).1=B at hgb hb;simp only[af]at hgb;refine gf_ hgb ?_;refine ce_ hone (g2_ ?_);exact hk
theorem afy(a b:UInt16):Con2 Tryz.prog 284 [.v (.int .u16 a.toNat),.v (.int .u16 b.toNat)] (· =plR (.v (.int .u16 (b-a).toNat))):=by
 refine en_ Tryz.func284 [.tmp 4] (g2_ ?_);refine g2_ ?_;refine ce_ (wC a b) (g2_ ?_);exact⟨_,rfl,aa [] ws_⟩
theorem ae0(a b:UInt16):Con2 Tryz.prog 286 [.v (.int .u16 a.toNat),.v (.int .u16 b.toNat)] (· =plR (.v (.int .u16 (a-b).toNat))):=by
 refine en_ Tryz.func286 [.tmp 4] (g2_ ?_);refine g2_ ?_;refine ce_ (wC b a) (g2_ ?_);exact⟨_,rfl,aa [] ws_⟩
theorem x9(dom:List GSpan)(self:GDesc)(L:List (List GDesc))(hL:L.length<=4000000)(hl: ∀l∈L,aR l)(h4:dom.length<=4)(hd: ∀s∈dom,okS s)(hs:self.filter.length<=4000000)(hss: ∀s∈self.filter,okS s)(hok: ∀d∈aV self.node L,d.filter.length<=4000000/\ ∀s∈d.filter,okS s)(hlm:(aV self.node L).length<=100000):
  Con2 Tryz.prog 183 [fzS dom,.agg (af self),.fz 1 (fk L)] (· =plR (.agg (aH (bN dom self L)))):=by
 refine Con2.ofEmb ?_;have hu:=sm self.node L hL hl;have hp:=kW dom self h4 (by omega) hd hss
 unfold bN;generalize aV self.node L=known at hu hok hlm;refine en_ Tryz.func183 [.cell 6 36] (g2_ ?_);refine g2_ ?_;refine ce_ hu (g2_ ?_);refine fO (fun h=>?_) (fun h=>?_)
 ·have e:known=[]:=List.eq_nil_of_length_eq_zero (by omega)
  rw[if_pos e];refine g2_ ?_;refine ae ?_ rfl;exact wf_ @zDesc.eq_1
 ·have e:known≠[]:=fun e=>h (by rw[e];rfl)
  rw[if_neg e];refine g2_ ?_;refine ce_ hp (g2_ ?_);refine nz 284 (fun h t=>t-h) afy dom _ known e hlm h4 hd hok ?_
  refine g2_ ?_;refine nz 286 (fun h t=>h-t) ae0 dom _ known e hlm h4 hd hok ?_
  refine g2_ ?_;refine ae ?_ rfl;exact ws_
end Go.Proofs.YthoihfighiolmaaGreat.V
namespace Go.Eng
def okF(d:GDesc):Prop:=d.filter.length<=4000000/\ ∀s∈d.filter,okS s
theorem rG:okF zDesc:=⟨Nat.zero_le _,fun s h=>by cases h⟩
theorem aeE{self:UInt8}{P:GDesc->Prop}{l:List GDesc}{d:GDesc}(hl: ∀i e,l[i]? =some e->e.inc=0\/(e.node.toNat=i/\P e))(hd:P d): ∀i e,(g_ self l d)[i]? =some e->e.inc=0\/(e.node.toNat=i/\P e):=by grind [g_]
theorem lE{self:UInt8}{P:GDesc->Prop}: ∀{ds l:List GDesc},(∀i e,l[i]? =some e->e.inc=0\/(e.node.toNat=i/\P e))->(∀d∈ds,P d)-> ∀i e,(eX self l ds)[i]? =some e->e.inc=0\/(e.node.toNat=i/\P e)
 |[],l,hl,_=>hl
 |d::r,l,hl,hd=>by
  show ∀i e,(eX self (g_ self l d) r)[i]? =some e->_;exact lE (aeE hl (hd d List.mem_cons_self)) fun x hx=>hd x (List.mem_cons_of_mem _ hx)
theorem agH{P:GDesc->Prop}(i:Nat)(e:GDesc)(h:zL[i]? =some e):e.inc=0\/(e.node.toNat=i/\P e):=by
 unfold zL at h;rw[List.getElem?_replicate]at h;split at h
 ·cases h;exact .inl rfl
 ·cases h
theorem dN{self:UInt8}{L:List (List GDesc)}{d:GDesc}(h:d∈aV self L): ∃l∈L,d∈l:=by
 obtain⟨h1,h2⟩:=List.mem_filter.1 h;obtain⟨i,hi,hd⟩:=List.mem_iff_getElem.1 h1;rcases lE (P:=fun d=>d∈L.flatten) agH (fun d hd=>hd) i d (by rw[List.getElem?_eq_getElem hi,hd])with h3|h3
 ·rw[h3]at h2;simp at h2
 ·exact List.mem_flatten.1 h3.2
theorem kG{α:Type}{f:α->Bool}: ∀{l:List α},(∀x∈l,f x=false)->l.filter f=[]
 |[],_=>rfl
 |x::r,h=>by rw[List.filter_cons,h x List.mem_cons_self];exact kG fun y hy=>h y (List.mem_cons_of_mem _ hy)
theorem aaw{self:UInt8}{L:List (List GDesc)}{n:Nat}(h: ∀l∈L, ∀d∈l,d.node.toNat<n):(aV self L).length<=n:=by
 unfold aV;have key:=lE (self:=self) (P:=fun d=>d.node.toNat<n) agH (ds:=L.flatten) (fun d hd=>by obtain⟨l,h1,h2⟩:=List.mem_flatten.1 hd;exact h l h1 d h2)
 generalize eX self zL L.flatten=A at key;rw[<-List.take_append_drop n A,List.filter_append,List.length_append];have h1:=List.length_filter_le (fun d:GDesc=>decide ((0:Int)<(d.inc.toNat:Int))) (A.take n)
 have h2:(A.drop n).filter (fun d:GDesc=>decide ((0:Int)<(d.inc.toNat:Int)))=[]:=kG fun x hx=>by
  obtain⟨i,hi,hd⟩:=List.mem_iff_getElem.1 hx;have h3:A[n+i]? =some x:=by rw[<-List.getElem?_drop,List.getElem?_eq_getElem hi,hd]
  rcases key _ _ h3 with h4|h4
  ·rw[h4];rfl
  ·omega
 rw[h2];rw[List.length_take]at h1;simp only[List.length_nil];omega
end Go.Eng
namespace Go.Proofs.YthoihfighiolmaaGreat.V
open Go.Eng
theorem iJ{own:List GSpan}{self:UInt8}{room:Int}{L:List (List GDesc)}{d:GDesc}(h:d∈cG own self room L):d∈aV self L:=by
 unfold cG at h;split at h
 ·cases h
 ·rcases gK h with h|h
  ·obtain⟨x,hx,rfl⟩:=List.mem_map.1 h;rcases gK (List.mem_of_mem_take hx)with h|h
   ·obtain⟨h,_⟩:=List.mem_filter.1 h;obtain⟨y,hy,rfl⟩:=List.mem_map.1 h;exact hy
   ·cases h
  ·cases h
theorem mq{own:List GSpan}{self:UInt8}{room:Int}{L:List (List GDesc)}:(cG own self room L).length<=(aV self L).length:=by grind [cm,List.length_map,List.length_take,cG,fScored]
theorem uB{p:ah}{d:GDesc}(h:ck p d=true):d.node.toNat<p.table.length:=by grind [ck]
theorem dU{r:b9}{d:GDesc}(h:d∈aw r):(r.hs=true/\d=r.succ)\/(r.hp=true/\d=r.pred):=by grind [aw,dd]
theorem cQ(r:b9):(aw r).length<=2:=by
 unfold aw dd
 repeat' split
 all_goals simp
def bJ(p:ah)(r:b9):b9:=⟨r.hs&&ck p r.succ,r.hp&&ck p r.pred,if r.hs&& !ck p r.succ then zDesc else r.succ,if r.hp&& !ck p r.pred then zDesc else r.pred⟩
def aJ(c:ar)(p:ah)(l:List GDesc):ah:=
 let v:=pCur p p.view
 let b:=aw (bJ p p.ring)
 let m:=pUse c p l
 let n:=cG p.filter p.node c.near [v,pCur p p.near,b,m]
 { p with view:=v,near:=n,ring:=bN c.schema (pSelf p) [v,n,b,m] }
structure okG(p:ah):Prop where
 ok:okP p
 filter: ∀s∈p.filter,okS s
 view: ∀d∈p.view,okF d
 near: ∀d∈p.near,okF d
 succ:okF p.ring.succ
 pred:okF p.ring.pred
 table:p.table.length<=12
structure okM(n:Nat)(L:List (List GDesc)):Prop where
 ds: ∀l∈L,aR l
 f: ∀l∈L, ∀d∈l,okF d
 lt: ∀l∈L, ∀d∈l,d.node.toNat<n
theorem okM.u{n:Nat}{L:List (List GDesc)}(h:okM n L)(self:UInt8):(∀d∈aV self L,d.filter.length<=4000000/\ ∀s∈d.filter,okS s)/\(aV self L).length<=n:=
 ⟨fun d hd=>by obtain⟨l,h1,h2⟩:=dN hd;exact h.f l h1 d h2,aaw h.lt⟩
theorem dA{p:ah}{l:List GDesc}(h:aR l):aR (pCur p l):=bu h
theorem lT{c:ar}{p:ah}{l:List GDesc}(hp:okG p)(hl:aR l)(hl2: ∀d∈l,okF d):okM 12 [pCur p p.view,pCur p p.near,aw (bJ p p.ring),pUse c p l]/\
  ∀room,okM 12 [pCur p p.view,cG p.filter p.node room [pCur p p.view,pCur p p.near,aw (bJ p p.ring),pUse c p l],aw (bJ p p.ring),pUse c p l]:=by
 have ht:=hp.table
 have a: ∀l,(∀d∈l,okF d)-> ∀d∈pCur p l,okF d/\d.node.toNat<12:=fun l hl d hd=>by
  obtain⟨h1,h2⟩:=List.mem_filter.1 hd;have:=uB h2;exact⟨hl d h1,by omega⟩
 have b: ∀d∈aw (bJ p p.ring),okF d/\d.node.toNat<12:=fun d hd=>by
  rcases dU hd with ⟨h1,rfl⟩|⟨h1,rfl⟩
  ·have h2:p.ring.hs=true/\ck p p.ring.succ=true:=by simpa[bJ]using h1
   have e:(bJ p p.ring).succ=p.ring.succ:=by simp[bJ,h2.2]
   have:=uB h2.2;rw[e];exact⟨hp.succ,by omega⟩
  ·have h2:p.ring.hp=true/\ck p p.ring.pred=true:=by simpa[bJ]using h1
   have e:(bJ p p.ring).pred=p.ring.pred:=by simp[bJ,h2.2]
   have:=uB h2.2;rw[e];exact⟨hp.pred,by omega⟩
 have hb:aR (aw (bJ p p.ring)):=⟨by have:=cQ (bJ p p.ring);omega,fun d hd=>(b d hd).1.1⟩
 have hf: ∀d∈pFine c l,okF d:=fun d hd=>hl2 d (List.mem_filter.1 hd).1
 have m1:okM 12 [pCur p p.view,pCur p p.near,aw (bJ p p.ring),pUse c p l]:=by
  refine⟨fun l' h=>?_,fun l' h d hd=>?_,fun l' h d hd=>?_⟩
  ·simp at h;rcases h with rfl|rfl|rfl|rfl
   ·exact dA hp.ok.view
   ·exact dA hp.ok.near
   ·exact hb
   ·exact bu (bu hl)
  ·simp at h;rcases h with rfl|rfl|rfl|rfl
   ·exact(a _ hp.view d hd).1
   ·exact(a _ hp.near d hd).1
   ·exact(b d hd).1
   ·exact(a _ hf d hd).1
  ·simp at h;rcases h with rfl|rfl|rfl|rfl
   ·exact(a _ hp.view d hd).2
   ·exact(a _ hp.near d hd).2
   ·exact(b d hd).2
   ·exact(a _ hf d hd).2
 refine⟨m1,fun room=>?_⟩
 have hn: ∀d∈cG p.filter p.node room [pCur p p.view,pCur p p.near,aw (bJ p p.ring),pUse c p l],okF d/\d.node.toNat<12:=fun d hd=>by
  obtain⟨l',h1,h2⟩:=dN (iJ hd);exact⟨m1.f l' h1 d h2,m1.lt l' h1 d h2⟩
 have hn2:aR (cG p.filter p.node room [pCur p p.view,pCur p p.near,aw (bJ p p.ring),pUse c p l]):=
  ⟨Nat.le_trans mq (Nat.le_trans (m1.u p.node).2 (by omega)),fun d hd=>(hn d hd).1.1⟩
 generalize cG p.filter p.node room [pCur p p.view,pCur p p.near,aw (bJ p p.ring),pUse c p l]=N at hn hn2;refine⟨fun l' h=>?_,fun l' h d hd=>?_,fun l' h d hd=>?_⟩
 ·simp at h;rcases h with rfl|rfl|rfl|rfl
  ·exact dA hp.ok.view
  ·exact hn2
  ·exact hb
  ·exact bu (bu hl)
 ·simp at h;rcases h with rfl|rfl|rfl|rfl
  ·exact(a _ hp.view d hd).1
  ·exact(hn d hd).1
  ·exact(b d hd).1
  ·exact(a _ hf d hd).1
 ·simp at h;rcases h with rfl|rfl|rfl|rfl
  ·exact(a _ hp.view d hd).2
  ·exact(hn d hd).2
  ·exact(b d hd).2
  ·exact(a _ hf d hd).2
end Go.Proofs.YthoihfighiolmaaGreat.V
namespace Go.Eng
def abE(cur:GDesc->Bool)(r:b9):b9:=⟨r.hs&&cur r.succ,r.hp&&cur r.pred,if r.hs&& !cur r.succ then zDesc else r.succ,if r.hp&& !cur r.pred then zDesc else r.pred⟩
def eB(r:b9)(n:UInt8):b9:=
 ⟨r.hs&& !decide (r.succ.node=n),r.hp&& !decide (r.pred.node=n),if r.hs&&decide (r.succ.node=n)then zDesc else r.succ,if r.hp&&decide (r.pred.node=n)then zDesc else r.pred⟩
def rDrops(kept:List GDesc)(l:List GDesc)(r:b9):b9:=l.foldl (fun r d=>if kept.any (fun e=>decide (e.node=d.node))then r else eB r d.node) r
theorem adD(cur:GDesc->Bool)(h: ∀a b:GDesc,a.node=b.node->a.inc<=b.inc->cur a=true->cur b=true)(r:b9):
  aw (rDrops ((aw r).filter cur) (aw r) r)=aw (abE cur r):=by
 obtain⟨hs,hp,s,p⟩:=r;have one: ∀(d:GDesc),([d].filter cur).any (fun e=>decide (e.node=d.node))=cur d:=fun d=>by cases hc:cur d<;>simp[hc]
 cases hs<;>cases hp
 ·rfl
 ·simp only[aw,rDrops,abE,Bool.false_eq_true,false_and,if_false,if_true,List.foldl_cons,List.foldl_nil,one];cases hc:cur p<;>simp[eB]
 ·simp only[aw,rDrops,abE,Bool.false_eq_true,and_false,if_false,if_true,List.foldl_cons,List.foldl_nil,one];cases hc:cur s<;>simp[eB]
 ·simp only[aw,true_and,if_true,abE,Bool.true_and]
  by_cases e:s.node=p.node
  ·have e1: ¬s.node<p.node:=by rw[e];exact UInt8.lt_irrefl _
   have e2: ¬p.node<s.node:=by rw[e];exact UInt8.lt_irrefl _
   unfold dd;rw[if_neg e1,if_neg e2];have k1:=h s p e;have k2:=h p s e.symm
   by_cases hn:s.inc<p.inc\/(p.inc=s.inc/\p.age<s.age)
   ·rw[if_pos hn];simp only[rDrops,List.foldl_cons,List.foldl_nil,one];have hle:s.inc<=p.inc:=by rcases hn with hn|hn;exact UInt16.le_of_lt hn;rw[hn.1];exact UInt16.le_refl _
    cases hc:cur p with
    |true=>cases hd:cur s<;>simp[dd,e1,e2,hn]
    | false=>
     have hd:cur s=false:=by cases hd:cur s with
      |false=>rfl
      |true=>rw[k1 hle hd]at hc;cases hc
     simp[eB,hd,e]
   ·rw[if_neg hn];simp only[rDrops,List.foldl_cons,List.foldl_nil,one]
    have hle:p.inc<=s.inc:=by
     rw[UInt16.le_iff_toNat_le];have: ¬s.inc.toNat<p.inc.toNat:=fun g=>hn (.inl (UInt16.lt_iff_toNat_lt.2 g))
     omega
    cases hc:cur s with
    |true=>cases hd:cur p<;>simp[dd,e1,e2,hn]
    | false=>
     have hd:cur p=false:=by cases hd:cur p with
      |false=>rfl
      |true=>rw[k2 hle hd]at hc;cases hc
     simp[eB,hd,e]
  ·have e': ¬p.node=s.node:=fun h=>e h.symm
   unfold dd
   by_cases h1:s.node<p.node
   ·cases hc:cur s<;>cases hd:cur p<;>simp[rDrops,eB,h1,hc,hd,e,e',dd]
   ·have h2:p.node<s.node:=by
     rw[UInt8.lt_iff_toNat_lt]at h1 ⊢;have:s.node.toNat≠p.node.toNat:=fun g=>e (UInt8.toNat_inj.1 g)
     omega
    cases hc:cur s<;>cases hd:cur p<;>simp[rDrops,eB,h1,h2,hc,hd,e,e',dd]
theorem ajM{p:ah}{a b:GDesc}(hn:a.node=b.node)(hi:a.inc<=b.inc)(h:ck p a=true):ck p b=true:=by
 unfold ck at h ⊢;rw[<-hn]
 by_cases h1:a.node=p.node
 ·rw[if_pos h1]at h;cases h
 rw[if_neg h1]at h ⊢;cases hm:p.table[a.node.toNat]? with
 |none=>rw[hm]at h;cases h
 | some m=>
  rw[hm]at h;simp only[Bool.or_eq_true,Bool.and_eq_true,decide_eq_true_eq,UInt16.lt_iff_toNat_lt,UInt16.le_iff_toNat_le, <-UInt16.toNat_inj]at h hi ⊢;rcases h with h|h
  ·exact .inl (by omega)
  ·by_cases e:m.inc.toNat<b.inc.toNat
   ·exact .inl e
   ·exact .inr ⟨by omega,h.2⟩
end Go.Eng
namespace Go.Proofs.YthoihfighiolmaaGreat.V
open Go.Eng
theorem ahF(p:ah)(r:b9):aw (rDrops (pCur p (aw r)) (aw r) r)=aw (bJ p r):=adD (ck p) (fun a b=>ajM) r
