import Derived.Test.YtmhmahcdanclnaaGreatNb18
set_option linter.unusedSectionVars false
set_option linter.unusedSimpArgs false
set_option linter.unusedVariables false
set_option maxRecDepth 10000
namespace Go.Proofs.YtmhmahcdanclnaaGreat
open Go.Eng
attribute [local go_sem] GSpan.val GSpan.enc PD.val PD.enc
end Go.Proofs.YtmhmahcdanclnaaGreat
namespace Go.Eng
def dN(l:List GDesc)(node:UInt8):Nat:=l.findIdx fun d=>decide (node<=d.node)
def d7(l:List GDesc)(node:UInt8):Bool:=(dq l node).isSome
section
variable {l:List GDesc} {node:UInt8}
theorem z3(l:List GDesc)(node:UInt8):dN l node<=l.length:=List.findIdx_le_length
theorem o7(hu:Up c9 l){h:Nat}{o:GDesc}(ho:l[h]? =some o):node<=o.node↔dN l node<=h:=by
 obtain⟨hh,rfl⟩:=List.getElem?_eq_some_iff.1 ho;constructor
 ·intro hle;rcases Nat.lt_or_ge h (dN l node)with h1|h1
  ·have:=List.not_of_lt_findIdx h1;exact absurd hle (by simpa using this)
  ·exact h1
 ·intro hle;have hlt:dN l node<l.length:=by omega
  have h1:=List.findIdx_getElem (w:=hlt);simp only[decide_eq_true_eq]at h1;rw[UInt8.le_iff_toNat_le]at h1 ⊢;rcases Nat.eq_or_lt_of_le hle with e|h2
  ·have:l[List.findIdx (fun d=>decide (node<=d.node)) l]=l[h]:=by congr 1
   rw[this]at h1;exact h1
  ·have:=List.pairwise_iff_getElem.1 hu _ _ hlt hh h2;unfold c9 dN at this;omega
theorem iy(hu:Up c9 l){i:Nat}(h:dq l node=some i):dN l node=i:=by
 obtain⟨o,ho,hn⟩:=fc h;have h1:=(o7 hu (node:=node) ho).1 (by rw[hn];exact UInt8.le_refl _)
 obtain⟨hi,rfl⟩:=List.getElem?_eq_some_iff.1 ho;rcases Nat.eq_or_lt_of_le h1 with e|h2
 ·exact e
 ·exfalso;have h3:l[dN l node]? =some l[dN l node]:=List.getElem?_eq_getElem (by omega)
  have h4:=(o7 hu (node:=node) h3).2 (Nat.le_refl _);have h5:=List.pairwise_iff_getElem.1 hu _ _ (by omega) hi h2
  rw[UInt8.le_iff_toNat_le]at h4;have h6:node.toNat=l[i].node.toNat:=by rw[hn]
  unfold c9 at h5;omega
theorem aas(hu:Up c9 l){o:GDesc}(ho:l[dN l node]? =some o):decide (o.node=node)=d7 l node:=by
 unfold d7;cases hi:dq l node with
 |some i=>
  have:=iy hu hi;obtain⟨o',ho',hn⟩:=fc hi;rw[this,ho']at ho;cases ho;simp[hn]
 |none=>
  have:=lJ hi o (List.mem_of_getElem? ho);simp[this]
theorem afI(hu:Up c9 l)(h:dN l node=l.length):d7 l node=false:=by
 unfold d7;cases hi:dq l node with
 |none=>rfl
 |some i=>
  have:=iy hu hi;obtain⟨o',ho',hn⟩:=fc hi;obtain⟨hlt,_⟩:=List.getElem?_eq_some_iff.1 ho';omega
theorem agA{d:GDesc}(h:dq l d.node=none):kAt c9 l d=dN l d.node:=by
 rw[abT];unfold dN;have hn:=lJ h;clear h
 induction l with
 |nil=>rfl
 | cons a r ih=>
  have h1:=hn a List.mem_cons_self
  have h2:decide (c9 d<c9 a)=decide (d.node<=a.node):=by
   rw[decide_eq_decide,UInt8.le_iff_toNat_le];unfold c9;have:a.node.toNat≠d.node.toNat:=fun e=>h1 (UInt8.toNat_inj.1 e)
   omega
  rw[List.findIdx_cons,List.findIdx_cons,h2,ih (fun e he=>hn e (List.mem_cons_of_mem _ he))]
theorem aao(hu:Up c9 l){i:Nat}(h:dq l node=some i):bB l node=l.take i++l.drop (i+1):=by
 obtain⟨o,ho,hn⟩:=fc h;obtain⟨hi,rfl⟩:=List.getElem?_eq_some_iff.1 ho
 have hne: ∀j (hj:j<l.length),j≠i->l[j].node≠node:=by
  intro j hj hji e;have h1:dq l l[j].node=some j:=aoR (self:=0) hu (List.getElem?_eq_getElem hj);rw[e,h]at h1;cases h1;exact hji rfl
 unfold bB
 conv=>lhs;rw[<-List.take_append_drop i l,List.filter_append]
 rw[List.filter_eq_self.2, <-List.getElem_cons_drop hi,List.filter_cons]
 ·simp only[hn,decide_true,Bool.not_true,Bool.false_eq_true,if_false];rw[List.filter_eq_self.2];intro d hd;obtain⟨j,hj,rfl⟩:=List.mem_drop_iff_getElem.1 hd;have:=hne (j+(i+1)) hj (by omega)
  simp only[Nat.add_comm]at this ⊢;simpa using this
 ·intro d hd;obtain⟨j,hj,rfl⟩:=List.mem_take_iff_getElem.1 hd;simpa using hne j (by omega) (by omega)
theorem vY(h:dq l node=none):bB l node=l:=by grind [bB,List.filter_eq_self,lJ]
end
end Go.Eng
namespace Go.Proofs.YtmhmahcdanclnaaGreat
open Go.Eng
attribute [local go_sem] GSpan.val GSpan.enc PD.val PD.enc
end Go.Proofs.YtmhmahcdanclnaaGreat
namespace Go.Eng
section
variable {l:List GDesc} {self:UInt8}
def okD(self:UInt8)(l:List GDesc)(i:Nat):Prop:= ∀d,l[i]? =some d->(d.node≠self/\d.inc≠0)/\ ∀e,i≠0->l[i-1]? =some e->e.node<d.node
def okR(self:UInt8)(l:List GDesc)(i:Nat):Prop:= ∀d,l[i]? =some d->(d.node≠self/\d.inc≠0)/\ ∀k e,k<i->l[k]? =some e->e.node<d.node
theorem aiv:Vw self l↔ ∀i,i<l.length->okR self l i:=by
 constructor
 ·rintro⟨h1,h2⟩ i hi d hd
  refine⟨h1 d (List.mem_of_getElem? hd),fun k e hk he=>?_⟩
  obtain⟨hi',rfl⟩:=List.getElem?_eq_some_iff.1 hd;obtain⟨hk',rfl⟩:=List.getElem?_eq_some_iff.1 he;rw[UInt8.lt_iff_toNat_lt];exact List.pairwise_iff_getElem.1 h2 k i hk' hi' hk
 ·intro h;refine⟨fun d hd=>?_,List.pairwise_iff_getElem.2 fun i j hi hj hij=>?_⟩
  ·obtain⟨i,hi,rfl⟩:=List.getElem_of_mem hd;exact(h i hi _ (List.getElem?_eq_getElem hi)).1
  ·have:=(h j hj _ (List.getElem?_eq_getElem hj)).2 i _ hij (List.getElem?_eq_getElem hi)
   rwa[UInt8.lt_iff_toNat_lt]at this
theorem alm:Vw self l↔ ∀i,i<l.length->okD self l i:=by
 constructor
 ·intro h i hi d hd;obtain⟨h1,h2⟩:=aiv.1 h i hi d hd;exact⟨h1,fun e h0 he=>h2 (i-1) e (by omega) he⟩
 ·intro h;rw[aiv];intro i hi d hd;refine⟨(h i hi d hd).1,fun k e hk he=>?_⟩
  obtain⟨m,rfl⟩: ∃m,i=k+1+m:=⟨i-k-1,by omega⟩
  induction m generalizing d with
  |zero=>exact(h (k+1) hi d hd).2 e (by omega) (by simpa using he)
  |succ m ih=>
   have hlt:k+1+m<l.length:=by omega
   have h1:=ih l[k+1+m] hlt (List.getElem?_eq_getElem hlt) (by omega)
   have h2:=(h (k+1+(m+1)) hi d hd).2 l[k+1+m] (by omega) (by rw[show k+1+(m+1)-1=k+1+m by omega];exact List.getElem?_eq_getElem hlt)
   exact UInt8.lt_trans h1 h2
theorem ib{room:Int}{i:Nat}(hi:i<l.length)(h: ¬okD self l i):dZ l self room=false:=decide_eq_false fun ⟨_,_,hv⟩=>h (alm.1 hv i hi)
theorem ap1{i:Nat}{x:GDesc}(hx:l[i]? =some x)(h1: ∀e∈l,e.age<=x.age)(h2: ∀j y,j<i->l[j]? =some y->y.age<x.age):ad7 l=some i:=by
 obtain⟨hi,rfl⟩:=List.getElem?_eq_some_iff.1 hx;unfold ad7;rw[List.findIdx?_eq_some_iff_getElem];refine⟨hi,by simpa using h1,fun j hj=>?_⟩
 have h3:=h2 j l[j] hj (List.getElem?_eq_getElem (by omega))
 simp only[decide_eq_true_eq];intro h4;have h5:=h4 l[i] (List.getElem_mem hi);rw[UInt8.lt_iff_toNat_lt]at h3;rw[UInt8.le_iff_toNat_le]at h5;omega
end
end Go.Eng
namespace Go.Proofs.YtmhmahcdanclnaaGreat
open Go.Eng
attribute [local go_sem] GSpan.val GSpan.enc PD.val PD.enc
end Go.Proofs.YtmhmahcdanclnaaGreat
namespace Go.Eng
