import Derived.Test.YtmhmahcdanclnaaGreatNo18
set_option linter.unusedSectionVars false
set_option linter.unusedSimpArgs false
set_option linter.unusedVariables false
set_option maxRecDepth 10000
namespace Go.Proofs.YtmhmahcdanclnaaGreat
open Go.Eng
attribute [local go_sem] GSpan.val GSpan.enc PD.val PD.enc
end Go.Proofs.YtmhmahcdanclnaaGreat
namespace Go.Eng
def dS(l:List GDesc)(node:UInt8):Nat:=l.findIdx fun d=>decide (node<=d.node)
def d8(l:List GDesc)(node:UInt8):Bool:=(dC l node).isSome
section
variable {l:List GDesc} {node:UInt8}
theorem yr(l:List GDesc)(node:UInt8):dS l node<=l.length:=List.findIdx_le_length
theorem oH(hu:Up dj l){h:Nat}{o:GDesc}(ho:l[h]? =some o):node<=o.node↔dS l node<=h:=by
 obtain⟨hh,rfl⟩:=List.getElem?_eq_some_iff.1 ho;constructor
 ·intro hle;rcases Nat.lt_or_ge h (dS l node)with h1|h1
  ·have:=List.not_of_lt_findIdx h1;exact absurd hle (by simpa using this)
  ·exact h1
 ·intro hle;have hlt:dS l node<l.length:=by omega
  have h1:=List.findIdx_getElem (w:=hlt);simp only[decide_eq_true_eq]at h1;rw[UInt8.le_iff_toNat_le]at h1 ⊢;rcases Nat.eq_or_lt_of_le hle with e|h2
  ·have:l[List.findIdx (fun d=>decide (node<=d.node)) l]=l[h]:=by congr 1
   rw[this]at h1;exact h1
  ·have:=List.pairwise_iff_getElem.1 hu _ _ hlt hh h2;unfold dj dS at this;omega
theorem gZ(hu:Up dj l){i:Nat}(h:dC l node=some i):dS l node=i:=by
 obtain⟨o,ho,hn⟩:=fk h;have h1:=(oH hu (node:=node) ho).1 (by rw[hn];exact UInt8.le_refl _)
 obtain⟨hi,rfl⟩:=List.getElem?_eq_some_iff.1 ho;rcases Nat.eq_or_lt_of_le h1 with e|h2
 ·exact e
 ·exfalso;have h3:l[dS l node]? =some l[dS l node]:=List.getElem?_eq_getElem (by omega)
  have h4:=(oH hu (node:=node) h3).2 (Nat.le_refl _);have h5:=List.pairwise_iff_getElem.1 hu _ _ (by omega) hi h2
  rw[UInt8.le_iff_toNat_le]at h4;have h6:node.toNat=l[i].node.toNat:=by rw[hn]
  unfold dj at h5;omega
theorem aa0(hu:Up dj l){o:GDesc}(ho:l[dS l node]? =some o):decide (o.node=node)=d8 l node:=by
 unfold d8;cases hi:dC l node with
 |some i=>
  have:=gZ hu hi;obtain⟨o',ho',hn⟩:=fk hi;rw[this,ho']at ho;cases ho;simp[hn]
 |none=>
  have:=lV hi o (List.mem_of_getElem? ho);simp[this]
theorem af2(hu:Up dj l)(h:dS l node=l.length):d8 l node=false:=by
 unfold d8;cases hi:dC l node with
 |none=>rfl
 |some i=>
  have:=gZ hu hi;obtain⟨o',ho',hn⟩:=fk hi;obtain⟨hlt,_⟩:=List.getElem?_eq_some_iff.1 ho';omega
theorem ahY{d:GDesc}(h:dC l d.node=none):kAt dj l d=dS l d.node:=by
 rw[ad2];unfold dS;have hn:=lV h;clear h
 induction l with
 |nil=>rfl
 | cons a r ih=>
  have h1:=hn a List.mem_cons_self
  have h2:decide (dj d<dj a)=decide (d.node<=a.node):=by
   rw[decide_eq_decide,UInt8.le_iff_toNat_le];unfold dj;have:a.node.toNat≠d.node.toNat:=fun e=>h1 (UInt8.toNat_inj.1 e)
   omega
  rw[List.findIdx_cons,List.findIdx_cons,h2,ih (fun e he=>hn e (List.mem_cons_of_mem _ he))]
theorem zq(hu:Up dj l){i:Nat}(h:dC l node=some i):bG l node=l.take i++l.drop (i+1):=by
 obtain⟨o,ho,hn⟩:=fk h;obtain⟨hi,rfl⟩:=List.getElem?_eq_some_iff.1 ho
 have hne: ∀j (hj:j<l.length),j≠i->l[j].node≠node:=by
  intro j hj hji e;have h1:dC l l[j].node=some j:=anv (self:=0) hu (List.getElem?_eq_getElem hj);rw[e,h]at h1;cases h1;exact hji rfl
 unfold bG
 conv=>lhs;rw[<-List.take_append_drop i l,List.filter_append]
 rw[List.filter_eq_self.2, <-List.getElem_cons_drop hi,List.filter_cons]
 ·simp only[hn,decide_true,Bool.not_true,Bool.false_eq_true,if_false];rw[List.filter_eq_self.2];intro d hd;obtain⟨j,hj,rfl⟩:=List.mem_drop_iff_getElem.1 hd;have:=hne (j+(i+1)) hj (by omega)
  simp only[Nat.add_comm]at this ⊢;simpa using this
 ·intro d hd;obtain⟨j,hj,rfl⟩:=List.mem_take_iff_getElem.1 hd;simpa using hne j (by omega) (by omega)
theorem vj(h:dC l node=none):bG l node=l:=by grind [bG,List.filter_eq_self,lV]
end
end Go.Eng
namespace Go.Proofs.YtmhmahcdanclnaaGreat
open Go.Eng
attribute [local go_sem] GSpan.val GSpan.enc PD.val PD.enc
end Go.Proofs.YtmhmahcdanclnaaGreat
namespace Go.Eng
section
variable {l:List GDesc} {self:UInt8}
theorem ari{i:Nat}{x:GDesc}(hx:l[i]? =some x)(h1: ∀e∈l,e.age<=x.age)(h2: ∀j y,j<i->l[j]? =some y->y.age<x.age):ac6 l=some i:=by
 obtain⟨hi,rfl⟩:=List.getElem?_eq_some_iff.1 hx;unfold ac6;rw[List.findIdx?_eq_some_iff_getElem];refine⟨hi,by simpa using h1,fun j hj=>?_⟩
 have h3:=h2 j l[j] hj (List.getElem?_eq_getElem (by omega))
 simp only[decide_eq_true_eq];intro h4;have h5:=h4 l[i] (List.getElem_mem hi);rw[UInt8.lt_iff_toNat_lt]at h3;rw[UInt8.le_iff_toNat_le]at h5;omega
end
end Go.Eng
namespace Go.Proofs.YtmhmahcdanclnaaGreat
open Go.Eng
attribute [local go_sem] GSpan.val GSpan.enc PD.val PD.enc
end Go.Proofs.YtmhmahcdanclnaaGreat
namespace Go.Eng
