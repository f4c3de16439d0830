import Derived.Test.YtmhmahcdanclnaaGreatNc18
set_option linter.unusedSectionVars false
set_option linter.unusedSimpArgs false
set_option linter.unusedVariables false
set_option maxRecDepth 10000
namespace Go.Proofs.YtmhmahcdanclnaaGreat
open Go.Eng
attribute [local go_sem] GSpan.val GSpan.enc PD.val PD.enc
end Go.Proofs.YtmhmahcdanclnaaGreat
namespace Go.Eng
def dO(l:List GDesc)(node:UInt8):Nat:=l.findIdx fun d=>decide (node<=d.node)
def dY(l:List GDesc)(node:UInt8):Bool:=(dp l node).isSome
section
variable {l:List GDesc} {node:UInt8}
theorem zQ(l:List GDesc)(node:UInt8):dO l node<=l.length:=List.findIdx_le_length
theorem oJ(hu:Up db l){h:Nat}{o:GDesc}(ho:l[h]? =some o):node<=o.node↔dO l node<=h:=by
 obtain⟨hh,rfl⟩:=List.getElem?_eq_some_iff.1 ho;constructor
 ·intro hle;rcases Nat.lt_or_ge h (dO l node)with h1|h1
  ·have:=List.not_of_lt_findIdx h1;exact absurd hle (by simpa using this)
  ·exact h1
 ·intro hle;have hlt:dO l node<l.length:=by omega
  have h1:=List.findIdx_getElem (w:=hlt);simp only[decide_eq_true_eq]at h1;rw[UInt8.le_iff_toNat_le]at h1 ⊢;rcases Nat.eq_or_lt_of_le hle with e|h2
  ·have:l[List.findIdx (fun d=>decide (node<=d.node)) l]=l[h]:=by congr 1
   rw[this]at h1;exact h1
  ·have:=List.pairwise_iff_getElem.1 hu _ _ hlt hh h2;unfold db dO at this;omega
theorem ix(hu:Up db l){i:Nat}(h:dp l node=some i):dO l node=i:=by
 obtain⟨o,ho,hn⟩:=fg h;have h1:=(oJ hu (node:=node) ho).1 (by rw[hn];exact UInt8.le_refl _)
 obtain⟨hi,rfl⟩:=List.getElem?_eq_some_iff.1 ho;rcases Nat.eq_or_lt_of_le h1 with e|h2
 ·exact e
 ·exfalso;have h3:l[dO l node]? =some l[dO l node]:=List.getElem?_eq_getElem (by omega)
  have h4:=(oJ hu (node:=node) h3).2 (Nat.le_refl _);have h5:=List.pairwise_iff_getElem.1 hu _ _ (by omega) hi h2
  rw[UInt8.le_iff_toNat_le]at h4;have h6:node.toNat=l[i].node.toNat:=by rw[hn]
  unfold db at h5;omega
theorem aaY(hu:Up db l){o:GDesc}(ho:l[dO l node]? =some o):decide (o.node=node)=dY l node:=by
 unfold dY;cases hi:dp l node with
 |some i=>
  have:=ix hu hi;obtain⟨o',ho',hn⟩:=fg hi;rw[this,ho']at ho;cases ho;simp[hn]
 |none=>
  have:=lH hi o (List.mem_of_getElem? ho);simp[this]
theorem ahl(hu:Up db l)(h:dO l node=l.length):dY l node=false:=by
 unfold dY;cases hi:dp l node with
 |none=>rfl
 |some i=>
  have:=ix hu hi;obtain⟨o',ho',hn⟩:=fg hi;obtain⟨hlt,_⟩:=List.getElem?_eq_some_iff.1 ho';omega
theorem ag9{d:GDesc}(h:dp l d.node=none):kAt db l d=dO l d.node:=by
 rw[ac4];unfold dO;have hn:=lH h;clear h
 induction l with
 |nil=>rfl
 | cons a r ih=>
  have h1:=hn a List.mem_cons_self
  have h2:decide (db d<db a)=decide (d.node<=a.node):=by
   rw[decide_eq_decide,UInt8.le_iff_toNat_le];unfold db;have:a.node.toNat≠d.node.toNat:=fun e=>h1 (UInt8.toNat_inj.1 e)
   omega
  rw[List.findIdx_cons,List.findIdx_cons,h2,ih (fun e he=>hn e (List.mem_cons_of_mem _ he))]
theorem aaS(hu:Up db l){i:Nat}(h:dp l node=some i):bE l node=l.take i++l.drop (i+1):=by
 obtain⟨o,ho,hn⟩:=fg h;obtain⟨hi,rfl⟩:=List.getElem?_eq_some_iff.1 ho
 have hne: ∀j (hj:j<l.length),j≠i->l[j].node≠node:=by
  intro j hj hji e;have h1:dp l l[j].node=some j:=amX (self:=0) hu (List.getElem?_eq_getElem hj);rw[e,h]at h1;cases h1;exact hji rfl
 unfold bE
 conv=>lhs;rw[<-List.take_append_drop i l,List.filter_append]
 rw[List.filter_eq_self.2, <-List.getElem_cons_drop hi,List.filter_cons]
 ·simp only[hn,decide_true,Bool.not_true,Bool.false_eq_true,if_false];rw[List.filter_eq_self.2];intro d hd;obtain⟨j,hj,rfl⟩:=List.mem_drop_iff_getElem.1 hd;have:=hne (j+(i+1)) hj (by omega)
  simp only[Nat.add_comm]at this ⊢;simpa using this
 ·intro d hd;obtain⟨j,hj,rfl⟩:=List.mem_take_iff_getElem.1 hd;simpa using hne j (by omega) (by omega)
theorem vz(h:dp l node=none):bE l node=l:=by grind [bE,List.filter_eq_self,lH]
end
end Go.Eng
namespace Go.Proofs.YtmhmahcdanclnaaGreat
open Go.Eng
attribute [local go_sem] GSpan.val GSpan.enc PD.val PD.enc
end Go.Proofs.YtmhmahcdanclnaaGreat
namespace Go.Eng
section
variable {l:List GDesc} {self:UInt8}
theorem aqs{i:Nat}{x:GDesc}(hx:l[i]? =some x)(h1: ∀e∈l,e.age<=x.age)(h2: ∀j y,j<i->l[j]? =some y->y.age<x.age):abQ l=some i:=by
 obtain⟨hi,rfl⟩:=List.getElem?_eq_some_iff.1 hx;unfold abQ;rw[List.findIdx?_eq_some_iff_getElem];refine⟨hi,by simpa using h1,fun j hj=>?_⟩
 have h3:=h2 j l[j] hj (List.getElem?_eq_getElem (by omega))
 simp only[decide_eq_true_eq];intro h4;have h5:=h4 l[i] (List.getElem_mem hi);rw[UInt8.lt_iff_toNat_lt]at h3;rw[UInt8.le_iff_toNat_le]at h5;omega
end
end Go.Eng
namespace Go.Proofs.YtmhmahcdanclnaaGreat
open Go.Eng
attribute [local go_sem] GSpan.val GSpan.enc PD.val PD.enc
end Go.Proofs.YtmhmahcdanclnaaGreat
namespace Go.Eng
