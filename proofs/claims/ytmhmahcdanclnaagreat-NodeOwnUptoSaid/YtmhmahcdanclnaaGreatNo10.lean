import Derived.Test.YtmhmahcdanclnaaGreatNo9
set_option linter.unusedSectionVars false
set_option linter.unusedSimpArgs false
set_option linter.unusedVariables false
set_option maxRecDepth 10000
namespace Go.Proofs.YtmhmahcdanclnaaGreat.V
open Go.Eng
attribute [local go_sem] GSpan.val GSpan.enc
abbrev PPr:Type:=GSpan×GSpan
def ak0(x:PPr):List Value:=[x.1.val,x.2.val]
attribute [local go_sem] ak0
section
variable {P:Program} {x:Bool} {u0:World} {args:List Operand} {d:Option Tmp} {K:S->World->Prop} {s:S} {u:World} {l:Nat} {vs:List Value}
theorem tx:aps P x u0 args d K s u (.v (.func (.yield l) #[] #[]))=gM u0 args s u (rF x P u0 (.func (.yield l) #[] #[]) K d):=rfl
theorem nE:rF x P u0 (.func (.yield l) #[] #[]) K d vs s u=AtYield x P l vs u0 u (eD s d K):=by
 refine propext ⟨fun ⟨l',e,h⟩=>?_,fun h=>⟨l,rfl,h⟩⟩
 cases e;exact h
end
attribute [local go_sem] tx nE
theorem vY{ub:World}{b1 b2 c1 c2:Nat}{p1 p2:Option Addr}{l1 l2:List GSpan}(h1:CellsAt ub ⟨b1,0,none⟩ [.slice p1 l1.length c1])(h2:CellsAt ub ⟨b2,0,none⟩ [.slice p2 l2.length c2])
  (s1:Sl ub 2 p1 l1.length c1 (l1.map GSpan.enc)) (s2:Sl ub 2 p2 l2.length c2 (l2.map GSpan.enc)) (hn1:l1.length<=1000000000) (hn2:l2.length<=1000000000):
  amm Tryz.prog 305 [.pointer (some ⟨b1,0,none⟩),.pointer (some ⟨b2,0,none⟩)] ak0 (· =l1.zip l2) (· <+: l1.zip l2) (fun _=>True) ub:=by
 refine⟨by kernel_rfl,fun l I Ix u0 u hub hy h0=>?_⟩
 refine fa Ty.mixed Tryz.func305 rfl (by kernel_rfl) (by kernel_rfl) rfl [] rfl ?_
 have hS:=(hub _ _ h0).1;refine vs_ ?_;refine⟨_,h1.mono hS,rfl,.inl rfl,?_⟩;refine vs_ ?_;refine⟨_,h2.mono hS,rfl,.inl rfl,?_⟩;refine vs_ ?_;obtain⟨m,hm⟩: ∃m,m=(l1.zip l2).length:=⟨_,rfl⟩;have hmm:m=min l1.length l2.length:=by rw[hm,List.length_zip]
 rw[show(if (l2.length:Int)<(l1.length:Int)then (l2.length:Int)else (l1.length:Int))=(m:Int)by split<;>omega]
 refine abm (γ:=Unit) m (fun _=>[]) (fun _=>[]) (fun k _ u'=>I ((l1.zip l2).take k) u') () (gW (by simp only[go_sem,bI,bc,bw,bm,Nat.reduceBEq,Nat.reduceAdd,Nat.reduceLeDiff,Nat.reduceEqDiff,Int.reduceAdd,Int.reduceBEq,Int.reduceBNe,reduceCtorEq,beq_self_eq_true,Bool.true_beq,Bool.false_beq])) h0 (fun _ _=>rfl) (by omega) (fun _=>rfl) ?_ ?_
 ·intro k _ u' hk hI;have hS2:=(hub _ _ hI).1;have hk1:k<l1.length:=by omega
  have hk2:k<l2.length:=by omega
  have e1:l1[k]? =some l1[k]:=List.getElem?_eq_getElem hk1;have e2:l2[k]? =some l2[k]:=List.getElem?_eq_getElem hk2
  have e3:(l1.zip l2).take (k+1)=(l1.zip l2).take k++[(l1[k],l2[k])]:=by
   rw[List.take_add_one,List.getElem?_eq_getElem (by omega),List.getElem_zip];rfl
  generalize l1[k]=x1 at e1 e3;generalize l2[k]=x2 at e2 e3;refine vs_ ?_;refine .inl ⟨[oF 0,oF 1,oF 2,oF 5,oF 6,oF 3,oF 7,oF 4,oF 8,oF 9,oF 10],by kernel_rfl,?_⟩
  refine vs_ ?_;refine⟨_,h1.mono hS2,rfl,.inl rfl,?_⟩;refine vs_ ?_;refine⟨_,h2.mono hS2,rfl,.inl rfl,?_⟩;refine vs_ ?_;refine⟨⟨s1.some_ hk1,by omega,by omega⟩,?_⟩
  refine⟨⟨s2.some_ hk2,by omega,by omega⟩,?_⟩
  refine(s1.mono hS2).load (aei e1) (.inr rfl) (Nat.le_of_ble_eq_true rfl) ?_;refine vs_ ?_;refine(s2.mono hS2).load (aei e2) (.inr rfl) (Nat.le_of_ble_eq_true rfl) ?_;refine vs_ ?_;have hsp:(l1.zip l2).take k++[(x1,x2)] <+: l1.zip l2:=by rw[<-e3];exact List.take_prefix _ _
  have hyk:=hy _ _ _ hI hsp;refine AtYield.mono ?_ hyk
  rintro r v' (⟨rfl,hI'⟩|⟨rfl,hI'⟩)
  ·refine vs_ ?_;refine⟨(),gW (by simp only[go_sem,bI,bc,bw,bm,Nat.reduceBEq,Nat.reduceAdd,Nat.reduceLeDiff,Nat.reduceEqDiff,Int.reduceAdd,Int.reduceBEq,Int.reduceBNe,reduceCtorEq,beq_self_eq_true,Bool.true_beq,Bool.false_beq]),?_⟩
   rw[e3];exact hI'
  ·refine vs_ ?_;exact .inr ⟨_,hsp,hI'⟩
 ·intro _ u' hI;refine vs_ ?_;refine .inl ⟨_,rfl,?_⟩;rw[<-List.take_of_length_le (l:=l1.zip l2) (i:=m) (by omega)]
  exact hI
