import Derived.Test.YthoihfighiolmaaGreatPt9
import Derived.ReadAgain
import Derived.ChangeSame
import Derived.OpenShut
import Derived.Deep.Slices
import Derived.Deep.Strs
import Derived.SizedLaws
import Derived.RowKit
import Derived.WalkKit
import Derived.ProofKit
set_option linter.unusedSectionVars false
set_option linter.unusedSimpArgs false
set_option linter.unusedVariables false
namespace Go.Eng
open Go.ChangeShapes Go.WideShapes Go.RowKit
section
variable {H:Type} {enc:TypeId×Value->H} {P:Program} {W W':World} {T:TypeId->Prop}
theorem Ext.get{b:Nat}(h:Ext W W')(hb:b<W.heap.size):W'.heap[b]? =W.heap[b]?:=by
 rw[h b _ (Array.getElem?_eq_getElem hb),Array.getElem?_eq_getElem hb]
theorem zu{p:MemPlace}(h:Ext W W')(hb:p.block<W.heap.size):W.sameAt W' p:=by
 cases p with
 |cell b off=>show W'.cell? _=W.cell? _;unfold World.cell?;rw[show W'.heap[(⟨b,off,none⟩:Addr).block]? =W.heap[b]? from h.get hb]
 |map b=>exact h.get hb
theorem nB{base:Nat}{sp:Nat->Bool}{held:Bool}(h:Ext W W'): ∀{ts:List TypeId} {vs:List Value} {ds:List (DataW H)} {ps:List MemPlace},(∀p∈ps,p.block<W.heap.size)->
  DataW.TrodAll enc P W base sp held ts vs ds ps->DataW.TrodAll enc P W' base sp held ts vs ds ps
 |[],[],[],_,_,h'=>h'
 | _::_,_::_,_::_,_,hb,⟨p,q,⟨n,h1⟩,h2,e⟩=>⟨p,q,⟨n,DataW.trod_carry n _ _ _ h1 (fun x hx=>zu h (hb x (by rw[e];exact List.mem_append_left _ hx)))⟩,
   nB h (fun x hx=>hb x (by rw[e];exact List.mem_append_right _ hx)) h2,e⟩
theorem agk(h:Ext W W')(hl:Le W W')(may:MemPlace->Prop):W.keptBut W' may:=by
 refine⟨hl.os,hl.output,fun i hi=>?_⟩
 rw[h.get hi,Array.getElem?_eq_getElem hi];cases W.heap[i]with
 |cells c t fr=>exact⟨rfl,rfl,rfl,fun _ _=>rfl⟩
 |map es clock=>exact .inr ⟨rfl,rfl⟩
 |_=>rfl
theorem xW{fn:Func}{s:ChangeSpec}{args:Array Value}{ds gs:List (DataW H)}{before:List MemPlace}{tb:TypeId}
  (hl:laidOutB P=true) (hm:mapsRowed P=true) (hz:((List.range P.types.size).all fun t=>match P.underlying t with|some (.slice e)=>decide (0<P.cellsOf e)|_=>true)=true)
  (hrow:(fn.params.toList.all fun t=>decide (t<P.types.size))=true) (hv0:s.vars=[]) (htb:P.underlying tb=some .bool) (hr:fn.resultTypes=#[tb])
  (hW:DataW.Whole enc P fn.params.toList s.vars false W args.toList ds gs before)
  (hfn:s.fn H (ds++gs)={ results:=[.lit (.bool true)],args:=ds }) (he:Ext W W') (hle:Le W W'):
  s.post enc P fn false true false false W args (.bool true) W':=by
 have hlt: ∀p∈before,p.block<W.heap.size:=hW.lt;have hW':=hW;obtain⟨p,q,hA,hV,rfl,_,_⟩:=hW;rw[hv0]at hV;obtain⟨rfl,rfl⟩:=trodVars_none hV;refine⟨ds,[],p++[],[],p,[],hW',?_,?_,?_,agk he hle _,fun h=>by cases h⟩
 ·rw[hfn,hr];exact trodAll_mk1 (shut_bool htb _)
 ·rw[hfn];refine DataW.TrodAll.respare (kids_rows hl hm) (slices_full_of P hz) (fun t ht=>by simpa using List.all_eq_true.1 hrow t ht) (nB he (fun x hx=>hlt x (List.mem_append_left _ hx)) hA) ?_
  intro x hx;simpa using hlt x (List.mem_append_left _ hx)
 ·rw[hfn,hv0];rfl
theorem tP{f:FuncId}{fn:Func}{s:ChangeSpec}{args:List Value}{ds gs:List (DataW H)}{before:List MemPlace}{tb:TypeId}
  (hl:laidOutB P=true) (hm:mapsRowed P=true) (hz:((List.range P.types.size).all fun t=>match P.underlying t with|some (.slice e)=>decide (0<P.cellsOf e)|_=>true)=true)
  (hrow:(fn.params.toList.all fun t=>decide (t<P.types.size))=true) (hv0:s.vars=[]) (htb:P.underlying tb=some .bool) (hr:fn.resultTypes=#[tb])
  (hW:DataW.Whole enc P fn.params.toList s.vars false W args ds gs before)
  (hfn:s.fn H (ds++gs)={ results:=[.lit (.bool true)],args:=ds }) (h:Con P f args W fun r _=>r= .bool true):
  Calls P f args.toArray W fun e W'=> ∃v,e= .returned v/\s.post enc P fn false true false false W args.toArray v W':=by
 refine(h.2 W (Sub.refl W)).mono ?_
 rintro e W' ⟨r,u',rfl,hst,_,rfl⟩
 exact⟨_,rfl,xW (args:=args.toArray) hl hm hz hrow hv0 htb hr hW hfn hst.ext hst.le⟩
theorem tC{α:Type}{R:α->Prop}{Q:DataW H->Prop}{t e:TypeId}{sz base fuel:Nat}{sp:Nat->Bool}{held:Bool}{cs:List Value}{x:DataW H×List MemPlace}{encα:α->List Value}(ht:P.underlying t=some (.slice e))(hc:P.cellsOf e=sz)
  (hsz:0<sz) (hQ: ∀xs rest,x.1= .slice xs rest-> ∀d∈xs,Q d) (helt: ∀n cs x,DataW.trod enc P W base sp held n e cs=some x->Q x.1-> ∃g,cs=encα g/\R g) (hlen: ∀g,(encα g).length=sz) (h:DataW.trod enc P W base sp held fuel t cs=some x):
  ∃(p:Option Addr) (n c:Nat) (l:List α),cs=[.slice p n c]/\Sl W sz p n c (l.map encα)/\c<=maxLen/\(∀g∈l,R g)/\((x.1= .nil/\n=0)\/ ∃xs rest,x.1= .slice xs rest/\xs.length=n):=by
 rcases Go.Deep.open_slice ht h with ⟨hcs,hx⟩|⟨a,len0,cap0,m,n,D,Pl,hcs,hb,hlc,hcm,hmm,hx,hi⟩
 ·cases hx;exact⟨none,0,0,[],hcs,Sl.none_ _ _,Nat.zero_le _,by simp,.inl ⟨rfl,rfl⟩⟩
 ·have hml:len0<=m:=by rw[hmm];split<;>omega
  have hex: ∀i,i<len0-> ∃g,W.cells? base (a.add (i*P.cellsOf e)) (P.cellsOf e)=some (encα g)/\R g:=by
   intro i hil;obtain⟨cs',h1,h2⟩:=hi i (by omega)
   obtain⟨g,rfl,hR⟩:=helt _ _ _ h2 (hQ _ _ (by rw[hx]) _ (List.mem_map.2 ⟨i,List.mem_range.2 hil,rfl⟩))
   exact⟨g,h1,hR⟩
  have hl: ∃l:List α,l.length=len0/\(∀g∈l,R g)/\ ∀i g,l[i]? =some g->W.cells? base (a.add (i*P.cellsOf e)) (P.cellsOf e)=some (encα g):=by
   have: ∀k,k<=len0-> ∃l:List α,l.length=k/\(∀g∈l,R g)/\ ∀i g,l[i]? =some g->W.cells? base (a.add (i*P.cellsOf e)) (P.cellsOf e)=some (encα g):=by
    intro k
    induction k with
    |zero=>intro _;exact⟨[],rfl,by simp,fun i g h=>by simp at h⟩
    | succ k ih=>
     intro hk;obtain⟨l,h1,hRl,h2⟩:=ih (by omega)
     obtain⟨g,hg,hRg⟩:=hex k (by omega)
     refine⟨l++[g],by simp[h1],fun g' hg'=>?_,fun i g' h=>?_⟩
     ·rcases List.mem_append.1 hg' with hg'|hg'
      ·exact hRl g' hg'
      ·simp at hg';subst hg';exact hRg
     by_cases hil:i<l.length
     ·rw[List.getElem?_append_left hil]at h;exact h2 i g' h
     ·have:i=k:=by
       rcases Nat.lt_or_ge i (l++[g]).length with hlt|hge
       ·simp[h1]at hlt hil;omega
       ·rw[List.getElem?_eq_none hge]at h;cases h
      subst this;rw[<-h1]at h;simp at h;subst h;exact hg
   exact this len0 (Nat.le_refl _)
  obtain⟨l,hl1,hRl,hl2⟩:=hl
  have hspot:0<len0->a.spot=none:=by
   intro h0;have hcl:=hl2 0 l[0] (List.getElem?_eq_getElem (by omega))
   obtain⟨_,hlen2,h1⟩:=World.cells?_some hcl;have h2:=h1 0 (by rw[hc];exact hsz)
   have hne:(encα l[0])[0]? =some (encα l[0])[0]:=List.getElem?_eq_getElem (by rw[hlen];exact hsz)
   rw[hne]at h2;obtain⟨_,_,_,_,hsp,_⟩:=fx h2;simpa[Addr.add]using hsp
  cases hx;refine⟨some a,len0,cap0,l,hcs,⟨by simp[hl1],hlc,?_,(fun h=>by cases h),?_⟩,hcm,hRl,.inr ⟨_,_,rfl,by simp⟩⟩
  ·intro x hx;obtain⟨g,_,rfl⟩:=List.mem_map.1 hx;exact hlen g
  ·intro a' ha';cases ha';refine⟨hspot,fun i x hx j v hv=>?_⟩
   rw[List.getElem?_map,Option.map_eq_some_iff]at hx;obtain⟨g,hg,rfl⟩:=hx
   have hi0:0<len0:=by
    rcases Nat.lt_or_ge i l.length with h|h
    ·omega
    ·rw[List.getElem?_eq_none h]at hg;cases hg
   have hcl:=hl2 i g hg;rw[hc]at hcl
   have hj:j<sz:=by
    rcases Nat.lt_or_ge j (encα g).length with h|h
    ·rw[hlen]at h;exact h
    ·rw[List.getElem?_eq_none h]at hv;cases hv
   obtain⟨_,_,h1⟩:=World.cells?_some hcl;have h2:=h1 j hj;rw[hv]at h2;rw[<-h2];have hs0:=hspot hi0;obtain⟨b,o,sp'⟩:=a;cases hs0;rw[Addr.add_lit,Addr.add_lit]
section
variable {w:World} {base:Nat} {spare:Nat->Bool} {held:Bool}
