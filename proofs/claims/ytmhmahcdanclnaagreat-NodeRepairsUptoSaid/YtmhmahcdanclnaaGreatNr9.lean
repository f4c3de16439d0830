import Derived.Test.YtmhmahcdanclnaaGreatNr8
import Derived.ReadAgain
import Derived.ChangeSame
import Derived.OpenShut
import Derived.Deep.Slices
import Derived.Deep.Strs
import Derived.SizedLaws
import Derived.RowKit
import Derived.WalkKit
import Derived.ProofKit
import Derived.Test.YtmhmahcdanclnaaGreatProg
set_option linter.unusedSectionVars false
set_option linter.unusedSimpArgs false
set_option linter.unusedVariables false
namespace Go.Eng
open Go.ChangeShapes Go.WideShapes Go.RowKit
section
variable {H:Type} {enc:TypeId×Value->H} {P:Program} {W W':World} {T:TypeId->Prop}
theorem Ext.get{b:Nat}(h:Ext W W')(hb:b<W.heap.size):W'.heap[b]? =W.heap[b]?:=by
 rw[h b _ (Array.getElem?_eq_getElem hb),Array.getElem?_eq_getElem hb]
theorem adE{p:MemPlace}(h:Ext W W')(hb:p.block<W.heap.size):W.sameAt W' p:=by
 cases p with
 |cell b off=>show W'.cell? _=W.cell? _;unfold World.cell?;rw[show W'.heap[(⟨b,off,none⟩:Addr).block]? =W.heap[b]? from h.get hb]
 |map b=>exact h.get hb
theorem pT{base:Nat}{sp:Nat->Bool}{held:Bool}(h:Ext W W'): ∀{ts:List TypeId} {vs:List Value} {ds:List (DataW H)} {ps:List MemPlace},(∀p∈ps,p.block<W.heap.size)->
  DataW.TrodAll enc P W base sp held ts vs ds ps->DataW.TrodAll enc P W' base sp held ts vs ds ps
 |[],[],[],_,_,h'=>h'
 | _::_,_::_,_::_,_,hb,⟨p,q,⟨n,h1⟩,h2,e⟩=>⟨p,q,⟨n,DataW.trod_carry n _ _ _ h1 (fun x hx=>adE h (hb x (by rw[e];exact List.mem_append_left _ hx)))⟩,
   pT h (fun x hx=>hb x (by rw[e];exact List.mem_append_right _ hx)) h2,e⟩
theorem amJ(h:Ext W W')(hl:Le W W')(may:MemPlace->Prop):W.keptBut W' may:=by
 refine⟨hl.os,hl.output,fun i hi=>?_⟩
 rw[h.get hi,Array.getElem?_eq_getElem hi];cases W.heap[i]with
 |cells c t fr=>exact⟨rfl,rfl,rfl,fun _ _=>rfl⟩
 |map es clock=>exact .inr ⟨rfl,rfl⟩
 |_=>rfl
theorem aae{fn:Func}{s:ChangeSpec}{args:Array Value}{ds gs:List (DataW H)}{before:List MemPlace}{tb:TypeId}
  (hl:laidOutB P=true) (hm:mapsRowed P=true) (hz:((List.range P.types.size).all fun t=>match P.underlying t with|some (.slice e)=>decide (0<P.cellsOf e)|_=>true)=true)
  (hrow:(fn.params.toList.all fun t=>decide (t<P.types.size))=true) (hv0:s.vars=[]) (htb:P.underlying tb=some .bool) (hr:fn.resultTypes=#[tb])
  (hW:DataW.Whole enc P fn.params.toList s.vars false W args.toList ds gs before)
  (hfn:s.fn H (ds++gs)={ results:=[.lit (.bool true)],args:=ds }) (he:Ext W W') (hle:Le W W'):
  s.post enc P fn false true false false W args (.bool true) W':=by
 have hlt: ∀p∈before,p.block<W.heap.size:=hW.lt;have hW':=hW;obtain⟨p,q,hA,hV,rfl,_,_⟩:=hW;rw[hv0]at hV;obtain⟨rfl,rfl⟩:=trodVars_none hV;refine⟨ds,[],p++[],[],p,[],hW',?_,?_,?_,amJ he hle _,fun h=>by cases h⟩
 ·rw[hfn,hr];exact trodAll_mk1 (shut_bool htb _)
 ·rw[hfn];refine DataW.TrodAll.respare (kids_rows hl hm) (slices_full_of P hz) (fun t ht=>by simpa using List.all_eq_true.1 hrow t ht) (pT he (fun x hx=>hlt x (List.mem_append_left _ hx)) hA) ?_
  intro x hx;simpa using hlt x (List.mem_append_left _ hx)
 ·rw[hfn,hv0];rfl
theorem yw{f:FuncId}{fn:Func}{s:ChangeSpec}{args:List Value}{ds gs:List (DataW H)}{before:List MemPlace}{tb:TypeId}
  (hl:laidOutB P=true) (hm:mapsRowed P=true) (hz:((List.range P.types.size).all fun t=>match P.underlying t with|some (.slice e)=>decide (0<P.cellsOf e)|_=>true)=true)
  (hrow:(fn.params.toList.all fun t=>decide (t<P.types.size))=true) (hv0:s.vars=[]) (htb:P.underlying tb=some .bool) (hr:fn.resultTypes=#[tb])
  (hW:DataW.Whole enc P fn.params.toList s.vars false W args ds gs before)
  (hfn:s.fn H (ds++gs)={ results:=[.lit (.bool true)],args:=ds }) (h:Con P f args W fun r _=>r= .bool true):
  Calls P f args.toArray W fun e W'=> ∃v,e= .returned v/\s.post enc P fn false true false false W args.toArray v W':=by
 refine(h.2 W (Sub.refl W)).mono ?_
 rintro e W' ⟨r,u',rfl,hst,_,rfl⟩
 exact⟨_,rfl,aae (args:=args.toArray) hl hm hz hrow hv0 htb hr hW hfn hst.ext hst.le⟩
theorem yc{α:Type}{R:α->Prop}{Q:DataW H->Prop}{t e:TypeId}{sz base fuel:Nat}{sp:Nat->Bool}{held:Bool}{cs:List Value}{x:DataW H×List MemPlace}{encα:α->List Value}(ht:P.underlying t=some (.slice e))(hc:P.cellsOf e=sz)
  (hsz:0<sz) (hQ: ∀xs rest,x.1= .slice xs rest-> ∀d∈xs,Q d) (helt: ∀n cs x,DataW.trod enc P W base sp held n e cs=some x->Q x.1-> ∃g,cs=encα g/\R g) (hlen: ∀g,(encα g).length=sz) (h:DataW.trod enc P W base sp held fuel t cs=some x):
  ∃(p:Option Addr) (n c:Nat) (l:List α),cs=[.slice p n c]/\Sl W sz p n c (l.map encα)/\c<=maxLen/\(∀g∈l,R g)/\((x.1= .nil/\n=0)\/ ∃xs rest,x.1= .slice xs rest/\xs.length=n):=by
 rcases Go.Deep.open_slice ht h with ⟨hcs,hx⟩|⟨a,len0,cap0,m,n,D,Pl,hcs,hb,hlc,hcm,hmm,hx,hi⟩
 ·cases hx;exact⟨none,0,0,[],hcs,Sl.none_ _ _,Nat.zero_le _,by simp,.inl ⟨rfl,rfl⟩⟩
 ·have hml:len0<=m:=by rw[hmm];split<;>omega
  have hex: ∀i,i<len0-> ∃g,W.cells? base (a.add (i*P.cellsOf e)) (P.cellsOf e)=some (encα g)/\R g:=by
   intro i hil;obtain⟨cs',h1,h2⟩:=hi i (by omega)
   obtain⟨g,rfl,hR⟩:=helt _ _ _ h2 (hQ _ _ (by rw[hx]) _ (List.mem_map.2 ⟨i,List.mem_range.2 hil,rfl⟩))
   exact⟨g,h1,hR⟩
  have hl: ∃l:List α,l.length=len0/\(∀g∈l,R g)/\ ∀i g,l[i]? =some g->W.cells? base (a.add (i*P.cellsOf e)) (P.cellsOf e)=some (encα g):=by
   have: ∀k,k<=len0-> ∃l:List α,l.length=k/\(∀g∈l,R g)/\ ∀i g,l[i]? =some g->W.cells? base (a.add (i*P.cellsOf e)) (P.cellsOf e)=some (encα g):=by
    intro k
    induction k with
    |zero=>intro _;exact⟨[],rfl,by simp,fun i g h=>by simp at h⟩
    | succ k ih=>
     intro hk;obtain⟨l,h1,hRl,h2⟩:=ih (by omega)
     obtain⟨g,hg,hRg⟩:=hex k (by omega)
     refine⟨l++[g],by simp[h1],fun g' hg'=>?_,fun i g' h=>?_⟩
     ·rcases List.mem_append.1 hg' with hg'|hg'
      ·exact hRl g' hg'
      ·simp at hg';subst hg';exact hRg
     by_cases hil:i<l.length
     ·rw[List.getElem?_append_left hil]at h;exact h2 i g' h
     ·have:i=k:=by
       rcases Nat.lt_or_ge i (l++[g]).length with hlt|hge
       ·simp[h1]at hlt hil;omega
       ·rw[List.getElem?_eq_none hge]at h;cases h
      subst this;rw[<-h1]at h;simp at h;subst h;exact hg
   exact this len0 (Nat.le_refl _)
  obtain⟨l,hl1,hRl,hl2⟩:=hl
  have hspot:0<len0->a.spot=none:=by
   intro h0;have hcl:=hl2 0 l[0] (List.getElem?_eq_getElem (by omega))
   obtain⟨_,hlen2,h1⟩:=World.cells?_some hcl;have h2:=h1 0 (by rw[hc];exact hsz)
   have hne:(encα l[0])[0]? =some (encα l[0])[0]:=List.getElem?_eq_getElem (by rw[hlen];exact hsz)
   rw[hne]at h2;obtain⟨_,_,_,_,hsp,_⟩:=fW h2;simpa[Addr.add]using hsp
  cases hx;refine⟨some a,len0,cap0,l,hcs,⟨by simp[hl1],hlc,?_,(fun h=>by cases h),?_⟩,hcm,hRl,.inr ⟨_,_,rfl,by simp⟩⟩
  ·intro x hx;obtain⟨g,_,rfl⟩:=List.mem_map.1 hx;exact hlen g
  ·intro a' ha';cases ha';refine⟨hspot,fun i x hx j v hv=>?_⟩
   rw[List.getElem?_map,Option.map_eq_some_iff]at hx;obtain⟨g,hg,rfl⟩:=hx
   have hi0:0<len0:=by
    rcases Nat.lt_or_ge i l.length with h|h
    ·omega
    ·rw[List.getElem?_eq_none h]at hg;cases hg
   have hcl:=hl2 i g hg;rw[hc]at hcl
   have hj:j<sz:=by
    rcases Nat.lt_or_ge j (encα g).length with h|h
    ·rw[hlen]at h;exact h
    ·rw[List.getElem?_eq_none h]at hv;cases hv
   obtain⟨_,_,h1⟩:=World.cells?_some hcl;have h2:=h1 j hj;rw[hv]at h2;rw[<-h2];have hs0:=hspot hi0;obtain⟨b,o,sp'⟩:=a;cases hs0;rw[Addr.add_lit,Addr.add_lit]
section
variable {w:World} {base:Nat} {spare:Nat->Bool} {held:Bool}
end
end
end Go.Eng
namespace Go.Proofs.YtmhmahcdanclnaaGreat.Ty
open Go.Eng
theorem mixed:Tryz.prog.follows .mixedOrders=true:=by kernel_rfl
@[go_sem] theorem cj0:mj Tryz.prog 2=some .i64:=by kernel_rfl
@[go_sem] theorem cj1:lay Tryz.prog 3=some (false,1):=by kernel_rfl
@[go_sem] theorem intK3:mj Tryz.prog 3=some .i64:=by kernel_rfl
@[go_sem] theorem cj2:lay Tryz.prog 4=some (false,1)/\cu Tryz.prog 4=some [(.bool false)]/\Program.underlying Tryz.prog 4=some .bool/\lay Tryz.prog 5=some (false,1):=by and_intros<;>kernel_rfl
@[go_sem] theorem zero5:cu Tryz.prog 5=some [(.int .u8 0)]:=by kernel_rfl
@[go_sem] theorem cj3:mj Tryz.prog 5=some .u8/\Program.underlying Tryz.prog 9=some .string/\lay Tryz.prog 21=some (false,1)/\mj Tryz.prog 21=some .i32/\lay Tryz.prog 22=some (false,1)/\esz Tryz.prog 22=some 2/\eE Tryz.prog 22=true/\lay Tryz.prog 23=some (false,1)/\esz Tryz.prog 23=some 2/\eE Tryz.prog 23=true/\lay Tryz.prog 24=some (false,1)/\mj Tryz.prog 24=some .u32/\lay Tryz.prog 26=some (true,15)/\aX Tryz.prog 26 0=some 0/\aX Tryz.prog 26 1=some 1/\aX Tryz.prog 26 2=some 2/\aX Tryz.prog 26 3=some 3/\aX Tryz.prog 26 4=some 4/\aX Tryz.prog 26 5=some 5/\aX Tryz.prog 26 6=some 6/\aX Tryz.prog 26 7=some 7/\aX Tryz.prog 26 8=some 8/\aX Tryz.prog 26 9=some 9/\aX Tryz.prog 26 10=some 10/\aX Tryz.prog 26 11=some 11/\aX Tryz.prog 26 12=some 12/\aX Tryz.prog 26 13=some 13/\aX Tryz.prog 26 14=some 14/\lay Tryz.prog 30=some (false,1)/\mj Tryz.prog 30=some .u16/\lay Tryz.prog 31=some (false,1)/\cu Tryz.prog 31=some [(.slice none 0 0)]/\esz Tryz.prog 31=some 2/\eE Tryz.prog 31=true:=by and_intros<;>kernel_rfl
@[go_sem] theorem el31:cl Tryz.prog 31 108 2 8=true:=by kernel_rfl
@[go_sem] theorem cj4:lay Tryz.prog 32=some (false,1)/\esz Tryz.prog 32=some 4/\eE Tryz.prog 32=true:=by and_intros<;>kernel_rfl
@[go_sem] theorem el32:cl Tryz.prog 32 34 4 32=true:=by kernel_rfl
@[go_sem] theorem cj5:lay Tryz.prog 34=some (true,4):=by kernel_rfl
@[go_sem] theorem zero34:cu Tryz.prog 34=some [(.int .u8 0),(.int .u16 0),(.int .u8 0),(.slice none 0 0)]:=by kernel_rfl
@[go_sem] theorem cj6:aX Tryz.prog 34 0=some 0/\aX Tryz.prog 34 1=some 1/\aX Tryz.prog 34 2=some 2/\aX Tryz.prog 34 3=some 3/\lay Tryz.prog 36=some (true,10)/\aX Tryz.prog 36 0=some 0/\aX Tryz.prog 36 1=some 1/\aX Tryz.prog 36 2=some 2/\aX Tryz.prog 36 3=some 6/\lay Tryz.prog 38=some (true,4)/\aX Tryz.prog 38 0=some 0/\aX Tryz.prog 38 1=some 1/\aX Tryz.prog 38 2=some 2/\aX Tryz.prog 38 3=some 3/\lay Tryz.prog 39=some (false,1)/\esz Tryz.prog 39=some 3/\eE Tryz.prog 39=true/\lay Tryz.prog 40=some (false,1)/\cu Tryz.prog 40=some [(.slice none 0 0)]/\esz Tryz.prog 40=some 3/\eE Tryz.prog 40=true:=by and_intros<;>kernel_rfl
@[go_sem] theorem el40:cl Tryz.prog 40 57 3 8=true:=by kernel_rfl
@[go_sem] theorem cj7:lay Tryz.prog 41=some (false,1)/\esz Tryz.prog 41=some 3/\eE Tryz.prog 41=true/\lay Tryz.prog 43=some (false,1)/\esz Tryz.prog 43=some 1/\eE Tryz.prog 43=true/\lay Tryz.prog 44=some (false,1)/\esz Tryz.prog 44=some 5/\eE Tryz.prog 44=true:=by and_intros<;>kernel_rfl
@[go_sem] theorem el44:cl Tryz.prog 44 56 5 56=true:=by kernel_rfl
@[go_sem] theorem cj8:lay Tryz.prog 46=some (true,2)/\aX Tryz.prog 46 0=some 0/\aX Tryz.prog 46 1=some 1/\lay Tryz.prog 47=some (false,1)/\esz Tryz.prog 47=some 5/\eE Tryz.prog 47=true:=by and_intros<;>kernel_rfl
@[go_sem] theorem el47:cl Tryz.prog 47 178 5 12=true:=by kernel_rfl
@[go_sem] theorem cj9:lay Tryz.prog 49=some (true,32)/\aX Tryz.prog 49 0=some 0/\aX Tryz.prog 49 1=some 1/\aX Tryz.prog 49 2=some 2/\aX Tryz.prog 49 3=some 3/\aX Tryz.prog 49 4=some 4/\aX Tryz.prog 49 5=some 5/\aX Tryz.prog 49 6=some 6/\aX Tryz.prog 49 7=some 16/\aX Tryz.prog 49 8=some 20/\aX Tryz.prog 49 9=some 21/\aX Tryz.prog 49 10=some 22/\aX Tryz.prog 49 11=some 23/\aX Tryz.prog 49 12=some 24/\aX Tryz.prog 49 13=some 25/\aX Tryz.prog 49 14=some 26/\aX Tryz.prog 49 15=some 28/\aX Tryz.prog 49 16=some 29/\aX Tryz.prog 49 17=some 30/\aX Tryz.prog 49 18=some 31/\lay Tryz.prog 51=some (false,1)/\esz Tryz.prog 51=some 1/\eE Tryz.prog 51=true/\lay Tryz.prog 52=some (false,1)/\esz Tryz.prog 52=some 1/\eE Tryz.prog 52=true:=by and_intros<;>kernel_rfl
@[go_sem] theorem el52:cl Tryz.prog 52 5 1 1=true:=by kernel_rfl
@[go_sem] theorem atm:lay Tryz.prog 54=some (true,3)/\aX Tryz.prog 54 0=some 0/\aX Tryz.prog 54 1=some 1/\aX Tryz.prog 54 2=some 2/\lay Tryz.prog 56=some (true,5):=by and_intros<;>kernel_rfl
@[go_sem] theorem zero56:cu Tryz.prog 56=some [(.int .u8 0),(.int .u16 0),(.int .u32 0),(.slice none 0 0),(.slice none 0 0)]:=by kernel_rfl
@[go_sem] theorem ati:aX Tryz.prog 56 0=some 0/\aX Tryz.prog 56 1=some 3/\aX Tryz.prog 56 2=some 4/\lay Tryz.prog 57=some (true,3)/\aX Tryz.prog 57 0=some 0/\aX Tryz.prog 57 1=some 1/\aX Tryz.prog 57 2=some 2/\lay Tryz.prog 58=some (false,1)/\esz Tryz.prog 58=some 3/\eE Tryz.prog 58=true/\lay Tryz.prog 60=some (true,17)/\aX Tryz.prog 60 0=some 0/\aX Tryz.prog 60 1=some 1/\aX Tryz.prog 60 2=some 2/\aX Tryz.prog 60 3=some 3/\aX Tryz.prog 60 4=some 4/\aX Tryz.prog 60 5=some 5/\aX Tryz.prog 60 6=some 6/\aX Tryz.prog 60 7=some 11/\aX Tryz.prog 60 8=some 12/\aX Tryz.prog 60 9=some 15/\aX Tryz.prog 60 10=some 16/\lay Tryz.prog 61=some (false,1)/\esz Tryz.prog 61=some 1/\eE Tryz.prog 61=true/\lay Tryz.prog 65=some (false,1)/\esz Tryz.prog 65=some 17/\eE Tryz.prog 65=true/\lay Tryz.prog 82=some (false,1)/\mj Tryz.prog 82=some .u64/\lay Tryz.prog 84=some (true,3)/\cu Tryz.prog 84=some [(.int .u16 0),(.int .u32 0),(.int .u64 0)]/\aX Tryz.prog 84 0=some 0/\aX Tryz.prog 84 1=some 1/\aX Tryz.prog 84 2=some 2/\lay Tryz.prog 108=some (true,2)/\cu Tryz.prog 108=some [(.int .i32 0),(.int .i32 0)]/\aX Tryz.prog 108 0=some 0/\aX Tryz.prog 108 1=some 1/\lay Tryz.prog 127=some (true,3)/\aX Tryz.prog 127 0=some 0/\aX Tryz.prog 127 1=some 1/\aX Tryz.prog 127 2=some 2/\aX Tryz.prog 135 1=some 1/\aX Tryz.prog 135 2=some 2/\aX Tryz.prog 144 0=some 0/\aX Tryz.prog 144 1=some 15/\aX Tryz.prog 144 2=some 47/\aX Tryz.prog 144 3=some 64/\aX Tryz.prog 144 4=some 65/\aX Tryz.prog 144 5=some 66/\lay Tryz.prog 178=some (true,5):=by and_intros<;>kernel_rfl
@[go_sem] theorem zero178:cu Tryz.prog 178=some [(.int .u8 0),(.int .u16 0),(.int .u32 0),(.int .u8 0),(.int .u8 0)]:=by kernel_rfl
@[go_sem] theorem ata:aX Tryz.prog 178 0=some 0/\aX Tryz.prog 178 2=some 4/\lay Tryz.prog 187=some (false,1)/\aX Tryz.prog 203 0=some 0/\aX Tryz.prog 203 1=some 15/\aX Tryz.prog 203 2=some 47/\aX Tryz.prog 203 3=some 64/\aX Tryz.prog 203 4=some 65/\aX Tryz.prog 203 5=some 66/\esz Tryz.prog 213=some 1/\eE Tryz.prog 213=true/\mj Tryz.prog 256=some .u64/\esz Tryz.prog 265=some 5/\eE Tryz.prog 265=true/\lay Tryz.prog 268=some (true,5)/\aX Tryz.prog 268 0=some 0/\aX Tryz.prog 268 1=some 4/\lay Tryz.prog 315=some (true,1024)/\esz Tryz.prog 347=some 1/\eE Tryz.prog 347=true/\lay Tryz.prog 356=some (true,0)/\lay Tryz.prog 364=some (false,1)/\mj Tryz.prog 364=some .u64:=by and_intros<;>kernel_rfl
theorem wu:Tryz.prog.eqGuardType Tryz.prog.depth 54=false:=by kernel_rfl
theorem eqRun54(a0 a1 a2 b0 b1 b2:Int)(w:World):(binOp .eql 54 (.agg #[.int .u8 a0,.int .u16 a1,.int .u32 a2]) (.agg #[.int .u8 b0,.int .u16 b1,.int .u32 b2])).run Tryz.prog w= .ok (.bool (a0==b0&&(a1==b1&&(a2==b2)))) w:=by
 go_simp
 by_cases h0:a0=b0<;>by_cases h1:a1=b1<;>by_cases h2:a2=b2<;>simp[*]
theorem aog(a0 a1 a2 b0 b1 b2:Int)(w:World):(binOp .neq 54 (.agg #[.int .u8 a0,.int .u16 a1,.int .u32 a2]) (.agg #[.int .u8 b0,.int .u16 b1,.int .u32 b2])).run Tryz.prog w= .ok (.bool (!(a0==b0&&(a1==b1&&(a2==b2))))) w:=by
 go_simp
 by_cases h0:a0=b0<;>by_cases h1:a1=b1<;>by_cases h2:a2=b2<;>simp[*]
@[go_sem] theorem as9{a0 a1 a2 b0 b1 b2:Int}{y z:Operand}{K:Value->Prop}:AtPure Tryz.prog (bI .eql 54 y z (.agg #[.int .u8 a0,.int .u16 a1,.int .u32 a2]) (.agg #[.int .u8 b0,.int .u16 b1,.int .u32 b2])) K=K (.bool (a0==b0&&(a1==b1&&(a2==b2)))):=
 aJ fun w=>by simp only[bI,eqGuard,Sem.run_bind,Sem.run_pure,Result.andThen_ok,Bool.not_true,Bool.false_eq_true,if_false,run_program,wu,Bool.not_false,if_true,eqRun54]
@[go_sem] theorem as7{a0 a1 a2 b0 b1 b2:Int}{y z:Operand}{K:Value->Prop}:AtPure Tryz.prog (bI .neq 54 y z (.agg #[.int .u8 a0,.int .u16 a1,.int .u32 a2]) (.agg #[.int .u8 b0,.int .u16 b1,.int .u32 b2])) K=K (.bool (!(a0==b0&&(a1==b1&&(a2==b2))))):=
 aJ fun w=>by simp only[bI,eqGuard,Sem.run_bind,Sem.run_pure,Result.andThen_ok,Bool.not_true,Bool.false_eq_true,if_false,run_program,wu,Bool.not_false,if_true,aog]
theorem adl:Tryz.prog.eqGuardType Tryz.prog.depth 108=false:=by kernel_rfl
theorem amD(a0 a1 b0 b1:Int)(w:World):(binOp .eql 108 (.agg #[.int .i32 a0,.int .i32 a1]) (.agg #[.int .i32 b0,.int .i32 b1])).run Tryz.prog w= .ok (.bool (a0==b0&&(a1==b1))) w:=by
 go_simp
 by_cases h0:a0=b0<;>by_cases h1:a1=b1<;>simp[*]
@[go_sem] theorem asE{a0 a1 b0 b1:Int}{y z:Operand}{K:Value->Prop}:AtPure Tryz.prog (bI .eql 108 y z (.agg #[.int .i32 a0,.int .i32 a1]) (.agg #[.int .i32 b0,.int .i32 b1])) K=K (.bool (a0==b0&&(a1==b1))):=
 aJ fun w=>by simp only[bI,eqGuard,Sem.run_bind,Sem.run_pure,Result.andThen_ok,Bool.not_true,Bool.false_eq_true,if_false,run_program,adl,Bool.not_false,if_true,amD]
