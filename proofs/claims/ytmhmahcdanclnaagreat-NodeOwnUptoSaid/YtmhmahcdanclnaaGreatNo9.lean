import Derived.Test.YtmhmahcdanclnaaGreatNo8
import Derived.ReadAgain
import Derived.ChangeSame
import Derived.OpenShut
import Derived.Deep.Slices
import Derived.Deep.Strs
import Derived.SizedLaws
import Derived.RowKit
import Derived.WalkKit
import Derived.ProofKit
import Derived.Test.YtmhmahcdanclnaaGreatProg
set_option linter.unusedSectionVars false
set_option linter.unusedSimpArgs false
set_option linter.unusedVariables false
namespace Go.Eng
open Go.ChangeShapes Go.WideShapes Go.RowKit
section
variable {H:Type} {enc:TypeId×Value->H} {P:Program} {W W':World} {T:TypeId->Prop}
theorem Ext.get{b:Nat}(h:Ext W W')(hb:b<W.heap.size):W'.heap[b]? =W.heap[b]?:=by
 rw[h b _ (Array.getElem?_eq_getElem hb),Array.getElem?_eq_getElem hb]
theorem adA{p:MemPlace}(h:Ext W W')(hb:p.block<W.heap.size):W.sameAt W' p:=by
 cases p with
 |cell b off=>show W'.cell? _=W.cell? _;unfold World.cell?;rw[show W'.heap[(⟨b,off,none⟩:Addr).block]? =W.heap[b]? from h.get hb]
 |map b=>exact h.get hb
theorem pF{base:Nat}{sp:Nat->Bool}{held:Bool}(h:Ext W W'): ∀{ts:List TypeId} {vs:List Value} {ds:List (DataW H)} {ps:List MemPlace},(∀p∈ps,p.block<W.heap.size)->
  DataW.TrodAll enc P W base sp held ts vs ds ps->DataW.TrodAll enc P W' base sp held ts vs ds ps
 |[],[],[],_,_,h'=>h'
 | _::_,_::_,_::_,_,hb,⟨p,q,⟨n,h1⟩,h2,e⟩=>⟨p,q,⟨n,DataW.trod_carry n _ _ _ h1 (fun x hx=>adA h (hb x (by rw[e];exact List.mem_append_left _ hx)))⟩,
   pF h (fun x hx=>hb x (by rw[e];exact List.mem_append_right _ hx)) h2,e⟩
theorem ajq(h:Ext W W')(hl:Le W W')(may:MemPlace->Prop):W.keptBut W' may:=by
 refine⟨hl.os,hl.output,fun i hi=>?_⟩
 rw[h.get hi,Array.getElem?_eq_getElem hi];cases W.heap[i]with
 |cells c t fr=>exact⟨rfl,rfl,rfl,fun _ _=>rfl⟩
 |map es clock=>exact .inr ⟨rfl,rfl⟩
 |_=>rfl
theorem yp{fn:Func}{s:ChangeSpec}{args:Array Value}{ds gs:List (DataW H)}{before:List MemPlace}{tb:TypeId}
  (hl:laidOutB P=true) (hm:mapsRowed P=true) (hz:((List.range P.types.size).all fun t=>match P.underlying t with|some (.slice e)=>decide (0<P.cellsOf e)|_=>true)=true)
  (hrow:(fn.params.toList.all fun t=>decide (t<P.types.size))=true) (hv0:s.vars=[]) (htb:P.underlying tb=some .bool) (hr:fn.resultTypes=#[tb])
  (hW:DataW.Whole enc P fn.params.toList s.vars false W args.toList ds gs before)
  (hfn:s.fn H (ds++gs)={ results:=[.lit (.bool true)],args:=ds }) (he:Ext W W') (hle:Le W W'):
  s.post enc P fn false true false false W args (.bool true) W':=by
 have hlt: ∀p∈before,p.block<W.heap.size:=hW.lt;have hW':=hW;obtain⟨p,q,hA,hV,rfl,_,_⟩:=hW;rw[hv0]at hV;obtain⟨rfl,rfl⟩:=trodVars_none hV;refine⟨ds,[],p++[],[],p,[],hW',?_,?_,?_,ajq he hle _,fun h=>by cases h⟩
 ·rw[hfn,hr];exact trodAll_mk1 (shut_bool htb _)
 ·rw[hfn];refine DataW.TrodAll.respare (kids_rows hl hm) (slices_full_of P hz) (fun t ht=>by simpa using List.all_eq_true.1 hrow t ht) (pF he (fun x hx=>hlt x (List.mem_append_left _ hx)) hA) ?_
  intro x hx;simpa using hlt x (List.mem_append_left _ hx)
 ·rw[hfn,hv0];rfl
theorem yi{f:FuncId}{fn:Func}{s:ChangeSpec}{args:List Value}{ds gs:List (DataW H)}{before:List MemPlace}{tb:TypeId}
  (hl:laidOutB P=true) (hm:mapsRowed P=true) (hz:((List.range P.types.size).all fun t=>match P.underlying t with|some (.slice e)=>decide (0<P.cellsOf e)|_=>true)=true)
  (hrow:(fn.params.toList.all fun t=>decide (t<P.types.size))=true) (hv0:s.vars=[]) (htb:P.underlying tb=some .bool) (hr:fn.resultTypes=#[tb])
  (hW:DataW.Whole enc P fn.params.toList s.vars false W args ds gs before)
  (hfn:s.fn H (ds++gs)={ results:=[.lit (.bool true)],args:=ds }) (h:Con P f args W fun r _=>r= .bool true):
  Calls P f args.toArray W fun e W'=> ∃v,e= .returned v/\s.post enc P fn false true false false W args.toArray v W':=by
 refine(h.2 W (Sub.refl W)).mono ?_
 rintro e W' ⟨r,u',rfl,hst,_,rfl⟩
 exact⟨_,rfl,yp (args:=args.toArray) hl hm hz hrow hv0 htb hr hW hfn hst.ext hst.le⟩
theorem wW{α:Type}{R:α->Prop}{Q:DataW H->Prop}{t e:TypeId}{sz base fuel:Nat}{sp:Nat->Bool}{held:Bool}{cs:List Value}{x:DataW H×List MemPlace}{encα:α->List Value}(ht:P.underlying t=some (.slice e))(hc:P.cellsOf e=sz)
  (hsz:0<sz) (hQ: ∀xs rest,x.1= .slice xs rest-> ∀d∈xs,Q d) (helt: ∀n cs x,DataW.trod enc P W base sp held n e cs=some x->Q x.1-> ∃g,cs=encα g/\R g) (hlen: ∀g,(encα g).length=sz) (h:DataW.trod enc P W base sp held fuel t cs=some x):
  ∃(p:Option Addr) (n c:Nat) (l:List α),cs=[.slice p n c]/\Sl W sz p n c (l.map encα)/\c<=maxLen/\(∀g∈l,R g)/\((x.1= .nil/\n=0)\/ ∃xs rest,x.1= .slice xs rest/\xs.length=n):=by
 rcases Go.Deep.open_slice ht h with ⟨hcs,hx⟩|⟨a,len0,cap0,m,n,D,Pl,hcs,hb,hlc,hcm,hmm,hx,hi⟩
 ·cases hx;exact⟨none,0,0,[],hcs,Sl.none_ _ _,Nat.zero_le _,by simp,.inl ⟨rfl,rfl⟩⟩
 ·have hml:len0<=m:=by rw[hmm];split<;>omega
  have hex: ∀i,i<len0-> ∃g,W.cells? base (a.add (i*P.cellsOf e)) (P.cellsOf e)=some (encα g)/\R g:=by
   intro i hil;obtain⟨cs',h1,h2⟩:=hi i (by omega)
   obtain⟨g,rfl,hR⟩:=helt _ _ _ h2 (hQ _ _ (by rw[hx]) _ (List.mem_map.2 ⟨i,List.mem_range.2 hil,rfl⟩))
   exact⟨g,h1,hR⟩
  have hl: ∃l:List α,l.length=len0/\(∀g∈l,R g)/\ ∀i g,l[i]? =some g->W.cells? base (a.add (i*P.cellsOf e)) (P.cellsOf e)=some (encα g):=by
   have: ∀k,k<=len0-> ∃l:List α,l.length=k/\(∀g∈l,R g)/\ ∀i g,l[i]? =some g->W.cells? base (a.add (i*P.cellsOf e)) (P.cellsOf e)=some (encα g):=by
    intro k
    induction k with
    |zero=>intro _;exact⟨[],rfl,by simp,fun i g h=>by simp at h⟩
    | succ k ih=>
     intro hk;obtain⟨l,h1,hRl,h2⟩:=ih (by omega)
     obtain⟨g,hg,hRg⟩:=hex k (by omega)
     refine⟨l++[g],by simp[h1],fun g' hg'=>?_,fun i g' h=>?_⟩
     ·rcases List.mem_append.1 hg' with hg'|hg'
      ·exact hRl g' hg'
      ·simp at hg';subst hg';exact hRg
     by_cases hil:i<l.length
     ·rw[List.getElem?_append_left hil]at h;exact h2 i g' h
     ·have:i=k:=by
       rcases Nat.lt_or_ge i (l++[g]).length with hlt|hge
       ·simp[h1]at hlt hil;omega
       ·rw[List.getElem?_eq_none hge]at h;cases h
      subst this;rw[<-h1]at h;simp at h;subst h;exact hg
   exact this len0 (Nat.le_refl _)
  obtain⟨l,hl1,hRl,hl2⟩:=hl
  have hspot:0<len0->a.spot=none:=by
   intro h0;have hcl:=hl2 0 l[0] (List.getElem?_eq_getElem (by omega))
   obtain⟨_,hlen2,h1⟩:=World.cells?_some hcl;have h2:=h1 0 (by rw[hc];exact hsz)
   have hne:(encα l[0])[0]? =some (encα l[0])[0]:=List.getElem?_eq_getElem (by rw[hlen];exact hsz)
   rw[hne]at h2;obtain⟨_,_,_,_,hsp,_⟩:=fP h2;simpa[Addr.add]using hsp
  cases hx;refine⟨some a,len0,cap0,l,hcs,⟨by simp[hl1],hlc,?_,(fun h=>by cases h),?_⟩,hcm,hRl,.inr ⟨_,_,rfl,by simp⟩⟩
  ·intro x hx;obtain⟨g,_,rfl⟩:=List.mem_map.1 hx;exact hlen g
  ·intro a' ha';cases ha';refine⟨hspot,fun i x hx j v hv=>?_⟩
   rw[List.getElem?_map,Option.map_eq_some_iff]at hx;obtain⟨g,hg,rfl⟩:=hx
   have hi0:0<len0:=by
    rcases Nat.lt_or_ge i l.length with h|h
    ·omega
    ·rw[List.getElem?_eq_none h]at hg;cases hg
   have hcl:=hl2 i g hg;rw[hc]at hcl
   have hj:j<sz:=by
    rcases Nat.lt_or_ge j (encα g).length with h|h
    ·rw[hlen]at h;exact h
    ·rw[List.getElem?_eq_none h]at hv;cases hv
   obtain⟨_,_,h1⟩:=World.cells?_some hcl;have h2:=h1 j hj;rw[hv]at h2;rw[<-h2];have hs0:=hspot hi0;obtain⟨b,o,sp'⟩:=a;cases hs0;rw[Addr.add_lit,Addr.add_lit]
section
variable {w:World} {base:Nat} {spare:Nat->Bool} {held:Bool}
end
end
end Go.Eng
namespace Go.Proofs.YtmhmahcdanclnaaGreat.Ty
open Go.Eng
theorem mixed:Tryz.prog.follows .mixedOrders=true:=by kernel_rfl
@[go_sem] theorem cj0:ma Tryz.prog 2=some .i64:=by kernel_rfl
@[go_sem] theorem cj1:lay Tryz.prog 3=some (false,1):=by kernel_rfl
@[go_sem] theorem intK3:ma Tryz.prog 3=some .i64:=by kernel_rfl
@[go_sem] theorem cj2:lay Tryz.prog 4=some (false,1)/\cx Tryz.prog 4=some [(.bool false)]/\Program.underlying Tryz.prog 4=some .bool/\lay Tryz.prog 5=some (false,1):=by and_intros<;>kernel_rfl
@[go_sem] theorem zero5:cx Tryz.prog 5=some [(.int .u8 0)]:=by kernel_rfl
@[go_sem] theorem cj3:ma Tryz.prog 5=some .u8/\Program.underlying Tryz.prog 9=some .string/\lay Tryz.prog 21=some (false,1)/\ma Tryz.prog 21=some .i32/\lay Tryz.prog 22=some (false,1)/\esz Tryz.prog 22=some 2/\ey Tryz.prog 22=true/\lay Tryz.prog 23=some (false,1)/\esz Tryz.prog 23=some 2/\ey Tryz.prog 23=true/\lay Tryz.prog 24=some (false,1)/\ma Tryz.prog 24=some .u32/\lay Tryz.prog 26=some (true,15)/\aT Tryz.prog 26 0=some 0/\aT Tryz.prog 26 1=some 1/\aT Tryz.prog 26 2=some 2/\aT Tryz.prog 26 3=some 3/\aT Tryz.prog 26 4=some 4/\aT Tryz.prog 26 5=some 5/\aT Tryz.prog 26 6=some 6/\aT Tryz.prog 26 7=some 7/\aT Tryz.prog 26 8=some 8/\aT Tryz.prog 26 9=some 9/\aT Tryz.prog 26 10=some 10/\aT Tryz.prog 26 11=some 11/\aT Tryz.prog 26 12=some 12/\aT Tryz.prog 26 13=some 13/\aT Tryz.prog 26 14=some 14/\esz Tryz.prog 27=some 22/\ey Tryz.prog 27=true/\lay Tryz.prog 30=some (false,1)/\ma Tryz.prog 30=some .u16/\lay Tryz.prog 31=some (false,1)/\cx Tryz.prog 31=some [(.slice none 0 0)]/\esz Tryz.prog 31=some 2/\ey Tryz.prog 31=true:=by and_intros<;>kernel_rfl
@[go_sem] theorem el31:cq Tryz.prog 31 108 2 8=true:=by kernel_rfl
@[go_sem] theorem cj4:lay Tryz.prog 32=some (false,1)/\esz Tryz.prog 32=some 4/\ey Tryz.prog 32=true:=by and_intros<;>kernel_rfl
@[go_sem] theorem el32:cq Tryz.prog 32 34 4 32=true:=by kernel_rfl
@[go_sem] theorem cj5:lay Tryz.prog 34=some (true,4):=by kernel_rfl
@[go_sem] theorem zero34:cx Tryz.prog 34=some [(.int .u8 0),(.int .u16 0),(.int .u8 0),(.slice none 0 0)]:=by kernel_rfl
@[go_sem] theorem cj6:aT Tryz.prog 34 0=some 0/\aT Tryz.prog 34 1=some 1/\aT Tryz.prog 34 2=some 2/\aT Tryz.prog 34 3=some 3/\lay Tryz.prog 36=some (true,10)/\aT Tryz.prog 36 0=some 0/\aT Tryz.prog 36 1=some 1/\aT Tryz.prog 36 2=some 2/\aT Tryz.prog 36 3=some 6/\lay Tryz.prog 38=some (true,4)/\aT Tryz.prog 38 0=some 0/\aT Tryz.prog 38 1=some 1/\aT Tryz.prog 38 2=some 2/\aT Tryz.prog 38 3=some 3/\lay Tryz.prog 39=some (false,1)/\esz Tryz.prog 39=some 3/\ey Tryz.prog 39=true/\lay Tryz.prog 40=some (false,1)/\cx Tryz.prog 40=some [(.slice none 0 0)]/\esz Tryz.prog 40=some 3/\ey Tryz.prog 40=true:=by and_intros<;>kernel_rfl
@[go_sem] theorem el40:cq Tryz.prog 40 57 3 8=true:=by kernel_rfl
@[go_sem] theorem cj7:lay Tryz.prog 41=some (false,1)/\esz Tryz.prog 41=some 3/\ey Tryz.prog 41=true/\lay Tryz.prog 43=some (false,1)/\esz Tryz.prog 43=some 1/\ey Tryz.prog 43=true/\lay Tryz.prog 44=some (false,1)/\esz Tryz.prog 44=some 5/\ey Tryz.prog 44=true:=by and_intros<;>kernel_rfl
@[go_sem] theorem el44:cq Tryz.prog 44 56 5 56=true:=by kernel_rfl
@[go_sem] theorem cj8:lay Tryz.prog 46=some (true,2)/\aT Tryz.prog 46 0=some 0/\aT Tryz.prog 46 1=some 1/\lay Tryz.prog 47=some (false,1)/\esz Tryz.prog 47=some 5/\ey Tryz.prog 47=true:=by and_intros<;>kernel_rfl
@[go_sem] theorem el47:cq Tryz.prog 47 178 5 12=true:=by kernel_rfl
@[go_sem] theorem cj9:lay Tryz.prog 49=some (true,32)/\aT Tryz.prog 49 0=some 0/\aT Tryz.prog 49 1=some 1/\aT Tryz.prog 49 2=some 2/\aT Tryz.prog 49 3=some 3/\aT Tryz.prog 49 4=some 4/\aT Tryz.prog 49 5=some 5/\aT Tryz.prog 49 6=some 6/\aT Tryz.prog 49 7=some 16/\aT Tryz.prog 49 8=some 20/\aT Tryz.prog 49 9=some 21/\aT Tryz.prog 49 10=some 22/\aT Tryz.prog 49 11=some 23/\aT Tryz.prog 49 12=some 24/\aT Tryz.prog 49 13=some 25/\aT Tryz.prog 49 14=some 26/\aT Tryz.prog 49 15=some 28/\aT Tryz.prog 49 16=some 29/\aT Tryz.prog 49 17=some 30/\aT Tryz.prog 49 18=some 31/\lay Tryz.prog 51=some (false,1)/\esz Tryz.prog 51=some 1/\ey Tryz.prog 51=true/\lay Tryz.prog 52=some (false,1)/\esz Tryz.prog 52=some 1/\ey Tryz.prog 52=true:=by and_intros<;>kernel_rfl
@[go_sem] theorem el52:cq Tryz.prog 52 5 1 1=true:=by kernel_rfl
@[go_sem] theorem atN:lay Tryz.prog 54=some (true,3)/\aT Tryz.prog 54 0=some 0/\aT Tryz.prog 54 1=some 1/\aT Tryz.prog 54 2=some 2/\lay Tryz.prog 56=some (true,5):=by and_intros<;>kernel_rfl
@[go_sem] theorem zero56:cx Tryz.prog 56=some [(.int .u8 0),(.int .u16 0),(.int .u32 0),(.slice none 0 0),(.slice none 0 0)]:=by kernel_rfl
@[go_sem] theorem atI:aT Tryz.prog 56 0=some 0/\aT Tryz.prog 56 1=some 3/\aT Tryz.prog 56 2=some 4/\lay Tryz.prog 57=some (true,3)/\aT Tryz.prog 57 0=some 0/\aT Tryz.prog 57 1=some 1/\aT Tryz.prog 57 2=some 2/\lay Tryz.prog 58=some (false,1)/\esz Tryz.prog 58=some 3/\ey Tryz.prog 58=true/\lay Tryz.prog 60=some (true,17)/\aT Tryz.prog 60 0=some 0/\aT Tryz.prog 60 1=some 1/\aT Tryz.prog 60 2=some 2/\aT Tryz.prog 60 3=some 3/\aT Tryz.prog 60 4=some 4/\aT Tryz.prog 60 5=some 5/\aT Tryz.prog 60 6=some 6/\aT Tryz.prog 60 7=some 11/\aT Tryz.prog 60 8=some 12/\aT Tryz.prog 60 9=some 15/\aT Tryz.prog 60 10=some 16/\lay Tryz.prog 61=some (false,1)/\esz Tryz.prog 61=some 1/\ey Tryz.prog 61=true/\lay Tryz.prog 63=some (true,22)/\aT Tryz.prog 63 0=some 0/\aT Tryz.prog 63 1=some 1/\aT Tryz.prog 63 2=some 2/\aT Tryz.prog 63 3=some 3/\aT Tryz.prog 63 4=some 4/\aT Tryz.prog 63 5=some 21/\lay Tryz.prog 65=some (false,1)/\esz Tryz.prog 65=some 17/\ey Tryz.prog 65=true/\lay Tryz.prog 66=some (false,1)/\lay Tryz.prog 68=some (true,36)/\aT Tryz.prog 68 0=some 0/\aT Tryz.prog 68 1=some 32/\aT Tryz.prog 68 2=some 33/\aT Tryz.prog 68 4=some 35/\lay Tryz.prog 82=some (false,1)/\ma Tryz.prog 82=some .u64/\lay Tryz.prog 84=some (true,3)/\cx Tryz.prog 84=some [(.int .u16 0),(.int .u32 0),(.int .u64 0)]/\aT Tryz.prog 84 0=some 0/\aT Tryz.prog 84 1=some 1/\aT Tryz.prog 84 2=some 2/\lay Tryz.prog 108=some (true,2)/\cx Tryz.prog 108=some [(.int .i32 0),(.int .i32 0)]/\aT Tryz.prog 108 0=some 0/\aT Tryz.prog 108 1=some 1/\lay Tryz.prog 114=some (true,22)/\aT Tryz.prog 114 3=some 3/\aT Tryz.prog 114 4=some 4/\aT Tryz.prog 114 5=some 21/\lay Tryz.prog 127=some (true,3)/\aT Tryz.prog 127 0=some 0/\aT Tryz.prog 127 1=some 1/\aT Tryz.prog 127 2=some 2:=by and_intros<;>kernel_rfl
@[go_sem] theorem atS:aT Tryz.prog 135 1=some 1/\aT Tryz.prog 135 2=some 2/\aT Tryz.prog 144 0=some 0/\aT Tryz.prog 144 1=some 15/\aT Tryz.prog 144 2=some 47/\aT Tryz.prog 144 3=some 64/\aT Tryz.prog 144 4=some 65/\aT Tryz.prog 144 5=some 66/\lay Tryz.prog 178=some (true,5):=by and_intros<;>kernel_rfl
@[go_sem] theorem zero178:cx Tryz.prog 178=some [(.int .u8 0),(.int .u16 0),(.int .u32 0),(.int .u8 0),(.int .u8 0)]:=by kernel_rfl
@[go_sem] theorem atJ:aT Tryz.prog 178 0=some 0/\aT Tryz.prog 178 2=some 4/\lay Tryz.prog 187=some (false,1)/\aT Tryz.prog 203 0=some 0/\aT Tryz.prog 203 1=some 15/\aT Tryz.prog 203 2=some 47/\aT Tryz.prog 203 3=some 64/\aT Tryz.prog 203 4=some 65/\aT Tryz.prog 203 5=some 66/\esz Tryz.prog 213=some 1/\ey Tryz.prog 213=true/\ma Tryz.prog 256=some .u64/\esz Tryz.prog 265=some 5/\ey Tryz.prog 265=true/\lay Tryz.prog 268=some (true,5)/\aT Tryz.prog 268 0=some 0/\aT Tryz.prog 268 1=some 4/\lay Tryz.prog 315=some (true,1024)/\esz Tryz.prog 347=some 1/\ey Tryz.prog 347=true/\lay Tryz.prog 356=some (true,0)/\lay Tryz.prog 364=some (false,1)/\ma Tryz.prog 364=some .u64:=by and_intros<;>kernel_rfl
theorem vX:Tryz.prog.eqGuardType Tryz.prog.depth 54=false:=by kernel_rfl
theorem eqRun54(a0 a1 a2 b0 b1 b2:Int)(w:World):(binOp .eql 54 (.agg #[.int .u8 a0,.int .u16 a1,.int .u32 a2]) (.agg #[.int .u8 b0,.int .u16 b1,.int .u32 b2])).run Tryz.prog w= .ok (.bool (a0==b0&&(a1==b1&&(a2==b2)))) w:=by
 go_simp
 by_cases h0:a0=b0<;>by_cases h1:a1=b1<;>by_cases h2:a2=b2<;>simp[*]
theorem ao_(a0 a1 a2 b0 b1 b2:Int)(w:World):(binOp .neq 54 (.agg #[.int .u8 a0,.int .u16 a1,.int .u32 a2]) (.agg #[.int .u8 b0,.int .u16 b1,.int .u32 b2])).run Tryz.prog w= .ok (.bool (!(a0==b0&&(a1==b1&&(a2==b2))))) w:=by
 go_simp
 by_cases h0:a0=b0<;>by_cases h1:a1=b1<;>by_cases h2:a2=b2<;>simp[*]
@[go_sem] theorem atA{a0 a1 a2 b0 b1 b2:Int}{y z:Operand}{K:Value->Prop}:AtPure Tryz.prog (bj .eql 54 y z (.agg #[.int .u8 a0,.int .u16 a1,.int .u32 a2]) (.agg #[.int .u8 b0,.int .u16 b1,.int .u32 b2])) K=K (.bool (a0==b0&&(a1==b1&&(a2==b2)))):=
 aG fun w=>by simp only[bj,eqGuard,Sem.run_bind,Sem.run_pure,Result.andThen_ok,Bool.not_true,Bool.false_eq_true,if_false,run_program,vX,Bool.not_false,if_true,eqRun54]
@[go_sem] theorem atC{a0 a1 a2 b0 b1 b2:Int}{y z:Operand}{K:Value->Prop}:AtPure Tryz.prog (bj .neq 54 y z (.agg #[.int .u8 a0,.int .u16 a1,.int .u32 a2]) (.agg #[.int .u8 b0,.int .u16 b1,.int .u32 b2])) K=K (.bool (!(a0==b0&&(a1==b1&&(a2==b2))))):=
 aG fun w=>by simp only[bj,eqGuard,Sem.run_bind,Sem.run_pure,Result.andThen_ok,Bool.not_true,Bool.false_eq_true,if_false,run_program,vX,Bool.not_false,if_true,ao_]
theorem abS:Tryz.prog.eqGuardType Tryz.prog.depth 178=false:=by kernel_rfl
theorem ajt(a0 a1 a2 a3 a4 b0 b1 b2 b3 b4:Int)(w:World):(binOp .neq 178 (.agg #[.int .u8 a0,.int .u16 a1,.int .u32 a2,.int .u8 a3,.int .u8 a4]) (.agg #[.int .u8 b0,.int .u16 b1,.int .u32 b2,.int .u8 b3,.int .u8 b4])).run Tryz.prog w= .ok (.bool (!(a0==b0&&(a1==b1&&(a2==b2&&(a3==b3&&(a4==b4))))))) w:=by
 go_simp
 by_cases h0:a0=b0<;>by_cases h1:a1=b1<;>by_cases h2:a2=b2<;>by_cases h3:a3=b3<;>by_cases h4:a4=b4<;>simp[*]
@[go_sem] theorem atc{a0 a1 a2 a3 a4 b0 b1 b2 b3 b4:Int}{y z:Operand}{K:Value->Prop}:AtPure Tryz.prog (bj .neq 178 y z (.agg #[.int .u8 a0,.int .u16 a1,.int .u32 a2,.int .u8 a3,.int .u8 a4]) (.agg #[.int .u8 b0,.int .u16 b1,.int .u32 b2,.int .u8 b3,.int .u8 b4])) K=K (.bool (!(a0==b0&&(a1==b1&&(a2==b2&&(a3==b3&&(a4==b4))))))):=
 aG fun w=>by simp only[bj,eqGuard,Sem.run_bind,Sem.run_pure,Result.andThen_ok,Bool.not_true,Bool.false_eq_true,if_false,run_program,abS,Bool.not_false,if_true,ajt]
theorem sH:Tryz.prog.eqGuardType Tryz.prog.depth 108=false:=by kernel_rfl
theorem aju(a0 a1 b0 b1:Int)(w:World):(binOp .eql 108 (.agg #[.int .i32 a0,.int .i32 a1]) (.agg #[.int .i32 b0,.int .i32 b1])).run Tryz.prog w= .ok (.bool (a0==b0&&(a1==b1))) w:=by
 go_simp
 by_cases h0:a0=b0<;>by_cases h1:a1=b1<;>simp[*]
theorem akM(a0 a1 b0 b1:Int)(w:World):(binOp .neq 108 (.agg #[.int .i32 a0,.int .i32 a1]) (.agg #[.int .i32 b0,.int .i32 b1])).run Tryz.prog w= .ok (.bool (!(a0==b0&&(a1==b1)))) w:=by
 go_simp
 by_cases h0:a0=b0<;>by_cases h1:a1=b1<;>simp[*]
@[go_sem] theorem ati{a0 a1 b0 b1:Int}{y z:Operand}{K:Value->Prop}:AtPure Tryz.prog (bj .eql 108 y z (.agg #[.int .i32 a0,.int .i32 a1]) (.agg #[.int .i32 b0,.int .i32 b1])) K=K (.bool (a0==b0&&(a1==b1))):=
 aG fun w=>by simp only[bj,eqGuard,Sem.run_bind,Sem.run_pure,Result.andThen_ok,Bool.not_true,Bool.false_eq_true,if_false,run_program,sH,Bool.not_false,if_true,aju]
@[go_sem] theorem atw{a0 a1 b0 b1:Int}{y z:Operand}{K:Value->Prop}:AtPure Tryz.prog (bj .neq 108 y z (.agg #[.int .i32 a0,.int .i32 a1]) (.agg #[.int .i32 b0,.int .i32 b1])) K=K (.bool (!(a0==b0&&(a1==b1)))):=
 aG fun w=>by simp only[bj,eqGuard,Sem.run_bind,Sem.run_pure,Result.andThen_ok,Bool.not_true,Bool.false_eq_true,if_false,run_program,sH,Bool.not_false,if_true,akM]
