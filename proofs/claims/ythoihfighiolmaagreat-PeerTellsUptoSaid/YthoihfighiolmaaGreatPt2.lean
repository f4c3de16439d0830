import Derived.Test.YthoihfighiolmaaGreatPt1
import Derived.OrdersHeld
import Derived.Laws.Sem
import Derived.KernelRfl
set_option linter.unusedSectionVars false
set_option linter.unusedSimpArgs false
set_option linter.unusedVariables false
namespace Go.Eng
def i5:Obj:=.pending #[] 0
def Sub(u w:World):Prop:= ∀(b:Nat) (o:Obj),u.heap[b]? =some o->o≠i5->w.heap[b]? =some o
def Ext(w w':World):Prop:= ∀(b:Nat) (o:Obj),w.heap[b]? =some o->w'.heap[b]? =some o
def Fresh(u:World)(b:Nat):Prop:= ∀o:Obj,u.heap[b]? =some o->o=i5
theorem Sub.refl(u:World):Sub u u:=fun _ _ h _=>h
theorem Sub.trans{u v w:World}(h:Sub u v)(h':Sub v w):Sub u w:=fun b o hb ho=>h' b o (h b o hb ho) ho
theorem Ext.refl(w:World):Ext w w:=fun _ _ h=>h
theorem Ext.trans{u v w:World}(h:Ext u v)(h':Ext v w):Ext u w:=fun b o hb=>h' b o (h b o hb)
theorem Ext.sub{w w':World}(h:Ext w w'):Sub w w':=fun b o hb _=>h b o hb
theorem Fresh.anti{u v:World}{b:Nat}(h:Sub u v)(hf:Fresh v b):Fresh u b:=fun o ho=>
 Classical.byContradiction fun hn=>hn (hf o (h b o ho hn))
theorem ba{w:World}{b:Nat}{o:Obj}(h:w.heap[b]? =some o):b<w.heap.size:=(Array.getElem?_eq_some_iff.1 h).1
theorem Sub.lt{u w:World}{b:Nat}{o:Obj}(h:Sub u w)(hb:u.heap[b]? =some o)(ho:o≠i5):b<w.heap.size:=ba (h b o hb ho)
theorem aO{u w:World}(h:Sub u w){b:Nat}(hb:w.heap.size<=b):Fresh u b:=fun o ho=>
 Classical.byContradiction fun hn=>by have:=h.lt ho hn;omega
theorem ax{c:Array Value}{t:TypeId}{f:Nat×Nat}:Obj.cells c t f≠i5:=by intro h;cases h
theorem cM{c:Array MapEntry}{t:Nat}:Obj.map c t≠i5:=by intro h;cases h
theorem fx{w:World}{a:Addr}{v:Value}(h:w.cell? a=some v):
  ∃c t f,w.heap[a.block]? =some (.cells c t f)/\a.spot=none/\c[a.off]? =some v:=by
 unfold World.cell? at h;split at h
 ·rename_i c t f hb;split at h
  ·cases h
  ·rename_i hs;exact⟨c,t,f,hb,by simpa using hs,h⟩
 ·cases h
theorem fm{w:World}{b off:Nat}{v:Value}{c:Array Value}{t:TypeId}{f:Nat×Nat}(h:w.heap[b]? =some (.cells c t f))(hv:c[off]? =some v):
  w.cell? ⟨b,off,none⟩=some v:=by
 simp[World.cell?,h,hv]
theorem Sub.cell{u w:World}{a:Addr}{v:Value}(hs:Sub u w)(h:u.cell? a=some v):w.cell? a=some v:=by
 obtain⟨c,t,f,hb,hsp,hv⟩:=fx h;have:=fm (hs _ _ hb ax) hv;obtain⟨b,o,sp⟩:=a;cases hsp;exact this
theorem adN(w:World)(n:Nat):Ext w { w with drawn:=n }:=fun _ _ h=>h
def zi:Builtin->Bool
 | .len| .cap| .min| .max=>true
 |_=>false
def efc(src dst:Nat):Bool:=src==dst||(src==9&&dst==52)
def bK:Op->Bool
 | .move _| .assign _| .pick .. | .load .. | .nilCheck _| .binOp .. | .unOp .. | .makeFunc .. | .build .. | .slice .. | .fieldAddr .. | .field .. | .indexAddr ..
 | .index .. | .lookup .. | .extract .. =>true
 | .convert src dst _=> !efc src dst
 | .call { callee:=.builtin b,.. }=>zi b
 |_=>false
def mL:Op->Bool
 | .move _| .assign _| .pick .. | .binOp .. | .unOp .. | .makeFunc .. | .build .. | .slice .. | .fieldAddr .. | .field .. | .indexAddr .. | .extract .. =>true
 | .call { callee:=.builtin .min,.. }=>true
 | .call { callee:=.builtin .max,.. }=>true
 |_=>false
def aeY:List Oper->List (List Nat)->List (List Nat)
 |[],acc=>acc
 |o::r,acc=>aeY r (acc++[(o.after.toList.flatMap fun e=>if Region.binds .any e then e.on::acc.getD e.on []else []).eraseDups])
def abD(ops:Array Oper)(A:List (List Nat)):Bool:=
 (List.range ops.size).all fun j=>(A.getD j []).all fun p=>
  match ops[j]? with
  |some o=>o.after.toList.any fun e=>Region.binds .any e&&e.on<j&&(e.on==p||(A.getD e.on []).contains p)
  |none=>false
def jn(ops:Array Oper)(A:List (List Nat))(i j:Nat):Bool:=
 match ops[i]?,ops[j]? with
 |some oi,some oj=>(A.getD j []).contains i||(bK oi.op&&oi.apart ops oj)
 |_,_=>false
def eE(ops:Array Oper)(A:List (List Nat)):List Nat->Bool
 |[]=>true
 |i::r=>r.all (jn ops A i)&&eE ops A r
def yT(ops:Array Oper):Bool:=
 (List.range ops.size).all fun j=>match ops[j]? with
  |some o=>o.after.toList.all fun e=> !Region.binds .any e||decide (e.on<j)
  |none=>false
section
variable {P:Program} {ops:Array Oper} {Q:Exit->Act->World->Prop}
def afo(Q:Exit->Act->World->Prop):Prop:=(∀c a w d v,Q (.panic c) (Act.put a d v) w->Q (.panic c) a w)/\ ¬LetsOut Q
def aak(ops:Array Oper)(listed:Array Bool):Prop:=
 ∀j o,ops[j]? =some o->listed.getD j false=true-> ∀e∈o.after,Region.binds .any e=true->listed.getD e.on false=true
theorem aaL{A:List (List Nat)}(hA:abD ops A=true){listed:Array Bool}(hc:aak ops listed):
  ∀(j p:Nat) (o:Oper),ops[j]? =some o->(A.getD j []).contains p=true->(∀e∈o.after,Region.binds .any e=true->listed.getD e.on false=true)->listed.getD p false=true:=by
 intro j
 induction j using Nat.strongRecOn with
 | _ j ih=>
  intro p o ho hp hall;have hj:j<ops.size:=(Array.getElem?_eq_some_iff.1 ho).1;simp only[abD,List.all_eq_true,List.mem_range]at hA;have h1:=hA j hj p (by simpa using hp)
  simp only[ho]at h1;obtain⟨e,he,h2⟩:=List.any_eq_true.1 h1;simp only[Bool.and_eq_true,decide_eq_true_eq,Bool.or_eq_true,beq_iff_eq]at h2;obtain⟨⟨hb,hlt⟩,h3⟩:=h2;have hel:=hall e (by simpa using he) hb
  rcases h3 with rfl|h3
  ·exact hel
  ·have hes:e.on<ops.size:=by omega
   have hoe:ops[e.on]? =some ops[e.on]:=Array.getElem?_eq_getElem hes;exact ih e.on hlt p _ hoe h3 (fun e' he' hb'=>hc e.on _ hoe hel e' he' hb')
theorem wG{A:List (List Nat)}: ∀{l:List Nat} {pre post:List Nat} {i:Nat},eE ops A l=true->l=pre++i::post->
  (∀p∈pre,jn ops A p i=true)/\eE ops A (pre++post)=true:=by
 intro l
 induction l with
 |nil=>intro pre post i _ h;cases pre<;>cases h
 | cons x l ih=>
  intro pre post i h hl;simp only[eE,Bool.and_eq_true,List.all_eq_true]at h;cases pre with
  |nil=>
   simp only[List.nil_append,List.cons.injEq]at hl;obtain⟨rfl,rfl⟩:=hl;exact⟨by simp,h.2⟩
  | cons p pre=>
   simp only[List.cons_append,List.cons.injEq]at hl;obtain⟨rfl,rfl⟩:=hl;obtain⟨h1,h2⟩:=ih h.2 rfl;refine⟨fun q hq=>?_,?_⟩
   ·rcases List.mem_cons.1 hq with rfl|hq
    ·exact h.1 i (by simp)
    ·exact h1 q hq
   ·simp only[List.cons_append,eE,Bool.and_eq_true,List.all_eq_true];refine⟨fun y hy=>h.1 y ?_,h2⟩
    rcases List.mem_append.1 hy with hy|hy
    ·exact List.mem_append_left _ hy
    ·exact List.mem_append_right _ (List.mem_cons_of_mem _ hy)
inductive OT where
 |done
 |no
 |fl (i:Nat) (t:OT)
 |eff (i:Nat) (x:Bool) (t alt:OT)
def OT.heads:OT->List (Nat×OT)
 | .eff i _ t alt=>(i,t)::alt.heads
 |_=>[]
def flN:List Nat->OT->OT
 |[],t=>t
 |i::r,t=>.fl i (flN r t)
theorem lp(l m:List Nat)(t:OT):flN (l++m) t=flN l (flN m t):=by
 induction l with
 |nil=>rfl
 |cons i r ih=>simp only[List.cons_append,flN,ih]
def wpT(P:Program)(ops:Array Oper)(A:List (List Nat))(Q:Exit->Act->World->Prop):List (Nat×(World->Prop))->OT->Act->World->Prop
 |_,.done,a,w=>Q .normal a w
 |_,.no,_,_=>True
 |acc,.fl i t,a,w=>
  match ops[i]? with
  |none=>False
  |some o=> ∃v R,R w/\YieldsIf P ops R o v a/\wpT P ops A Q ((i,R)::acc) t (a.put o.dst v) w
 |acc,.eff i _ t alt,a,w=>eV P ops Q i (fun a' w'=>(∀e∈acc,(A.getD i []).contains e.1=true\/e.2 w')/\wpT P ops A Q (acc.filter fun e=> !(A.getD i []).contains e.1) t a' w') a w/\wpT P ops A Q acc alt a w
def j3(ops:Array Oper)(i:Nat):Bool:=
 match ops[i]? with
 |some o=>bK o.op
 |none=>false
def lin(ops:Array Oper):List (Nat×Bool)->OT
 |[]=>.done
 |(i,x)::r=>bif !x&&j3 ops i then .fl i (lin ops r)else .eff i x (lin ops r) .no
def akC(ops:Array Oper)(i:Nat):Bool:=(ops[i]?).isSome
def okT(ops:Array Oper)(A:List (List Nat)):Bool->List Nat->List Nat->OT->Bool
 |_,_,rest,.done=>rest.isEmpty
 |m,_,_,.no=>m
 |_,prev,rest,.fl i t=>rest.contains i&&j3 ops i&&prev.all (fun p=>jn ops A p i)&&okT ops A false (i::prev) (rest.erase i) t
 | m,prev,rest,.eff i x t alt=>rest.contains i&&akC ops i&&prev.all (fun p=>jn ops A p i)&&okT ops A false prev (rest.erase i) t&&okT ops A true prev rest alt&&
   (m||rest.all fun j=>((i::alt.heads.map (·.1)).contains j||rest.any fun p=>(A.getD j []).contains p))
theorem ah8(A:List (List Nat)): ∀(t:OT) (acc acc':List (Nat×(World->Prop))) (a:Act) (w:World),(∀x∈acc',x∈acc)->wpT P ops A Q acc t a w->wpT P ops A Q acc' t a w:=by
 intro t
 induction t with
 |done=>intro acc acc' a w _ h;exact h
 |no=>intro acc acc' a w _ h;exact h
 | fl i t ih=>
  intro acc acc' a w hsub h;simp only[wpT]at h ⊢;cases ho:ops[i]? with
  |none=>simp only[ho]at h
  |some o=>
   simp only[ho]at h ⊢;obtain⟨v,R,hR,hy,h⟩:=h;refine⟨v,R,hR,hy,ih _ _ _ _ ?_ h⟩;intro x hx;rcases List.mem_cons.1 hx with rfl|hx
   ·exact List.mem_cons_self
   ·exact List.mem_cons_of_mem _ (hsub x hx)
 |eff i x t alt iht iha=>
  intro acc acc' a w hsub h;simp only[wpT]at h ⊢;exact⟨lg (fun a' w' ⟨h1,h2⟩=>⟨fun e he=>h1 e (hsub e he),iht _ _ _ _ (fun e he=>List.mem_filter.2 ⟨hsub e (List.mem_filter.1 he).1,(List.mem_filter.1 he).2⟩) h2⟩) h.1,iha _ _ _ _ hsub h.2⟩
theorem amU(A:List (List Nat))(hns:Region.noSelect ops=true){i:Nat}{o:Oper}(hi:ops[i]? =some o)(post:OT):
  ∀(pre:List Nat) (acc:List (Nat×(World->Prop))) (a:Act) (w:World),
   (∀p∈pre, ∃op,ops[p]? =some op/\bK op.op=true/\op.apart ops o=true)->
   wpT P ops A Q acc (flN pre (.fl i post)) a w->
   ∃v R,R w/\YieldsIf P ops R o v a/\wpT P ops A Q acc (flN pre post) (a.put o.dst v) w:=by
 intro pre;have hsi: ∀cs b,o.op≠ .select cs b:=fun cs b=>Region.noSelect_spec hns i o cs b hi
 induction pre with
 |nil=>
  intro acc a w _ h;simp only[flN,wpT,hi]at h;obtain⟨v,R,hR,hy,h⟩:=h;exact⟨v,R,hR,hy,ah8 A _ _ _ _ _ (fun x hx=>List.mem_cons_of_mem _ hx) h⟩
 |cons p pre ih=>
  intro acc a w hpre h;obtain⟨op,hop,hfl,hap⟩:=hpre p List.mem_cons_self;have hsp: ∀cs b,op.op≠ .select cs b:=fun cs b=>Region.noSelect_spec hns p op cs b hop
  obtain⟨h1,h2,h3⟩:=Oper.apart_spec hap;simp only[flN,wpT,hop]at h;obtain⟨vp,Rp,hRp,hyp,h⟩:=h;obtain⟨v,R,hR,hy,h⟩:=ih _ (a.put op.dst vp) w (fun q hq=>hpre q (List.mem_cons_of_mem _ hq)) h
  refine⟨v,R,hR,hy.of_same (execOp_put o hsi a op.dst vp h1).symm (wanted_put o a op.dst vp h1).symm,?_⟩;simp only[flN,wpT,hop];refine⟨vp,Rp,hRp,hyp.of_same (execOp_put op hsp a o.dst v h3) (wanted_put op a o.dst v h3),?_⟩;rw[<-Act.put_comm a vp v h2];exact h
theorem afq(A:List (List Nat)): ∀(t:OT) (acc:List (Nat×(World->Prop))) (a:Act) (w:World) (i:Nat) (ti:OT),(i,ti)∈t.heads->wpT P ops A Q acc t a w->
  eV P ops Q i (fun a' w'=>(∀e∈acc,(A.getD i []).contains e.1=true\/e.2 w')/\wpT P ops A Q (acc.filter fun e=> !(A.getD i []).contains e.1) ti a' w') a w:=by
 intro t
 induction t with
 |done=>intro acc a w i ti h;cases h
 |no=>intro acc a w i ti h;cases h
 |fl j t ih=>intro acc a w i ti h;cases h
 |eff j x t alt iht iha=>
  intro acc a w i ti h hw;simp only[OT.heads,List.mem_cons,Prod.mk.injEq]at h;simp only[wpT]at hw;rcases h with ⟨rfl,rfl⟩|h
  ·exact hw.1
  ·exact iha acc a w i ti h hw.2
theorem anv(A:List (List Nat))(hns:Region.noSelect ops=true)(hQ:afo Q){i:Nat}{o:Oper}(hi:ops[i]? =some o){t ti:OT}(ht:(i,ti)∈t.heads):
  ∀(pre:List Nat) (acc:List (Nat×(World->Prop))) (a:Act) (w:World),
   (∀p∈pre, ∃op,ops[p]? =some op/\bK op.op=true/\op.apart ops o=true/\(A.getD i []).contains p=false)->
   wpT P ops A Q acc (flN pre t) a w->
   eV P ops Q i (fun a' w'=>(∀e∈acc,(A.getD i []).contains e.1=true\/e.2 w')/\wpT P ops A Q (acc.filter fun e=> !(A.getD i []).contains e.1) (flN pre ti) a' w') a w:=by
 intro pre;have hsi: ∀cs b,o.op≠ .select cs b:=fun cs b=>Region.noSelect_spec hns i o cs b hi
 induction pre with
 |nil=>intro acc a w _ h;exact afq A t acc a w i ti ht h
 |cons p pre ih=>
  intro acc a w hpre h;obtain⟨op,hop,hfl,hap,hnc⟩:=hpre p List.mem_cons_self;have hsp: ∀cs b,op.op≠ .select cs b:=fun cs b=>Region.noSelect_spec hns p op cs b hop
  simp only[flN,wpT,hop]at h;obtain⟨vp,Rp,hRp,hyp,h⟩:=h;have he:=ih _ (a.put op.dst vp) w (fun q hq=>hpre q (List.mem_cons_of_mem _ hq)) h
  have hx:=vM hi hap hsp hsi (fun c a w hq=>hQ.1 c a w _ _ hq) hQ.2 hyp he
  refine lg (fun a1 w1 ⟨hy1,hk,hd⟩=>?_) hx
  have hR1:Rp w1:=(hk (p,Rp) List.mem_cons_self).resolve_left (by rw[hnc];simp)
  refine⟨fun e he=>hk e (List.mem_cons_of_mem _ he),?_⟩
  simp only[flN,wpT,hop];refine⟨vp,Rp,hR1,hy1,?_⟩;rw[List.filter_cons_of_pos (by show(!(A.getD i []).contains p)=true;rw[hnc];rfl)]at hd
  exact hd
theorem uo{A:List (List Nat)}: ∀{l:List Nat} {i:Nat},eE ops A l=true->(∀p∈l,jn ops A p i=true)->eE ops A (l++[i])=true:=by
 intro l
 induction l with
 |nil=>intro i _ _;simp[eE]
 |cons x l ih=>
  intro i h hp;simp only[eE,Bool.and_eq_true,List.all_eq_true,List.cons_append]at h ⊢;refine⟨fun y hy=>?_,ih h.2 (fun p hp'=>hp p (List.mem_cons_of_mem _ hp'))⟩
  rcases List.mem_append.1 hy with hy|hy
  ·exact h.1 y hy
  ·simp at hy;subst hy;exact hp x List.mem_cons_self
theorem ahd{A:List (List Nat)}: ∀(t:OT) (m:Bool) (prev rest:List Nat) (i:Nat) (ti:OT),okT ops A m prev rest t=true->(i,ti)∈t.heads->
  rest.contains i=true/\akC ops i=true/\(∀p∈prev,jn ops A p i=true)/\okT ops A false prev (rest.erase i) ti=true:=by
 intro t
 induction t with
 |done=>intro m prev rest i ti _ h;cases h
 |no=>intro m prev rest i ti _ h;cases h
 |fl j t ih=>intro m prev rest i ti _ h;cases h
 |eff j x t alt iht iha=>
  intro m prev rest i ti h hh;simp only[okT,Bool.and_eq_true,List.all_eq_true]at h;simp only[OT.heads,List.mem_cons,Prod.mk.injEq]at hh;rcases hh with ⟨rfl,rfl⟩|hh
  ·exact⟨h.1.1.1.1.1,h.1.1.1.1.2,h.1.1.1.2,h.1.1.2⟩
  ·exact iha true prev rest i ti h.1.2 hh
theorem yu(A:List (List Nat))(hA:abD ops A=true)(hbk:yT ops=true)(hns:Region.noSelect ops=true)(hQ:afo Q):
  ∀(fuel:Nat) (t:OT) (pre rest prev:List Nat) (listed:Array Bool) (a:Act) (w:World),pre.length+rest.length=fuel->listed.size=ops.size->aak ops listed->
   (∀j,j<ops.size->listed.getD j true=false->j∈pre\/j∈rest)->(∀j,j∈pre\/j∈rest->listed.getD j true=false)->(pre++rest).Nodup->
   (∀p∈pre,j3 ops p=true)->eE ops A pre=true->(∀p∈pre,p∈prev)->okT ops A false prev rest t=true->wpT P ops A Q [] (flN pre t) a w->
   kK P .any ops Q fuel listed a w:=by
 intro fuel
 induction fuel with
 | zero=>
  intro t pre rest prev listed a w hl _ _ hcov _ _ _ _ _ hok h;have hp:pre=[]:=by cases pre<;>simp_all
  have hr:rest=[]:=by cases rest<;>simp_all
  subst hp;subst hr
  have hr:Region.ready .any ops listed=[]:=by
   cases hr:Region.ready .any ops listed with
   |nil=>rfl
   |cons x xs=>
    have hx:x∈Region.ready .any ops listed:=by rw[hr];exact List.mem_cons_self
    obtain⟨h0,o,ho,_⟩:=mem_ready.1 hx;have:=hcov x (Array.getElem?_eq_some_iff.1 ho).1 h0;simp at this
  refine⟨hr,?_⟩;cases t with
  |done=>exact h
  |no=>simp[okT]at hok
  |fl i t=>simp[okT]at hok
  |eff i x t alt=>simp[okT]at hok
 | succ fuel ih=>
  have main: ∀(t:OT) (pre rest prev:List Nat) (listed:Array Bool) (a:Act) (w:World),pre.length+rest.length=fuel+1->listed.size=ops.size->aak ops listed->
   (∀j,j<ops.size->listed.getD j true=false->j∈pre\/j∈rest)->(∀j,j∈pre\/j∈rest->listed.getD j true=false)->(pre++rest).Nodup->
   (∀p∈pre,j3 ops p=true)->eE ops A pre=true->(∀p∈pre,p∈prev)->okT ops A false prev rest t=true->
   (∀j∈rest,(∃tj,(j,tj)∈t.heads)\/ ∃p∈rest,(A.getD j []).contains p=true)->wpT P ops A Q [] (flN pre t) a w->kK P .any ops Q (fuel+1) listed a w:=by
   intro t pre rest prev listed a w hl hsz hc hcov hun hnd hfl hops hprev hok hcover h
   have unl: ∀i o,ops[i]? =some o->(∀e∈o.after,Region.binds .any e=true->listed.getD e.on false=true)-> ∀p,(p∈pre\/p∈rest)->(A.getD i []).contains p=false:=by
    intro i o ho hall p hp;cases hcon:(A.getD i []).contains p with
    |false=>rfl
    |true=>
     have h2:=aaL hA hc i p o ho hcon hall;have hpun:=hun p hp;rcases Nat.lt_or_ge p listed.size with hps|hps
     ·simp[hps]at h2 hpun;rw[h2]at hpun;cases hpun
     ·simp[Array.getElem?_eq_none hps]at h2
   have apart: ∀i o,ops[i]? =some o->(∀e∈o.after,Region.binds .any e=true->listed.getD e.on false=true)-> ∀p∈pre,jn ops A p i=true->
     ∃op,ops[p]? =some op/\bK op.op=true/\op.apart ops o=true/\(A.getD i []).contains p=false:=by
    intro i o ho hall p hp hpair;have hnc:=unl i o ho hall p (.inl hp);unfold jn at hpair;cases hop:ops[p]? with
    |none=>simp[hop]at hpair
    |some op=>
     simp only[hop,ho,Bool.or_eq_true,Bool.and_eq_true]at hpair;rcases hpair with h1|h1
     ·rw[hnc]at h1;cases h1
     ·exact⟨op,rfl,h1.1,h1.2,hnc⟩
   have step: ∀i∈Region.ready .any ops listed,eV P ops Q i (kK P .any ops Q fuel (listed.setIfInBounds i true)) a w:=by
    intro i hi;obtain⟨h0,o,ho,hall⟩:=mem_ready.1 hi;have his:i<ops.size:=(Array.getElem?_eq_some_iff.1 ho).1;have hil:i<listed.size:=by rw[hsz];exact his
    -- what is left behind it
    have next: ∀(t':OT) (pre' rest':List Nat) (a':Act) (w':World),(i::(pre'++rest')).Perm (pre++rest)->(∀p∈pre',p∈pre)->eE ops A pre'=true->
      okT ops A false prev rest' t'=true->wpT P ops A Q [] (flN pre' t') a' w'->kK P .any ops Q fuel (listed.setIfInBounds i true) a' w':=by
     intro t' pre' rest' a' w' hperm hpp hops' hok' hd;have hnd':i∉pre'++rest'/\(pre'++rest').Nodup:=List.nodup_cons.1 ((hperm.nodup_iff).2 hnd)
     have hmem: ∀j,(j=i\/j∈pre'\/j∈rest')↔(j∈pre\/j∈rest):=fun j=>by
      have:=hperm.mem_iff (a:=j);simpa using this
     refine ih t' pre' rest' prev (listed.setIfInBounds i true) a' w' ?_ (by simpa using hsz) ?_ ?_ ?_ hnd'.2 (fun p hp=>hfl p (hpp p hp)) hops' (fun p hp=>hprev p (hpp p hp)) hok' hd
     ·have:=hperm.length_eq;simp only[List.length_cons,List.length_append]at this;omega
     ·intro j oj hoj hlj e he hb
      by_cases hji:i=j
      ·subst hji;rw[ho]at hoj;cases hoj;exact getD_set_true (hall e he hb)
      ·rw[getD_set_ne false hji]at hlj;exact getD_set_true (hc j oj hoj hlj e he hb)
     ·intro j hj hlj
      by_cases hji:i=j
      ·subst hji;simp[hil]at hlj
      ·rw[getD_set_ne true hji]at hlj;rcases(hmem j).2 (hcov j hj hlj)with h|h
       ·exact absurd h.symm hji
       ·exact h
     ·intro j hj;have hji:i≠j:=fun e=>hnd'.1 (by rw[e];exact List.mem_append.2 hj)
      rw[getD_set_ne true hji];exact hun j ((hmem j).1 (.inr hj))
    rcases hcov i his h0 with hip|hir
    ·obtain⟨pre1,post1,hsplit⟩:=List.append_of_mem hip;obtain⟨hp1,hops1⟩:=wG hops hsplit
     have hpa: ∀p∈pre1, ∃op,ops[p]? =some op/\bK op.op=true/\op.apart ops o=true:=fun p hp=>by
      obtain⟨op,h1,h2,h3,_⟩:=apart i o ho hall p (by rw[hsplit];exact List.mem_append_left _ hp) (hp1 p hp)
      exact⟨op,h1,h2,h3⟩
     rw[hsplit,lp]at h;obtain⟨v,R,hR,hy,hd⟩:=amU A hns ho (flN post1 t) pre1 [] a w hpa h;rw[<-lp]at hd;refine p5 hy ho hR (next t (pre1++post1) rest _ _ ?_ ?_ hops1 hok hd)
     ·rw[hsplit,List.append_assoc,List.append_assoc];exact List.perm_middle.symm
     ·intro p hp;rw[hsplit];rcases List.mem_append.1 hp with hp|hp
      ·exact List.mem_append_left _ hp
      ·exact List.mem_append_right _ (List.mem_cons_of_mem _ hp)
    ·rcases hcover i hir with ⟨ti,hti⟩|⟨p,hp,hcon⟩
     ·obtain⟨_,_,hpi,hoki⟩:=ahd t false prev rest i ti hok hti;refine lg (fun a' w' hk=>next ti pre (rest.erase i) a' w' ?_ (fun p hp=>hp) hops hoki hk.2) (anv A hns hQ ho hti pre [] a w (fun p hp=>apart i o ho hall p hp (hpi p (hprev p hp))) h)
      exact List.perm_middle.symm.trans ((List.perm_cons_erase hir).symm.append_left pre)
     ·rw[unl i o ho hall p (.inr hp)]at hcon;cases hcon
   refine⟨fun hr=>?_,step⟩
   exfalso
   have key: ∀j,j<ops.size->listed.getD j true=false->False:=by
    intro j
    induction j using Nat.strongRecOn with
    | _ j ihn=>
     intro hjs hlj;have hoj:ops[j]? =some ops[j]:=Array.getElem?_eq_getElem hjs;have hb:=hbk;simp only[yT,List.all_eq_true,List.mem_range]at hb;have hb:=hb j hjs;simp only[hoj,List.all_eq_true,Bool.or_eq_true,Bool.not_eq_true',decide_eq_true_eq]at hb;have hnr:j∉Region.ready .any ops listed:=by rw[hr];exact List.not_mem_nil
     refine hnr (mem_ready.2 ⟨hlj,_,hoj,fun e he hbe=>?_⟩)
     have hlt:e.on<j:=by
      rcases hb e (by simpa using he)with h|h
      ·rw[hbe]at h;cases h
      ·exact h
     have hes:e.on<listed.size:=by omega
     cases hle:listed.getD e.on false with
     |true=>rfl
     |false=>exact(ihn e.on hlt (by omega) (by simpa[hes]using hle)).elim
   have ex: ∃x,x∈pre\/x∈rest:=by
    cases pre with
    |cons x r=>exact⟨x,.inl List.mem_cons_self⟩
    |nil=>cases rest with
     |cons x r=>exact⟨x,.inr List.mem_cons_self⟩
     |nil=>simp at hl
   obtain⟨x,hx⟩:=ex;have hxl:=hun x hx
   have hxs:x<listed.size:=by
    rcases Nat.lt_or_ge x listed.size with h'|h'
    ·exact h'
    ·simp[Array.getElem?_eq_none h']at hxl
   exact key x (by omega) hxl
  intro t
  induction t with
  |no=>intro pre rest prev listed a w _ _ _ _ _ _ _ _ _ hok _;simp[okT]at hok
  | fl i t iht=>
   intro pre rest prev listed a w hl hsz hc hcov hun hnd hfl hops hprev hok h;simp only[okT,Bool.and_eq_true,List.all_eq_true]at hok;obtain⟨⟨⟨hci,hfi⟩,hpi⟩,hok⟩:=hok;have hci':i∈rest:=by simpa using hci
   have hperm:(pre++[i]++rest.erase i).Perm (pre++rest):=by
    rw[List.append_assoc];exact(List.perm_cons_erase hci').symm.append_left pre
   have hmem: ∀j,(j∈pre++[i]\/j∈rest.erase i)↔(j∈pre\/j∈rest):=fun j=>by
    rw[<-List.mem_append,hperm.mem_iff,List.mem_append]
   refine iht (pre++[i]) (rest.erase i) (i::prev) listed a w ?_ hsz hc ?_ ?_ ((hperm.nodup_iff).2 hnd) ?_ ?_ ?_ hok ?_
   ·have:=hperm.length_eq;simp only[List.length_append]at this ⊢;omega
   ·intro j hj hlj;exact(hmem j).2 (hcov j hj hlj)
   ·intro j hj;exact hun j ((hmem j).1 hj)
   ·intro p hp;rcases List.mem_append.1 hp with hp|hp
    ·exact hfl p hp
    ·simp at hp;subst hp;exact hfi
   ·exact uo hops (fun p hp=>hpi p (hprev p hp))
   ·intro p hp;rcases List.mem_append.1 hp with hp|hp
    ·exact List.mem_cons_of_mem _ (hprev p hp)
    ·simp at hp;subst hp;exact List.mem_cons_self
   ·rw[lp];exact h
  |done=>
   intro pre rest prev listed a w hl hsz hc hcov hun hnd hfl hops hprev hok h;have hr:rest=[]:=by simpa[okT]using hok
   exact main .done pre rest prev listed a w hl hsz hc hcov hun hnd hfl hops hprev hok (fun j hj=>by rw[hr]at hj;cases hj) h
  | eff i x t alt iht iha=>
   intro pre rest prev listed a w hl hsz hc hcov hun hnd hfl hops hprev hok h;refine main (.eff i x t alt) pre rest prev listed a w hl hsz hc hcov hun hnd hfl hops hprev hok (fun j hj=>?_) h
   simp only[okT,Bool.and_eq_true,List.all_eq_true,Bool.false_or,Bool.or_eq_true,List.any_eq_true]at hok;rcases hok.2 j hj with h1|h1
   ·simp only[List.contains_eq_mem,decide_eq_true_eq,List.mem_cons,List.mem_map]at h1;rcases h1 with rfl|⟨⟨k,tk⟩,hk,rfl⟩
    ·exact .inl ⟨t,List.mem_cons_self⟩
    ·exact .inl ⟨tk,List.mem_cons_of_mem _ hk⟩
   ·exact .inr h1
def yS(ops:Array Oper)(t:OT):Bool:=
 abD ops (aeY ops.toList [])&&yT ops&&Region.noSelect ops&&okT ops (aeY ops.toList []) false [] (List.range ops.size) t
theorem n6{rd:Option Nat}{id:Nat}{t:OT}(hm:P.follows .mixedOrders=true)(hord:yS ops t=true)(hnd:gx ops.toList=true)(hQ:afo Q){a:Act}{w:World}
  (h:wpT P ops (aeY ops.toList []) Q [] t a { w with drawn:=w.drawn+1 }):cwp rd P (.region id ops true) Q a w:=by
 simp only[yS,Bool.and_eq_true]at hord;obtain⟨⟨⟨h1,h2⟩,h3⟩,h4⟩:=hord;refine pR hm hnd (yu _ h1 h2 h3 hQ ops.size t [] (List.range ops.size) [] _ a _ (by simp) (by simp) ?_ ?_ ?_ ?_ (by simp) rfl (by simp) h4 h)
 ·intro j o hj hl;have hjs:=(Array.getElem?_eq_some_iff.1 hj).1;simp[hjs]at hl
 ·intro j hj _;exact .inr (List.mem_range.2 hj)
 ·intro j hj;rcases hj with hj|hj
  ·cases hj
  ·simp[List.mem_range.1 hj]
 ·simpa using List.nodup_range
