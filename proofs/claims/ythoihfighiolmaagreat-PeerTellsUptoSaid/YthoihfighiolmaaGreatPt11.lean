import Derived.Test.YthoihfighiolmaaGreatPt10
import Derived.Laws.IdiomStrings
set_option linter.unusedSectionVars false
set_option linter.unusedSimpArgs false
set_option linter.unusedVariables false
namespace Go.Eng
structure ahR(P:Program)(K:TypeId){κ:Type}[DecidableEq κ](kv:κ->Value):Prop where
 chk: ∀b x w,(Instr.checkKey b 10000 K (kv x)).run P w= .ok () w
 bits: ∀x,Instr.sameBits 10000 (kv x) (kv x)=true
 find: ∀(k:κ) (ents:List MapEntry) (ks:List κ),ents.map (·.key)=ks.map kv-> ∀w,
  (Instr.findKey K (kv k) ents).run P w= .ok ((ks.findIdx? fun y=>decide (k=y)).bind fun i=>(ents[i]?).map fun e=>(i,e.val)) w
def ent{κ:Type}(kv:κ->Value)(t:κ×Value×Nat):MapEntry:={ key:=kv t.1,val:=t.2.1,born:=t.2.2 }
structure MapT(u:World){κ:Type}(kv:κ->Value)(r:Nat)(ts:List (κ×Value×Nat)):Prop where
 at_: ∃clock,u.heap[r]? =some (.map (ts.map (ent kv)).toArray clock)/\ ∀t∈ts,t.2.2<clock
 keys:(ts.map (·.1)).Nodup
 borns:(ts.map (·.2.2)).Nodup
def MapIs(u:World){κ:Type}(kv:κ->Value)(r:Nat)(es:List (κ×Value)):Prop:= ∃ts,MapT u kv r ts/\es=ts.map fun t=>(t.1,t.2.1)
section
variable {κ:Type} [DecidableEq κ] {kv:κ->Value} {P:Program} {T K E:TypeId} {u0 u:World} {r:Nat} {es:List (κ×Value)}
def mAt(es:List (κ×Value))(k:κ):Option Nat:=es.findIdx? fun e=>decide (k=e.1)
def ac2(es:List (κ×Value))(k:κ):Option Value:=(mAt es k).bind fun i=>(es[i]?).map (·.2)
def ak_(es:List (κ×Value))(k:κ)(v:Value):List (κ×Value):=
 match mAt es k with
 |some i=>es.set i (k,v)
 |none=>es++[(k,v)]
theorem MapT.mono{u':World}{ts:List (κ×Value×Nat)}(hs:Sub u u')(h:MapT u kv r ts):MapT u' kv r ts:=by
 obtain⟨⟨clock,h1,h2⟩,h3,h4⟩:=h;exact⟨⟨clock,hs _ _ h1 cM,h2⟩,h3,h4⟩
theorem MapIs.mono{u':World}(hs:Sub u u')(h:MapIs u kv r es):MapIs u' kv r es:=by
 obtain⟨ts,h,rfl⟩:=h;exact⟨ts,h.mono hs,rfl⟩
theorem MapIs.known(h:MapIs u kv r es): ¬Fresh u r:=by
 obtain⟨ts,⟨⟨clock,h1,_⟩,_,_⟩,_⟩:=h;exact fun hf=>cM (hf _ h1)
theorem vz(hk:ahR P K kv)(k:κ)(ts:List (κ×Value×Nat))(w:World):
  (Instr.findKey K (kv k) (ts.map (ent kv))).run P w= .ok ((ts.findIdx? fun t=>decide (k=t.1)).bind fun i=>(ts[i]?).map fun t=>(i,t.2.1)) w:=by
 rw[hk.find k (ts.map (ent kv)) (ts.map (·.1)) (by simp[ent,Function.comp_def]) w]
 congr 1
 have:(ts.map (·.1)).findIdx? (fun y=>decide (k=y))=ts.findIdx? fun t=>decide (k=t.1):=by
  rw[List.findIdx?_map];rfl
 rw[this]
 congr 1
 funext i
 simp[ent,Option.map_map,Function.comp_def]
theorem yU(ts:List (κ×Value×Nat))(k:κ):mAt (ts.map fun t=>(t.1,t.2.1)) k=ts.findIdx? fun t=>decide (k=t.1):=by
 unfold mAt;rw[List.findIdx?_map];rfl
theorem ajG(ts:List (κ×Value×Nat))(k:κ):ac2 (ts.map fun t=>(t.1,t.2.1)) k=((ts.findIdx? fun t=>decide (k=t.1)).bind fun i=>(ts[i]?).map fun t=>(i,t.2.1)).map (·.2):=by simp_all [yU,Option.map_map,Function.comp_def,ac2]
theorem vK{u0 u w:World}{r:Nat}{es es':Array MapEntry}{c c':Nat}(hu:Sub u w)(hg:u.heap[r]? =some (.map es c))(hf:Fresh u0 r):
  Step false u0 u w (learn u r (.map es' c')) { w with heap:=w.heap.setIfInBounds r (.map es' c') }:=by
 have hgw:=hu r _ hg cM;have hlt:=ba hgw;have hn: ¬Fresh u r:=fun h=>cM (h _ hg)
 refine⟨?_,fun b o h=>?_,fun b _ hb hfb=>?_,⟨by simp,rfl,rfl⟩⟩
 ·intro b o h ho
  by_cases hb:b=r
  ·subst hb;rw[bL]at h;cases h;simp[hlt]
  ·simp only[Array.getElem?_setIfInBounds_ne (Ne.symm hb)];exact hu b o ((fR hb ho).1 h) ho
 ·by_cases hb:b=r
  ·subst hb;exact .inr ⟨rfl,hn,hf⟩
  ·exact .inl (by simp only[Array.getElem?_setIfInBounds_ne (Ne.symm hb)];exact h)
 ·by_cases hbg:b=r
  ·subst hbg;exact hn hfb
  ·exact hb (cP hbg hfb)
def SubR(r:Nat)(u u':World):Prop:= ∀(b:Nat) (o:Obj),b≠r->u.heap[b]? =some o->o≠i5->u'.heap[b]? =some o
theorem SubR.sub{u':World}(h0:Sub u0 u)(h:SubR r u u')(hf:Fresh u0 r):Sub u0 u':=fun b o hb ho=>by
 refine h b o (fun e=>?_) (h0 b o hb ho) ho
 subst e;exact ho (hf o hb)
theorem qq{o:Obj}:SubR r u (learn u r o):=fun b o' hb h hn=>(fR hb hn).2 h
theorem ag4{x:Bool}{Ke:Value->World->Prop}(hK: ∀r u',MapIs u' kv r []->Sub u u'->Fresh u r->Fresh u0 r->Ke (.map (some r)) u'):AtEff x P (xM T none) u0 u Ke:=by
 intro w hu h0;exact⟨.map (some w.heap.size),{ w with heap:=w.heap.push (.map #[] 0) },_,by simp[xM,Instr.makeMap],iD hu rfl,hK _ _ ⟨[],⟨⟨0,bL _ _ _,by simp⟩,by simp,by simp⟩,rfl⟩ (dR (aO hu (Nat.le_refl _))) (aO hu (Nat.le_refl _)) (aO h0 (Nat.le_refl _))⟩
theorem aa1(hk:ahR P K kv)(hT:P.underlying T=some (.map K E))(h:MapIs u kv r es){z:Value}(hz: ∀w,(zeroValue E).run P w= .ok z w){k:κ}{Kv:Value->Prop}
  (hK:Kv (.tuple #[(ac2 es k).getD z,.bool (ac2 es k).isSome])):AtRead P (o5 T (.map (some r)) (kv k) true) u Kv:=by
 obtain⟨ts,⟨⟨clock,h1,h2⟩,_,_⟩,rfl⟩:=h;refine⟨_,fun w hu=>?_,hK⟩
 have hw:=hu _ _ h1 cM;have hf:=vz hk k ts w;rw[ajG];simp only[o5,Instr.lookup,Sem.run_bind,run_underlying hT,Result.andThen_ok,getObj,Sem.run,hw,Sem.run_pure,hk.chk,List.toList_toArray,hf];generalize (ts.findIdx? fun t=>decide (k=t.1)).bind (fun i=>(ts[i]?).map fun t=>(i,t.2.1))=q
 cases q with
 |none=>simp[hz]
 |some q=>simp
theorem qk{α β:Type}{l:List α}{i:Nat}{x y:α}{f:α->β}(hx:l[i]? =some x)(h:f y=f x):(l.set i y).map f=l.map f:=by
 rw[List.map_set,h];apply List.ext_getElem?;intro j;rw[List.getElem?_set];split
 ·rename_i e;subst e;split
  ·simp[hx]
  ·rename_i hn;simp at hn;simp[List.getElem?_eq_none hn]
 ·rfl
theorem aaN{α:Type}(l:List α)(i:Nat)(x:α)(f:α->α)(hx:l[i]? =some x):l.modify i f=l.set i (f x):=by
 apply List.ext_getElem?;intro j;rw[List.getElem?_modify,List.getElem?_set];split
 ·rename_i e;subst e;have hlt:i<l.length:=by rcases Nat.lt_or_ge i l.length with h|h;exact h;simp[List.getElem?_eq_none h]at hx
  have hxx:l[i]=x:=by simpa[hlt]using hx
  simp[hlt,hxx]
 ·simp
theorem MapT.set_{ts:List (κ×Value×Nat)}{i:Nat}{k:κ}{v0 v:Value}{b clock:Nat}(hi:ts[i]? =some (k,v0,b))(hkeys:(ts.map (·.1)).Nodup)(hborns:(ts.map (·.2.2)).Nodup)(hlt: ∀t∈ts,t.2.2<clock){u':World}
  (h:u'.heap[r]? =some (.map ((ts.set i (k,v,b)).map (ent kv)).toArray clock)):MapT u' kv r (ts.set i (k,v,b)):=by
 refine⟨⟨clock,h,fun t ht=>?_⟩,?_,?_⟩
 ·rcases List.mem_or_eq_of_mem_set ht with ht|rfl
  ·exact hlt t ht
  ·have h5:(k,v0,b).2.2<clock:=hlt _ (List.mem_of_getElem? hi);exact h5
 ·rw[qk hi];exact hkeys;rfl
 ·rw[qk hi];exact hborns;rfl
theorem MapT.snoc_{ts:List (κ×Value×Nat)}{k:κ}{v:Value}{clock:Nat}(hno:ts.findIdx? (fun t=>decide (k=t.1))=none)(hkeys:(ts.map (·.1)).Nodup)(hborns:(ts.map (·.2.2)).Nodup)(hlt: ∀t∈ts,t.2.2<clock){u':World}
  (h:u'.heap[r]? =some (.map ((ts++[(k,v,clock)]).map (ent kv)).toArray (clock+1))):MapT u' kv r (ts++[(k,v,clock)]):=by
 have hno': ∀t∈ts, ¬k=t.1:=fun t ht=>by simpa using List.findIdx?_eq_none_iff.1 hno t ht
 refine⟨⟨clock+1,h,fun t ht=>?_⟩,?_,?_⟩
 ·rcases List.mem_append.1 ht with ht|ht
  ·have:=hlt t ht;omega
  ·simp at ht;subst ht;simp
 ·rw[List.map_append,List.nodup_append];refine⟨hkeys,by simp,?_⟩
  intro a ha b hb e;simp at hb;subst hb;obtain⟨x,hx,rfl⟩:=List.mem_map.1 ha;exact hno' x hx e.symm
 ·rw[List.map_append,List.nodup_append];refine⟨hborns,by simp,?_⟩
  intro a ha b hb e;simp at hb;subst hb;obtain⟨x,hx,rfl⟩:=List.mem_map.1 ha;have:=hlt x hx;omega
theorem amJ{ts:List (κ×Value×Nat)}{k:κ}{i:Nat}(h:ts.findIdx? (fun t=>decide (k=t.1))=some i): ∃v b,ts[i]? =some (k,v,b):=by grind [List.findIdx?_eq_some_iff_getElem,List.getElem?_eq_getElem]
theorem map_set(hk:ahR P K kv)(hT:P.underlying T=some (.map K E))(h:MapIs u kv r es)(hf0:Fresh u0 r){k:κ}{v:Value}{Kw:World->Prop}
  (hK: ∀u',MapIs u' kv r (ak_ es k v)->SubR r u u'->Kw u'):AtDo false P (qD T (.map (some r)) (kv k) v) u0 u Kw:=by
 obtain⟨ts,⟨⟨clock,h1,h2⟩,h3,h4⟩,rfl⟩:=h;intro w hu h0;have hw:=hu _ _ h1 cM;have hf:=vz hk k ts w;cases hfi:ts.findIdx? fun t=>decide (k=t.1)with
 |none=>
  rw[hfi]at hf;refine⟨_,_,?_,vK (es':=(ts.map (ent kv)).toArray.push { key:=kv k,val:=v,born:=clock }) (c':=clock+1) hu h1 hf0,hK _ ⟨ts++[(k,v,clock)],MapT.snoc_ hfi h3 h4 h2 ?_,?_⟩ qq⟩
  ·simp[qD,Instr.mapUpdate,run_underlying hT,getObj,Sem.run,hw,hk.chk,hf,setObj]
  ·rw[bL];simp[ent]
  ·simp[ak_,yU,hfi]
 | some i=>
  rw[hfi]at hf;obtain⟨v0,b0,hi⟩:=amJ hfi;have hie:i<ts.length:=by rcases Nat.lt_or_ge i ts.length with h|h;exact h;simp[List.getElem?_eq_none h]at hi
  refine⟨_,_,?_,vK (es':=((ts.set i (k,v,b0)).map (ent kv)).toArray) (c':=clock) hu h1 hf0,hK _ ⟨ts.set i (k,v,b0),MapT.set_ hi h3 h4 h2 (bL _ _ _),?_⟩ qq⟩
  ·simp[qD,Instr.mapUpdate,run_underlying hT,getObj,Sem.run,hw,hk.chk,hf,hi,setObj,Instr.keyThatStays,ent,hk.bits];rw[aaN _ _ (ent kv (k,v0,b0)) _ (by simp[hi])]
   rfl
  ·simp[ak_,yU,hfi,List.map_set]
def MapE(u:World)(kv:κ->Value)(r:Nat)(es:List (κ×Value))(k:κ)(v:Value)(b:Nat):Prop:= ∃(ts:List (κ×Value×Nat)) (i:Nat),MapT u kv r ts/\es=(ts.map fun t=>(t.1,t.2.1))/\ts[i]? =some (k,v,b)
theorem MapE.is{k:κ}{v:Value}{b:Nat}(h:MapE u kv r es k v b):MapIs u kv r es:=by
 obtain⟨ts,i,h1,h2,_⟩:=h;exact⟨ts,h1,h2⟩
end
abbrev NEP(p q:Option Addr):Prop:= ∀a b,p=some a->q=some b->a.block≠b.block
theorem SubX.tr{p:Option Addr}{u v w:World}(h1:SubX p u v)(h2:SubX p v w):SubX p u w:=fun b o hb h hn=>h2 b o hb (h1 b o hb h hn) hn
structure Part where
 T:TypeId
 sz:Nat
 p:Option Addr
 n:Nat
 c:Nat
 xs:List (List Value)
def There(u:World)(ps:List Part):Prop:= ∀s∈ps,Sl u s.sz s.p s.n s.c s.xs
def Owned(u0 u:World)(ps:List Part):Prop:= ∀s∈ps,Own u0 u s.T s.sz s.p s.n s.c s.xs
def Away(q:Option Addr)(ps:List Part):Prop:= ∀s∈ps,NEP s.p q
section
variable {u0 u u':World} {ps qs:List Part} {q:Option Addr}
theorem Owned.there(h:Owned u0 u ps):There u ps:=fun s hx=>(h s hx).sl
theorem There.nil:There u []:=fun s hs=>by cases hs
theorem Owned.nil:Owned u0 u []:=fun s hs=>by cases hs
theorem There.append(h:There u ps)(h':There u qs):There u (ps++qs):=fun s hs=>(List.mem_append.1 hs).elim (h s) (h' s)
theorem Owned.append(h:Owned u0 u ps)(h':Owned u0 u qs):Owned u0 u (ps++qs):=fun s hs=>(List.mem_append.1 hs).elim (h s) (h' s)
theorem Away.append(h:Away q ps)(h':Away q qs):Away q (ps++qs):=fun s hs=>(List.mem_append.1 hs).elim (h s) (h' s)
theorem Away.none:Away none ps:=fun s hs a b _ hb=>by cases hb
end
structure Kind(α:Type) where
 T:TypeId
 sz:Nat
 enc:α->List Value
 parts:α->List Part
section
variable {α:Type} (κ:Kind α)
structure EL(u:World)(p:Option Addr)(n c:Nat)(l:List α):Prop where
 sl:Sl u κ.sz p n c (l.map κ.enc)
 fl: ∀x∈l,There u (κ.parts x)
structure EO(u0 u:World)(p:Option Addr)(n c:Nat)(l:List α):Prop where
 own:Own u0 u κ.T κ.sz p n c (l.map κ.enc)
 fl: ∀x∈l,Owned u0 u (κ.parts x)
 ne: ∀x∈l,Away p (κ.parts x)
end
section
variable {α:Type} {κ:Kind α} {u0 u u':World} {p:Option Addr} {n c:Nat} {l:List α}
theorem EO.el(h:EO κ u0 u p n c l):EL κ u p n c l:=⟨h.own.sl,fun x hx=>(h.fl x hx).there⟩
theorem EL.len(h:EL κ u p n c l):l.length=n:=by simpa using h.sl.len
theorem EO.len(h:EO κ u0 u p n c l):l.length=n:=by simpa using h.own.len
theorem EL.at_{k:Nat}{x:α}(h:EL κ u p n c l)(hx:l[k]? =some x):There u (κ.parts x):=h.fl x (List.mem_of_getElem? hx)
end
def akp(b:UInt8):List Value:=[.int .u8 b.toNat]
def n5(l:List UInt8):ByteArray:=⟨l.toArray⟩
section
variable {P:Program} {TS TE TD:TypeId} {u0 u:World} {p:Option Addr} {n c:Nat} {bs:List UInt8}
theorem ag5(hs:P.underlying TS=some (.slice TE))(he:P.underlying TE=some (.int .u8))(hd:P.underlying TD=some .string)(h:Sl u 1 p n c (bs.map akp)){K:Value->Prop}(hK:K (.string (n5 bs))):AtRead P (dO TS TD (.slice p n c)) u K:=by
 have hlen:bs.length=n:=by simpa using h.len
 refine⟨_,fun w hu=>?_,hK⟩
 unfold dO;cases p with
 |none=>
  obtain⟨rfl,rfl⟩:=h.nil rfl;have:bs=[]:=List.eq_nil_of_length_eq_zero hlen;subst this;rw[run_convert_bytes_string w TS TD TE none 0 0 hs he hd];simp[Conv.bytesToString,n5];rfl
 |some a=>
  subst hlen;refine run_convert_bytes_back w TS TD TE a c bs hs he hd (fun j hj=>?_)
  have hx:(bs.map akp)[j]? =some (akp bs[j]):=by simp[hj]
  obtain⟨a',len',cap',e1,e2,e3⟩:=(h.mono hu).elt hx;cases e1;have:=e3 0 (.int .u8 bs[j].toNat) rfl;simp only[Int.toNat_natCast,Nat.mul_one]at this;rw[Addr.add_zero']at this;exact this
theorem wO{h:Array Obj}{g:Nat}{o:Obj}{f:Obj->Obj}(hg:h[g]? =some o):h.modify g f=h.setIfInBounds g (f o):=by grind
theorem aez{w:World}{g:Nat}{cur cur':Array Value}{e e':TypeId}{fr fr':Nat×Nat}(hu:Sub u w)(hg:u.heap[g]? =some (.cells cur e fr))(hf:Fresh u0 g):
  Step false u0 u w (learn u g (.cells cur' e' fr')) { w with heap:=w.heap.setIfInBounds g (.cells cur' e' fr') }:=by
 have hgw:=hu g _ hg ax;have hlt:=ba hgw;have hn: ¬Fresh u g:=fun h=>ax (h _ hg)
 refine⟨?_,fun b o h=>?_,fun b _ hb hfb=>?_,⟨by simp,rfl,rfl⟩⟩
 ·intro b o h ho
  by_cases hb:b=g
  ·subst hb;rw[bL]at h;cases h;simp[hlt]
  ·simp only[Array.getElem?_setIfInBounds_ne (Ne.symm hb)];exact hu b o ((fR hb ho).1 h) ho
 ·by_cases hb:b=g
  ·subst hb;exact .inr ⟨rfl,hn,hf⟩
  ·exact .inl (by simp only[Array.getElem?_setIfInBounds_ne (Ne.symm hb)];exact h)
 ·by_cases hbg:b=g
  ·subst hbg;exact hn hfb
  ·exact hb (cP hbg hfb)
theorem aeu{T e:TypeId}{xs:List (List Value)}(hT:P.underlying T=some (.slice e))(he:P.underlying e=some (.int .u8))(ho:Own u0 u e 1 p n c xs)(hn:0<n){K:Value->World->Prop}
  (hK: ∀u',Sl u' 1 p n c xs->SubX p u u'->K (.slice p n c) u'):AtEff false P (dO T T (.slice p n c)) u0 u K:=by
 rcases ho.at_ with ⟨_,hn0,_⟩|⟨g,cur,rfl,hg,h1,h2,h3,h4,h5⟩
 ·omega
 intro w hu h0;have hgw:=hu g _ hg ax;have hsh:w.shape? g=some (e,cur.size):=by unfold World.shape?;rw[hgw]
 refine⟨_,_,_,?_,aez (cur':=cur) (e':=e) (fr':=(cur.size,cur.size+1)) hu hg h5,hK _ ?_ (fu rfl)⟩
 ·unfold dO;simp[convert,run_underlying hT,run_underlying he,markStringish,hsh];unfold World.freeze;rw[if_neg (by decide)]
  simp only;rw[wO hgw];rfl
 ·have hs:=ho.sl;refine⟨hs.len,hs.cap,hs.each,(fun h=>by cases h),fun a ha=>?_⟩
  cases ha;refine⟨(hs.at_ _ rfl).1,fun i y hy j v hv=>?_⟩
  have hc:=(hs.at_ _ rfl).2 i y hy j v hv;obtain⟨cc,tt,ff,h6,h7⟩:=fx hc;simp only at h6 h7;rw[hg]at h6;cases h6;exact fm (bL _ _ _) h7.2
end
theorem xL(a b:List UInt8):((n5 a).toList==(n5 b).toList)=decide (a=b):=by
 unfold n5;rw[ByteArray.toList_mk,ByteArray.toList_mk,Bool.eq_iff_iff];simp
theorem yt{P:Program}{T:TypeId}(hT:P.underlying T=some .string){y z:Operand}{a b:List UInt8}{K:Value->Prop}:AtPure P (bm .eql T y z (.string (n5 a)) (.string (n5 b))) K=K (.bool (decide (a=b))):=
 aA fun w=>by
  rw[<-xL];simp only[bm,eqGuard,Sem.run_bind,Sem.run_pure,Result.andThen_ok,Bool.not_true,Bool.false_eq_true,if_false]
  go_simp
theorem z5{P:Program}{T:TypeId}(hT:P.underlying T=some .string){y z:Operand}{a b:List UInt8}{K:Value->Prop}:AtPure P (bm .neq T y z (.string (n5 a)) (.string (n5 b))) K=K (.bool (!decide (a=b))):=
 aA fun w=>by
  rw[<-xL];simp only[bm,eqGuard,Sem.run_bind,Sem.run_pure,Result.andThen_ok,Bool.not_true,Bool.false_eq_true,if_false]
  go_simp
