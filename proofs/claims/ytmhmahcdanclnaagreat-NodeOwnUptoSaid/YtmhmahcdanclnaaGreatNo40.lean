import Derived.Test.YtmhmahcdanclnaaGreatNo39
set_option linter.unusedSectionVars false
set_option linter.unusedSimpArgs false
set_option linter.unusedVariables false
set_option maxRecDepth 10000
namespace Go.Proofs.YtmhmahcdanclnaaGreat.V
open Go.Eng
section
variable {c:ar} {p q:af} {m:aK} {dr:List UInt32} {b:d7} {e:GEvt} {x:GID} {o:iX} {l:List GAsk} {k:Int}
theorem Ew.pulls(h:Ew c p k){l:List GAsk}(g:Pk c l):Ew c { p with pulls:=l } k:=⟨h.bf,g,h.rows,h.seq,h.down,h.passed,h.evicted,h.collected⟩
theorem ajh(h:Ew c p k):Ew c (bC p x) (k+1):=by
 unfold bC;split
 ·exact h.more (by omega)
 ·split
  ·exact⟨ahw h.bf,h.pk,h.rows,h.seq,h.down,⟨h.passed.1,by have:=h.passed.2;show p.passed<=_;omega⟩,⟨h.evicted.1,by have:=h.evicted.2;show p.evicted<=_;omega⟩,by
    have:=h.collected;show 0<=p.collected+1/\p.collected+1<=k+1
    omega⟩
  ·exact h.more (by omega)
theorem sL: ∀(l:List GID) (p:af) (k:Int),Ew c p k->Ew c (l.foldl bC p) (k+l.length)
 |[],p,k,h=>h.more (by simp)
 |x::l,p,k,h=>(sL l _ _ (ajh (x:=x) h)).more (by rw[List.length_cons];omega)
theorem ao9(hb:c.buffer<=64)(h:Ew c p k):Ew c (eu c p dr).1 (k+64):=by
 unfold eu;split
 ·exact h.more (by omega)
 ·have h1:Ew c (gn { p with pulls:=Eng.pTick p.pulls }) (k+(eIds p.buf.evs).length):=sL _ _ _ (h.pulls (afT h.pk))
  have hl:((eIds p.buf.evs).length:Int)<=64:=by
   rw[eIds,List.length_map];have:=h.bf.len;omega
  have h3:=(h1.more (show _<=k+64 by omega)).ev (qz (c:=c) (dr:=dr) (aQ (ez c (aB c (ct c (gn { p with pulls:=Eng.pTick p.pulls })) []) dr).1))
  exact⟨h3.bf,h3.pk,h3.rows,h3.seq,h3.down,h3.passed,h3.evicted,h3.collected⟩
theorem afQ{o:UInt8}: ∀(l:List GID) (s:List GAsk×List GID),Pk c s.1->Pk c (l.foldl (tz c o) s).1
 |[],s,h=>h
 | x::l,s,h=>by
  rw[List.foldl_cons];refine afQ l _ ?_;unfold tz;split
  ·exact h
  ·split
   ·exact arv h _
   ·exact h
theorem aaB(h:Ew c p k):Ew c (bB c p m).1 k:=by
 unfold bB;split
 ·exact h
 ·split
  ·exact h
  ·split
   ·exact h
   ·split
    ·exact h
    ·have h1:=h.ev (cF (c:=c) m.origin.node m.origin.inc);exact⟨h1.bf,afQ _ _ h1.pk,h1.rows,h1.seq,h1.down,h1.passed,h1.evicted,h1.collected⟩
theorem aou(hw:1<=c.window/\c.window<=64)(h:Ew c p k):Ew c (bN c p m dr).1 (k+1):=by
 have hk:k<=k+1:=by omega
 unfold bN;split
 ·exact(h.ev ev_take).more hk
 split
 ·exact h.more hk
 split
 ·exact(h.ev (cF _ _)).more hk
 simp only;have k1:=h.ev ((cF (c:=c) (p:=p) m.frm m.inc).trans (bT (c:=c) []));generalize aB c (aw c p m.frm m.inc).1 []=q at k1;split
 ·rw[kA];exact(lK hw k1).ev (bT [])
 split
 ·exact(k1.ev (bT [])).more hk
 ·exact((aaB k1).ev (bT [])).more hk
theorem wM(hb:0<=c.buffer)(hp:0<=c.pulls)(hw:1<=c.window/\c.window<=64)(nd:UInt8)(inc:UInt16)(up:Bool)(t:List au)(hk:0<=k):Ew c { bF c nd with inc:=inc,up:=up,table:=t } k:=by
 refine⟨⟨rfl,by simpa[bF]using hb,List.Pairwise.nil,by simp[bF]⟩,⟨by simpa[bF]using hp,List.Pairwise.nil,by simp[bF]⟩,fun r hr=>?_,?_,fun _=>rfl,?_,?_,?_⟩
 ·have hr:r∈(bF c nd).rows:=hr;unfold bF at hr;rw[(List.mem_replicate.1 hr).2];exact(iI hw).2 (.inl ⟨rfl,rfl⟩)
 ·exact Nat.zero_le _
 ·exact⟨Int.le_refl 0,hk⟩
 ·exact⟨Int.le_refl 0,hk⟩
 ·exact⟨Int.le_refl 0,hk⟩
theorem aeS(hb:0<=c.buffer/\c.buffer<=64)(hp:0<=c.pulls)(hw:1<=c.window/\c.window<=64)(hn:(p.node.toNat:Int)<c.nodes)(hk:0<=k)(h:Ew c p k):Ew c (cS c p o).1 (k+64):=by
 have hd:Ew c (jZ c p) (k+64):=wM hb.1 hp hw p.node p.inc false _ (by omega)
 have h0:=h.more (show k<=k+64 by omega)
 unfold cS;split
 ·unfold bE;split
  ·exact h0
  ·split
   ·exact h0
   ·exact wM hb.1 hp hw p.node _ true _ (by omega)
 split
 ·exact hd
 split
 ·simp only;split
  ·exact h0
  ·split
   ·exact⟨h0.bf,h0.pk,h0.rows,h0.seq,h0.down,h0.passed,h0.evicted,h0.collected⟩
   ·exact h0
 split
 ·simp only;split
  ·exact h0
  ·exact hd
 split
 ·exact(adz hn hw h).more (by omega)
 split
 ·exact ao9 hb.2 h
 split
 ·exact(lK hw h).more (by omega)
 ·exact(aou hw h).more (by omega)
end
section
variable {c:ar} {p q:af} {m:aK} {dr:List UInt32} {b:d7} {e:GEvt} {x y:GID} {o:iX}
theorem aoW(h:cG b.evs y=true):cG (dk b e).1.evs y=true:=by grind [dm,fD,iw]
theorem s_(h:cG p.buf.evs y=true):cG (aI c p e).1.buf.evs y=true:=by grind [aI,gJ,nc,aoW,jM]
theorem ahz(h:cG p.buf.evs y=true):cG (bB c p m).1.buf.evs y=true:=by
 unfold bB;split
 ·exact h
 ·split
  ·exact h
  ·split
   ·exact h
   ·split
    ·exact h
    ·show cG (aw c p m.origin.node m.origin.inc).1.buf.evs y=true;rw[(cF (c:=c) (p:=p) m.origin.node m.origin.inc).buf];exact h
theorem amK(h:cG p.buf.evs y=true):cG (bN c p m dr).1.buf.evs y=true:=by
 unfold bN;split
 ·show cG (gH dr c p m).1.buf.evs y=true;rw[ev_take.buf];exact h
 split
 ·exact h
 split
 ·show cG (aw c p m.frm m.inc).1.buf.evs y=true;rw[(cF (c:=c) (p:=p) m.frm m.inc).buf];exact h
 simp only
 have k1:cG (aB c (aw c p m.frm m.inc).1 []).buf.evs y=true:=by
  rw[((cF (c:=c) (p:=p) m.frm m.inc).trans (bT (c:=c) [])).buf];exact h
 generalize aB c (aw c p m.frm m.inc).1 []=q at k1;split
 ·rw[kA];show cG (aI c q m.ev).1.buf.evs y=true;exact s_ k1
 split
 ·exact k1
 ·show cG (bB c q m).1.buf.evs y=true;exact ahz k1
structure St1(p q:af):Prop where
 reports:q.reports=p.reports
 table:q.table=p.table
 node:q.node=p.node
 rows:q.rows=p.rows
theorem aku:St1 p (bC p x):=by
 unfold bC;split
 ·exact⟨rfl,rfl,rfl,rfl⟩
 ·split<;>exact⟨rfl,rfl,rfl,rfl⟩
theorem agl(h:cG p.buf.evs y=true):cG (bC p x).buf.evs y=true\/cm p.reports p.table p.node p.rows y=true:=by
 unfold bC;cases hs:cm p.reports p.table p.node p.rows x with
 |false=>exact .inl h
 | true=>
  rw[if_neg (by decide)]
  by_cases hxy:y=x
  ·subst hxy;exact .inr hs
  ·refine .inl ?_;split
   ·show cG (bY p.buf x).1.evs y=true;unfold bY;split
    ·exact h
    ·rename_i i hi;obtain⟨a,ha,h2⟩:=fD.1 h;refine fD.2 ⟨a,?_,h2⟩;obtain⟨hil,hie,_⟩:=List.findIdx?_eq_some_iff_getElem.1 hi;have hie:p.buf.evs[i].id=x:=by simpa using hie
     obtain⟨j,hj,hja⟩:=List.mem_iff_getElem.1 ha;refine List.mem_eraseIdx_iff_getElem.2 ⟨j,hj,fun e0=>?_,hja⟩
     subst e0;exact hxy (by rw[<-h2, <-hja];exact hie)
   ·exact h
theorem wD: ∀(l:List GID) (p:af),cG p.buf.evs y=true->cG (l.foldl bC p).buf.evs y=true\/cm p.reports p.table p.node p.rows y=true
 |[],p,h=>.inl h
 |x::l,p,h=>by
  rw[List.foldl_cons];have hs:=aku (p:=p) (x:=x);rcases agl (x:=x) h with h|h
  ·have:=wD l (bC p x) h;rw[hs.reports,hs.table,hs.node,hs.rows]at this;exact this
  ·exact .inr h
theorem alo(h:cG p.buf.evs y=true):cG (eu c p dr).1.buf.evs y=true\/cm p.reports p.table p.node p.rows y=true:=by
 unfold eu;split
 ·exact .inl h
 ·have h1:=wD (eIds p.buf.evs) { p with pulls:=Eng.pTick p.pulls } h;refine h1.imp (fun h1=>?_) fun h=>h
  have h2:=(qz (c:=c) (p:=gn { p with pulls:=Eng.pTick p.pulls }) (dr:=dr) (aQ (ez c (aB c (ct c (gn { p with pulls:=Eng.pTick p.pulls })) []) dr).1)).buf;show cG (V.pTick c _ dr _).1.buf.evs y=true;rw[h2];exact h1
theorem ky(b:d7)(n:UInt8)(i:UInt16):(bK b n i=(b,⟨0,0,0⟩,52)/\ ∀e∈b.evs,e.id.node=n/\e.id.inc=i)\/
  ∃j, ∃hj:j<b.evs.length,bK b n i=(⟨b.room,b.evs.eraseIdx j⟩,b.evs[j].id,0)/\ ¬(b.evs[j].id.node=n/\b.evs[j].id.inc=i):=by
 unfold bK;cases h:lh b.evs (zG n i)with
 |none=>
  refine .inl ⟨rfl,fun e he=>?_⟩
  unfold lh at h;have:=List.findIdx?_eq_none_iff.1 h e he;simp only[zG,Bool.or_eq_false_iff,Bool.not_eq_false',decide_eq_true_eq]at this;exact this
 |some j=>
  unfold lh at h;obtain⟨hj,hne,_⟩:=List.findIdx?_eq_some_iff_getElem.1 h;refine .inr ⟨j,hj,?_,fun hc=>?_⟩
  ·simp only[List.getElem?_eq_getElem hj]
  ·simp[zG,hc.1,hc.2]at hne
theorem agW{l:List GEvt}(hu:Up qn l){j:Nat}(hj:j<l.length){a:GEvt}(ha:a∈l):cG (l.eraseIdx j) a.id=true↔a≠l[j]:=by
 rw[fD];constructor
 ·rintro⟨b,hb,hba⟩ e0
  obtain⟨i,hi,hne,hib⟩:=List.mem_eraseIdx_iff_getElem.1 hb;have hp:=List.pairwise_iff_getElem.1 hu;have hk:qn l[i]=qn l[j]:=by rw[hib];show b.id.key=_;rw[hba,e0]
  rcases Nat.lt_trichotomy i j with g|g|g
  ·have:=hp i j hi hj g;omega
  ·exact hne g
  ·have:=hp j i hj hi g;omega
 ·intro hne;obtain⟨i,hi,hia⟩:=List.mem_iff_getElem.1 ha;exact⟨a,List.mem_eraseIdx_iff_getElem.2 ⟨i,hi,fun e0=>by subst e0;exact hne hia.symm,hia⟩,rfl⟩
theorem afe(h:(dk b e).2=0):cG (dk b e).1.evs y=true↔y=e.id\/cG b.evs y=true:=by grind [dm,fD,iw]
theorem zr{vals:List Int}{data:List UInt8}(hu:Up qn p.buf.evs)(h:(aD c p vals data dr).2.2.2.2=0):
  ((aD c p vals data dr).1.evicted=p.evicted/\ ∀a∈p.buf.evs,cG (aD c p vals data dr).1.buf.evs a.id=true)\/
  ((aD c p vals data dr).1.evicted=p.evicted+1/\ ∃j, ∃hj:j<p.buf.evs.length, ¬(p.buf.evs[j].id.node=p.node/\p.buf.evs[j].id.inc=p.inc)/\
   ∀a∈p.buf.evs,cG (aD c p vals data dr).1.buf.evs a.id=true↔a≠p.buf.evs[j]):=by
 rcases cQ (c:=c) (p:=p) (vals:=vals) (data:=data) (dr:=dr)with ⟨k,hk,e1⟩|⟨h1,h2,h3,h4,h5,e1⟩
 ·rw[e1]at h;exact absurd h hk
 ·rw [e1]
  by_cases hf:decide (p.buf.room<=(p.buf.evs.length:Int))=true
  ·simp only[if_pos hf]at h5 ⊢;right;rcases ky p.buf p.node p.inc with ⟨e2,_⟩|⟨j,hj,e2,e3⟩
   ·have:=h4 hf;rw[e2]at this;cases this
   ·rw[e2]at h5 ⊢;refine⟨rfl,j,hj,e3,fun a ha=>?_⟩
    show cG (dk _ _).1.evs a.id=true↔_;rw[afe h5,agW hu hj ha];constructor
    ·rintro(e4|e4)
     ·intro e5;rw[e5]at e4;exact e3 ⟨by rw[e4];rfl,by rw[e4];rfl⟩
     ·exact e4
    ·exact .inr
  ·simp only[if_neg hf]at h5 ⊢;left;refine⟨rfl,fun a ha=>?_⟩
   show cG (dk _ _).1.evs a.id=true;exact(afe h5).2 (.inr (fD.2 ⟨a,ha,rfl⟩))
end
section
variable {c:ar} {p q:af} {dr:List UInt32} {e:GEvt} {x y:GID} {vals:List Int} {data:List UInt8}
theorem iO:(aD c p vals data dr).2.2.2.2=if p.up=false then 53 else if bZ c.schema (da p vals data)=false then 51 else if c.last.toNat<=p.seq.toNat then 55
  else if decide (p.buf.room<=(p.buf.evs.length:Int))=true/\(bK p.buf p.node p.inc).2.2≠0 then (bK p.buf p.node p.inc).2.2
  else (dk (if decide (p.buf.room<=(p.buf.evs.length:Int))=true then (bK p.buf p.node p.inc).1 else p.buf) (da p vals data)).2:=by grind [aD,da,bZ,vals,bK,dk]
def Ownb(p:af):Prop:= ∀e∈p.buf.evs,e.id.node=p.node->e.id.inc.toNat<p.inc.toNat\/(e.id.inc=p.inc/\e.id.seq.toNat<=p.seq.toNat)
theorem alj(hB:Bf c p.buf)(hO:Ownb p)(hs:p.seq.toNat<c.last.toNat)(hu:p.up=true)(hv:bZ c.schema (da p vals data)=true):
  (aD c p vals data dr).2.2.2.2=52↔(p.buf.evs.length:Int)=c.buffer/\ ∀e∈p.buf.evs,e.id.node=p.node/\e.id.inc=p.inc:=by
 have hl:=c.last.toNat_lt
 have hse:(p.seq+1).toNat=p.seq.toNat+1:=by
  rw[UInt32.toNat_add];show(p.seq.toNat+1) % _=_;omega
 have hnew:cG p.buf.evs (da p vals data).id=false:=by
  cases h:cG p.buf.evs (da p vals data).id with
  |false=>rfl
  | true=>
   obtain⟨a,ha,h2⟩:=fD.1 h;rcases hO a ha (by rw[h2];rfl)with g|g
   ·rw[h2]at g;exact absurd g (Nat.lt_irrefl _)
   ·have:=g.2;rw[h2,show(da p vals data).id.seq=p.seq+1 from rfl]at this
    omega
 rw[iO,if_neg (by rw[hu];decide),if_neg (by rw[hv];decide),if_neg (by omega)]
 have hr:=hB.room;have hlen:=hB.len
 by_cases hf:decide (p.buf.room<=(p.buf.evs.length:Int))=true
 ·have hf':=of_decide_eq_true hf;rw[if_pos hf];rcases ky p.buf p.node p.inc with ⟨e2,e3⟩|⟨j,hj,e2,e3⟩
  ·rw[if_pos ⟨hf,by rw[e2];simp⟩,e2]
   exact⟨fun _=>⟨by omega,e3⟩,fun _=>rfl⟩
  ·rw[if_neg (by rw[e2];simp),e2]
   constructor
   ·intro h;exfalso;rcases dm ⟨p.buf.room,p.buf.evs.eraseIdx j⟩ (da p vals data)with ⟨e4,e5⟩|⟨e4,e5,e6⟩|⟨e4,e5,e6⟩
    ·rw[e4]at h;cases h
    ·have e6:p.buf.room<=((p.buf.evs.eraseIdx j).length:Int):=e6;rw[List.length_eraseIdx,if_pos hj]at e6;omega
    ·rw[e4]at h;cases h
   ·rintro⟨_,h⟩
    exact absurd (h _ (List.getElem_mem hj)) e3
 ·have hf': ¬p.buf.room<=(p.buf.evs.length:Int):=fun h=>hf (decide_eq_true h)
  rw[if_neg hf,if_neg (fun h=>hf h.1)]
  constructor
  ·intro h;exfalso;rcases dm p.buf (da p vals data)with ⟨e4,e5⟩|⟨e4,e5,e6⟩|⟨e4,e5,e6⟩
   ·rw[e4]at h;cases h
   ·exact hf' e6
   ·rw[e4]at h;cases h
  ·rintro⟨h,_⟩
   omega
theorem xJ{b:d7}{a:GEvt}(h:a∈(dk b e).1.evs):a=e\/a∈b.evs:=by grind [dm,iw]
theorem aiT{b:d7}{a:GEvt}{n:UInt8}{i:UInt16}(h:a∈(bK b n i).1.evs):a∈b.evs:=by grind [ky,List.eraseIdx_sublist]
theorem adg{b:d7}{a:GEvt}(h:a∈(bY b x).1.evs):a∈b.evs:=by grind [bY,List.eraseIdx_sublist]
theorem Ownb.sub(h:Ownb p)(hs: ∀a∈q.buf.evs,a∈p.buf.evs)(h1:q.node=p.node)(h2:q.inc=p.inc)(h3:q.seq=p.seq):Ownb q:=fun a ha hn=>by
 rw[h2,h3];exact h a (hs a ha) (hn.trans h1)
theorem Ownb.ev(h:Ownb p)(g:Ev1 p q):Ownb q:=h.sub (by rw[g.buf];exact fun _ h=>h) g.node g.inc g.seq
theorem qb(h:Ownb p):Ownb (aI c p e).1:=by
 by_cases ha:(aI c p e).2.1=true
 ·obtain⟨hu,hm⟩:=gJ ha;have ho:=(jq hm).2.2.2.1;rw[nc hu hm];intro a ha hn;rcases xJ ha with rfl|ha
  ·exact .inl (ho hn)
  ·exact h a ha hn
 ·rw[jM ha];exact h
theorem wG(h:Ownb p):Ownb (aD c p vals data dr).1:=by
 rcases cQ (c:=c) (p:=p) (vals:=vals) (data:=data) (dr:=dr)with ⟨k,hk,e1⟩|⟨h1,h2,h3,h4,h5,e1⟩
 ·rw[e1];exact h
 ·rw[e1];have hl:=c.last.toNat_lt
  have hse:(p.seq+1).toNat=p.seq.toNat+1:=by
   rw[UInt32.toNat_add];show(p.seq.toNat+1) % _=_;omega
  intro a ha hn;rcases xJ ha with rfl|ha
  ·exact .inr ⟨rfl,Nat.le_refl _⟩
  ·have ha:a∈p.buf.evs:=by
    split at ha
    ·exact aiT ha
    ·exact ha
   rcases h a ha hn with g|g
   ·exact .inl g
   ·exact .inr ⟨g.1,by show _<=(p.seq+1).toNat;omega⟩
theorem acf(h:Ownb p):Ownb (bC p x):=by
 unfold bC;split
 ·exact h
 ·split
  ·exact h.sub (q:={ p with buf:=(bY p.buf x).1,collected:=p.collected+1 }) (fun a ha=>adg ha) rfl rfl rfl
  ·exact h
theorem tV: ∀(l:List GID) (p:af),Ownb p->Ownb (l.foldl bC p)
 |[],p,h=>h
 |x::l,p,h=>tV l _ (acf (x:=x) h)
theorem agr(h:Ownb p):Ownb (eu c p dr).1:=by
 unfold eu;split
 ·exact h
 ·have h1:Ownb (gn { p with pulls:=Eng.pTick p.pulls }):=tV _ _ h;have h2:=h1.ev (qz (c:=c) (dr:=dr) (aQ (ez c (aB c (ct c (gn { p with pulls:=Eng.pTick p.pulls })) []) dr).1));exact h2
theorem abJ{m:aK}(h:Ownb p):Ownb (bB c p m).1:=by
 unfold bB;split
 ·exact h
 ·split
  ·exact h
  ·split
   ·exact h
   ·split
    ·exact h
    ·have h1:=h.ev (cF (c:=c) m.origin.node m.origin.inc);exact h1
theorem ahp{m:aK}(h:Ownb p):Ownb (bN c p m dr).1:=by
 unfold bN;split
 ·exact h.ev ev_take
 split
 ·exact h
 split
 ·exact h.ev (cF _ _)
 simp only;have k1:=h.ev ((cF (c:=c) (p:=p) m.frm m.inc).trans (bT (c:=c) []));generalize aB c (aw c p m.frm m.inc).1 []=q at k1;split
 ·rw[kA];exact(qb k1).ev (bT [])
 split
 ·exact k1.ev (bT [])
 ·exact(abJ k1).ev (bT [])
theorem aij{o:iX}(h:Ownb p):Ownb (cS c p o).1:=by
 have hd:Ownb (jZ c p):=fun a ha=>absurd ha (by simp[jZ,bF])
 unfold cS;split
 ·unfold bE;split
  ·exact h
  ·split
   ·exact h
   ·exact fun a ha=>absurd ha (by simp[bF])
 split
 ·exact hd
 split
 ·simp only;split
  ·exact h
  ·split
   ·exact h
   ·exact h
 split
 ·simp only;split
  ·exact h
  ·exact hd
 split
 ·exact wG h
 split
 ·exact agr h
 split
 ·exact qb h
 ·exact ahp h
end
structure Pl1(p q:af):Prop where
 node:q.node=p.node
 inc:q.inc=p.inc
 up:q.up=p.up
 filter:q.filter=p.filter
 view:q.view=p.view
 near:q.near=p.near
 ring:q.ring=p.ring
 wait:q.wait=p.wait
 table:q.table=p.table
 rows:q.rows.length=p.rows.length
 heard:q.heard.length=p.heard.length
structure EvF(q:af):Prop where
 evs:q.buf.evs.length<=4000000/\ ∀e∈q.buf.evs,e.vals.length<=4000000/\e.data.length<=4000000
 pulls:q.pulls.length<=4000000
structure NOk(c:ar)(p:af)(m:aK):Prop where
 frm:m.frm=p.node
 inc:m.inc=p.inc
 ne:m.to≠p.node
 lt:(m.to.toNat:Int)<c.nodes
 ev:m.kind=10->bZ c.schema m.ev=true
section
variable {c:ar} {nd:UInt8} {p q r:af} {m:aK} {dr:List UInt32} {e:GEvt} {x:GID} {o:iX} {k:Int}
theorem Pl1.refl(p:af):Pl1 p p:=⟨rfl,rfl,rfl,rfl,rfl,rfl,rfl,rfl,rfl,rfl,rfl⟩
theorem ia(h:aF c=true):0<=c.buffer/\c.buffer<=64/\0<=c.pulls/\c.pulls<=64/\1<=c.window/\c.window<=64:=by grind [aF,inR]
theorem rM(h:bZ c.schema e=true):e.vals.length=c.schema.length/\e.data.length<=64:=by grind [bZ,gu]
theorem Ew.f(hc:aF c=true)(h:Ew c p k):EvF p:=by
 have h1:=ia hc;have h2:=cy hc;have h3:=h.bf.len;have h4:=h.pk.len;refine⟨⟨by omega,fun e he=>?_⟩,by omega⟩
 have:=rM (h.bf.evs e he).ok;omega
theorem aqp(h:okP p)(g:Pl1 p q)(hr:fQ q.reports)(he:EvF q):okP q:=
 ⟨by rw[g.filter];exact h.filter,by rw[g.view];exact h.view,by rw[g.near];exact h.near,by rw[g.ring];exact h.succ,by rw[g.ring];exact h.pred,by rw[g.wait];exact h.sent,by rw[g.table];exact h.table,
  by rw[g.heard];exact h.heard,by rw[g.rows];exact h.rows,⟨by have:=hr.1;omega,hr.2⟩,he.evs,he.pulls⟩
theorem ajd(h:okH p)(g:Pl1 p q)(hr:fQ q.reports)(he:EvF q):okH q:=
 ⟨⟨aqp h.g.ok g hr he,by rw[g.filter];exact h.g.filter,by rw[g.view];exact h.g.view,by rw[g.near];exact h.g.near,by rw[g.ring];exact h.g.succ,by rw[g.ring];exact h.g.pred,by rw[g.table];exact h.g.table⟩,
  hr,by rw[g.view];exact h.v8,by rw[g.node,g.view];exact h.vw⟩
theorem Go1.pl(g:Go1 c p q)(h:Pl1 q r)(hr:fQ r.reports)(he:EvF r):Go1 c p r:=
 ⟨ajd g.h h hr he,⟨by rw[h.table];exact g.pre.table,by rw[h.rows];exact g.pre.rows,by rw[h.heard];exact g.pre.heard,by rw[h.node,h.view];exact g.pre.view⟩,
  h.node.trans g.node,h.up.trans g.up,h.inc.trans g.inc,by rw[h.wait];exact g.ws,by rw[h.filter];exact g.f8,by rw[h.table];exact g.tab⟩
theorem aqL(h:Win c p)(g:Pl1 p q):Win c q:=
 ⟨by rw[g.table];exact h.table,by rw[g.rows];exact h.rows,by rw[g.heard];exact h.heard,by rw[g.view,g.node];exact h.view,by rw[g.near,g.node];exact h.near,
  by rw[g.view,g.near,g.ring];intro l hl d hd;rw[aa7 g.node g.table];exact h.cur l hl d hd,by rw[g.near,g.filter];exact h.ovl,by rw[g.ring,g.view];exact h.ring⟩
theorem Bd.pl(h:Bd c nd p)(g:Pl1 p q)(hr:fQ q.reports)(he:EvF q):Bd c nd q:=
 ⟨ajd h.h g hr he,aqL h.win g,g.node.trans h.node,by rw[g.wait];exact h.ws,by rw[g.filter];exact h.f8,by rw[g.up,g.view,g.near,g.ring,g.wait];exact h.dn⟩
theorem pl_accept:Pl1 p (aI c p e).1:=by
 unfold aI;split
 ·exact Pl1.refl p
 ·exact⟨rfl,rfl,rfl,rfl,rfl,rfl,rfl,rfl,rfl,by simp,rfl⟩
theorem vD:(aI c p e).1.reports=p.reports:=by
 unfold aI;split<;>rfl
theorem mU{vals:List Int}{data:List UInt8}:Pl1 p (aD c p vals data dr).1/\(aD c p vals data dr).1.reports=p.reports:=by
 rcases cQ (c:=c) (p:=p) (vals:=vals) (data:=data) (dr:=dr)with ⟨j,_,e1⟩|⟨h1,h2,h3,h4,h5,e1⟩
 ·rw[e1];exact⟨Pl1.refl p,rfl⟩
 ·rw[e1];exact⟨⟨rfl,rfl,rfl,rfl,rfl,rfl,rfl,rfl,rfl,by simp[ix],rfl⟩,rfl⟩
theorem akZ:Pl1 p (bC p x)/\(bC p x).reports=p.reports:=by
 unfold bC;split
 ·exact⟨Pl1.refl p,rfl⟩
 ·split
  ·exact⟨⟨rfl,rfl,rfl,rfl,rfl,rfl,rfl,rfl,rfl,rfl,rfl⟩,rfl⟩
  ·exact⟨Pl1.refl p,rfl⟩
theorem Pl1.trans(h:Pl1 p q)(g:Pl1 q r):Pl1 p r:=
 ⟨g.node.trans h.node,g.inc.trans h.inc,g.up.trans h.up,g.filter.trans h.filter,g.view.trans h.view,g.near.trans h.near,g.ring.trans h.ring,g.wait.trans h.wait,g.table.trans h.table,g.rows.trans h.rows,g.heard.trans h.heard⟩
theorem aag: ∀(l:List GID) (p:af),Pl1 p (l.foldl bC p)/\(l.foldl bC p).reports=p.reports
 |[],p=>⟨Pl1.refl p,rfl⟩
 |x::l,p=>by
  have h1:=akZ (p:=p) (x:=x);have h2:=aag l (bC p x);exact⟨h1.1.trans h2.1,h2.2.trans h1.2⟩
theorem qE:Pl1 p (gn { p with pulls:=Eng.pTick p.pulls })/\(gn { p with pulls:=Eng.pTick p.pulls }).reports=p.reports:=by
 have h:=aag (eIds p.buf.evs) { p with pulls:=Eng.pTick p.pulls };exact⟨Pl1.trans (q:={ p with pulls:=Eng.pTick p.pulls }) ⟨rfl,rfl,rfl,rfl,rfl,rfl,rfl,rfl,rfl,rfl,rfl⟩ h.1,h.2⟩
theorem MOk.n{M:aK}(h:MOk c p M):NOk c p M:=⟨h.frm,h.inc,h.ne,h.lt,fun e=>by have:=h.k9;rw[e]at this;exact absurd this (by decide)⟩
structure wo(c:ar)(p q:af)(l:List aK):Prop where
 bd:Bd c p.node q
 ms: ∀m∈l,NOk c p m
theorem aoV(h:Ew c p k):Ew c (gn { p with pulls:=Eng.pTick p.pulls }) (k+(eIds p.buf.evs).length):=sL _ _ _ (h.pulls (afT h.pk))
theorem afR(hc:aF c=true)(hB:Bd c nd p)(hE:Ew c p k):Bd c nd (gn { p with pulls:=Eng.pTick p.pulls }):=
 hB.pl qE.1 (by rw[qE.2];exact hB.h.rs) ((aoV hE).f hc)
theorem aex(hc:aF c=true)(hB:Bd c nd p)(hE:Ew c p k):wo c p (eu c p dr).1 (eu c p dr).2:=by
 obtain rfl:=hB.node;unfold eu
 by_cases hu0:p.up=false
 ·rw[if_pos hu0];exact⟨hB,fun m hm=>absurd hm List.not_mem_nil⟩
 ·rw[if_neg hu0];have hu:p.up=true:=by simpa using hu0
  have h1:=afR hc hB hE;have g:=(qE (p:=p)).1;generalize gn { p with pulls:=Eng.pTick p.pulls }=p1 at h1 g;have s:=uC (dr:=dr) hc h1 (by rw[g.up];exact hu)
  simp only;generalize V.pTick c p1 dr (aQ (ez c (aB c (ct c p1) []) dr).1)=T at s;obtain⟨q,M⟩:=T;simp only at s ⊢;have hq:Bd c p.node q:=by have:=s.bd;rw[g.node]at this;exact this
  have hq2:Bd c p.node { q with count:=if q.count.toNat<4294967295 then q.count+1 else q.count }:=
   ⟨⟨⟨⟨hq.h.ok.filter,hq.h.ok.view,hq.h.ok.near,hq.h.ok.succ,hq.h.ok.pred,hq.h.ok.sent,hq.h.ok.table,hq.h.ok.heard,hq.h.ok.rows,hq.h.ok.reports,hq.h.ok.evs,hq.h.ok.pulls⟩,hq.h.g.filter,hq.h.g.view,hq.h.g.near,hq.h.g.succ,hq.h.g.pred,hq.h.g.table⟩,hq.h.rs,hq.h.v8,hq.h.vw⟩,
    ⟨hq.win.table,hq.win.rows,hq.win.heard,hq.win.view,hq.win.near,hq.win.cur,hq.win.ovl,hq.win.ring⟩,hq.node,hq.ws,hq.f8,hq.dn⟩
  refine⟨hq2,fun m hm=>?_⟩
  rcases List.mem_append.1 hm with hm|hm
  ·have h:=(s.ms m hm).n;exact⟨h.frm.trans g.node,h.inc.trans g.inc,by rw[<-g.node];exact h.ne,h.lt,h.ev⟩
  ·obtain⟨to,ht,rfl⟩:=List.mem_map.1 hm;have h:=gN hq2 ht;refine⟨hq.node,s.inc.trans g.inc,?_,h.2,fun e=>by cases e⟩
   have h2:to≠q.node:=h.1;rw[hq.node]at h2;exact h2
theorem pick_mem: ∀(n:Nat) (l:List UInt8) (dr:List UInt32) (x:UInt8),x∈iz n l dr->x∈l
 |0,_,_,_,h=>by cases h
 | n+1,l,dr,x,h=>by
  unfold iz at h;split at h
  ·cases h
  ·rename_i y hy;rcases List.mem_cons.1 h with rfl|h
   ·exact List.mem_of_getElem? hy
   ·exact(List.eraseIdx_sublist ..).subset (pick_mem n _ _ x h)
theorem u9{l:List UInt8}{h:UInt8}(hv:bZ c.schema e=true)(hl: ∀x∈l,x≠p.node/\(x.toNat:Int)<c.nodes)(hn:q.node=p.node)(hi:q.inc=p.inc): ∀m∈gb c q e h l dr,NOk c p m:=by
 intro m hm;obtain⟨to,ht,rfl⟩:=List.mem_map.1 hm;have h2:=hl to (pick_mem _ _ _ _ ht);exact⟨hn,hi,h2.1,h2.2,fun _=>hv⟩
theorem uu{vals:List Int}{data:List UInt8}(hc:aF c=true)(hB:Bd c nd p)(hE:Ew c p k):wo c p (aD c p vals data dr).1 (aD c p vals data dr).2.2.2.1:=by
 obtain rfl:=hB.node;have hr:=ia hc;have hn:(p.node.toNat:Int)<c.nodes\/ ¬(p.node.toNat:Int)<c.nodes:=Classical.em _;rcases cQ (c:=c) (p:=p) (vals:=vals) (data:=data) (dr:=dr)with ⟨j,_,e1⟩|⟨h1,h2,h3,h4,h5,e1⟩
 ·rw[e1];exact⟨hB,fun m hm=>absurd hm List.not_mem_nil⟩
 ·have hp:=mU (c:=c) (p:=p) (vals:=vals) (data:=data) (dr:=dr)
  have hb:EvF (aD c p vals data dr).1:=by
   have h6:=cy hc;have hbl:=hE.bf
   have hlen: ∀b:d7,b.room=c.buffer->(b.evs.length:Int)<=c.buffer->(∀a∈b.evs,aqU c a)->(∀a∈(dk b (da p vals data)).1.evs,a.vals.length<=4000000/\a.data.length<=4000000)/\(dk b (da p vals data)).1.evs.length<=4000000:=by
    intro b hb1 hb2 hb3;constructor
    ·intro a ha
     have hv:bZ c.schema a=true:=by
      rcases xJ ha with rfl|ha
      ·exact h2
      ·exact(hb3 a ha).ok
     have:=rM hv;omega
    ·rcases dm b (da p vals data)with ⟨e2,_⟩|⟨e2,_⟩|⟨e2,_,e3⟩
     ·rw[e2];show b.evs.length<=_;omega
     ·rw[e2];show b.evs.length<=_;omega
     ·rw[e2];show(mV qn b.evs _).length<=_;rw[(jt b.evs _).length_eq,List.length_cons];omega
   rw[e1]
   have hcase:Bf c (if decide (p.buf.room<=(p.buf.evs.length:Int))=true then (bK p.buf p.node p.inc).1 else p.buf):=by
    split
    ·exact zU hbl _ _
    ·exact hbl
   obtain⟨k1,k2⟩:=hlen _ hcase.room hcase.len hcase.evs;exact⟨⟨k2,k1⟩,by have:=hE.pk.len;show p.pulls.length<=_;omega⟩
  refine⟨hB.pl hp.1 (by rw[hp.2];exact hB.h.rs) hb,?_⟩
  have hB2:=hB.pl hp.1 (by rw[hp.2];exact hB.h.rs) hb
  rw[e1]at hB2 ⊢;exact u9 h2 (fun x hx=>gN hB2 hx) rfl rfl
theorem jU(hc:aF c=true)(hB:Bd c nd p)(hE:Ew c p k):Bd c nd (aI c p e).1:=by
 have hr:=ia hc;exact hB.pl pl_accept (by rw[vD];exact hB.h.rs) ((lK (e:=e) ⟨hr.2.2.2.2.1,hr.2.2.2.2.2⟩ hE).f hc)
theorem abp{t:List (List GMark)}(h:fQ t)(i:UInt8)(ks:List GMark):fQ (cl t i ks):=by
 have hs: ∀(ks:List GMark) (row:List GMark),(ks.foldl iW row).length=row.length:=by
  intro ks
  induction ks with
  |nil=>intro row;rfl
  | cons a ks ih=>
   intro row;rw[List.foldl_cons,ih];unfold iW;split
   ·rfl
   ·split
    ·rw[List.length_set]
    ·rfl
 refine⟨by unfold cl;rw[List.length_modify];exact h.1,fun l hl=>?_⟩
 obtain⟨j,hj,rfl⟩:=List.getElem_of_mem hl;unfold cl at hj ⊢;rw[List.getElem_modify];rw[List.length_modify]at hj;split
 ·rw[hs];exact h.2 _ (List.getElem_mem hj)
 ·exact h.2 _ (List.getElem_mem hj)
theorem z7(hc:aF c=true)(hB:Bd c nd q)(hE:Ew c q k):Go1 c q (bB c q m).1/\ ∀x∈(bB c q m).2,NOk c q x:=by
 have hr:=ia hc;have hz:Go1 c q q/\ ∀x∈([]:List aK),NOk c q x:=⟨hB.go,fun x hx=>absurd hx List.not_mem_nil⟩
 have hw:=aaB (m:=m) hE;unfold bB at hw ⊢;split
 ·exact hz
 rename_i h0;rw[if_neg h0]at hw;split
 ·exact hz
 rename_i kk hk;simp only[hk]at hw;split
 ·exact hz
 rename_i h1;rw[if_neg h1]at hw;split
 ·exact hz
 rename_i h2;rw[if_neg h2]at hw;have h2':(aw c q m.origin.node m.origin.inc).2=true:=by simpa using h2
 have ht:=oJ h2';have g1:=hB.go.hear m.origin.node m.origin.inc
 have v1:(aw c q m.origin.node m.origin.inc).1.view=q.view/\(aw c q m.origin.node m.origin.inc).1.near=q.near/\(aw c q m.origin.node m.origin.inc).1.ring=q.ring:=by
  unfold aw;split
  ·exact⟨rfl,rfl,rfl⟩
  ·split
   ·exact⟨rfl,rfl,rfl⟩
   ·split<;>exact⟨rfl,rfl,rfl⟩
 simp only at hw ⊢;generalize (aw c q m.origin.node m.origin.inc).1=a at g1 v1 hw;have e0:EvF a:=⟨g1.h.ok.evs,g1.h.ok.pulls⟩;have g2:Go1 c q { a with heard:=a.heard.set m.origin.node.toNat m.origin }:=g1.pl ⟨rfl,rfl,rfl,rfl,rfl,rfl,rfl,rfl,rfl,rfl,by simp⟩ g1.h.rs ⟨e0.evs,e0.pulls⟩
 have g3:=g2.learn m.table;have v3:(bx { a with heard:=a.heard.set m.origin.node.toNat m.origin } m.table).view=q.view/\(bx { a with heard:=a.heard.set m.origin.node.toNat m.origin } m.table).near=q.near/\(bx { a with heard:=a.heard.set m.origin.node.toNat m.origin } m.table).ring=q.ring:=v1;generalize bx { a with heard:=a.heard.set m.origin.node.toNat m.origin } m.table=b at g3 v3 hw;have e3:EvF b:=⟨g3.h.ok.evs,g3.h.ok.pulls⟩;have g4:Go1 c q { b with reports:=cl b.reports m.origin.node m.marks }:=g3.pl ⟨rfl,rfl,rfl,rfl,rfl,rfl,rfl,rfl,rfl,rfl,rfl⟩ (abp g3.h.rs _ _) ⟨e3.evs,e3.pulls⟩;have v4:({ b with reports:=cl b.reports m.origin.node m.marks }:af).view=q.view/\({ b with reports:=cl b.reports m.origin.node m.marks }:af).near=q.near/\({ b with reports:=cl b.reports m.origin.node m.marks }:af).ring=q.ring:=v3;generalize ({ b with reports:=cl b.reports m.origin.node m.marks }:af)=d at g4 v4 hw;have g5:Go1 c q (nJ c d m).1:=g4.pl ⟨rfl,rfl,rfl,rfl,rfl,rfl,rfl,rfl,rfl,rfl,rfl⟩ g4.h.rs (hw.f hc);refine⟨g5,fun x hx=>?_⟩
 rcases List.mem_append.1 hx with hx|hx
 ·unfold nJ at hx;simp only at hx;split at hx
  ·cases hx
  ·rw[List.mem_singleton.1 hx];exact⟨g4.node,g4.inc,ht.2,ht.1,fun e=>by cases e⟩
 ·split at hx
  ·cases hx
  ·obtain⟨to,hto,rfl⟩:=List.mem_map.1 hx;have h5:to∈aQ (nJ c d m).1:=(List.mem_filter.1 hto).1
   have h6:aQ (nJ c d m).1=aQ q:=by
    unfold aQ cj;rw[show(nJ c d m).1.view=q.view from v4.1,show(nJ c d m).1.near=q.near from v4.2.1,show(nJ c d m).1.ring=q.ring from v4.2.2]
   rw[h6]at h5;have h7:=gN hB h5;exact⟨g5.node,g5.inc,h7.1,h7.2,fun e=>by cases e⟩
theorem ad0(hc:aF c=true)(hB:Bd c nd p)(hE:Ew c p k)(hm:okMg m):wo c p (bN c p m dr).1 (bN c p m dr).2.1:=by
 obtain rfl:=hB.node;have hr:=ia hc;have hw:1<=c.window/\c.window<=64:=⟨hr.2.2.2.2.1,hr.2.2.2.2.2⟩;unfold bN;split
 ·have s:=(ag6 (dr:=dr) hc hB hm).1;exact⟨s.bd,fun x hx=>(s.ms x hx).n⟩
 split
 ·exact⟨hB,fun x hx=>absurd hx List.not_mem_nil⟩
 rename_i hnn hu0
 have hu:p.up=true:=by
  cases h:p.up with
  |true=>rfl
  |false=>exact absurd (.inl h) hu0
 split
 ·rename_i h;rw[rJ h];exact⟨hB,fun x hx=>absurd hx List.not_mem_nil⟩
 rename_i hh;have hh':(aw c p m.frm m.inc).2=true:=by simpa using hh
 have hf:=oJ hh';have s1:=(hB.go.hear m.frm m.inc).meet hc hu fY jy (ms:=[]) ig;have hE1:=hE.ev ((cF (c:=c) (p:=p) m.frm m.inc).trans (bT (c:=c) []));simp only;generalize aB c (aw c p m.frm m.inc).1 []=q at s1 hE1;have hqu:q.up=true:=by rw[s1.up];exact hu
 have hqn:q.node=p.node:=s1.bd.node
 have lift: ∀{l:List aK},(∀x∈l,NOk c q x)-> ∀x∈l,NOk c p x:=fun h x hx=>by
  have h1:=h x hx;exact⟨h1.frm.trans hqn,h1.inc.trans s1.inc,by rw[<-hqn];exact h1.ne,h1.lt,h1.ev⟩
 have fin: ∀{r:af} {l:List aK},Go1 c q r->(∀x∈l,NOk c q x)->wo c p (aB c r []) l:=fun {r l} g h=>by
  have s:=g.meet hc hqu fY jy (ms:=[]) ig;refine⟨?_,lift h⟩;have:=s.bd;rw[hqn]at this;exact this
 split
 ·rw [kA];have hA:=jU (e:=m.ev) hc s1.bd hE1;have hE2:=lK (e:=m.ev) hw hE1;refine fin (s1.bd.go.pl pl_accept (by rw[vD];exact s1.bd.h.rs) (hE2.f hc)) fun x hx=>?_
  unfold kZ at hx;simp only at hx;split at hx
  ·cases hx
  ·rename_i ha;have ha':(aI c q m.ev).2.1=true:=by simpa using ha
   obtain⟨_,hmay⟩:=gJ ha';split at hx
   ·cases hx
   ·exact u9 (jq hmay).1 (fun y hy=>by
     have h5:=(List.mem_filter.1 hy).1;have h6:=gN hA h5;rw[pl_accept.node]at h6
     exact h6) pl_accept.node pl_accept.inc x hx
 split
 ·refine fin s1.bd.go fun x hx=>?_
  unfold nN at hx;obtain⟨y,hy,h5⟩:=List.mem_filterMap.1 hx;obtain⟨e,he,rfl⟩:=Option.map_eq_some_iff.1 h5;have h6:=(hE1.bf.evs e (List.mem_of_find?_eq_some he)).ok;exact⟨rfl,rfl,by rw[hqn];exact hf.2,hf.1,fun _=>h6⟩
 ·have h:=z7 (m:=m) hc s1.bd hE1;exact fin h.1 h.2
theorem qX(hc:aF c=true)(hS: ∀s∈c.schema,okS s)(hB:Bd c nd p)(hE:Ew c p k)(hm:okMg o.m)(hfs: ∀s∈o.filter,okS s):wo c p (cS c p o).1 (cS c p o).2.1:=by
 obtain rfl:=hB.node;have hr:=cy hc;have hz: ∀x∈([]:List aK),NOk c p x:=fun x hx=>absurd hx List.not_mem_nil
 unfold cS;split
 ·exact⟨(ami hc hB).1,hz⟩
 split
 ·exact⟨aeX hc hB,hz⟩
 split
 ·refine⟨?_,hz⟩;show Bd c p.node (if p.up=false then p else _)
  split
  ·exact hB
  ·rename_i hu;have hu:p.up=true:=by simpa using hu
   obtain⟨n1,n2⟩:=lZ (f:=o.filter) hS hfs (by omega)
   split
   ·exact((hB.go.filter n1 n2).meet hc hu fY jy ig).bd
   ·exact hB
 split
 ·show wo c p (if p.up=false then p else jZ c p) (if p.up=false then []else (aQ p).map (pMsg p 9))
  by_cases hu:p.up=false
  ·rw[if_pos hu,if_pos hu];exact⟨hB,hz⟩
  ·rw[if_neg hu,if_neg hu];refine⟨aeX hc hB,fun x hx=>?_⟩
   obtain⟨y,hy,rfl⟩:=List.mem_map.1 hx;have h2:=gN hB hy;exact⟨rfl,rfl,h2.1,h2.2,fun e=>by cases e⟩
 split
 ·exact uu hc hB hE
 split
 ·exact aex hc hB hE
 split
 ·exact⟨jU hc hB hE,hz⟩
 ·exact ad0 hc hB hE hm
