import Derived.Test.YtmhmahcdanclnaaGreatNc39
set_option linter.unusedSectionVars false
set_option linter.unusedSimpArgs false
set_option linter.unusedVariables false
set_option maxRecDepth 10000
namespace Go.Proofs.YtmhmahcdanclnaaGreat.V
open Go.Eng
section
variable {c:ao} {p q:af} {m:aJ} {dr:List UInt32} {b:ee} {e:GEvt} {x:GID} {o:jF} {l:List GAsk} {k:Int}
theorem Ew.pulls(h:Ew c p k){l:List GAsk}(g:Pk c l):Ew c { p with pulls:=l } k:=⟨h.bf,g,h.rows,h.seq,h.down,h.passed,h.evicted,h.collected⟩
theorem ai1(h:Ew c p k):Ew c (cj p x) (k+1):=by
 unfold cj;split
 ·exact h.more (by omega)
 ·split
  ·exact⟨agi h.bf,h.pk,h.rows,h.seq,h.down,⟨h.passed.1,by have:=h.passed.2;show p.passed<=_;omega⟩,⟨h.evicted.1,by have:=h.evicted.2;show p.evicted<=_;omega⟩,by
    have:=h.collected;show 0<=p.collected+1/\p.collected+1<=k+1
    omega⟩
  ·exact h.more (by omega)
theorem rJ: ∀(l:List GID) (p:af) (k:Int),Ew c p k->Ew c (l.foldl cj p) (k+l.length)
 |[],p,k,h=>h.more (by simp)
 |x::l,p,k,h=>(rJ l _ _ (ai1 (x:=x) h)).more (by rw[List.length_cons];omega)
theorem apf(hb:c.buffer<=64)(h:Ew c p k):Ew c (gA c p dr).1 (k+64):=by
 unfold gA;split
 ·exact h.more (by omega)
 ·have h1:Ew c (jD { p with pulls:=Eng.pTick p.pulls }) (k+(eIds p.buf.evs).length):=rJ _ _ _ (h.pulls (afD h.pk))
  have hl:((eIds p.buf.evs).length:Int)<=64:=by
   rw[eIds,List.length_map];have:=h.bf.len;omega
  have h3:=(h1.more (show _<=k+64 by omega)).ev (afo (c:=c) (dr:=dr) (aQ (eX c (aD c (cy c (jD { p with pulls:=Eng.pTick p.pulls })) []) dr).1))
  exact⟨h3.bf,h3.pk,h3.rows,h3.seq,h3.down,h3.passed,h3.evicted,h3.collected⟩
theorem afK{o:UInt8}: ∀(l:List GID) (s:List GAsk×List GID),Pk c s.1->Pk c (l.foldl (qU c o) s).1
 |[],s,h=>h
 | x::l,s,h=>by
  rw[List.foldl_cons];refine afK l _ ?_;unfold qU;split
  ·exact h
  ·split
   ·exact ap2 h _
   ·exact h
theorem zD(h:Ew c p k):Ew c (bL c p m).1 k:=by
 unfold bL;split
 ·exact h
 ·split
  ·exact h
  ·split
   ·exact h
   ·split
    ·exact h
    ·have h1:=h.ev (eM (c:=c) m.origin.node m.origin.inc);exact⟨h1.bf,afK _ _ h1.pk,h1.rows,h1.seq,h1.down,h1.passed,h1.evicted,h1.collected⟩
theorem amW(hw:1<=c.window/\c.window<=64)(h:Ew c p k):Ew c (bN c p m dr).1 (k+1):=by
 have hk:k<=k+1:=by omega
 unfold bN;split
 ·exact(h.ev ev_take).more hk
 split
 ·exact h.more hk
 split
 ·exact(h.ev (eM _ _)).more hk
 simp only;have k1:=h.ev ((eM (c:=c) (p:=p) m.frm m.inc).trans (cl (c:=c) []));generalize aD c (ax c p m.frm m.inc).1 []=q at k1;split
 ·rw[rm];exact(lO hw k1).ev (cl [])
 split
 ·exact(k1.ev (cl [])).more hk
 ·exact((zD k1).ev (cl [])).more hk
theorem wV(hb:0<=c.buffer)(hp:0<=c.pulls)(hw:1<=c.window/\c.window<=64)(nd:UInt8)(inc:UInt16)(up:Bool)(t:List aq)(hk:0<=k):Ew c { bH c nd with inc:=inc,up:=up,table:=t } k:=by
 refine⟨⟨rfl,by simpa[bH]using hb,List.Pairwise.nil,by simp[bH]⟩,⟨by simpa[bH]using hp,List.Pairwise.nil,by simp[bH]⟩,fun r hr=>?_,?_,fun _=>rfl,?_,?_,?_⟩
 ·have hr:r∈(bH c nd).rows:=hr;unfold bH at hr;rw[(List.mem_replicate.1 hr).2];exact(iN hw).2 (.inl ⟨rfl,rfl⟩)
 ·exact Nat.zero_le _
 ·exact⟨Int.le_refl 0,hk⟩
 ·exact⟨Int.le_refl 0,hk⟩
 ·exact⟨Int.le_refl 0,hk⟩
theorem aeR(hb:0<=c.buffer/\c.buffer<=64)(hp:0<=c.pulls)(hw:1<=c.window/\c.window<=64)(hn:(p.node.toNat:Int)<c.nodes)(hk:0<=k)(h:Ew c p k):Ew c (fK c p o).1 (k+64):=by
 have hd:Ew c (j6 c p) (k+64):=wV hb.1 hp hw p.node p.inc false _ (by omega)
 have h0:=h.more (show k<=k+64 by omega)
 unfold fK;split
 ·unfold bI;split
  ·exact h0
  ·split
   ·exact h0
   ·exact wV hb.1 hp hw p.node _ true _ (by omega)
 split
 ·exact hd
 split
 ·simp only;split
  ·exact h0
  ·split
   ·exact⟨h0.bf,h0.pk,h0.rows,h0.seq,h0.down,h0.passed,h0.evicted,h0.collected⟩
   ·exact h0
 split
 ·simp only;split
  ·exact h0
  ·exact hd
 split
 ·exact(abn hn hw h).more (by omega)
 split
 ·exact apf hb.2 h
 split
 ·exact(lO hw h).more (by omega)
 ·exact(amW hw h).more (by omega)
end
section
variable {c:ao} {p q:af} {m:aJ} {dr:List UInt32} {b:ee} {e:GEvt} {x y:GID} {o:jF}
structure St1(p q:af):Prop where
 reports:q.reports=p.reports
 table:q.table=p.table
 node:q.node=p.node
 rows:q.rows=p.rows
end
section
variable {c:ao} {p q:af} {dr:List UInt32} {e:GEvt} {x y:GID} {vals:List Int} {data:List UInt8}
def Ownb(p:af):Prop:= ∀e∈p.buf.evs,e.id.node=p.node->e.id.inc.toNat<p.inc.toNat\/(e.id.inc=p.inc/\e.id.seq.toNat<=p.seq.toNat)
theorem anQ{b:ee}{a:GEvt}(h:a∈(dQ b e).1.evs):a=e\/a∈b.evs:=by grind [fQ,kU]
theorem Ownb.sub(h:Ownb p)(hs: ∀a∈q.buf.evs,a∈p.buf.evs)(h1:q.node=p.node)(h2:q.inc=p.inc)(h3:q.seq=p.seq):Ownb q:=fun a ha hn=>by
 rw[h2,h3];exact h a (hs a ha) (hn.trans h1)
theorem Ownb.ev(h:Ownb p)(g:Ev1 p q):Ownb q:=h.sub (by rw[g.buf];exact fun _ h=>h) g.node g.inc g.seq
end
structure Pl1(p q:af):Prop where
 node:q.node=p.node
 inc:q.inc=p.inc
 up:q.up=p.up
 filter:q.filter=p.filter
 view:q.view=p.view
 near:q.near=p.near
 ring:q.ring=p.ring
 wait:q.wait=p.wait
 table:q.table=p.table
 rows:q.rows.length=p.rows.length
 heard:q.heard.length=p.heard.length
structure EvF(q:af):Prop where
 evs:q.buf.evs.length<=4000000/\ ∀e∈q.buf.evs,e.vals.length<=4000000/\e.data.length<=4000000
 pulls:q.pulls.length<=4000000
structure NOk(c:ao)(p:af)(m:aJ):Prop where
 frm:m.frm=p.node
 inc:m.inc=p.inc
 ne:m.to≠p.node
 lt:(m.to.toNat:Int)<c.nodes
 ev:m.kind=10->cR c.schema m.ev=true
section
variable {c:ao} {nd:UInt8} {p q r:af} {m:aJ} {dr:List UInt32} {e:GEvt} {x:GID} {o:jF} {k:Int}
theorem Pl1.refl(p:af):Pl1 p p:=⟨rfl,rfl,rfl,rfl,rfl,rfl,rfl,rfl,rfl,rfl,rfl⟩
theorem gX(h:aF c=true):0<=c.buffer/\c.buffer<=64/\0<=c.pulls/\c.pulls<=64/\1<=c.window/\c.window<=64:=by grind [aF,inR]
theorem mM(h:cR c.schema e=true):e.vals.length=c.schema.length/\e.data.length<=64:=by grind [cR,j7]
theorem Ew.f(hc:aF c=true)(h:Ew c p k):EvF p:=by
 have h1:=gX hc;have h2:=cu hc;have h3:=h.bf.len;have h4:=h.pk.len;refine⟨⟨by omega,fun e he=>?_⟩,by omega⟩
 have:=mM (h.bf.evs e he).ok;omega
theorem aqp(h:okP p)(g:Pl1 p q)(hr:fX q.reports)(he:EvF q):okP q:=
 ⟨by rw[g.filter];exact h.filter,by rw[g.view];exact h.view,by rw[g.near];exact h.near,by rw[g.ring];exact h.succ,by rw[g.ring];exact h.pred,by rw[g.wait];exact h.sent,by rw[g.table];exact h.table,
  by rw[g.heard];exact h.heard,by rw[g.rows];exact h.rows,⟨by have:=hr.1;omega,hr.2⟩,he.evs,he.pulls⟩
theorem ak1(h:okH p)(g:Pl1 p q)(hr:fX q.reports)(he:EvF q):okH q:=
 ⟨⟨aqp h.g.ok g hr he,by rw[g.filter];exact h.g.filter,by rw[g.view];exact h.g.view,by rw[g.near];exact h.g.near,by rw[g.ring];exact h.g.succ,by rw[g.ring];exact h.g.pred,by rw[g.table];exact h.g.table⟩,
  hr,by rw[g.view];exact h.v8,by rw[g.node,g.view];exact h.vw⟩
theorem Go1.pl(g:Go1 c p q)(h:Pl1 q r)(hr:fX r.reports)(he:EvF r):Go1 c p r:=
 ⟨ak1 g.h h hr he,⟨by rw[h.table];exact g.pre.table,by rw[h.rows];exact g.pre.rows,by rw[h.heard];exact g.pre.heard,by rw[h.node,h.view];exact g.pre.view⟩,
  h.node.trans g.node,h.up.trans g.up,h.inc.trans g.inc,by rw[h.wait];exact g.ws,by rw[h.filter];exact g.f8,by rw[h.table];exact g.tab⟩
theorem aqd(h:Win c p)(g:Pl1 p q):Win c q:=
 ⟨by rw[g.table];exact h.table,by rw[g.rows];exact h.rows,by rw[g.heard];exact h.heard,by rw[g.view,g.node];exact h.view,by rw[g.near,g.node];exact h.near,
  by rw[g.view,g.near,g.ring];intro l hl d hd;rw[zZ g.node g.table];exact h.cur l hl d hd,by rw[g.near,g.filter];exact h.ovl,by rw[g.ring,g.view];exact h.ring⟩
theorem Bd.pl(h:Bd c nd p)(g:Pl1 p q)(hr:fX q.reports)(he:EvF q):Bd c nd q:=
 ⟨ak1 h.h g hr he,aqd h.win g,g.node.trans h.node,by rw[g.wait];exact h.ws,by rw[g.filter];exact h.f8,by rw[g.up,g.view,g.near,g.ring,g.wait];exact h.dn⟩
theorem pl_accept:Pl1 p (aA c p e).1:=by
 unfold aA;split
 ·exact Pl1.refl p
 ·exact⟨rfl,rfl,rfl,rfl,rfl,rfl,rfl,rfl,rfl,by simp,rfl⟩
theorem uR:(aA c p e).1.reports=p.reports:=by
 unfold aA;split<;>rfl
theorem aeh{vals:List Int}{data:List UInt8}:Pl1 p (aU c p vals data dr).1/\(aU c p vals data dr).1.reports=p.reports:=by
 rcases gi (c:=c) (p:=p) (vals:=vals) (data:=data) (dr:=dr)with ⟨j,_,e1⟩|⟨h1,h2,h3,h4,h5,e1⟩
 ·rw[e1];exact⟨Pl1.refl p,rfl⟩
 ·rw[e1];exact⟨⟨rfl,rfl,rfl,rfl,rfl,rfl,rfl,rfl,rfl,by simp[fF],rfl⟩,rfl⟩
theorem amr:Pl1 p (cj p x)/\(cj p x).reports=p.reports:=by
 unfold cj;split
 ·exact⟨Pl1.refl p,rfl⟩
 ·split
  ·exact⟨⟨rfl,rfl,rfl,rfl,rfl,rfl,rfl,rfl,rfl,rfl,rfl⟩,rfl⟩
  ·exact⟨Pl1.refl p,rfl⟩
theorem Pl1.trans(h:Pl1 p q)(g:Pl1 q r):Pl1 p r:=
 ⟨g.node.trans h.node,g.inc.trans h.inc,g.up.trans h.up,g.filter.trans h.filter,g.view.trans h.view,g.near.trans h.near,g.ring.trans h.ring,g.wait.trans h.wait,g.table.trans h.table,g.rows.trans h.rows,g.heard.trans h.heard⟩
theorem yp: ∀(l:List GID) (p:af),Pl1 p (l.foldl cj p)/\(l.foldl cj p).reports=p.reports
 |[],p=>⟨Pl1.refl p,rfl⟩
 |x::l,p=>by
  have h1:=amr (p:=p) (x:=x);have h2:=yp l (cj p x);exact⟨h1.1.trans h2.1,h2.2.trans h1.2⟩
theorem qQ:Pl1 p (jD { p with pulls:=Eng.pTick p.pulls })/\(jD { p with pulls:=Eng.pTick p.pulls }).reports=p.reports:=by
 have h:=yp (eIds p.buf.evs) { p with pulls:=Eng.pTick p.pulls };exact⟨Pl1.trans (q:={ p with pulls:=Eng.pTick p.pulls }) ⟨rfl,rfl,rfl,rfl,rfl,rfl,rfl,rfl,rfl,rfl,rfl⟩ h.1,h.2⟩
theorem MOk.n{M:aJ}(h:MOk c p M):NOk c p M:=⟨h.frm,h.inc,h.ne,h.lt,fun e=>by have:=h.k9;rw[e]at this;exact absurd this (by decide)⟩
structure u_(c:ao)(p q:af)(l:List aJ):Prop where
 bd:Bd c p.node q
 ms: ∀m∈l,NOk c p m
theorem aof(h:Ew c p k):Ew c (jD { p with pulls:=Eng.pTick p.pulls }) (k+(eIds p.buf.evs).length):=rJ _ _ _ (h.pulls (afD h.pk))
theorem afH(hc:aF c=true)(hB:Bd c nd p)(hE:Ew c p k):Bd c nd (jD { p with pulls:=Eng.pTick p.pulls }):=
 hB.pl qQ.1 (by rw[qQ.2];exact hB.h.rs) ((aof hE).f hc)
theorem ael(hc:aF c=true)(hB:Bd c nd p)(hE:Ew c p k):u_ c p (gA c p dr).1 (gA c p dr).2:=by
 obtain rfl:=hB.node;unfold gA
 by_cases hu0:p.up=false
 ·rw[if_pos hu0];exact⟨hB,fun m hm=>absurd hm List.not_mem_nil⟩
 ·rw[if_neg hu0];have hu:p.up=true:=by simpa using hu0
  have h1:=afH hc hB hE;have g:=(qQ (p:=p)).1;generalize jD { p with pulls:=Eng.pTick p.pulls }=p1 at h1 g;have s:=uT (dr:=dr) hc h1 (by rw[g.up];exact hu)
  simp only;generalize V.pTick c p1 dr (aQ (eX c (aD c (cy c p1) []) dr).1)=T at s;obtain⟨q,M⟩:=T;simp only at s ⊢;have hq:Bd c p.node q:=by have:=s.bd;rw[g.node]at this;exact this
  have hq2:Bd c p.node { q with count:=if q.count.toNat<4294967295 then q.count+1 else q.count }:=
   ⟨⟨⟨⟨hq.h.ok.filter,hq.h.ok.view,hq.h.ok.near,hq.h.ok.succ,hq.h.ok.pred,hq.h.ok.sent,hq.h.ok.table,hq.h.ok.heard,hq.h.ok.rows,hq.h.ok.reports,hq.h.ok.evs,hq.h.ok.pulls⟩,hq.h.g.filter,hq.h.g.view,hq.h.g.near,hq.h.g.succ,hq.h.g.pred,hq.h.g.table⟩,hq.h.rs,hq.h.v8,hq.h.vw⟩,
    ⟨hq.win.table,hq.win.rows,hq.win.heard,hq.win.view,hq.win.near,hq.win.cur,hq.win.ovl,hq.win.ring⟩,hq.node,hq.ws,hq.f8,hq.dn⟩
  refine⟨hq2,fun m hm=>?_⟩
  rcases List.mem_append.1 hm with hm|hm
  ·have h:=(s.ms m hm).n;exact⟨h.frm.trans g.node,h.inc.trans g.inc,by rw[<-g.node];exact h.ne,h.lt,h.ev⟩
  ·obtain⟨to,ht,rfl⟩:=List.mem_map.1 hm;have h:=gU hq2 ht;refine⟨hq.node,s.inc.trans g.inc,?_,h.2,fun e=>by cases e⟩
   have h2:to≠q.node:=h.1;rw[hq.node]at h2;exact h2
theorem pick_mem: ∀(n:Nat) (l:List UInt8) (dr:List UInt32) (x:UInt8),x∈hX n l dr->x∈l
 |0,_,_,_,h=>by cases h
 | n+1,l,dr,x,h=>by
  unfold hX at h;split at h
  ·cases h
  ·rename_i y hy;rcases List.mem_cons.1 h with rfl|h
   ·exact List.mem_of_getElem? hy
   ·exact(List.eraseIdx_sublist ..).subset (pick_mem n _ _ x h)
theorem vV{l:List UInt8}{h:UInt8}(hv:cR c.schema e=true)(hl: ∀x∈l,x≠p.node/\(x.toNat:Int)<c.nodes)(hn:q.node=p.node)(hi:q.inc=p.inc): ∀m∈gd c q e h l dr,NOk c p m:=by
 intro m hm;obtain⟨to,ht,rfl⟩:=List.mem_map.1 hm;have h2:=hl to (pick_mem _ _ _ _ ht);exact⟨hn,hi,h2.1,h2.2,fun _=>hv⟩
theorem uj{vals:List Int}{data:List UInt8}(hc:aF c=true)(hB:Bd c nd p)(hE:Ew c p k):u_ c p (aU c p vals data dr).1 (aU c p vals data dr).2.2.2.1:=by
 obtain rfl:=hB.node;have hr:=gX hc;have hn:(p.node.toNat:Int)<c.nodes\/ ¬(p.node.toNat:Int)<c.nodes:=Classical.em _;rcases gi (c:=c) (p:=p) (vals:=vals) (data:=data) (dr:=dr)with ⟨j,_,e1⟩|⟨h1,h2,h3,h4,h5,e1⟩
 ·rw[e1];exact⟨hB,fun m hm=>absurd hm List.not_mem_nil⟩
 ·have hp:=aeh (c:=c) (p:=p) (vals:=vals) (data:=data) (dr:=dr)
  have hb:EvF (aU c p vals data dr).1:=by
   have h6:=cu hc;have hbl:=hE.bf
   have hlen: ∀b:ee,b.room=c.buffer->(b.evs.length:Int)<=c.buffer->(∀a∈b.evs,ap9 c a)->(∀a∈(dQ b (df p vals data)).1.evs,a.vals.length<=4000000/\a.data.length<=4000000)/\(dQ b (df p vals data)).1.evs.length<=4000000:=by
    intro b hb1 hb2 hb3;constructor
    ·intro a ha
     have hv:cR c.schema a=true:=by
      rcases anQ ha with rfl|ha
      ·exact h2
      ·exact(hb3 a ha).ok
     have:=mM hv;omega
    ·rcases fQ b (df p vals data)with ⟨e2,_⟩|⟨e2,_⟩|⟨e2,_,e3⟩
     ·rw[e2];show b.evs.length<=_;omega
     ·rw[e2];show b.evs.length<=_;omega
     ·rw[e2];show(ng akK b.evs _).length<=_;rw[(jq b.evs _).length_eq,List.length_cons];omega
   rw[e1]
   have hcase:Bf c (if decide (p.buf.room<=(p.buf.evs.length:Int))=true then (ct p.buf p.node p.inc).1 else p.buf):=by
    split
    ·exact aaV hbl _ _
    ·exact hbl
   obtain⟨k1,k2⟩:=hlen _ hcase.room hcase.len hcase.evs;exact⟨⟨k2,k1⟩,by have:=hE.pk.len;show p.pulls.length<=_;omega⟩
  refine⟨hB.pl hp.1 (by rw[hp.2];exact hB.h.rs) hb,?_⟩
  have hB2:=hB.pl hp.1 (by rw[hp.2];exact hB.h.rs) hb
  rw[e1]at hB2 ⊢;exact vV h2 (fun x hx=>gU hB2 hx) rfl rfl
theorem jT(hc:aF c=true)(hB:Bd c nd p)(hE:Ew c p k):Bd c nd (aA c p e).1:=by
 have hr:=gX hc;exact hB.pl pl_accept (by rw[uR];exact hB.h.rs) ((lO (e:=e) ⟨hr.2.2.2.2.1,hr.2.2.2.2.2⟩ hE).f hc)
theorem aa4{t:List (List GMark)}(h:fX t)(i:UInt8)(ks:List GMark):fX (cf t i ks):=by
 have hs: ∀(ks:List GMark) (row:List GMark),(ks.foldl iZ row).length=row.length:=by
  intro ks
  induction ks with
  |nil=>intro row;rfl
  | cons a ks ih=>
   intro row;rw[List.foldl_cons,ih];unfold iZ;split
   ·rfl
   ·split
    ·rw[List.length_set]
    ·rfl
 refine⟨by unfold cf;rw[List.length_modify];exact h.1,fun l hl=>?_⟩
 obtain⟨j,hj,rfl⟩:=List.getElem_of_mem hl;unfold cf at hj ⊢;rw[List.getElem_modify];rw[List.length_modify]at hj;split
 ·rw[hs];exact h.2 _ (List.getElem_mem hj)
 ·exact h.2 _ (List.getElem_mem hj)
theorem z7(hc:aF c=true)(hB:Bd c nd q)(hE:Ew c q k):Go1 c q (bL c q m).1/\ ∀x∈(bL c q m).2,NOk c q x:=by
 have hr:=gX hc;have hz:Go1 c q q/\ ∀x∈([]:List aJ),NOk c q x:=⟨hB.go,fun x hx=>absurd hx List.not_mem_nil⟩
 have hw:=zD (m:=m) hE;unfold bL at hw ⊢;split
 ·exact hz
 rename_i h0;rw[if_neg h0]at hw;split
 ·exact hz
 rename_i kk hk;simp only[hk]at hw;split
 ·exact hz
 rename_i h1;rw[if_neg h1]at hw;split
 ·exact hz
 rename_i h2;rw[if_neg h2]at hw;have h2':(ax c q m.origin.node m.origin.inc).2=true:=by simpa using h2
 have ht:=o4 h2';have g1:=hB.go.hear m.origin.node m.origin.inc
 have v1:(ax c q m.origin.node m.origin.inc).1.view=q.view/\(ax c q m.origin.node m.origin.inc).1.near=q.near/\(ax c q m.origin.node m.origin.inc).1.ring=q.ring:=by
  unfold ax;split
  ·exact⟨rfl,rfl,rfl⟩
  ·split
   ·exact⟨rfl,rfl,rfl⟩
   ·split<;>exact⟨rfl,rfl,rfl⟩
 simp only at hw ⊢;generalize (ax c q m.origin.node m.origin.inc).1=a at g1 v1 hw;have e0:EvF a:=⟨g1.h.ok.evs,g1.h.ok.pulls⟩;have g2:Go1 c q { a with heard:=a.heard.set m.origin.node.toNat m.origin }:=g1.pl ⟨rfl,rfl,rfl,rfl,rfl,rfl,rfl,rfl,rfl,rfl,by simp⟩ g1.h.rs ⟨e0.evs,e0.pulls⟩
 have g3:=g2.learn m.table;have v3:(bx { a with heard:=a.heard.set m.origin.node.toNat m.origin } m.table).view=q.view/\(bx { a with heard:=a.heard.set m.origin.node.toNat m.origin } m.table).near=q.near/\(bx { a with heard:=a.heard.set m.origin.node.toNat m.origin } m.table).ring=q.ring:=v1;generalize bx { a with heard:=a.heard.set m.origin.node.toNat m.origin } m.table=b at g3 v3 hw;have e3:EvF b:=⟨g3.h.ok.evs,g3.h.ok.pulls⟩;have g4:Go1 c q { b with reports:=cf b.reports m.origin.node m.marks }:=g3.pl ⟨rfl,rfl,rfl,rfl,rfl,rfl,rfl,rfl,rfl,rfl,rfl⟩ (aa4 g3.h.rs _ _) ⟨e3.evs,e3.pulls⟩;have v4:({ b with reports:=cf b.reports m.origin.node m.marks }:af).view=q.view/\({ b with reports:=cf b.reports m.origin.node m.marks }:af).near=q.near/\({ b with reports:=cf b.reports m.origin.node m.marks }:af).ring=q.ring:=v3;generalize ({ b with reports:=cf b.reports m.origin.node m.marks }:af)=d at g4 v4 hw;have g5:Go1 c q (nC c d m).1:=g4.pl ⟨rfl,rfl,rfl,rfl,rfl,rfl,rfl,rfl,rfl,rfl,rfl⟩ g4.h.rs (hw.f hc);refine⟨g5,fun x hx=>?_⟩
 rcases List.mem_append.1 hx with hx|hx
 ·unfold nC at hx;simp only at hx;split at hx
  ·cases hx
  ·rw[List.mem_singleton.1 hx];exact⟨g4.node,g4.inc,ht.2,ht.1,fun e=>by cases e⟩
 ·split at hx
  ·cases hx
  ·obtain⟨to,hto,rfl⟩:=List.mem_map.1 hx;have h5:to∈aQ (nC c d m).1:=(List.mem_filter.1 hto).1
   have h6:aQ (nC c d m).1=aQ q:=by
    unfold aQ bZ;rw[show(nC c d m).1.view=q.view from v4.1,show(nC c d m).1.near=q.near from v4.2.1,show(nC c d m).1.ring=q.ring from v4.2.2]
   rw[h6]at h5;have h7:=gU hB h5;exact⟨g5.node,g5.inc,h7.1,h7.2,fun e=>by cases e⟩
theorem abY(hc:aF c=true)(hB:Bd c nd p)(hE:Ew c p k)(hm:okMg m):u_ c p (bN c p m dr).1 (bN c p m dr).2.1:=by
 obtain rfl:=hB.node;have hr:=gX hc;have hw:1<=c.window/\c.window<=64:=⟨hr.2.2.2.2.1,hr.2.2.2.2.2⟩;unfold bN;split
 ·have s:=(agM (dr:=dr) hc hB hm).1;exact⟨s.bd,fun x hx=>(s.ms x hx).n⟩
 split
 ·exact⟨hB,fun x hx=>absurd hx List.not_mem_nil⟩
 rename_i hnn hu0
 have hu:p.up=true:=by
  cases h:p.up with
  |true=>rfl
  |false=>exact absurd (.inl h) hu0
 split
 ·rename_i h;rw[rG h];exact⟨hB,fun x hx=>absurd hx List.not_mem_nil⟩
 rename_i hh;have hh':(ax c p m.frm m.inc).2=true:=by simpa using hh
 have hf:=o4 hh';have s1:=(hB.go.hear m.frm m.inc).meet hc hu fS ja (ms:=[]) iA;have hE1:=hE.ev ((eM (c:=c) (p:=p) m.frm m.inc).trans (cl (c:=c) []));simp only;generalize aD c (ax c p m.frm m.inc).1 []=q at s1 hE1;have hqu:q.up=true:=by rw[s1.up];exact hu
 have hqn:q.node=p.node:=s1.bd.node
 have lift: ∀{l:List aJ},(∀x∈l,NOk c q x)-> ∀x∈l,NOk c p x:=fun h x hx=>by
  have h1:=h x hx;exact⟨h1.frm.trans hqn,h1.inc.trans s1.inc,by rw[<-hqn];exact h1.ne,h1.lt,h1.ev⟩
 have fin: ∀{r:af} {l:List aJ},Go1 c q r->(∀x∈l,NOk c q x)->u_ c p (aD c r []) l:=fun {r l} g h=>by
  have s:=g.meet hc hqu fS ja (ms:=[]) iA;refine⟨?_,lift h⟩;have:=s.bd;rw[hqn]at this;exact this
 split
 ·rw [rm];have hA:=jT (e:=m.ev) hc s1.bd hE1;have hE2:=lO (e:=m.ev) hw hE1;refine fin (s1.bd.go.pl pl_accept (by rw[uR];exact s1.bd.h.rs) (hE2.f hc)) fun x hx=>?_
  unfold ij at hx;simp only at hx;split at hx
  ·cases hx
  ·rename_i ha;have ha':(aA c q m.ev).2.1=true:=by simpa using ha
   obtain⟨_,hmay⟩:=gN ha';split at hx
   ·cases hx
   ·exact vV (fP hmay).1 (fun y hy=>by
     have h5:=(List.mem_filter.1 hy).1;have h6:=gU hA h5;rw[pl_accept.node]at h6
     exact h6) pl_accept.node pl_accept.inc x hx
 split
 ·refine fin s1.bd.go fun x hx=>?_
  unfold oq at hx;obtain⟨y,hy,h5⟩:=List.mem_filterMap.1 hx;obtain⟨e,he,rfl⟩:=Option.map_eq_some_iff.1 h5;have h6:=(hE1.bf.evs e (List.mem_of_find?_eq_some he)).ok;exact⟨rfl,rfl,by rw[hqn];exact hf.2,hf.1,fun _=>h6⟩
 ·have h:=z7 (m:=m) hc s1.bd hE1;exact fin h.1 h.2
theorem sZ(hc:aF c=true)(hS: ∀s∈c.schema,okS s)(hB:Bd c nd p)(hE:Ew c p k)(hm:okMg o.m)(hfs: ∀s∈o.filter,okS s):u_ c p (fK c p o).1 (fK c p o).2.1:=by
 obtain rfl:=hB.node;have hr:=cu hc;have hz: ∀x∈([]:List aJ),NOk c p x:=fun x hx=>absurd hx List.not_mem_nil
 unfold fK;split
 ·exact⟨(akS hc hB).1,hz⟩
 split
 ·exact⟨aeT hc hB,hz⟩
 split
 ·refine⟨?_,hz⟩;show Bd c p.node (if p.up=false then p else _)
  split
  ·exact hB
  ·rename_i hu;have hu:p.up=true:=by simpa using hu
   obtain⟨n1,n2⟩:=lS (f:=o.filter) hS hfs (by omega)
   split
   ·exact((hB.go.filter n1 n2).meet hc hu fS ja iA).bd
   ·exact hB
 split
 ·show u_ c p (if p.up=false then p else j6 c p) (if p.up=false then []else (aQ p).map (pMsg p 9))
  by_cases hu:p.up=false
  ·rw[if_pos hu,if_pos hu];exact⟨hB,hz⟩
  ·rw[if_neg hu,if_neg hu];refine⟨aeT hc hB,fun x hx=>?_⟩
   obtain⟨y,hy,rfl⟩:=List.mem_map.1 hx;have h2:=gU hB hy;exact⟨rfl,rfl,h2.1,h2.2,fun e=>by cases e⟩
 split
 ·exact uj hc hB hE
 split
 ·exact ael hc hB hE
 split
 ·exact⟨jT hc hB hE,hz⟩
 ·exact abY hc hB hE hm
