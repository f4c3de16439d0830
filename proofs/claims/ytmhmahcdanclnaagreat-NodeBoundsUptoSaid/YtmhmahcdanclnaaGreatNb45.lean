import Derived.Test.YtmhmahcdanclnaaGreatNb44
set_option linter.unusedSectionVars false
set_option linter.unusedSimpArgs false
set_option linter.unusedVariables false
set_option maxRecDepth 10000
set_option maxHeartbeats 8000000
namespace Go.Proofs.YtmhmahcdanclnaaGreat.V
open Go.Eng
section
variable {c:ao} {p q:af} {dr:List UInt32} {o:jm} {m:aJ} {e:GEvt}
theorem seq_accept:(aI c p e).1.seq=p.seq:=by
 unfold aI;split<;>rfl
theorem aiC:(bL c p m dr).1.seq=p.seq:=by
 unfold bL;split
 ·exact ev_take.seq
 split
 ·rfl
 split
 ·exact(d9 _ _).seq
 simp only;have k1:(aD c (ax c p m.frm m.inc).1 []).seq=p.seq:=((d9 (c:=c) (p:=p) m.frm m.inc).trans (cT (c:=c) [])).seq;generalize aD c (ax c p m.frm m.inc).1 []=q at k1;split
 ·rw[qP];exact seq_accept.trans k1
 split
 ·exact k1
 ·exact nm_heard.seq.trans k1
theorem ah9(hu:(dO c p o).1.up=true)(hi:(dO c p o).1.inc=p.inc):(dO c p o).1.seq=if o.what=4/\(dO c p o).2.2.2.2=0 then p.seq+1 else p.seq:=by
 by_cases w4:o.what=4
 ·rw[arX w4];simp only;rcases eA (c:=c) (p:=p) (vals:=o.vals) (data:=o.data) (dr:=o.draws)with ⟨k,hk,e1⟩|⟨h1,h2,h3,h4,h5,e1⟩
  ·rw[e1,if_neg (fun h=>hk h.2)]
  ·rw[e1];show p.seq+1=(if o.what=4/\(0:Int)=0 then p.seq+1 else p.seq)
   rw[if_pos ⟨w4,rfl⟩]
 rw[if_neg (fun h=>w4 h.1)]
 revert hu hi;unfold dO;split
 ·show(bE c p).1.up=true->(bE c p).1.inc=p.inc->(bE c p).1.seq=p.seq;unfold bE;split
  ·exact fun _ _=>rfl
  ·split
   ·exact fun _ _=>rfl
   ·rename_i h1 h2;intro _ h4;have h5:(p.inc+1).toNat=p.inc.toNat:=by rw[show p.inc+1=p.inc from h4]
    rw[UInt16.toNat_add]at h5;have hl:=p.inc.toNat_lt;have h5:(p.inc.toNat+1) % 65536=p.inc.toNat:=h5;have h3:p.inc.toNat≠65535:=fun e2=>h2 (UInt16.toNat_inj.1 e2)
    omega
 split
 ·intro h;cases h
 split
 ·simp only;split
  ·exact fun _ _=>rfl
  ·split
   ·exact fun _ _=>rfl
   ·exact fun _ _=>rfl
 split
 ·simp only;split
  ·exact fun _ _=>rfl
  ·intro h;cases h
 try (split;contradiction)
 split
 ·exact fun _ _=>nm_tick.seq
 split
 ·exact fun _ _=>seq_accept
 ·exact fun _ _=>aiC
theorem rY{l:List UInt8}{h:UInt8}:(eH c p e h l dr).length<=l.length:=by
 unfold eH;rw[List.length_map];exact oH _ _ _
theorem apO{nd:UInt8}{k:Int}(hc:aE c=true)(hB:Bd c nd p)(hE:Ew c p k)(ho:apG o):(dO c p o).2.1.length<=1000000:=by
 have hl:=db hc hB;unfold dO;split
 ·exact Nat.zero_le _
 split
 ·exact Nat.zero_le _
 split
 ·exact Nat.zero_le _
 split
 ·show(if p.up=false then []else (aK p).map (pMsg p 9)).length<=1000000
  split
  ·exact Nat.zero_le _
  ·rw[List.length_map];omega
 split
 ·show(aR c p o.vals o.data o.draws).2.2.2.1.length<=1000000;rcases eA (c:=c) (p:=p) (vals:=o.vals) (data:=o.data) (dr:=o.draws)with ⟨j,_,e1⟩|⟨h1,h2,h3,h4,h5,e1⟩
  ·rw[e1];exact Nat.zero_le _
  ·rw[e1];exact Nat.le_trans rY (show(aK p).length<=1000000 by omega)
 split
 ·show(fh c p o.draws).2.length<=1000000
  by_cases hu:p.up=true
  ·have h1:=db hc (qH (dr:=o.draws) hc hB hE).bd;rw[aaW c p o.draws hu]at h1 ⊢;rw[List.length_append,List.length_map];have h2:(j0 c p o.draws).2.length<=5:=aaR;simp only at h1;omega
  ·have e1:fh c p o.draws=(p,[]):=by unfold fh;rw[if_pos (by simpa using hu)]
   rw[e1];exact Nat.zero_le _
 split
 ·exact Nat.zero_le _
 ·show(bL c p o.m o.draws).2.1.length<=1000000;unfold bL;split
  ·exact Nat.le_trans take_len (by omega)
  split
  ·exact Nat.zero_le _
  rename_i h1 h2;have hu:p.up=true:=by cases h:p.up with|true=>rfl|false=>exact absurd (.inl h) h2
  split
  ·exact Nat.zero_le _
  have s1:=(hB.go.hear o.m.frm o.m.inc).meet hc hu fA iJ (ms:=[]) gG;have hE1:=hE.ev ((d9 (c:=c) (p:=p) o.m.frm o.m.inc).trans (cT (c:=c) []));simp only;generalize aD c (ax c p o.m.frm o.m.inc).1 []=q at s1 hE1;split
  ·have hA:=db hc (gL (e:=o.m.ev) hc s1.bd hE1);unfold jW;simp only;split
   ·exact Nat.zero_le _
   ·simp only;split
    ·exact Nat.zero_le _
    ·exact Nat.le_trans rY (Nat.le_trans (List.length_filter_le _ _) (by omega))
  split
  ·exact Nat.le_trans (List.length_filterMap_le _ _) (by have:=ho.m.ids;omega)
  ·have hA:=db hc s1.bd;have v:=uC (c:=c) (q:=q) (m:=o.m);have eN:aK (bG c q o.m).1=aK q:=by unfold aK bU;rw[v.1,v.2.1,v.2.2]
   unfold bG at eN ⊢;split
   ·exact Nat.zero_le _
   rename_i h0;rw[if_neg h0]at eN;split
   ·exact Nat.zero_le _
   rename_i kk hk;simp only[hk]at eN;split
   ·exact Nat.zero_le _
   rename_i h3;rw[if_neg h3]at eN;split
   ·exact Nat.zero_le _
   rename_i h4;rw[if_neg h4]at eN;simp only at eN ⊢;rw[List.length_append]
   have g1: ∀P:af,(lY c P o.m).2.length<=1:=fun P=>by
    unfold lY;simp only;split<;>simp
   have g2: ∀P:af,(j9 P o.m).length<=(aK P).length:=fun P=>by
    unfold j9;rw[List.length_map];exact List.length_filter_le _ _
   refine Nat.le_trans (Nat.add_le_add (g1 _) (?_:_<=26)) (by omega)
   split
   ·exact Nat.zero_le _
   ·refine Nat.le_trans (g2 _) ?_;rw[eN];exact hA
theorem aa9(x:UInt32):x+1≠x:=by grind
end
attribute [local go_sem] zDesc aS ah fzD plR a_ aO aQ aA aC ak aB aT z8 z16 z32 z64 encMg ba bP aL az hX dx au List.map_cons List.map_nil SeqW2.eq_1
theorem nodeBounds_con(c:ao)(node:UInt8)(ops:List jm)(hcs: ∀s∈c.schema,okS s)(hsl:c.schema.length<=9223372036854775807)(hol:ops.length<=9223372036854775807)(hops: ∀o∈ops,o.m.list.length<=9223372036854775807/\o.m.table.length<=9223372036854775807/\(∀d∈o.m.list, ∀s∈d.filter,okS s)/\(∀s∈o.filter,okS s)):
  Con2 Tryz.prog 7 [.agg (aC c),.v (.int .u8 node.toNat),.fz 22 (ops.map encNop)] (· =plR (.v (.bool true))):=by
 have haw:=abu;refine en_ Tryz.func7 [.tmp 6] (g2_ ?_);refine g2_ ?_
 by_cases g1:(8:Int)<(c.schema.length:Int)
 ·rw[decide_eq_true g1];refine g2_ ?_;refine cw_ haw (g2_ ?_);exact⟨_,rfl,aa [] ws_⟩
 rw[decide_eq_false g1];refine g2_ ?_;refine cw_ (aca c (by omega)) (g2_ ?_)
 cases g2:aE c with
 |false=>
  refine g2_ ?_;refine cw_ haw (g2_ ?_);exact⟨_,rfl,aa [] ws_⟩
 |true=>
 have hrg:=bZ g2;have hrb:=gm g2;obtain⟨n1,n2⟩:=xq g2;refine g2_ ?_;refine gF (by omega) ?_
 refine g2_ ?_;obtain⟨n,hn⟩: ∃n:Nat,c.nodes=n:=⟨c.nodes.toNat,by omega⟩
 rw[nU (a:=node.toNat) (b:=n) (bi:=c.nodes) rfl hn (by omega)]
 have hmod:node.toNat % n<n:=Nat.mod_lt _ (by omega)
 obtain⟨nd,hnd⟩: ∃nd:UInt8,(((node.toNat % n:Nat):Nat):Int)=(nd.toNat:Int):=⟨UInt8.ofNat (node.toNat % n),by
  rw[UInt8.toNat_ofNat'];omega⟩
 rw[hnd];have hnl:=nd.toNat_lt;have hndc:(nd.toNat:Int)<c.nodes:=by omega
 refine g2_ ?_;refine cw_ (tD c nd) ?_;have hB0:=akz g2 nd;have hE0:Ew c (bI c nd) 0:=wW (nd:=nd) (inc:=0) (up:=false) (t:=(bI c nd).table) hrb.1 hrb.2.2.1 ⟨hrb.2.2.2.2.1,hrb.2.2.2.2.2⟩ (Int.le_refl 0);generalize bI c nd=p0 at hB0 hE0;refine gx_ ?_;obtain⟨m,hm⟩: ∃m:Nat,m=min ops.length 25:=⟨_,rfl⟩;have hmi:(if (25:Int)<(ops.length:Int)then (25:Int)else (ops.length:Int))=(m:Int):=by split<;>omega
 rw[hmi];refine gx_ ?_;have hO:List.take (m-0) (ops.map encNop)=(ops.take m).map encNop:=by rw[Nat.sub_zero,List.map_take]
 have hOm:=fun o (h:o∈ops.take m)=>hops o (List.mem_of_mem_take h)
 have hOl:(ops.take m).length<=25:=by rw[List.length_take];omega
 rw[hO];generalize ops.take m=O at hOm hOl;obtain⟨E,hE⟩: ∃E,E=O.map encNop:=⟨_,rfl⟩;have hEl:E.length=O.length:=by rw[hE,List.length_map]
 have hEg: ∀k (hk:k<O.length),E[k]? =some (encNop O[k]):=fun k hk=>by rw[hE,List.getElem?_map,List.getElem?_eq_getElem hk];rfl
 rw[<-hE];clear hE;refine iw (γ:=af) (ρ:=[(38,.d (.v (.int .i64 O.length))),(37,.d (.fz 22 E)),(1,.d (.v (.int .u8 nd.toNat))),(3,.loc 3 0),(7,.loc 7 0)]) O.length (fun p=>[]) (fun p=>[(3,⟨aC c,26⟩),(7,⟨ak p,49⟩)]) (fun _=>[]) 0 (fun k p=>Bd c nd p/\Ew c p (k*64)) p0 (aa [] ?_) ⟨hB0,by simpa using hE0⟩ (fun g k=>by first|rfl|(repeat first|simp-implicitDefEqProofs only[go_sem,ab]|with_reducible refine gl_ ?_)) (by omega) (fun g=>ws_) (fun k p hk hF=>?_) (fun p hF=>?_)
 ·refine gf_ hEl ?_
  first|done|rfl|exact⟨rfl,rfl⟩
 ·obtain⟨hB,hEw⟩:=hF;obtain⟨f1,f2,f3,f4⟩:=hOm _ (List.getElem_mem hk);have hfew:=ame O[k] f1 f2;have hgo:=hEg k hk;generalize O[k]=x at hfew hgo f1 f2 f3 f4;have hnode:=hB.node;refine Vc2.seqJ (γ:=Unit) (fun _=>⟨[(9,.loc 9 0),(39,.d (.v (.int .i64 k))),(38,.d (.v (.int .i64 O.length))),(37,.d (.fz 22 E)),(1,.d (.v (.int .u8 nd.toNat))),(3,.loc 3 0),(7,.loc 7 0)],[(9,⟨encNop x,63⟩),(3,⟨aC c,26⟩),(7,⟨ak p,49⟩)],[],0,0⟩) (fun _=>True) ?_ (fun _ _=>?_)
  ·refine gf_ (c2_ hgo @encNop.eq_1) ?_;refine⟨(),aa [] ?_⟩
   repeat first|simp-implicitDefEqProofs only[go_sem,ab,encNop,List.append_eq,List.cons_append,List.nil_append]|with_reducible refine gl_ ?_
   first|done|rfl|exact⟨rfl,rfl⟩
  clear hgo;refine Vc2.seqJ (γ:=Unit) (fun _=>⟨[(9,.loc 9 0),(39,.d (.v (.int .i64 k))),(38,.d (.v (.int .i64 O.length))),(37,.d (.fz 22 E)),(1,.d (.v (.int .u8 nd.toNat))),(3,.loc 3 0),(7,.loc 7 0)],[(9,⟨encNop x,63⟩),(3,⟨aC c,26⟩),(7,⟨ak p,49⟩)],[],0,0⟩) (fun _=>afH x=true) ?_ (fun _ g3=>?_)
  ·repeat first|simp-implicitDefEqProofs only[go_sem,ab,encNop,List.append_eq,List.cons_append,List.nil_append]|with_reducible first|refine gl_ ?_|refine ga_ ?_|refine gn_ ?_
   refine cx_ hfew (by simp-implicitDefEqProofs only[go_sem,ab,encNop,List.append_eq,List.cons_append,List.nil_append]) (g2_ ?_)
   cases g3:afH x with
   |false=>
    refine g2_ ?_;refine⟨p,aa [] ?_,hB,hEw.more (by omega)⟩
    exact ws_
   |true=>
    refine g2_ ?_;refine⟨(),aa [] ?_⟩
    repeat first|simp-implicitDefEqProofs only[go_sem,ab,encNop,List.append_eq,List.cons_append,List.nil_append]|with_reducible refine gl_ ?_
    first|done|rfl|exact⟨rfl,rfl⟩
  have hok:=ann g3 f3 f4;have hW:=akc g2 hcs hndc hB hEw (by omega) hok
  have hS:=(my (o:=x) g2 hcs hB hEw hok.m.mg f4).bd;have hms:=(my (o:=x) g2 hcs hB hEw hok.m.mg f4).ms;rw[hnode]at hS;have hE2:Ew c (dO c p x).1 ((k+1:Nat)*64):=(afe (o:=x) ⟨hrb.1,hrb.2.1⟩ hrb.2.2.1 ⟨hrb.2.2.2.2.1,hrb.2.2.2.2.2⟩ (by rw[hnode];exact hndc) (by omega) hEw).more (by omega)
  have hsq:=ah9 (c:=c) (p:=p) (o:=x);have hvl:=fun (e:GEvt) (h:cO c.schema e=true)=>jK h
  have hml:(dO c p x).2.1.length<=1000000:=apO g2 hB hEw hok;clear hfew;generalize dO c p x=D at hW hS hE2 hms hsq hml;obtain⟨q,ms,got,own,err⟩:=D;simp only at hW hS hE2 hms hsq hml;refine Vc2.seqJ (γ:=Unit) (fun _=>⟨[(9,.loc 9 0),(10,.loc 10 0),(39,.d (.v (.int .i64 k))),(38,.d (.v (.int .i64 O.length))),(37,.d (.fz 22 E)),(1,.d (.v (.int .u8 nd.toNat))),(3,.loc 3 0),(7,.loc 7 0)],[(9,⟨encNop x,63⟩),(10,⟨encCame (q,ms,got,own,err),68⟩),(3,⟨aC c,26⟩),(7,⟨ak p,49⟩)],[],0,0⟩) (fun _=>True) ?_ (fun _ _=>?_)
  ·repeat first|simp-implicitDefEqProofs only[go_sem,ab,encNop,List.append_eq,List.cons_append,List.nil_append]|with_reducible first|refine gl_ ?_|refine ga_ ?_|refine gn_ ?_
   refine cx_ hW (by simp-implicitDefEqProofs only[go_sem,ab,encNop,List.append_eq,List.cons_append,List.nil_append]) (gf_ @encCame.eq_1 ?_)
   refine⟨(),aa [] ?_⟩
   repeat first|simp-implicitDefEqProofs only[go_sem,ab,encNop,encCame,List.append_eq,List.cons_append,List.nil_append]|with_reducible refine gl_ ?_
   first|done|rfl|exact⟨rfl,rfl⟩
  clear hW;have hwi:=xX c nd q _ g2 hS hE2;have hp1:=hE2.passed.1;have hp2:=hE2.evicted.1;have hp3:=hE2.collected.1;refine Vc2.seqJ (γ:=Unit) (fun _=>⟨[(9,.loc 9 0),(10,.loc 10 0),(11,.loc 11 0),(39,.d (.v (.int .i64 k))),(38,.d (.v (.int .i64 O.length))),(37,.d (.fz 22 E)),(1,.d (.v (.int .u8 nd.toNat))),(3,.loc 3 0),(7,.loc 7 0)],[(9,⟨encNop x,63⟩),(10,⟨encCame (q,ms,got,own,err),68⟩),(11,⟨ak q,49⟩),(3,⟨aC c,26⟩),(7,⟨ak p,49⟩)],[],0,0⟩) (fun _=>True) ?_ (fun _ _=>?_)
  ·repeat first|simp-implicitDefEqProofs only[go_sem,ab,encCame,List.append_eq,List.cons_append,List.nil_append]|with_reducible first|refine gl_ ?_|refine ga_ ?_|refine gn_ ?_
   refine⟨(),aa [] ?_⟩
   repeat first|simp-implicitDefEqProofs only[go_sem,ab,encNop,encCame,List.append_eq,List.cons_append,List.nil_append]|with_reducible refine gl_ ?_
   first|done|rfl|exact⟨rfl,rfl⟩
  refine Vc2.seqJ (γ:=Unit) (fun _=>⟨[(9,.loc 9 0),(10,.loc 10 0),(11,.loc 11 0),(39,.d (.v (.int .i64 k))),(38,.d (.v (.int .i64 O.length))),(37,.d (.fz 22 E)),(1,.d (.v (.int .u8 nd.toNat))),(3,.loc 3 0),(7,.loc 7 0)],[(9,⟨encNop x,63⟩),(10,⟨encCame (q,ms,got,own,err),68⟩),(11,⟨ak q,49⟩),(3,⟨aC c,26⟩),(7,⟨ak p,49⟩)],[],0,0⟩) (fun _=>True) ?_ (fun _ _=>?_)
  ·refine g2_ ?_;refine cw_ hwi (g2_ ?_);rw[decide_eq_false (show ¬q.passed<0 by omega)]
   refine g2_ ?_;rw[decide_eq_false (show ¬q.evicted<0 by omega)]
   refine g2_ ?_;rw[decide_eq_false (show ¬q.collected<0 by omega)]
   refine g2_ ?_;refine⟨(),aa [] ?_⟩
   repeat first|simp-implicitDefEqProofs only[go_sem,ab,encNop,encCame,List.append_eq,List.cons_append,List.nil_append]|with_reducible refine gl_ ?_
   first|done|rfl|exact⟨rfl,rfl⟩
  have hdown:=hE2.down;have h32:=p.seq.toNat_lt;have hw4:((x.what.toNat:Int)==4)=decide (x.what=4):=bW x.what 4;have he0:(err==0)=decide (err=0):=rfl;obtain⟨PB,hPB⟩: ∃PB,PB=(decide (x.what=4)&&decide (err=0)):=⟨_,rfl⟩
  have hsq2:q.up=true->q.inc=p.inc->q.seq=if PB=true then p.seq+1 else p.seq:=fun a b=>by
   rw[hsq a b,hPB];simp
  clear hsq;refine Vc2.seqJ (γ:=Unit) (fun _=>⟨[(10,.loc 10 0),(11,.loc 11 0),(12,.d (.v (.bool PB))),(39,.d (.v (.int .i64 k))),(38,.d (.v (.int .i64 O.length))),(37,.d (.fz 22 E)),(1,.d (.v (.int .u8 nd.toNat))),(3,.loc 3 0),(7,.loc 7 0)],[(10,⟨encCame (q,ms,got,own,err),68⟩),(11,⟨ak q,49⟩),(3,⟨aC c,26⟩),(7,⟨ak p,49⟩)],[],0,0⟩) (fun _=>True) ?_ (fun _ _=>?_)
  ·repeat first|simp-implicitDefEqProofs only[go_sem,ab,encNop,encCame,hw4,he0,List.append_eq,List.cons_append,List.nil_append]|with_reducible first|refine gl_ ?_|refine ga_ ?_|refine gn_ ?_
   cases hd1:decide (x.what=4)with
   |false=>
    rw[hd1,Bool.false_and]at hPB;refine g2_ ?_;refine⟨(),aa [] ?_⟩
    repeat first|simp-implicitDefEqProofs only[go_sem,ab,hPB,encCame,List.append_eq,List.cons_append,List.nil_append]|with_reducible refine gl_ ?_
    first|done|rfl|exact⟨rfl,rfl⟩
   |true=>
    rw[hd1,Bool.true_and]at hPB;refine gf_ he0 ?_;refine⟨(),aa [] ?_⟩
    repeat first|simp-implicitDefEqProofs only[go_sem,ab,hPB,he0,encCame,List.append_eq,List.cons_append,List.nil_append]|with_reducible refine gl_ ?_
    first|done|rfl|exact⟨rfl,rfl⟩
  clear hPB hw4 he0;refine Vc2.seqJ (γ:=Unit) (fun _=>⟨[(10,.loc 10 0),(11,.loc 11 0),(39,.d (.v (.int .i64 k))),(38,.d (.v (.int .i64 O.length))),(37,.d (.fz 22 E)),(1,.d (.v (.int .u8 nd.toNat))),(3,.loc 3 0),(7,.loc 7 0)],[(10,⟨encCame (q,ms,got,own,err),68⟩),(11,⟨ak q,49⟩),(3,⟨aC c,26⟩),(7,⟨ak p,49⟩)],[],0,0⟩) (fun _=>True) ?_ (fun _ _=>?_)
  ·refine g2_ ?_;cases hu:q.up with
   |false=>
    have hs0:q.seq=0:=hdown hu;have hz:((q.seq.toNat:Int) !=0)=false:=by rw[hs0];rfl
    refine gg_ hu hz ?_;refine⟨(),aa [] ?_⟩
    repeat first|simp-implicitDefEqProofs only[go_sem,ab,hu,encCame,List.append_eq,List.cons_append,List.nil_append]|with_reducible refine gl_ ?_
    first|done|rfl|exact⟨rfl,rfl⟩
   | true=>
    refine gf_ hu ?_;rw[dQ];cases hi:decide (q.inc=p.inc)with
    |false=>
     refine gf_ hu ?_;refine⟨(),aa [] ?_⟩
     repeat first|simp-implicitDefEqProofs only[go_sem,ab,hu,encCame,List.append_eq,List.cons_append,List.nil_append]|with_reducible refine gl_ ?_
     first|done|rfl|exact⟨rfl,rfl⟩
    | true=>
     have hs:=hsq2 hu (of_decide_eq_true hi);refine gf_ hu ?_;rw[qx];cases PB with
     |false=>
      have hs:q.seq=p.seq:=hs;have hn1:((q.seq.toNat:Int)==((p.seq+1).toNat:Int))=false:=beq_eq_false_iff_ne.2 (fun h=>aa9 p.seq (UInt32.toNat_inj.1 (by rw[<-hs];rw[hs]at h ⊢; omega)))
      have hn2:((q.seq.toNat:Int) !=(p.seq.toNat:Int))=false:=by rw[hs];exact bne_self_eq_false _
      refine gh_ hu hn1 hn2 ?_;refine⟨(),aa [] ?_⟩
      repeat first|simp-implicitDefEqProofs only[go_sem,ab,hu,encCame,List.append_eq,List.cons_append,List.nil_append]|with_reducible refine gl_ ?_
      first|done|rfl|exact⟨rfl,rfl⟩
     |true=>
      have hs:q.seq=p.seq+1:=hs;have hn1:((q.seq.toNat:Int)==((p.seq+1).toNat:Int))=true:=by rw[hs];exact beq_self_eq_true _
      refine gg_ hu hn1 ?_;refine⟨(),aa [] ?_⟩
      repeat first|simp-implicitDefEqProofs only[go_sem,ab,hu,encCame,List.append_eq,List.cons_append,List.nil_append]|with_reducible refine gl_ ?_
      first|done|rfl|exact⟨rfl,rfl⟩
  refine Vc2.seqJ (γ:=Unit) (fun _=>⟨[(10,.loc 10 0),(11,.loc 11 0),(39,.d (.v (.int .i64 k))),(38,.d (.v (.int .i64 O.length))),(37,.d (.fz 22 E)),(1,.d (.v (.int .u8 nd.toNat))),(3,.loc 3 0),(7,.loc 7 0)],[(10,⟨encCame (q,ms,got,own,err),68⟩),(11,⟨ak q,49⟩),(3,⟨aC c,26⟩),(7,⟨ak p,49⟩)],[],0,0⟩) (fun _=>True) ?_ (fun _ _=>?_)
  ·repeat first|simp-implicitDefEqProofs only[go_sem,ab,encCame,List.length_map,List.append_eq,List.cons_append,List.nil_append]|with_reducible first|refine gl_ ?_|refine ga_ ?_|refine gn_ ?_
   refine aq ms.length (fun j=>[]) (fun _=>[]) (fun _=>[]) 0 (fun _=>True) (aa [] ?_) trivial (fun g k=>ws_) (by omega) (fun g=>ws_) (fun j hj _=>?_) (fun _=>?_)
   ·repeat first|simp-implicitDefEqProofs only[go_sem,ab,encCame,List.append_eq,List.cons_append,List.nil_append]|with_reducible refine gl_ ?_
    first|done|rfl|exact⟨rfl,rfl⟩
   ·obtain⟨m1,m2,m3,m4,m5⟩:=hms _ (List.getElem_mem hj);have hg:=aZ (f:=encMg) hj;generalize ms[j]=y at m1 m2 m3 m4 m5 hg;rw[hnode]at m1 m3;have hyt:=y.to.toNat_lt;refine gh_ hg m1 m2 ?_;rw[bW,decide_eq_false m3];refine g2_ ?_;rw[decide_eq_false (show ¬c.nodes<=(y.to.toNat:Int)by omega)]
    refine g2_ ?_
    by_cases w10:y.kind=10
    ·have hv:=m5 w10;have hvv:=hvl _ hv;have ks:=jH c.schema y.ev (by omega) (by omega) (by omega)
     rw[hv]at ks;rw[show((y.kind.toNat:Int)==10)=true by rw[w10];rfl]
     refine g2_ ?_;refine cw_ ks (g2_ ?_);refine⟨j+1,aa [] ?_,rfl⟩
     repeat first|simp-implicitDefEqProofs only[go_sem,ab,m1,m2,encCame,List.append_eq,List.cons_append,List.nil_append]|with_reducible refine gl_ ?_
     first|done|rfl|exact⟨rfl,rfl⟩
    ·rw[show((y.kind.toNat:Int)==10)=false from beq_eq_false_iff_ne.2 (fun h=>w10 (UInt8.toNat_inj.1 (by rw[show(10:UInt8).toNat=10 from rfl];omega)))]
     refine g2_ ?_;refine⟨j+1,aa [] ?_,rfl⟩
     repeat first|simp-implicitDefEqProofs only[go_sem,ab,m1,m2,encCame,List.append_eq,List.cons_append,List.nil_append]|with_reducible refine gl_ ?_
     first|done|rfl|exact⟨rfl,rfl⟩
   ·refine g2_ ?_;refine⟨(),aa [] ?_⟩
    repeat first|simp-implicitDefEqProofs only[go_sem,ab,encCame,List.append_eq,List.cons_append,List.nil_append]|with_reducible refine gl_ ?_
    first|done|rfl|exact⟨rfl,rfl⟩
  refine Vc2.of ?_
  repeat first|simp-implicitDefEqProofs only[go_sem,ab,encCame,List.append_eq,List.cons_append,List.nil_append]|with_reducible first|refine gl_ ?_|refine ga_ ?_|refine gn_ ?_
  refine⟨q,aa [] ?_,hS,hE2⟩
  repeat first|simp-implicitDefEqProofs only[go_sem,ab,encCame,List.append_eq,List.cons_append,List.nil_append]|with_reducible refine gl_ ?_
  first|done|rfl|exact⟨rfl,rfl⟩
 ·refine g2_ ?_;refine cw_ haw (g2_ ?_);exact⟨_,rfl,aa [] ws_⟩
