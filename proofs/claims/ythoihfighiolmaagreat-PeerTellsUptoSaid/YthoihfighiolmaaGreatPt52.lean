import Derived.Test.YthoihfighiolmaaGreatPt48
import Derived.Test.YthoihfighiolmaaGreatPt49
import Derived.Test.YthoihfighiolmaaGreatPt51
import Derived.Test.YthoihfighiolmaaGreatRows
set_option linter.unusedSectionVars false
set_option linter.unusedSimpArgs false
set_option linter.unusedVariables false
set_option maxRecDepth 10000
set_option maxHeartbeats 16000000
namespace Go.Proofs.YthoihfighiolmaaGreat.V
open Go.Eng
attribute [local go_sem] zDesc aP af fzD plR bb a_ aE bj aC ak bk cR z8 z16 z32 z64 encMg aH dE eI List.map_cons List.map_nil
attribute [local go_sem] bne_self_eq_false beq_self_eq_true List.length_cons List.length_nil
theorem afp{c:ar}{p:ah}{o:GOp}(hc:aB c=true)(hcs: ∀s∈c.schema,okS s)(h:Iv c p)(hm:okMg o.m)(hdr:o.draws.length<=4000000)(hf:o.filter.length<=1048576)(hfs: ∀s∈o.filter,okS s):
  Con2 Tryz.prog 13 [.agg (aC c),.agg (ak p),.agg (bc o)] (· =plR (.tup [.agg (ak (dY c p o).1),.fz 17 ((dY c p o).2.1.map encMg),.v (.int .i64 (dY c p o).2.2)])):=by
 have hr:=df hc;obtain⟨n1,n2⟩:=m6 (f:=o.filter) hcs hfs (by omega)
 have hM:=fL (l:=[]) hc (jf h.m) hZ nC;have hA:=tm (dr:=o.draws) hc hM;exact agv c p o (by omega) hcs h.m.h hm hdr hf h.m.ws (by omega) h.m.f8 (lf h.m.h.g n1 n2) (m7 hc h) (Nat.le_trans (iC hc h) (by omega)) (fun _=>m7 hc hA.1) (fun _=>Nat.le_trans (iC hc hA.1) (by omega)) (fun _=>hA.2) (fun _=>hM.m.h.v8)
theorem peerTells_con(c:ar)(node:UInt8)(ops:List GOp)(hcs: ∀s∈c.schema,okS s)(hsl:c.schema.length<=9223372036854775807)(hol:ops.length<=9223372036854775807)(hops: ∀o∈ops,o.m.list.length<=9223372036854775807/\o.m.table.length<=9223372036854775807/\(∀d∈o.m.list, ∀s∈d.filter,okS s)/\(∀s∈o.filter,okS s))
  (hml: ∀o∈ops,o.m.ev.vals.length<=4000000/\o.m.ev.data.length<=4000000/\o.m.marks.length<=4000000/\o.m.ids.length<=4000000):
  Con2 Tryz.prog 3 [.agg (aC c),.v (.int .u8 node.toNat),.fz 22 (ops.map bc)] (· =plR (.v (.bool true))):=by
 have haw:=wy;refine tX Ty.mixed Tryz.func3 rfl (by kernel_rfl) (by kernel_rfl) rfl [.tmp 6] rfl ?_
 refine g2_ ?_;refine g2_ ?_
 by_cases g1:(8:Int)<(c.schema.length:Int)
 ·rw[decide_eq_true g1];refine g2_ ?_;refine cw_ haw ?_;refine g2_ ?_;exact⟨_,rfl,aa [] ws_⟩
 rw[decide_eq_false g1];refine g2_ ?_;have kR1:=lA c (by omega)
 have kR2:=tN c (by omega)
 refine .inl ⟨[oF 0,oF 2,oT 1,oF 3,oF 4],by kernel_rfl,?_⟩
 refine g2_ ?_;refine cw_ kR1 ?_;refine g2_ ?_;refine cw_ kR2 ?_;cases g2:aB c with
 |false=>
  rw[g2]at kR2;refine g2_ ?_;refine cw_ kR2 ?_;refine g2_ ?_;refine cw_ haw ?_;refine g2_ ?_;exact⟨_,rfl,aa [] ws_⟩
 |true=>
 rw[g2]at kR2;obtain⟨n1,n2⟩:=uc g2;refine g2_ ?_;refine cw_ kR2 ?_;refine g2_ ?_;refine dx (by omega) ?_
 refine g2_ ?_;obtain⟨n,hn⟩: ∃n:Nat,c.nodes=n:=⟨c.nodes.toNat,by omega⟩
 rw[jt (a:=node.toNat) (b:=n) (bi:=c.nodes) rfl hn (by omega)]
 obtain⟨nd,hnd,hndl⟩: ∃nd:UInt8,(((node.toNat % n:Nat):Nat):Int)=(nd.toNat:Int)/\(nd.toNat:Int)<c.nodes:=⟨UInt8.ofNat (node.toNat % n),by
  have:node.toNat % n<n:=Nat.mod_lt _ (by omega)
  rw[UInt8.toNat_ofNat'];omega,by
  have:node.toNat % n<n:=Nat.mod_lt _ (by omega)
  rw[UInt8.toNat_ofNat'];omega⟩
 rw[hnd];have hnl:=nd.toNat_lt;refine g2_ ?_;have kn1:=pC c nd;have kn2:=y9 c nd (by omega) (by omega)
 have hB0:=amf g2 hndl;generalize bM c nd=p0 at hB0 kn1 kn2;refine zj (.fl 0 (.fl 1 (.fl 3 (.fl 4 (.eff 2 true (.eff 5 false (.eff 6 true (.eff 7 true (.eff 8 false (.eff 9 false .done .no) .no) .no) (.eff 7 true (.eff 6 true (.eff 8 false (.eff 9 false .done .no) .no) .no) .no)) (.eff 6 true (.eff 5 false (.eff 7 true (.eff 8 false (.eff 9 false .done .no) .no) .no) (.eff 7 true (.eff 5 false (.eff 8 false (.eff 9 false .done .no) .no) .no) .no)) (.eff 7 true (.eff 5 false (.eff 6 true (.eff 8 false (.eff 9 false .done .no) .no) .no) (.eff 6 true (.eff 5 false (.eff 8 false (.eff 9 false .done .no) .no) .no) .no)) .no))) (.eff 6 true (.eff 2 true (.eff 5 false (.eff 7 true (.eff 8 false (.eff 9 false .done .no) .no) .no) (.eff 7 true (.eff 5 false (.eff 8 false (.eff 9 false .done .no) .no) .no) .no)) (.eff 7 true (.eff 2 true (.eff 5 false (.eff 8 false (.eff 9 false .done .no) .no) .no) .no) .no)) (.eff 7 true (.eff 2 true (.eff 5 false (.eff 6 true (.eff 8 false (.eff 9 false .done .no) .no) .no) (.eff 6 true (.eff 5 false (.eff 8 false (.eff 9 false .done .no) .no) .no) .no)) (.eff 6 true (.eff 2 true (.eff 5 false (.eff 8 false (.eff 9 false .done .no) .no) .no) .no) .no)) .no))))))) [(7,.loc 7 0),(8,.loc 8 0)] [(7,⟨ak p0,49⟩),(8,⟨ak p0,49⟩)] ?_ ?_
 ·refine g2_ ?_
  repeat' (first
   |(with_reducible refine And.intro ?_ ?_)
   |(refine CallS.eqW kn1 ?_ (.inl ?_) ?_;(focus ((repeat first|simp-implicitDefEqProofs only[go_sem,ab]|with_reducible refine gl_ ?_);done));(focus ((repeat first|simp-implicitDefEqProofs only[go_sem,ab]|with_reducible refine gl_ ?_);done));refine g2_ ?_)
   |(refine CallS.eqW kn2 ?_ (.inl ?_) ?_;(focus ((repeat first|simp-implicitDefEqProofs only[go_sem,ab]|with_reducible refine gl_ ?_);done));(focus ((repeat first|simp-implicitDefEqProofs only[go_sem,ab]|with_reducible refine gl_ ?_);done));((try (with_reducible refine aK ?_));(try simp-implicitDefEqProofs only[go_sem,ab]);repeat ((first|(with_reducible refine aK ?_)|(with_reducible refine f6 (by omega) ?_)|(with_reducible refine And.intro (by omega) ?_));(try simp-implicitDefEqProofs only[go_sem,ab]))))
   |(refine aa [] ?_;(focus ((repeat first|simp-implicitDefEqProofs only[go_sem,ab]|with_reducible refine gl_ ?_);done))))
 refine gx_ ?_;obtain⟨m,hm⟩: ∃m:Nat,m=min ops.length 25:=⟨_,rfl⟩;have hmi:(if (25:Int)<(ops.length:Int)then (25:Int)else (ops.length:Int))=(m:Int):=by split<;>omega
 rw[hmi];refine gx_ ?_;have hO:List.take (m-0) (ops.map bc)=(ops.take m).map bc:=by rw[Nat.sub_zero,List.map_take]
 have hOm:=fun o (h:o∈ops.take m)=>hops o (List.mem_of_mem_take h)
 have hOn:=fun o (h:o∈ops.take m)=>hml o (List.mem_of_mem_take h)
 have hOl:(ops.take m).length<=25:=by rw[List.length_take];omega
 rw[hO];generalize ops.take m=O at hOm hOl hOn;obtain⟨E,hE⟩: ∃E,E=O.map bc:=⟨_,rfl⟩;have hEl:E.length=O.length:=by rw[hE,List.length_map]
 have hEg: ∀k (hk:k<O.length),E[k]? =some (bc O[k]):=fun k hk=>by rw[hE,List.getElem?_map,List.getElem?_eq_getElem hk];rfl
 rw[<-hE];clear hE;refine gq (γ:=ah) (ρ:=[(55,.d (.v (.int .i64 O.length))),(54,.d (.fz 22 E)),(1,.d (.v (.int .u8 nd.toNat))),(3,.loc 3 0),(7,.loc 7 0),(8,.loc 8 0)]) O.length (fun p=>[]) (fun p=>[(3,⟨aC c,26⟩),(7,⟨ak p,49⟩),(8,⟨ak p,49⟩)]) (fun _=>[]) 0 (fun k p=>Iv c p) p0 (aa [] ?_) hB0 (fun g k=>by first|rfl|(repeat first|simp-implicitDefEqProofs only[go_sem,ab]|with_reducible refine gl_ ?_)) (by omega) (fun g=>by simp-implicitDefEqProofs only[go_sem,ab]) (fun k p hk hB=>?_) (fun p hB=>?_)
 ·repeat first|simp-implicitDefEqProofs only[go_sem,ab,List.length_map,hEl]|with_reducible refine gl_ ?_
  first|done|rfl|exact⟨rfl,rfl⟩
 ·obtain⟨f1,f2,f3,f4⟩:=hOm _ (List.getElem_mem hk);obtain⟨v1,v2,v3,v4⟩:=hOn _ (List.getElem_mem hk);have hfew:=ajf O[k] f1 f2;have hgo:=hEg k hk;generalize O[k]=x at hfew hgo f1 f2 f3 f4 v1 v2 v3 v4;refine Vc2.seqJ (γ:=Unit) (fun _=>⟨[(10,.loc 10 0),(56,.d (.v (.int .i64 k))),(55,.d (.v (.int .i64 O.length))),(54,.d (.fz 22 E)),(1,.d (.v (.int .u8 nd.toNat))),(3,.loc 3 0),(7,.loc 7 0),(8,.loc 8 0)],[(10,⟨bc x,63⟩),(3,⟨aC c,26⟩),(7,⟨ak p,49⟩),(8,⟨ak p,49⟩)],[],0,0⟩) (fun _=>True) ?_ (fun _ _=>?_)
  ·repeat first|simp-implicitDefEqProofs only[go_sem,ab,hgo,bc,List.append_eq,List.cons_append,List.nil_append]|with_reducible first|refine gl_ ?_|refine ga_ ?_|refine gn_ ?_
   refine⟨(),aa [] ?_⟩
   repeat first|simp-implicitDefEqProofs only[go_sem,ab,bc,List.append_eq,List.cons_append,List.nil_append]|with_reducible refine gl_ ?_
   first|done|rfl|exact⟨rfl,rfl⟩
  clear hgo;refine Vc2.seqJ (γ:=Unit) (fun _=>⟨[(10,.loc 10 0),(56,.d (.v (.int .i64 k))),(55,.d (.v (.int .i64 O.length))),(54,.d (.fz 22 E)),(1,.d (.v (.int .u8 nd.toNat))),(3,.loc 3 0),(7,.loc 7 0),(8,.loc 8 0)],[(10,⟨bc x,63⟩),(3,⟨aC c,26⟩),(7,⟨ak p,49⟩),(8,⟨ak p,49⟩)],[],0,0⟩) (fun _=>pq x=true) ?_ (fun _ g3=>?_)
  ·repeat first|simp-implicitDefEqProofs only[go_sem,ab,bc,List.append_eq,List.cons_append,List.nil_append]|with_reducible first|refine gl_ ?_|refine ga_ ?_|refine gn_ ?_
   refine CallS.eqW hfew (by simp-implicitDefEqProofs only[go_sem,ab,bc,List.append_eq,List.cons_append,List.nil_append]) (.inl ws_) ?_
   refine g2_ ?_;cases g3:pq x with
   |false=>
    refine g2_ ?_;refine⟨p,aa [] ?_,hB⟩;exact ws_
   |true=>
   refine g2_ ?_;refine⟨(),aa [] ?_⟩
   repeat first|simp-implicitDefEqProofs only[go_sem,ab,bc,List.append_eq,List.cons_append,List.nil_append]|with_reducible refine gl_ ?_
   first|done|rfl|exact⟨rfl,rfl⟩
  obtain⟨q1,q2,q3⟩:=amg g3 f3;have hxm:ua x.m:=⟨q1.ds,by have:=q1.table;omega,v1,v2,v3,v4⟩
  have kan:=v7 x.m hxm;have kmm:=vN x.m hxm;have hW:=afp g2 hcs hB q1 q2 q3 f4;have hV:=yw c p x g2 hcs hB q1 q2 q3 f4;have hQ:=aiP g2 hcs hB q1 f4;have hL:=ajE g2 hB q1;have hpp:=kx p hB.m.h.ok;have hMl:=afw (c:=c) (p:=p) (o:=x) (iC g2 hB);clear hfew;generalize dY c p x=D at hW hV hQ hL hMl;obtain⟨q,ms,e⟩:=D;simp only at hW hV hQ hL hMl;have hqq:=kx q hQ.m.h.ok;have hms:=ac1 ms (by omega) hL
  refine Vc2.seqJ (γ:=Unit) (fun _=>⟨[(10,.loc 10 0),(11,.loc 11 0),(56,.d (.v (.int .i64 k))),(55,.d (.v (.int .i64 O.length))),(54,.d (.fz 22 E)),(1,.d (.v (.int .u8 nd.toNat))),(3,.loc 3 0),(7,.loc 7 0),(8,.loc 8 0)],[(10,⟨bc x,63⟩),(11,⟨encMg x.m,60⟩),(3,⟨aC c,26⟩),(7,⟨ak p,49⟩),(8,⟨ak p,49⟩)],[],0,0⟩) (fun _=>True) ?_ (fun _ _=>?_)
  ·repeat first|simp-implicitDefEqProofs only[go_sem,ab,bc,List.append_eq,List.cons_append,List.nil_append]|with_reducible first|refine gl_ ?_|refine ga_ ?_|refine gn_ ?_
   refine CallS.eqW kan (by simp-implicitDefEqProofs only[go_sem,ab,bc,List.append_eq,List.cons_append,List.nil_append]) (.inl ws_) ?_
   refine g2_ ?_;refine⟨(),aa [] ?_⟩
   repeat first|simp-implicitDefEqProofs only[go_sem,ab,bc,List.append_eq,List.cons_append,List.nil_append]|with_reducible refine gl_ ?_
   first|done|rfl|exact⟨rfl,rfl⟩
  refine Vc2.seqJ (γ:=Unit) (fun _=>⟨[(10,.loc 10 0),(11,.loc 11 0),(12,.loc 12 0),(56,.d (.v (.int .i64 k))),(55,.d (.v (.int .i64 O.length))),(54,.d (.fz 22 E)),(1,.d (.v (.int .u8 nd.toNat))),(3,.loc 3 0),(7,.loc 7 0),(8,.loc 8 0)],[(10,⟨bc x,63⟩),(11,⟨encMg x.m,60⟩),(12,⟨ak p,49⟩),(3,⟨aC c,26⟩),(7,⟨ak p,49⟩),(8,⟨ak p,49⟩)],[],0,0⟩) (fun _=>True) ?_ (fun _ _=>?_)
  ·repeat first|simp-implicitDefEqProofs only[go_sem,ab,bc,List.append_eq,List.cons_append,List.nil_append]|with_reducible first|refine gl_ ?_|refine ga_ ?_|refine gn_ ?_
   refine⟨(),aa [] ?_⟩
   repeat first|simp-implicitDefEqProofs only[go_sem,ab,bc,List.append_eq,List.cons_append,List.nil_append]|with_reducible refine gl_ ?_
   first|done|rfl|exact⟨rfl,rfl⟩
  refine Vc2.seqJ (γ:=Unit) (fun _=>⟨[(10,.loc 10 0),(11,.loc 11 0),(12,.loc 12 0),(13,.loc 13 0),(14,.d (.fz 17 (ms.map encMg))),(15,.d (.v (.int .i64 e))),(56,.d (.v (.int .i64 k))),(55,.d (.v (.int .i64 O.length))),(54,.d (.fz 22 E)),(1,.d (.v (.int .u8 nd.toNat))),(3,.loc 3 0),(7,.loc 7 0),(8,.loc 8 0)],[(10,⟨bc x,63⟩),(11,⟨encMg x.m,60⟩),(12,⟨ak p,49⟩),(13,⟨ak q,49⟩),(3,⟨aC c,26⟩),(7,⟨ak p,49⟩),(8,⟨ak p,49⟩)],[],0,0⟩) (fun _=>True) ?_ (fun _ _=>?_)
  ·repeat first|simp-implicitDefEqProofs only[go_sem,ab,bc,List.append_eq,List.cons_append,List.nil_append]|with_reducible first|refine gl_ ?_|refine ga_ ?_|refine gn_ ?_
   refine CallS.eqW hW (by simp-implicitDefEqProofs only[go_sem,ab,bc,List.append_eq,List.cons_append,List.nil_append]) (.inl ws_) ?_
   refine g2_ ?_;refine⟨(),aa [] ?_⟩
   repeat first|simp-implicitDefEqProofs only[go_sem,ab,bc,List.append_eq,List.cons_append,List.nil_append]|with_reducible refine gl_ ?_
   first|done|rfl|exact⟨rfl,rfl⟩
  refine Vc2.seqJ (γ:=Unit) (fun _=>⟨[(10,.loc 10 0),(11,.loc 11 0),(12,.loc 12 0),(13,.loc 13 0),(14,.d (.fz 17 (ms.map encMg))),(15,.d (.v (.int .i64 e))),(16,.loc 16 0),(17,.d (.fz 17 (ms.map encMg))),(18,.d (.v (.int .i64 e))),(56,.d (.v (.int .i64 k))),(55,.d (.v (.int .i64 O.length))),(54,.d (.fz 22 E)),(1,.d (.v (.int .u8 nd.toNat))),(3,.loc 3 0),(7,.loc 7 0),(8,.loc 8 0)],[(10,⟨bc x,63⟩),(11,⟨encMg x.m,60⟩),(12,⟨ak p,49⟩),(13,⟨ak q,49⟩),(16,⟨ak q,49⟩),(3,⟨aC c,26⟩),(7,⟨ak p,49⟩),(8,⟨ak p,49⟩)],[],0,0⟩) (fun _=>True) ?_ (fun _ _=>?_)
  ·repeat first|simp-implicitDefEqProofs only[go_sem,ab,bc,List.append_eq,List.cons_append,List.nil_append]|with_reducible first|refine gl_ ?_|refine ga_ ?_|refine gn_ ?_
   refine CallS.eqW hV (by simp-implicitDefEqProofs only[go_sem,ab,bc,List.append_eq,List.cons_append,List.nil_append]) (.inl ws_) ?_
   refine g2_ ?_;refine⟨(),aa [] ?_⟩
   repeat first|simp-implicitDefEqProofs only[go_sem,ab,bc,List.append_eq,List.cons_append,List.nil_append]|with_reducible refine gl_ ?_
   first|done|rfl|exact⟨rfl,rfl⟩
  refine Vc2.seqJ (γ:=Unit) (fun _=>⟨[(10,.loc 10 0),(13,.loc 13 0),(16,.loc 16 0),(56,.d (.v (.int .i64 k))),(55,.d (.v (.int .i64 O.length))),(54,.d (.fz 22 E)),(1,.d (.v (.int .u8 nd.toNat))),(3,.loc 3 0),(7,.loc 7 0),(8,.loc 8 0)],[(10,⟨bc x,63⟩),(13,⟨ak q,49⟩),(16,⟨ak q,49⟩),(3,⟨aC c,26⟩),(7,⟨ak p,49⟩),(8,⟨ak p,49⟩)],[],0,0⟩) (fun _=>True) ?_ (fun _ _=>?_)
  ·repeat first|simp-implicitDefEqProofs only[go_sem,ab,bc,List.append_eq,List.cons_append,List.nil_append]|with_reducible first|refine gl_ ?_|refine ga_ ?_|refine gn_ ?_
   refine cw_ hqq ?_;refine g2_ ?_;refine cw_ hms ?_
   repeat first|simp-implicitDefEqProofs only[go_sem,ab,bc,List.append_eq,List.cons_append,List.nil_append]|with_reducible first|refine gl_ ?_|refine ga_ ?_|refine gn_ ?_
   refine CallS.eqW kmm (by simp-implicitDefEqProofs only[go_sem,ab,bc,List.append_eq,List.cons_append,List.nil_append]) (.inl ws_) ?_
   refine g2_ ?_;refine cw_ hpp ?_;refine g2_ ?_;refine⟨(),aa [] ?_⟩
   repeat first|simp-implicitDefEqProofs only[go_sem,ab,bc,List.append_eq,List.cons_append,List.nil_append]|with_reducible refine gl_ ?_
   first|done|rfl|exact⟨rfl,rfl⟩
  refine Vc2.seqJ (γ:=Unit) (fun _=>⟨[(10,.loc 10 0),(56,.d (.v (.int .i64 k))),(55,.d (.v (.int .i64 O.length))),(54,.d (.fz 22 E)),(1,.d (.v (.int .u8 nd.toNat))),(3,.loc 3 0),(7,.loc 7 0),(8,.loc 8 0)],[(10,⟨bc x,63⟩),(3,⟨aC c,26⟩),(7,⟨ak q,49⟩),(8,⟨ak q,49⟩)],[],0,0⟩) (fun _=>True) ?_ (fun _ _=>?_)
  ·refine .inr (.inr (.inl ⟨[oF 0,oF 1,oT 2,oF 3],[7],by kernel_rfl,?_⟩))
   refine g2_ ?_;refine⟨(),aa [] ?_⟩
   repeat first|simp-implicitDefEqProofs only[go_sem,ab,bc,List.append_eq,List.cons_append,List.nil_append]|with_reducible refine gl_ ?_
   first|done|rfl|exact⟨rfl,rfl⟩
  clear hW hV hpp hB hL hms kan kmm;have kh1:=xh c q x.node x.inc hQ.m.h.ok hQ.m.h.rs;have kh2:=jk c q x.node x.inc hQ.m.h.ok hQ.m.h.rs hQ.m.sq (by have:=hQ.m.h.g.table;omega) (by have:=hQ.m.pre.table;omega)
  have hH:=(hQ.m.hear x.node x.inc).h.ok;generalize aI c q x.node x.inc=HH at kh1 kh2 hH;obtain⟨hp,hb⟩:=HH;simp only at kh1 kh2 hH;have khh:=kx hp hH;refine Vc2.seqJ (γ:=Unit) (fun _=>⟨[(10,.loc 10 0),(19,.loc 19 0),(20,.d (.v (.bool hb))),(56,.d (.v (.int .i64 k))),(55,.d (.v (.int .i64 O.length))),(54,.d (.fz 22 E)),(1,.d (.v (.int .u8 nd.toNat))),(3,.loc 3 0),(7,.loc 7 0),(8,.loc 8 0)],[(10,⟨bc x,63⟩),(19,⟨ak hp,49⟩),(3,⟨aC c,26⟩),(7,⟨ak q,49⟩),(8,⟨ak q,49⟩)],[],0,0⟩) (fun _=>True) ?_ (fun _ _=>?_)
  ·repeat first|simp-implicitDefEqProofs only[go_sem,ab,bc,List.append_eq,List.cons_append,List.nil_append]|with_reducible first|refine gl_ ?_|refine ga_ ?_|refine gn_ ?_
   refine cw_ kh1 ?_;refine g2_ ?_;refine⟨(),aa [] ?_⟩
   repeat first|simp-implicitDefEqProofs only[go_sem,ab,bc,List.append_eq,List.cons_append,List.nil_append]|with_reducible refine gl_ ?_
   first|done|rfl|exact⟨rfl,rfl⟩
  refine Vc2.seqJ (γ:=Unit) (fun _=>⟨[(10,.loc 10 0),(19,.loc 19 0),(20,.d (.v (.bool hb))),(21,.loc 21 0),(22,.d (.v (.bool hb))),(56,.d (.v (.int .i64 k))),(55,.d (.v (.int .i64 O.length))),(54,.d (.fz 22 E)),(1,.d (.v (.int .u8 nd.toNat))),(3,.loc 3 0),(7,.loc 7 0),(8,.loc 8 0)],[(10,⟨bc x,63⟩),(19,⟨ak hp,49⟩),(21,⟨ak hp,49⟩),(3,⟨aC c,26⟩),(7,⟨ak q,49⟩),(8,⟨ak q,49⟩)],[],0,0⟩) (fun _=>True) ?_ (fun _ _=>?_)
  ·repeat first|simp-implicitDefEqProofs only[go_sem,ab,bc,List.append_eq,List.cons_append,List.nil_append]|with_reducible first|refine gl_ ?_|refine ga_ ?_|refine gn_ ?_
   refine cw_ kh2 ?_;refine g2_ ?_;refine⟨(),aa [] ?_⟩
   repeat first|simp-implicitDefEqProofs only[go_sem,ab,bc,List.append_eq,List.cons_append,List.nil_append]|with_reducible refine gl_ ?_
   first|done|rfl|exact⟨rfl,rfl⟩
  refine Vc2.seqJ (γ:=Unit) (fun _=>⟨[(10,.loc 10 0),(56,.d (.v (.int .i64 k))),(55,.d (.v (.int .i64 O.length))),(54,.d (.fz 22 E)),(1,.d (.v (.int .u8 nd.toNat))),(3,.loc 3 0),(7,.loc 7 0),(8,.loc 8 0)],[(10,⟨bc x,63⟩),(3,⟨aC c,26⟩),(7,⟨ak q,49⟩),(8,⟨ak q,49⟩)],[],0,0⟩) (fun _=>True) ?_ (fun _ _=>?_)
  ·refine gx_ ?_;refine cw_ khh ?_;refine g2_ ?_;refine⟨(),aa [] ?_⟩
   repeat first|simp-implicitDefEqProofs only[go_sem,ab,bc,List.append_eq,List.cons_append,List.nil_append]|with_reducible refine gl_ ?_
   first|done|rfl|exact⟨rfl,rfl⟩
  have ks1:=fD q hQ.m.h.ok;have ks2:=gd q hQ.m.h.ok;have kl1:=m7 g2 hQ;have h12:=acv g2 hQ;have kl2:=mM q (by omega) (by omega)
  have hll:=iC g2 hQ;have kd:=kj (pSelf q) (pSelf q) (by have:=hQ.m.f8;show q.filter.length<=_;omega)
  rw[decide_eq_true (rfl:pSelf q=pSelf q)]at kd;have kf1:Con2 Tryz.prog 26 [.agg (aC c),fzD x.m.list] (· =plR (fzD (pFine c x.m.list))):=ep (tf c x.m.list (by have:=df g2;omega) q1.ds)
  have kf2:=aaT c x.m.list (by have:=df g2;omega) q1.ds
  have hFo:aR (pFine c x.m.list):=bu q1.ds;have kdd:=gG (pFine c x.m.list) (by have:=hFo.1;omega) (fun d hd=>by have:=hFo.2 d hd;omega)
  generalize pFine c x.m.list=F at kf1 kf2 kdd;generalize bA q=LB at kl1 kl2 hll;refine Vc2.seqJ (γ:=Unit) (fun _=>⟨[(10,.loc 10 0),(23,.loc 23 0),(24,.d (.fz 1 (LB.map aQ))),(56,.d (.v (.int .i64 k))),(55,.d (.v (.int .i64 O.length))),(54,.d (.fz 22 E)),(1,.d (.v (.int .u8 nd.toNat))),(3,.loc 3 0),(7,.loc 7 0),(8,.loc 8 0)],[(10,⟨bc x,63⟩),(23,⟨af (pSelf q),34⟩),(3,⟨aC c,26⟩),(7,⟨ak q,49⟩),(8,⟨ak q,49⟩)],[],0,0⟩) (fun _=>True) ?_ (fun _ _=>?_)
  ·refine zj (.fl 0 (.fl 2 (.eff 1 true (.eff 3 false (.eff 4 true (.eff 5 false (.fl 6 .done) .no) .no) (.eff 4 true (.eff 3 false (.eff 5 false (.fl 6 .done) .no) .no) .no)) (.eff 4 true (.eff 1 true (.eff 3 false (.eff 5 false (.fl 6 .done) .no) .no) .no) .no)))) [(23,.loc 23 0),(24,.d (.fz 1 (LB.map aQ)))] [(23,⟨af (pSelf q),34⟩)] ?_ ?_
   ·refine g2_ ?_
    repeat' (first
     |(with_reducible refine And.intro ?_ ?_)
     |(refine CallS.eqW ks1 ?_ (.inl ?_) ?_;(focus ((repeat first|simp-implicitDefEqProofs only[go_sem,ab]|with_reducible refine gl_ ?_);done));(focus ((repeat first|simp-implicitDefEqProofs only[go_sem,ab]|with_reducible refine gl_ ?_);done));refine g2_ ?_)
     |(refine CallS.eqW kl1 ?_ (.inl ?_) ?_;(focus ((repeat first|simp-implicitDefEqProofs only[go_sem,ab]|with_reducible refine gl_ ?_);done));(focus ((repeat first|simp-implicitDefEqProofs only[go_sem,ab]|with_reducible refine gl_ ?_);done));refine g2_ ?_)
     |(refine aa [] ?_;(focus (repeat first|simp-implicitDefEqProofs only[go_sem,ab,bc,List.append_eq,List.cons_append,List.nil_append]|with_reducible refine gl_ ?_;done))))
   refine g2_ ?_;refine⟨(),aa [] ?_⟩
   repeat first|simp-implicitDefEqProofs only[go_sem,ab,bc,List.append_eq,List.cons_append,List.nil_append]|with_reducible refine gl_ ?_
   first|done|rfl|exact⟨rfl,rfl⟩
  refine Vc2.of ?_;refine .inl ⟨[oF 0,oF 1,oT 2,oF 3,oF 4,oF 5,oF 6,oF 8,oF 7,oT 9,oF 10,oF 11,oF 12,oF 13,oF 14,oF 15,oF 19,oF 20,oF 16,oF 21,oF 17,oF 22,oT 18,oF 23,oF 24,oF 25,oF 26],by kernel_rfl,?_⟩
  repeat first|simp-implicitDefEqProofs only[go_sem,ab,bc,List.append_eq,List.cons_append,List.nil_append]|with_reducible first|refine gl_ ?_|refine ga_ ?_|refine gn_ ?_
  refine cw_ ks2 ?_;refine g2_ ?_;refine cw_ kd ?_;refine g2_ ?_;refine cw_ kl2 ?_;refine gx_ ?_;refine CallS.eqW kf1 (by simp-implicitDefEqProofs only[go_sem,ab,bc,List.append_eq,List.cons_append,List.nil_append]) (.inl ws_) ?_
  repeat first|simp-implicitDefEqProofs only[go_sem,ab,bc,List.append_eq,List.cons_append,List.nil_append]|with_reducible first|refine gl_ ?_|refine ga_ ?_|refine gn_ ?_
  refine CallS.eqW kf2 (by simp-implicitDefEqProofs only[go_sem,ab,bc,List.append_eq,List.cons_append,List.nil_append]) (.inl ws_) ?_
  refine g2_ ?_;refine cw_ kdd ?_;refine g2_ ?_;refine⟨fun h=>(by cases h),fun _=>?_⟩
  refine g2_ ?_;refine⟨q,aa [] ?_,hQ⟩
  repeat first|simp-implicitDefEqProofs only[go_sem,ab]|with_reducible refine gl_ ?_
  first|done|rfl|exact⟨rfl,rfl⟩
 ·have hpp:=kx p hB.m.h.ok;refine g2_ ?_;refine cw_ hpp ?_;refine g2_ ?_;refine cw_ haw ?_;refine g2_ ?_;exact⟨_,rfl,aa [] ws_⟩
end Go.Proofs.YthoihfighiolmaaGreat.V
namespace Go.Eng
open Go.ChangeShapes Go.WideShapes Go.RowKit
section
variable {H:Type} {enc:TypeId×Value->H} {P:Program} {W:World}
theorem HVss.choose{α:Type}{R:α->Prop}{encα:α->List DV}{us:World}: ∀{V:List (List Value)},(∀cs∈V, ∃g:α,HVs us (encα g) noB cs/\R g)-> ∃l:List α,HVss us (l.map encα) V/\ ∀g∈l,R g
 |[],_=>⟨[],rfl,by simp⟩
 | cs::V,h=>by
  obtain⟨g,h1,h2⟩:=h cs List.mem_cons_self;obtain⟨l,h3,h4⟩:=HVss.choose (V:=V) (fun c hc=>h c (List.mem_cons_of_mem _ hc))
  exact⟨g::l,⟨cs,V,rfl,h1,h3⟩,fun x hx=>by
   rcases List.mem_cons.1 hx with rfl|hx
   ·exact h2
   ·exact h4 x hx⟩
theorem tW{α:Type}{R:α->Prop}{Q:DataW H->Prop}{t e:TypeId}{sz base fuel:Nat}{sp:Nat->Bool}{held:Bool}{cs:List Value}{x:DataW H×List MemPlace}{encα:α->List DV}(ht:P.underlying t=some (.slice e))(hc:P.cellsOf e=sz)
  (hsz:0<sz) (hone: ∀g,onesD (encα g)=true) (hlen: ∀g,(encα g).length=sz) (hQ: ∀xs rest,x.1= .slice xs rest-> ∀d∈xs,Q d) (helt: ∀n cs x,DataW.trod enc P W base sp held n e cs=some x->Q x.1-> ∃g,HVs W (encα g) noB cs/\R g)
  (h:DataW.trod enc P W base sp held fuel t cs=some x): ∃l:List α,HVs W [.fz sz (l.map encα)] noB cs/\(∀g∈l,R g)/\l.length<=9223372036854775807/\((x.1= .nil/\l.length=0)\/ ∃xs rest,x.1= .slice xs rest/\xs.length=l.length):=by
 obtain⟨p,n,c,l,rfl,hs,hcm,hR,hxl⟩:=tC (Q:=Q) (α:={cs:List Value // cs.length=sz}) (R:=fun cs=> ∃g,HVs W (encα g) noB cs.1/\R g) (encα:=fun cs=>cs.1) ht hc hsz hQ
  (fun n cs x h hq=>by
   obtain⟨g,h1,h2⟩:=helt n cs x h hq
   exact⟨⟨cs,by rw[h1.length,hlen]⟩,rfl,g,h1,h2⟩) (fun g=>g.2) h
 obtain⟨l',h1,h2⟩:=HVss.choose (us:=W) (R:=R) (encα:=encα) (V:=l.map fun cs=>cs.1) (fun cs hcs=>by
  obtain⟨y,hy,rfl⟩:=List.mem_map.1 hcs
  exact hR y hy)
 have hl:=h1.length;have hcap:=hs.cap;have hln:=hs.len;simp only[maxLen]at hcm;refine⟨l',⟨_,[],rfl,⟨p,n,c,_,rfl,hs,fun y hy=>?_,h1⟩,rfl⟩,h2,?_,?_⟩
 ·refine HVs.allOnes_ h1 (fun y hy=>?_) y hy
  obtain⟨g,_,rfl⟩:=List.mem_map.1 hy;exact hone g
 ·simp only[List.length_map]at hl hln;omega
 ·have e:l'.length=n:=by simp only[List.length_map]at hl hln;omega
  rw[e];exact hxl
theorem uD{b0:Nat}{t:TypeId}{fs:Array Field}{v:Value}{ds:List DV}(ht:P.underlying t=some (.struct fs))(hval:Value.okWide P W .any b0 t v)(h:HVs W ds noB v.cells.toList):HV W (.agg ds) noB v:=by
 obtain⟨cs,rfl,hs⟩:=okWide_struct ht hval;exact⟨cs.toList,by simp,h⟩
theorem HV.plain{x:Value}(h:plain x=true):HV W (.v x) noB x:=⟨rfl,h⟩
theorem HVs.cons{d:DV}{ds:List DV}{v:Value}{V:List Value}(h1:HV W d noB v)(h2:HVs W ds noB V):HVs W (d::ds) noB (v::V):=⟨v,V,rfl,h1,h2⟩
theorem Con2.con{f:FuncId}{fargs:List DV}{vs:List Value}(h:Con2 P f fargs (· =plR (.v (.bool true))))(hv:HVs W fargs noB vs):Con P f vs W (fun r _=>r= .bool true):=by
 obtain⟨h1,h2⟩:=h W vs hv;refine⟨h1,fun w hw=>(h2 w hw).mono ?_⟩
 rintro e w' ⟨r,u',rfl,hst,hs,r',rfl,β,us,s,hr,hg⟩
 have h0:=hr.slot 0;rw[hg]at h0;obtain⟨w0,e0,hd⟩: ∃w,SV.v r= .v w/\HV us (.v (.bool true)) β w:=h0;cases e0;exact⟨r,u',rfl,hst,hs,hd.1⟩
end
end Go.Eng
namespace Go.Proofs.YthoihfighiolmaaGreat
open Go.Eng Go.ChangeShapes Go.WideShapes Go.RowKit
theorem akJ{n:Int}(h:(Lit.int .u8 n).wf=true): ∃x:UInt8,n=x.toNat:=by
 have hx:0<=n/\n<=255:=by simpa[Lit.wf,IntKind.min,IntKind.max,IntKind.signed,IntKind.bits]using h
 refine⟨UInt8.ofNat n.toNat,?_⟩;rw[UInt8.toNat_ofNat'];omega
theorem al7{n:Int}(h:(Lit.int .u16 n).wf=true): ∃x:UInt16,n=x.toNat:=by
 have hx:0<=n/\n<=65535:=by simpa[Lit.wf,IntKind.min,IntKind.max,IntKind.signed,IntKind.bits]using h
 refine⟨UInt16.ofNat n.toNat,?_⟩;rw[UInt16.toNat_ofNat'];omega
theorem alv{n:Int}(h:(Lit.int .u32 n).wf=true): ∃x:UInt32,n=x.toNat:=by
 have hx:0<=n/\n<=4294967295:=by simpa[Lit.wf,IntKind.min,IntKind.max,IntKind.signed,IntKind.bits]using h
 refine⟨UInt32.ofNat n.toNat,?_⟩;rw[UInt32.toNat_ofNat'];omega
theorem own:ownKnob Tryz.prog.godebug=none:=by kernel_rfl
theorem laid:laidOutB Tryz.prog=true:=by kernel_rfl
theorem amz:mapsRowed Tryz.prog=true:=by kernel_rfl
theorem full:((List.range Tryz.prog.types.size).all fun t=>match Tryz.prog.underlying t with|some (.slice e)=>decide (0<Tryz.prog.cellsOf e)|_=>true)=true:=by kernel_rfl
