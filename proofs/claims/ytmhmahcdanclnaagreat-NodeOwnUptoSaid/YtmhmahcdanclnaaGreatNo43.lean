import Derived.Test.YtmhmahcdanclnaaGreatNo42
set_option linter.unusedSectionVars false
set_option linter.unusedSimpArgs false
set_option linter.unusedVariables false
set_option maxRecDepth 10000
set_option maxHeartbeats 8000000
namespace Go.Proofs.YtmhmahcdanclnaaGreat.V
open Go.Eng
attribute [local go_sem] aS ah fzD plR ba aL aR aC aE ak az aU z8 z16 z32 z64 encMg aN b_ aA d_ aH List.set_cons_succ List.set_cons_zero
theorem api(w:Nat->Option Rn)(h:w 0=some (.to 0)):wkRow w (mpRow kv8 nFns) (some (mpRow kv8 nFns)):=by
 exact wf_ (c3_ @mpRow.eq_1 @nFns.eq_1 h)
theorem ade(c:ar)(p:af)(m:aK)(dr:List UInt32)(hc:c.schema.length<=4)(hcs: ∀s∈c.schema,okS s)(hp:okH p)(hk:m.kind=10)(hu:p.up=true)(hto:m.to=p.node)
  (he:m.ev.vals.length<=4000000/\m.ev.data.length<=4000000) (hps:0<=p.passed/\p.passed<=1000000000) (hdr:dr.length<=4000000) (hsw:0<=c.swap/\c.swap<=1000000)
  (hgA:okG (aI c (aB c (aw c p m.frm m.inc).1 []) m.ev).1)
  (kl:Con2 Tryz.prog 91 [.agg (ak (aI c (aB c (aw c p m.frm m.inc).1 []) m.ev).1)] (· =ba 5 1 ((aQ (aI c (aB c (aw c p m.frm m.inc).1 []) m.ev).1).map aA))) (hll:(aQ (aI c (aB c (aw c p m.frm m.inc).1 []) m.ev).1).length<=1000000):
  Con2 Tryz.prog 31 [.agg (aE c),.agg (ak p),.agg (encMg m),.fz 1 (dr.map aH)] (· =plR (.tup [.agg (ak (bN c p m dr).1),.fz 17 ((bN c p m dr).2.1.map encMg),.fz 5 ((bN c p m dr).2.2.map az)])):=by
 refine Con2.ofEmb ?_;have kf:=iA c p hp.ok;have kh:=tv c p m.frm m.inc hp.ok hp.rs;have hq:=dA (c:=c) hp m.frm m.inc;have hpq:(aw c p m.frm m.inc).1.passed=p.passed:=(cF (c:=c) (p:=p) m.frm m.inc).passed
 have hN:bN c p m dr=if (aw c p m.frm m.inc).2=false then ((aw c p m.frm m.inc).1,[],[])else (aB c (kZ c (aB c (aw c p m.frm m.inc).1 []) m dr).1 [],(kZ c (aB c (aw c p m.frm m.inc).1 []) m dr).2.1,(kZ c (aB c (aw c p m.frm m.inc).1 []) m dr).2.2):=by
  unfold bN;rw[if_neg (by rw[hk];decide),if_neg (by rw[hu,hto];simp)]
  simp only[hk];rfl
 rw[hN];clear hN;generalize aw c p m.frm m.inc=Q at kh hq hgA kl hll hpq ⊢;obtain⟨q,b⟩:=Q;simp only at kh hq hgA kl hll hpq ⊢;have km:=ahW c q [] hc hcs hq.g ⟨by simp,by simp⟩ (by simp)
 have hg2:=je (c:=c) (l:=[]) hq.g ⟨by simp,by simp⟩ (by simp)
 have hrq:(aB c q []).rows=q.rows:=rfl
 have hps:0<=(aB c q []).passed/\(aB c q []).passed<=1000000000:=by
  show 0<=q.passed/\q.passed<=1000000000;rw[hpq];exact hps
 have km2:=iv c (aB c q []) [] hc hcs hg2 ⟨by simp,by simp⟩ (by simp)
 have km3:=iv c (aI c (aB c q []) m.ev).1 [] hc hcs hgA ⟨by simp,by simp⟩ (by simp)
 rw[<-hrq]at km;generalize aB c q []=r at km km2 km3 hg2 hgA kl hll hps ⊢;clear hrq hpq;have hp:=hp.ok;refine(mb c p m dr _).2 ?_;dsimp only[mb];rw[show gw nFns m.kind=some (.fn 153 [.pt 0 0] [])by rw[hk];rfl]
 refine x0_ ?_;refine cw_ kf (g2_ ?_);rw[hu,hto];refine gx_ ?_;refine cx_ kh (wg_ hu hto) (g2_ ?_);cases b with
 |false=>
  refine g2_ ?_;refine ae ?_ rfl;exact wg_ hu hto
 |true=>
 rw[if_neg (by decide)]
 refine g2_ ?_;refine cw_ km (g2_ ?_);refine il_ Tryz.func153 [] ?_;refine Vc2.sq (g2_ ?_)
 refine Vc2.seqJ (γ:=Bool) (fun g=>bif g then
   ⟨[(0,.d (.pt 0 0)),(2,.loc 2 0),(3,.loc 3 0),(4,.d (.v (.bool true))),(5,.d (.v (.bool (fb r.filter m.ev.vals))))],[(2,⟨az m.ev,56⟩),(3,⟨lr (aI c r m.ev).1 r.rows.length,49⟩)],
    [(3,.arr 178 5 ((aI c r m.ev).1.pulls.map aU) false),(2,.arr 84 3 ((aI c r m.ev).1.rows.map aC) false),(0,.var 144 (aE c++((ak r).set 24 (.rf 2 0 r.rows.length)++(encMg m++[.fz 1 (dr.map aH),.v (.slice none 0 0),.v (.slice none 0 0)]))))],4,3⟩
  else ⟨[(0,.d (.pt 0 0)),(4,.d (.v (.bool false)))],[],[(2,.arr 84 3 (r.rows.map aC) false),(0,.var 144 (aE c++((ak r).set 24 (.rf 2 0 r.rows.length)++(encMg m++[.fz 1 (dr.map aH),.v (.slice none 0 0),.v (.slice none 0 0)]))))],3,3⟩)
  (fun g=>bif g then r.up=true/\j5 c r m.ev=true else r.up=false\/j5 c r m.ev=false) ?_ (fun g hg=>?_)
 ·refine g2_ ?_;refine .inr (.inl ⟨(.fl 0 (.fl 4 (.fl 8 (.fl 1 (.fl 5 (.fl 2 (.fl 6 (.fl 3 (.fl 7 (.eff 9 false (.fl 10 (.fl 11 (.fl 12 (.fl 13 (.eff 14 true (.eff 15 false (.fl 16 (.fl 17 .done)) .no) .no))))) (.eff 14 true (.eff 9 false (.fl 10 (.fl 11 (.fl 12 (.fl 13 (.eff 15 false (.fl 16 (.fl 17 .done)) .no))))) .no) .no))))))))))),by kernel_rfl,g2_ ?_⟩)
  repeat' (first
   |(with_reducible refine And.intro ?_ ?_)
   |(refine ak9 c r m.ev hg2.ok (by omega) he hps (fun w w0 w1 w2=>⟨?_,api w w0⟩) (fun w1=>?_) (fun w1 w2=>?_);(focus (repeat first|simp-implicitDefEqProofs only[go_sem,ab,w0,w1,w2]|with_reducible refine gl_ ?_;done))))
  all_goals
   repeat first|simp-implicitDefEqProofs only[go_sem,ab,lr]|with_reducible first|refine gl_ ?_|refine ga_ ?_|refine gn_ ?_
   first
    |(refine⟨true,aa [] ?_,⟨w1,w2⟩⟩;(focus (repeat first|simp-implicitDefEqProofs only[go_sem,ab,hto,cond_true,lr,List.append_eq,List.cons_append,List.nil_append]|with_reducible refine gl_ ?_;done)))
    |(refine⟨false,aa [] ?_,w1⟩;(focus (repeat first|simp-implicitDefEqProofs only[go_sem,ab,hto,cond_false,List.append_eq,List.cons_append,List.nil_append]|with_reducible refine gl_ ?_;done)))
    |trace_state
 ·cases g with
  |false=>
   have hP:kZ c r m dr=(r,[],[]):=by unfold kZ;simp only;rw[show aI c r m.ev=(r,false,false)from if_pos hg];rfl
   rw[hP];simp only[cond_false];refine Vc2.of ?_;exact q2_ km2
  | true=>
   have hg:r.up=true/\j5 c r m.ev=true:=hg;have hA2:(aI c r m.ev).2=(true,fb r.filter m.ev.vals):=by rw[kG hg.1 hg.2]
   have hAn:(aI c r m.ev).1.rows.length=r.rows.length:=pl_accept.rows;obtain⟨S,hS⟩: ∃S,S=(if m.hops=0 then []else gb c (aI c r m.ev).1 m.ev (m.hops-1) (dN (aQ (aI c r m.ev).1) m.frm m.ev.id.node) dr):=⟨_,rfl⟩
   obtain⟨G,hG⟩: ∃G,G=if fb r.filter m.ev.vals=true then [m.ev]else []:=⟨_,rfl⟩
   have hP:kZ c r m dr=((aI c r m.ev).1,S,G):=by
    unfold kZ;simp only[hA2];rw[if_neg (by decide),hS,hG]
   rw[hP];clear hP hA2;simp only[cond_true];generalize (aI c r m.ev).1=A at *;refine Vc2.sq ?_
   repeat first|simp-implicitDefEqProofs only[go_sem,ab,lr,List.append_eq,List.cons_append,List.nil_append]|with_reducible first|refine gl_ ?_|refine ga_ ?_|refine gn_ ?_
   refine Vc2.sq ?_
   repeat first|simp-implicitDefEqProofs only[go_sem,ab,lr,List.append_eq,List.cons_append,List.nil_append]|with_reducible first|refine gl_ ?_|refine ga_ ?_|refine gn_ ?_
   refine Vc2.seqJ (γ:=Unit) (fun _=>⟨[(0,.d (.pt 0 0)),(2,.loc 2 0)],[(2,⟨az m.ev,56⟩)],
    [(4,.arr 56 5 (G.map az) false),(3,.arr 178 5 (A.pulls.map aU) false),(2,.arr 84 3 (A.rows.map aC) false),(0,.var 144 (aE c++(lr A A.rows.length++(encMg m++[.fz 1 (dr.map aH),.v (.slice none 0 0),.rf 4 0 G.length]))))],5,3⟩)
    (fun _=>True) ?_ (fun _ _=>?_)
   ·have kc:=jL m.ev he.1 he.2;cases hd:fb r.filter m.ev.vals with
    |false=>
     rw[if_neg (by rw[hd];decide)]at hG
     refine g2_ ?_;refine⟨(),aa [(4,.nil 5)] ?_⟩
     repeat first|simp-implicitDefEqProofs only[go_sem,ab,hG,hto,hAn,lr,List.map_nil,List.length_nil,List.append_eq,List.cons_append,List.nil_append]|with_reducible refine gl_ ?_
     first|done|rfl|exact⟨rfl,rfl⟩
    |true=>
     rw[if_pos hd]at hG;refine g2_ ?_;refine .inl ⟨[oF 0,oF 1,oF 5,oF 2,oF 3,oF 4,oT 6,oT 7,oF 8,oF 9,oF 10,oF 11],by kernel_rfl,g2_ ?_⟩
     refine cw_ kc (g2_ ?_);refine⟨(),aa [(4,.to 5)] ?_⟩
     repeat first|simp-implicitDefEqProofs only[go_sem,ab,hG,hto,hAn,lr,List.map_nil,List.map_cons,List.length_nil,List.length_cons,List.append_eq,List.cons_append,List.nil_append]|with_reducible refine gl_ ?_
     first|done|rfl|exact⟨rfl,rfl⟩
   ·have kL:=uI m.hops;refine Vc2.sq ?_
    repeat first|simp-implicitDefEqProofs only[go_sem,ab,lr,List.append_eq,List.cons_append,List.nil_append]|with_reducible first|refine gl_ ?_|refine ga_ ?_|refine gn_ ?_
    refine cw_ kL (g2_ ?_);refine Vc2.of ?_;refine g2_ ?_
    by_cases h0:m.hops=0
    ·rw[if_pos h0]at hS;rw[hS];rw[decide_eq_true h0];refine g2_ ?_;clear km2;have km2:=km3;refine .inl ⟨[oF 0,oF 1,oF 2,oF 3,oF 4,oF 5,oF 6,oF 7,oF 8,oF 9],by kernel_rfl,gx_ ?_⟩
     refine cw_ km2 (gx_ ?_);refine .inr (.inr (.inl ⟨[oF 0,oF 4,oF 8,oF 1,oF 5,oF 9,oF 2,oF 6,oF 10,oF 3,oF 7,oF 11,oT 12,oF 13,oF 14],[8],by kernel_rfl,gx_ ?_⟩))
     refine ae ?_ rfl;exact wf_ @an
    ·rw[if_neg h0]at hS;have kp:=rH c A m.ev (m.hops-1) (dN (aQ A) m.frm m.ev.id.node) dr he (Nat.le_trans (List.length_filter_le _ _) (by omega)) hdr hsw
     rw[<-hS]at kp;rw[decide_eq_false h0];refine g2_ ?_;refine .inl ⟨[oF 0,oF 5,oF 10,oF 1,oF 6,oF 11,oF 2,oF 7,oF 12,oF 3,oF 8,oF 9,oT 4,oF 13,oF 14],by kernel_rfl,?_⟩
     repeat first|simp-implicitDefEqProofs only[go_sem,ab,lr,List.append_eq,List.cons_append,List.nil_append]|with_reducible first|refine gl_ ?_|refine ga_ ?_|refine gn_ ?_
     refine cx_ kl (by simp-implicitDefEqProofs only[go_sem,ab,lr,an,List.length_map]) (g2_ ?_)
     refine aj_ (aQ A) m.frm m.ev.id.node (by omega) (fun w hw=>?_) ?_
     ·have w0:=hw 0 (by omega)
      have w2:=hw 2 (by omega)
      have w3:=hw 3 (by omega)
      have w4:=hw 4 (by omega)
      repeat first|simp-implicitDefEqProofs only[go_sem,ab,w0,w2,w3,w4]|with_reducible refine gl_ ?_
      first|done|trace_state
     ·refine g2_ ?_;refine .inl ⟨[oF 0,oF 1,oF 5,oF 9,oF 10,oF 11,oF 12,oF 2,oF 6,oF 13,oF 3,oF 7,oF 14,oF 4,oF 8,oF 15,oF 16,oF 17,oF 18,oF 19],by kernel_rfl,gf_ @an ?_⟩
      refine cx_ kp (wg_ @an h0) (g2_ ?_);clear km2;have km2:=km3;refine .inl ⟨[oF 0,oF 1,oF 2,oF 3,oF 4,oF 5,oF 6,oF 7,oF 8,oF 9],by kernel_rfl,gx_ ?_⟩
      refine cw_ km2 (gx_ ?_);refine .inr (.inr (.inl ⟨[oF 0,oF 4,oF 8,oF 1,oF 5,oF 9,oF 2,oF 6,oF 10,oF 3,oF 7,oF 11,oT 12,oF 13,oF 14],[8],by kernel_rfl,gx_ ?_⟩))
      refine ae ?_ rfl;exact wf_ @an
end Go.Proofs.YtmhmahcdanclnaaGreat.V
namespace Go.Proofs.YtmhmahcdanclnaaGreat.V
open Go.Eng
attribute [local go_sem] aS ah fzD plR ba aL aR aC aE ak az aU z8 z16 z32 z64 encMg List.set_cons_succ List.set_cons_zero
theorem agO(c:ar)(p:af)(node:UInt8)(inc:UInt16)(hp:okP p)(hr:fQ p.reports):Con2 Tryz.prog 84 [.agg (aE c),.agg (ak p),.v (.int .u8 node.toNat),.v (.int .u16 inc.toNat)]
  (· =⟨.tup [.agg ((ak (aw c p node inc).1).set 22 (.rf 0 0 p.heard.length)),.v (.bool (aw c p node inc).2)],[(0,.arr 57 3 (p.heard.map aL) false)],1⟩):=by
 have hi:=node.toNat_lt;have hj:=p.node.toNat_lt;have htb:=hp.table;have kf:=pW p hp;refine en_ Tryz.func84 [.cell 8 49,.tmp 9] (g2_ ?_);refine g2_ ?_;refine .inr (.inr (.inl ⟨[oF 0,oF 1,oF 3,oF 4,oT 2,oF 5,oF 6,oF 7,oF 8,oF 9],[],by kernel_rfl,g2_ ?_⟩))
 refine cw_ kf (g2_ ?_);refine im_ Tryz.func156 [.cell 8 49,.tmp 9] (g2_ ?_);refine gf_ @ao ?_
 by_cases h1:c.nodes<=(node.toNat:Int)
 ·have e:aw c p node inc=(p,false):=if_pos (.inl h1);rw[e,decide_eq_true h1];refine gf_ @ao ?_;exact⟨_,rfl,aa [(0,.to 0)] ws_⟩
 rw[decide_eq_false h1];refine gf_ @ao ?_
 by_cases h2:p.table.length<=node.toNat
 ·have e:aw c p node inc=(p,false):=if_pos (.inr (.inl h2));rw[e,decide_eq_true (show(p.table.length:Int)<=(node.toNat:Int)by omega)]
  refine gf_ @ao ?_;exact⟨_,rfl,aa [(0,.to 0)] ws_⟩
 rw[decide_eq_false (show ¬(p.table.length:Int)<=(node.toNat:Int)by omega)]
 refine gf_ @ao ?_;rw[ch]
 by_cases h3:node=p.node
 ·have e:aw c p node inc=(p,false):=if_pos (.inr (.inr (.inl h3)));rw[e,decide_eq_true h3];refine gf_ @ao ?_;exact⟨_,rfl,aa [(0,.to 0)] ws_⟩
 rw[decide_eq_false h3];refine gf_ @ao ?_;rw[nv];refine aZ (fun h4=>?_) (fun h4=>?_)
 ·have e:aw c p node inc=(p,false):=if_pos (.inr (.inr (.inr h4)));rw[e];refine gf_ @ao ?_;exact⟨_,rfl,aa [(0,.to 0)] ws_⟩
 have hk:node.toNat<p.table.length:=by omega
 refine gf_ (c2_ @ao (mE_ hk)) ?_
 have e0:aw c p node inc=if inc<p.table[node.toNat].inc\/(inc=p.table[node.toNat].inc/\p.table[node.toNat].state=3)then (p,false)
   else ({ p with table:=iG p.table node inc,reports:=if p.table[node.toNat].inc<inc then f7 p.reports node else p.reports },true):=by
  unfold aw;rw[if_neg (by simp[h1,h2,h3,h4]),List.getElem?_eq_getElem hk]
 rw[e0];have hth:=rK p.table node inc htb;generalize p.table[node.toNat]=m
 by_cases h5:(inc.toNat:Int)<(m.inc.toNat:Int)
 ·have h6:inc<m.inc:=by rw[UInt16.lt_iff_toNat_lt];omega
  rw[if_pos (.inl h6),decide_eq_true h5];refine gf_ @ao ?_;exact⟨_,rfl,aa [(0,.to 0)] ws_⟩
 have h6: ¬inc<m.inc:=by rw[UInt16.lt_iff_toNat_lt];omega
 rw[decide_eq_false h5];refine gf_ @ao ?_;rw[dW]
 by_cases h7:inc=m.inc/\m.state=3
 ·rw[if_pos (.inr h7),decide_eq_true h7.1];refine gf_ @ao ?_;rw[abv,decide_eq_true h7.2];refine gf_ @ao ?_;exact⟨_,rfl,aa [(0,.to 0)] ws_⟩
 rw[if_neg (by simp[h6];exact fun a b=>h7 ⟨a,b⟩)]
 by_cases hA:inc=m.inc
 ·have hs3: ¬m.state=3:=fun h=>h7 ⟨hA,h⟩
  have h8: ¬(m.inc.toNat:Int)<(inc.toNat:Int):=by rw[hA];omega
  have h9: ¬m.inc<inc:=by rw[UInt16.lt_iff_toNat_lt];omega
  rw[decide_eq_true hA,if_neg h9];refine gf_ @ao ?_;rw[abv,decide_eq_false hs3];refine gf_ @ao ?_;refine ce_ hth (gf_ @ao ?_);rw[decide_eq_false h8];refine gf_ @ao ?_;exact⟨_,rfl,aa [(0,.to 0)] ws_⟩
 ·have h8:(m.inc.toNat:Int)<(inc.toNat:Int):=by
   have:m.inc.toNat≠inc.toNat:=fun h=>hA (UInt16.toNat_inj.1 h.symm)
   omega
  have h9:m.inc<inc:=by rw[UInt16.lt_iff_toNat_lt];omega
  rw[decide_eq_false hA,if_pos h9];refine gf_ @ao ?_;refine ce_ hth (gf_ @ao ?_);rw[decide_eq_true h8];refine gf_ @ao ?_;refine ce_ (jI p.reports node hr) (gf_ @ao ?_);exact⟨_,rfl,aa [(0,.to 0)] (wf_ @ao)⟩
attribute[local go_sem] aN b_ aA d_ aH SeqW2.eq_1 cond_false
@[local go_sem] theorem as2:aaw Tryz.prog 5=true:=by kernel_rfl
theorem alQ(L:List UInt8)(a b:UInt8)(hl:L.length<=4000000){R0 R2:Row}{ρ σ nb K}(hR: ∀r:Nat->Option Rn,(∀i,i<3->r i=some (.to i))->wkRow r R0 (some R0)/\wkRow r R2 (some R2))
  (hk:K (.rf 3 0 (dN L a b).length) ⟨ρ,σ,[(5,.var 5 [.v (.int .u8 b.toNat)]),(4,.var 5 [.v (.int .u8 a.toNat)]),(3,.arr 5 1 ((dN L a b).map aA) false),(2,R2),(0,R0)],6,nb⟩):
  CallS Tryz.prog false 251 [.rf 3 0 L.length,.v (.int .u8 a.toNat),.v (.int .u8 b.toNat)] ⟨ρ,σ,[(3,.arr 5 1 (L.map aA) false),(2,R2),(0,R0)],4,nb⟩ K:=by
 have hQ:=hR (rnOf [] 6) (fun i hi=>by
  have:i<6:=by omega
  simp only[rnOf,decide_eq_true this,cond_true];rfl)
 obtain⟨q,hq⟩: ∃q:UInt8->Bool,q=fun x=>decide (x=a)||decide (x=b):=⟨_,rfl⟩
 have kq: ∀x,Con2 Tryz.prog 317 [.v (.int .u8 x.toNat),.fp [.v (.int .u8 a.toNat)],.fp [.v (.int .u8 b.toNat)]] (· =plR (.v (.bool (q x)))):=fun x=>by rw[hq];exact vk a b x
 have hU:dN L a b=L.filter fun x=> !q x:=by rw[hq];rfl
 rw[hU]at hk;clear hq hU hR;have hdf:=xt (q:=q) (l:=L);have hdn:=qK (q:=q) (l:=L);have hFl:(L.filter fun x=> !q x).length<=4000000:=Nat.le_trans (List.length_filter_le _ _) hl
 refine im_ Tryz.func251 [.tmp 6] (g2_ ?_);refine g2_ ?_;refine im_ Tryz.func316 [.tmp 4] (g2_ ?_);refine g2_ ?_;refine CallS.eq (zV 317 [.fp [.v (.int .u8 a.toNat)],.fp [.v (.int .u8 b.toNat)]] L q hl (fun _=>ws_) ws_ (fun _=>ws_) (fun x _=>kq x)) (wf_ @an) (.inr ws_) ?_
 cases hi:L.findIdx? q with
 |none=>
  have e1:(L.filter fun x=> !q x)=L:=List.filter_eq_self.2 fun x hx=>by simp[List.findIdx?_eq_none_iff.1 hi x hx]
  rw[show fH none= -1 from rfl]
  rw[e1]at hk;refine g2_ ?_;exact hk
 | some i=>
  obtain⟨hil,hib,hif⟩:=List.findIdx?_eq_some_iff_getElem.1 hi;have hbi:q L[i]=true:=hib
  have hF0: ∀x∈L.take i,q x=false:=fun x hx=>by
   obtain⟨j,hj,rfl⟩:=List.mem_take_iff_getElem.1 hx;have:=hif j (by omega)
   simpa using this
  obtain⟨d1,d2⟩:=nD hil hbi hF0;rw[show fH (some i)=((i:Nat):Int)from rfl]
  refine g2_ ?_;rw[show(((i:Nat):Int)== -1)=false from beq_eq_false_iff_ne.2 (by omega)]
  refine g2_ ?_;refine bt (γ:=Nat) (fun j=>[(6,.d (.v (.int .i64 (j:Nat)))),(5,.d (.v (.int .i64 (dfN q L j:Nat))))]) (fun _=>[]) (fun j=>[(5,.var 5 [.v (.int .u8 b.toNat)]),(4,.var 5 [.v (.int .u8 a.toNat)]),(3,.arr 5 1 ((dfR q L j).map aA) false),(2,R2),(0,R0)]) 6 (fun j=>i+1<=j/\j<=L.length/\dfN q L j<j) (fun j=>L.length-j) (i+1) (aa [] ?_) ⟨Nat.le_refl _,by omega,by omega⟩ (fun j hj=>?_)
  ·refine gf_ (c3_ d1 d2 hQ) ?_
   first|done|rfl|exact⟨rfl,rfl⟩
  ·obtain⟨j1,j2,j3⟩:=hj;have hdl:=qQ (q:=q) (l:=L) (j:=j);have hrl2:=qH (q:=q) j2
   by_cases hjl:j<L.length
   ·have hg:((dfR q L j).map aA)[j]? =some (aA L[j]):=by rw[List.getElem?_map,qN hjl];rfl
    refine gf_ hrl2 ?_;rw[decide_eq_true (show(j:Int)<(L.length:Int)by omega)]
    refine gg_ hg hrl2 ?_;refine CallS.eq (kq L[j]) ws_ (.inr ws_) ?_;refine g2_ ?_;cases hb:q L[j]with
    |true=>
     refine g2_ ?_;refine⟨j+1,aa [] ?_,⟨by omega,by omega,by rw[fC hjl hb];omega⟩,by omega⟩
     repeat first|simp-implicitDefEqProofs only[go_sem,ab,fC hjl hb,nQ hjl hb,hQ]|with_reducible refine gl_ ?_
     first|done|rfl|exact⟨rfl,rfl⟩
    |false=>
     have hg2:((dfR q L j).map aA)[dfN q L j]? =some (aA (dfR q L j)[dfN q L j]):=aV (by omega)
     refine gg_ hg2 hrl2 ?_;refine⟨j+1,aa [] ?_,⟨by omega,by omega,by rw[fB hjl hb];omega⟩,by omega⟩
     repeat first|simp-implicitDefEqProofs only[go_sem,ab,fB hjl hb, <-oe hjl hb,List.map_set,hQ]|with_reducible refine gl_ ?_
     first|done|rfl|exact⟨rfl,rfl,rfl,rfl⟩|trace_state
   ·obtain rfl:j=L.length:=by omega
    refine gf_ hrl2 ?_;rw[decide_eq_false (show ¬(L.length:Int)<(L.length:Int)by omega)]
    refine gf_ hrl2 ?_;rw[Nat.sub_zero, <-List.map_take,hdf,hdn];exact hk
theorem yO(l:List (List DV))(hl:l.length<=5000000):Con2 Tryz.prog 323 [.fz 3 l] (· =plR (.fz 3 l)):=jn (fj (T:=58) Tryz.func323 (by kernel_rfl) (by kernel_rfl) rfl rfl Ty.elOf58 (by decide) l hl)
theorem agw(l:List GAsk)(x:GAsk)(most:Int):(yV l x most).length<=l.length+1:=by grind [yV,acq]
theorem abB(c:ar)(p:af)(n:UInt8)(i:UInt16):(aw c p n i).1.heard=p.heard:=by grind [aw]
theorem x_(c:ar)(p:af)(m:aK)(dr:List UInt32)(hc:c.schema.length<=4)(hcs: ∀s∈c.schema,okS s)(hp:okH p)(hk:m.kind=11)(hu:p.up=true)(hto:m.to=p.node)
  (hids:m.ids.length<=500000) (hpl:p.pulls.length<=3000000) (hpat:0<=c.patience/\c.patience<=255) (htb:m.table.length<=4000000) (hmk:m.marks.length<=4000000) (kl:Con2 Tryz.prog 91 [.agg (ak (bB c (aB c (aw c p m.frm m.inc).1 []) m).1)] (· =ba 5 1 ((aQ (bB c (aB c (aw c p m.frm m.inc).1 []) m).1).map aA))) (hll:(aQ (bB c (aB c (aw c p m.frm m.inc).1 []) m).1).length<=1000000) (hVw:Vw (aB c (aw c p m.frm m.inc).1 []).node (aB c (aw c p m.frm m.inc).1 []).view) (hgA:okG (bB c (aB c (aw c p m.frm m.inc).1 []) m).1):
  Con2 Tryz.prog 31 [.agg (aE c),.agg (ak p),.agg (encMg m),.fz 1 (dr.map aH)] (· =plR (.tup [.agg (ak (bN c p m dr).1),.fz 17 ((bN c p m dr).2.1.map encMg),.fz 5 ((bN c p m dr).2.2.map az)])):=by
 refine Con2.ofEmb ?_;have kf:=iA c p hp.ok;have kh:=tv c p m.frm m.inc hp.ok hp.rs;have hq:=dA (c:=c) hp m.frm m.inc
 have hN:bN c p m dr=if (aw c p m.frm m.inc).2=false then ((aw c p m.frm m.inc).1,[],[])else (aB c (bB c (aB c (aw c p m.frm m.inc).1 []) m).1 [],(bB c (aB c (aw c p m.frm m.inc).1 []) m).2,[]):=by
  unfold bN;rw[if_neg (by rw[hk];decide),if_neg (by rw[hu,hto];simp)]
  simp only[hk];rfl
 rw[hN];clear hN;have hqp:(aw c p m.frm m.inc).1.pulls=p.pulls:=(cF (c:=c) (p:=p) m.frm m.inc).pulls;generalize aw c p m.frm m.inc=Q at kh hq hVw hgA hqp kl hll ⊢;obtain⟨q,b⟩:=Q;simp only at kh hq hVw hgA hqp kl hll ⊢;have km:=iv c q [] hc hcs hq.g ⟨by simp,by simp⟩ (by simp)
 have hg2:=je (c:=c) (l:=[]) hq.g ⟨by simp,by simp⟩ (by simp)
 have hrs:fQ (aB c q []).reports:=hq.rs;have hv8:ok8 (aB c q []).view:=⟨Nat.le_trans (List.length_filter_le _ _) hq.v8.1,fun d hd=>hq.v8.2 d (List.mem_filter.1 hd).1⟩
 have hrp:(aB c q []).pulls.length<=3000000:=by show q.pulls.length<=_;rw[hqp];exact hpl
 have hvw:Vw (aB c q []).node (aB c q []).view:=hVw;have km3:=iv c (bB c (aB c q []) m).1 [] hc hcs hgA ⟨by simp,by simp⟩ (by simp)
 have km2:=iv c (aB c q []) [] hc hcs hg2 ⟨by simp,by simp⟩ (by simp)
 generalize aB c q []=r at km km2 km3 hg2 hgA hrs hv8 hvw hrp kl hll ⊢;have hp:=hp.ok;refine(mb c p m dr _).2 ?_;dsimp only[mb];rw[show gw nFns m.kind=some (.fn 155 [.pt 0 0] [])by rw[hk];rfl]
 refine x0_ ?_;refine cw_ kf (g2_ ?_);rw[hu,hto];refine gx_ ?_;refine cx_ kh (wg_ hu hto) (g2_ ?_);cases b with
 |false=>
  refine g2_ ?_;refine ae ?_ rfl;exact wg_ hu hto
 |true=>
 rw[if_neg (by decide)]
 refine g2_ ?_;refine cw_ km (g2_ ?_);refine il_ Tryz.func155 [] ?_;refine Vc2.sq (g2_ ?_);refine Vc2.sq ?_;refine .inl ⟨[oF 0,oF 3,oF 1,oF 4,oF 2,oF 5,oF 6,oF 7,oF 8,oF 9,oF 10,oF 12,oF 11,oF 13,oF 14,oF 15,oF 16,oF 17,oF 18,oF 19,oF 20,oF 23,oF 21,oF 24,oF 22,oF 25,oF 26,oF 27,oF 28,oF 29,oF 30],by kernel_rfl,?_⟩
 have ho:=m.origin.node.toNat_lt;have hhe:=hg2.ok.heard;refine gx_ ?_
 by_cases h1:c.nodes<=(m.origin.node.toNat:Int)
 ·have hb:bB c r m=(r,[]):=if_pos (.inl h1);rw[decide_eq_true h1];refine g2_ ?_;rw[hb];exact q2_ km2
 rw[decide_eq_false h1];refine gx_ ?_;rw[ch]
 by_cases h2:m.origin.node=r.node
 ·have hb:bB c r m=(r,[]):=if_pos (.inr h2);rw[decide_eq_true h2];refine g2_ ?_;rw[hb];exact q2_ km2
 rw[decide_eq_false h2];refine gx_ ?_
 by_cases h3:r.heard.length<=m.origin.node.toNat
 ·have hb:bB c r m=(r,[]):=by unfold bB;rw[if_neg (by simp[h1,h2]),List.getElem?_eq_none h3]
  rw[decide_eq_true (show(r.heard.length:Int)<=(m.origin.node.toNat:Int)by omega)]
  refine g2_ ?_;rw[hb];exact q2_ km2
 rw[decide_eq_false (show ¬(r.heard.length:Int)<=(m.origin.node.toNat:Int)by omega)]
 have h3:m.origin.node.toNat<r.heard.length:=by omega
 have hN:bB c r m=if nn m.origin { r.heard[m.origin.node.toNat]with node:=m.origin.node }=false then (r,[])else if (aw c r m.origin.node m.origin.inc).2=false then (r,[])
   else ((nJ c { bx { (aw c r m.origin.node m.origin.inc).1 with heard:=(aw c r m.origin.node m.origin.inc).1.heard.set m.origin.node.toNat m.origin } m.table with reports:=cl (bx { (aw c r m.origin.node m.origin.inc).1 with heard:=(aw c r m.origin.node m.origin.inc).1.heard.set m.origin.node.toNat m.origin } m.table).reports m.origin.node m.marks } m).1,
    (nJ c { bx { (aw c r m.origin.node m.origin.inc).1 with heard:=(aw c r m.origin.node m.origin.inc).1.heard.set m.origin.node.toNat m.origin } m.table with reports:=cl (bx { (aw c r m.origin.node m.origin.inc).1 with heard:=(aw c r m.origin.node m.origin.inc).1.heard.set m.origin.node.toNat m.origin } m.table).reports m.origin.node m.marks } m).2++
    if m.hops=0 then []else qZ (nJ c { bx { (aw c r m.origin.node m.origin.inc).1 with heard:=(aw c r m.origin.node m.origin.inc).1.heard.set m.origin.node.toNat m.origin } m.table with reports:=cl (bx { (aw c r m.origin.node m.origin.inc).1 with heard:=(aw c r m.origin.node m.origin.inc).1.heard.set m.origin.node.toNat m.origin } m.table).reports m.origin.node m.marks } m).1 m):=by
  unfold bB;rw[if_neg (by simp[h1,h2]),List.getElem?_eq_getElem h3]
 have kn:=rl m.origin { r.heard[m.origin.node.toNat]with node:=m.origin.node };have kH:=agO c r m.origin.node m.origin.inc hg2.ok hrs;have hhd:(aw c r m.origin.node m.origin.inc).1.heard=r.heard:=abB ..;refine g2_ ?_;refine Vc2.sq (g2_ ?_);refine .inl ⟨[oF 0,oF 5,oF 1,oF 6,oF 2,oF 3,oF 4,oF 7,oF 8,oT 9,oF 10],by kernel_rfl,gf_ (mE_ h3) ?_⟩
 refine Vc2.sq (g2_ ?_);refine Vc2.sq (g2_ ?_);refine cw_ kn ?_;clear kn;refine g2_ ?_;generalize nn m.origin { r.heard[m.origin.node.toNat]with node:=m.origin.node }=b4 at hN ⊢;cases b4 with
 |false=>
  have hb:bB c r m=(r,[]):=hN;refine g2_ ?_;rw[hb];exact q2_ km2
 |true=>
 rw[if_neg (by decide)]at hN
 refine g2_ ?_
 refine Vc2.seqJ (γ:=Unit) (fun _=>⟨[(0,.d (.pt 0 0)),(2,.loc 2 0),(4,.loc 4 0),(5,.d (.v (.bool (aw c r m.origin.node m.origin.inc).2)))],[(2,⟨aL m.origin,57⟩),(4,⟨(ak (aw c r m.origin.node m.origin.inc).1).set 22 (.rf 2 0 r.heard.length),49⟩)],
  [(2,.arr 57 3 (r.heard.map aL) false),(0,.var 144 (aE c++(ak r++(encMg m++[.fz 1 (dr.map aH),.v (.slice none 0 0),.v (.slice none 0 0)]))))],3,2⟩) (fun _=>True) ?_ (fun _ _=>?_)
 ·refine g2_ ?_;refine .inr (.inl ⟨(.fl 0 (.fl 4 (.fl 8 (.fl 10 (.fl 1 (.fl 5 (.fl 9 (.fl 11 (.fl 2 (.fl 6 (.fl 3 (.fl 7 (.eff 12 false (.fl 13 (.fl 14 (.fl 15 (.eff 16 true (.eff 17 false (.fl 18 .done) .no) .no)))) (.eff 16 true (.eff 12 false (.fl 13 (.fl 14 (.fl 15 (.eff 17 false (.fl 18 .done) .no)))) .no) .no)))))))))))))),by kernel_rfl,g2_ ?_⟩)
  repeat' (first
   |(with_reducible refine And.intro ?_ ?_)
   |(refine CallS.eqW kH ?_ (.inl ?_) ?_;(focus (simp-implicitDefEqProofs only[go_sem,ab];done));(focus (simp-implicitDefEqProofs only[go_sem,ab];done));refine g2_ ?_)
   |(refine⟨(),aa [] ?_⟩;(focus (repeat first|simp-implicitDefEqProofs only[go_sem,ab,hto,List.append_eq,List.cons_append,List.nil_append]|with_reducible refine gl_ ?_;done))))
 have okH2:=dA (c:=c) ⟨hg2,hrs,hv8,hvw⟩ m.origin.node m.origin.inc;have hhp:(aw c r m.origin.node m.origin.inc).1.pulls.length<=3000000:=by rw[(cF (c:=c) (p:=r) m.origin.node m.origin.inc).pulls];exact hrp
 generalize aw c r m.origin.node m.origin.inc=Q at hN hhd okH2 hhp ⊢;obtain⟨h,b5⟩:=Q;simp only at hN hhd okH2 hhp ⊢;refine Vc2.sq (gx_ ?_);cases b5 with
 |false=>
  have hb:bB c r m=(r,[]):=hN;refine g2_ ?_;rw[hb];exact q2_ km2
 |true=>
 rw[if_neg (by decide)]at hN
 refine g2_ ?_;have hmp:(r.heard.map aL).set m.origin.node.toNat [.v (.int .u8 m.origin.node.toNat),.v (.int .u16 m.origin.inc.toNat),.v (.int .u32 m.origin.seq.toNat)]=(r.heard.set m.origin.node.toNat m.origin).map aL:=by rw[List.map_set];rfl
 have hln:(r.heard.set m.origin.node.toNat m.origin).length=r.heard.length:=List.length_set;rw[hhd]at hN;generalize r.heard.set m.origin.node.toNat m.origin=Hs at hmp hln hN;have hpk:okP { h with heard:=Hs }:={ okH2.ok with heard:=by show Hs.length<=4000000;omega }
 have kle:=adO { h with heard:=Hs } m.table hpk (by have:=okH2.g.table;show h.table.length<=256;omega) htb okH2.rs
 have hr1:fQ (bx { h with heard:=Hs } m.table).reports:=i_ okH2.rs _;have krp:=aej (bx { h with heard:=Hs } m.table).reports m.origin.node m.marks hr1 hmk;have hP1r:(bx { h with heard:=Hs } m.table).rows=h.rows:=rfl;have hP1p:(bx { h with heard:=Hs } m.table).pulls=h.pulls:=rfl;generalize bx { h with heard:=Hs } m.table=P1 at hN kle krp hr1 hP1r hP1p;obtain⟨P2,hP2⟩: ∃P2:af,P2={ P1 with reports:=cl P1.reports m.origin.node m.marks }:=⟨_,rfl⟩;rw[<-hP2]at hN;have hprw:P2.rows.length<=4000000:=by rw[hP2];show P1.rows.length<=_;rw[hP1r];exact okH2.ok.rows
 have hppl:P2.pulls.length<=3000000:=by rw[hP2];show P1.pulls.length<=_;rw[hP1p];exact hhp
 refine Vc2.sq (gf_ (mE_ h3) ?_);rw[hmp];have hht:List.take r.heard.length (Hs.map aL)=Hs.map aL:=List.take_of_length_le (by rw[List.length_map,hln];exact Nat.le_refl _)
 refine Vc2.sq ?_;refine .inl ⟨[oF 0,oF 1,oF 2,oF 3,oF 4,oF 5,oF 6,oF 7],by kernel_rfl,g2_ ?_⟩
 refine cx_ kle (wg_ hht hln) (g2_ ?_);refine Vc2.sq ?_;refine .inl ⟨[oF 0,oF 2,oF 4,oF 1,oF 3,oF 5,oF 6,oF 7,oF 8,oF 9,oF 10,oF 11],by kernel_rfl,g2_ ?_⟩
 refine cx_ krp (wf_ @ao) (g2_ ?_);refine Vc2.seqJ (γ:=Unit) (fun _=>⟨[(0,.d (.pt 0 0)),(2,.loc 2 0)],[(2,⟨aL m.origin,57⟩)],[(0,.var 144 (aE c++(ak P2++(encMg m++[.fz 1 (dr.map aH),.v (.slice none 0 0),.v (.slice none 0 0)]))))],2,2⟩) (fun _=>True) ?_ (fun _ _=>?_)
 ·refine g2_ ?_;refine⟨(),aa [] ?_⟩
  repeat first|simp-implicitDefEqProofs only[go_sem,ab,hto,hP2,ao,List.append_eq,List.cons_append,List.nil_append]|with_reducible refine gl_ ?_
  first|done|rfl|exact⟨rfl,rfl⟩
 obtain⟨B,hB⟩: ∃B:Nat->List GAsk×List GID,B=fun k=>((fE m.ids P2.rows c.window).take k).foldl (tz c m.origin.node) (P2.pulls,[]):=⟨_,rfl⟩
 have hBn:nJ c P2 m=({ P2 with pulls:=(B (fE m.ids P2.rows c.window).length).1 },if (B (fE m.ids P2.rows c.window).length).2=[]then []else [{ pMsg P2 12 m.origin.node with ids:=(B (fE m.ids P2.rows c.window).length).2 }]):=by
  rw[hB];simp only[List.take_length];rfl
 have hB0:B 0=(P2.pulls,[]):=by rw[hB];rfl
 have hLl:(fE m.ids P2.rows c.window).length<=m.ids.length:=by
  have:=oN P2.rows c.window m.ids [];simp only[List.length_nil,Nat.zero_add]at this;exact this
 have kla:=ait m.ids P2.rows c.window (by omega) hprw
 have hBs: ∀k (hk:k<(fE m.ids P2.rows c.window).length),B (k+1)=tz c m.origin.node (B k) (fE m.ids P2.rows c.window)[k]:=fun k hk=>by
  rw[hB];simp only;rw[List.take_add_one,List.getElem?_eq_getElem hk,List.foldl_append];rfl
 rw[hBn]at hN;generalize fE m.ids P2.rows c.window=Ls at hBn hLl kla hBs hN
 have hBl: ∀k,k<=Ls.length->(B k).1.length<=P2.pulls.length+k/\(B k).2.length<=k:=by
  intro k
  induction k with
  |zero=>intro _;rw[hB0];exact⟨Nat.le_refl _,Nat.le_refl _⟩
  | succ k ih=>
   intro hk;obtain⟨i1,i2⟩:=ih (by omega)
   rw[hBs k (by omega)]
   unfold tz;split
   ·exact⟨by omega,by omega⟩
   ·split
    ·refine⟨?_,?_⟩
     ·have:=agw (B k).1 ⟨Ls[k],m.origin.node,UInt8.ofNat (c.patience % 256).toNat⟩ c.pulls;simp only;omega
     ·simp only[List.length_append,List.length_cons,List.length_nil];omega
    ·exact⟨by omega,by omega⟩
 clear hB hBn
 refine Vc2.seqJ (γ:=Unit) (fun _=>⟨[(0,.d (.pt 0 0)),(2,.loc 2 0)],[(2,⟨aL m.origin,57⟩)],
  [(2,.arr 60 17 ((if (B Ls.length).2=[]then []else [{ pMsg P2 12 m.origin.node with ids:=(B Ls.length).2 }]).map encMg) false),(0,.var 144 (aE c++(ak { P2 with pulls:=(B Ls.length).1 }++(encMg m++[.fz 1 (dr.map aH),.rf 2 0 (if (B Ls.length).2=[]then []else [{ pMsg P2 12 m.origin.node with ids:=(B Ls.length).2 }]).length,.v (.slice none 0 0)]))))],3,2⟩) (fun _=>True) ?_ (fun _ _=>?_)
 ·refine gx_ ?_;refine im_ Tryz.func256 [] (g2_ ?_);refine g2_ ?_;refine .inl ⟨[oF 0,oF 5,oF 10,oF 17,oF 1,oF 6,oF 11,oF 2,oF 7,oF 12,oF 3,oF 8,oF 13,oF 4,oF 9,oF 14,oF 15,oF 16],by kernel_rfl,g2_ ?_⟩
  refine cw_ kla (gx_ ?_);refine aq Ls.length (fun k=>[(2,.d (.rf 2 0 (B k).2.length))]) (fun _=>[]) (fun k=>[(2,.arr 54 3 ((B k).2.map aN) false),(0,.var 144 (aE c++(ak { P2 with pulls:=(B k).1 }++(encMg m++[.fz 1 (dr.map aH),.v (.slice none 0 0),.v (.slice none 0 0)]))))]) 3 (fun _=>True) (aa [(2,.nil 3)] ?_) trivial (fun g k=>ws_) (by omega) (fun g=>ws_) (fun k hk _=>?_) (fun _=>?_)
  ·refine gf_ (c2_ hB0 hto) ?_
   first|done|rfl|exact⟨rfl,rfl⟩
  ·obtain⟨l1,l2⟩:=hBl k (by omega)
   have hs:=hBs k hk;have hl3:=hBl (k+1) (by omega)
   have hg:(Ls.map aN)[k]? =some (aN Ls[k]):=aV hk;have knr:=aea c Ls[k];have hxb:=Ls[k].bd;generalize Ls[k]=x at hs hg knr hxb;generalize B k=S at l1 l2 hs ⊢;obtain⟨S1,S2⟩:=S;simp only at l1 l2;unfold tz at hs;simp only at hs;refine gf_ hg ?_;refine .inl ⟨[oF 0,oF 4,oF 1,oF 2,oF 3,oF 5,oF 6],by kernel_rfl,g2_ ?_⟩
   refine cw_ knr (g2_ ?_);cases g2:nt x c.nodes c.last with
   |false=>
    rw[if_pos g2]at hs;refine g2_ ?_;refine⟨k+1,aa [] ?_,rfl⟩
    repeat first|simp-implicitDefEqProofs only[go_sem,ab,hs,hto,List.append_eq,List.cons_append,List.nil_append]|with_reducible refine gl_ ?_
    first|done|rfl|exact⟨rfl,rfl⟩
   | true=>
    rw[if_neg (by rw[g2];decide)]at hs
    have kpa:=ajl S1 ⟨x,m.origin.node,UInt8.ofNat (c.patience % 256).toNat⟩ c.pulls (by omega)
    have hh8:((UInt8.ofNat (c.patience % 256).toNat).toNat:Int)=c.patience:=by rw[UInt8.toNat_ofNat'];omega
    refine g2_ ?_;refine .inl ⟨[oF 0,oF 1,oF 7,oF 2,oF 8,oF 3,oF 9,oF 4,oF 10,oF 5,oF 11,oF 6,oF 12,oF 13,oT 14,oF 15],by kernel_rfl,g2_ ?_⟩
    refine gF (by omega) ?_
    refine g2_ ?_;refine .inl ⟨[oF 0,oF 5,oF 6,oF 1,oF 7,oF 2,oF 8,oF 3,oF 9,oF 4,oF 10,oF 11,oF 12,oF 13,oF 14,oF 15,oF 16],by kernel_rfl,g2_ ?_⟩
    refine cx_ kpa (wf_ hh8) (g2_ ?_);generalize yV S1 ⟨x,m.origin.node,UInt8.ofNat (c.patience % 256).toNat⟩ c.pulls=A1 at hs ⊢;generalize abM S1 ⟨x,m.origin.node,UInt8.ofNat (c.patience % 256).toNat⟩ c.pulls=E1 at hs⊢
    by_cases h0:E1=0
    ·rw[if_pos h0]at hs;rw[show(E1==0)=true by simp[h0]]
     refine gx_ ?_;refine⟨k+1,aa [(2,.to 4)] ?_,rfl⟩
     repeat first|simp-implicitDefEqProofs only[go_sem,ab,hs,hto,List.length_append,List.map_append,List.append_eq,List.cons_append,List.nil_append]|with_reducible refine gl_ ?_
     first|done|rfl|exact⟨rfl,rfl⟩
    ·rw[if_neg h0]at hs;rw[show(E1==0)=false by simp[h0]]
     refine g2_ ?_;refine⟨k+1,aa [] ?_,rfl⟩
     repeat first|simp-implicitDefEqProofs only[go_sem,ab,hs,hto,List.append_eq,List.cons_append,List.nil_append]|with_reducible refine gl_ ?_
     first|done|rfl|exact⟨rfl,rfl⟩
  ·obtain⟨l1,l2⟩:=hBl Ls.length (Nat.le_refl _);generalize B Ls.length=S at l1 l2 ⊢;obtain⟨S1,S2⟩:=S;simp only at l1 l2 ⊢;refine gx_ ?_
   by_cases h0:S2=[]
   ·rw[if_pos h0];rw[show decide ((0:Int)<(S2.length:Int))=false by rw[h0];rfl]
    refine g2_ ?_;refine⟨(),aa [(2,.nil 17)] ?_⟩
    repeat first|simp-implicitDefEqProofs only[go_sem,ab,hto,List.map_nil,List.length_nil,List.append_eq,List.cons_append,List.nil_append]|with_reducible refine gl_ ?_
    first|done|rfl|exact⟨rfl,rfl⟩
   ·rw[if_neg h0];have hpos:0<S2.length:=List.length_pos_iff.2 h0;rw[show decide ((0:Int)<(S2.length:Int))=true from decide_eq_true (by omega)]
    have kn:=kz { P2 with pulls:=S1 } 12 m.origin.node;refine g2_ ?_;refine rS (.fl 0 (.fl 4 (.fl 1 (.fl 5 (.fl 2 (.fl 6 (.fl 3 (.fl 7 (.fl 8 (.fl 9 (.eff 10 false (.eff 11 true (.eff 12 false .done .no) .no) (.eff 11 true (.eff 10 false (.eff 12 false .done .no) .no) .no)))))))))))) [(8,.loc 8 0)] [(8,⟨encMg (pMsg P2 12 m.origin.node),60⟩)] ?_ ?_
    ·refine g2_ ?_
     repeat' (first
      |(with_reducible refine And.intro ?_ ?_)
      |(refine CallS.eqW kn ?_ (.inl ?_) ?_;(focus (simp-implicitDefEqProofs only[go_sem,ab];done));(focus (simp-implicitDefEqProofs only[go_sem,ab];done));refine g2_ ?_)
      |(refine aa [] ?_;(focus (repeat first|simp-implicitDefEqProofs only[go_sem,ab,pMsg]|with_reducible refine gl_ ?_;done))))
    refine gf_ (c2_ @pMsg.eq_1 @zEvt.eq_1) ?_;refine .inl ⟨[oF 0,oF 1,oF 5,oF 2,oF 3,oF 4,oT 6,oF 7,oF 8,oF 9,oF 10],by kernel_rfl,gx_ ?_⟩
    refine⟨(),aa [(2,.to 4)] ?_⟩
    repeat first|simp-implicitDefEqProofs only[go_sem,ab,hto,pMsg,zEvt,List.map_nil,List.map_cons,List.length_nil,List.length_cons,an,List.append_eq,List.cons_append,List.nil_append]|with_reducible refine gl_ ?_
    first|done|rfl|exact⟨rfl,rfl⟩
 ·have hA2:({ P2 with pulls:=(B Ls.length).1 }:af).table=P2.table:=rfl;have hSl:(if (B Ls.length).2=[]then []else [{ pMsg P2 12 m.origin.node with ids:=(B Ls.length).2 }]:List aK).length<=1:=by split<;>simp
  generalize (if (B Ls.length).2=[]then []else [{ pMsg P2 12 m.origin.node with ids:=(B Ls.length).2 }]:List aK)=S at hN hSl⊢
  generalize ({ P2 with pulls:=(B Ls.length).1 }:af)=A at hN ⊢;clear hA2;have kL:=uI m.hops;rw[hN]at kl km3 hll ⊢;simp only at kl km3 hll ⊢;refine Vc2.sq (gx_ ?_);refine cw_ kL (g2_ ?_);refine Vc2.of ?_;refine g2_ ?_
  by_cases h0:m.hops=0
  ·rw[if_pos h0,List.append_nil];rw[decide_eq_true h0];refine g2_ ?_;clear km2;have km2:=km3;refine .inl ⟨[oF 0,oF 1,oF 2,oF 3,oF 4,oF 5,oF 6,oF 7,oF 8,oF 9],by kernel_rfl,gx_ ?_⟩
   refine cw_ km2 (gx_ ?_);refine .inr (.inr (.inl ⟨[oF 0,oF 4,oF 8,oF 1,oF 5,oF 9,oF 2,oF 6,oF 10,oF 3,oF 7,oF 11,oT 12,oF 13,oF 14],[8],by kernel_rfl,gx_ ?_⟩))
   refine ae ?_ rfl;exact wf_ @an
  ·rw[if_neg h0];unfold qZ;rw[decide_eq_false h0];obtain⟨f,hf⟩: ∃f:UInt8->aK,f=fun to=>{ pMsg A 11 to with hops:=m.hops-1,origin:=m.origin,table:=m.table,marks:=m.marks,ids:=m.ids }:=⟨_,rfl⟩
   have hfe: ∀to,encMg (f to)=[.v (.int .u8 11),.v (.int .u8 A.node.toNat),.v (.int .u16 A.inc.toNat),.v (.int .u8 to.toNat),.fz 4 [],.fz 3 (m.table.map aR),.v (.int .u8 0),.v (.int .u16 0),.v (.int .u32 0),.fz 1 [],.fz 1 [],.v (.int .u8 (m.hops-1).toNat),.v (.int .u8 m.origin.node.toNat),.v (.int .u16 m.origin.inc.toNat),.v (.int .u32 m.origin.seq.toNat),.fz 3 (m.marks.map aL),.fz 3 (m.ids.map aN)]:=fun to=>by rw[hf];rfl
   rw[<-hf];clear hf;have kmm:=fun to=>kz A 11 to
   have kc1:=ec (m.table.map aR) (by rw[List.length_map];omega)
   have kc2:=ic (m.marks.map aL) (by rw[List.length_map];omega)
   have kc3:=yO (m.ids.map aN) (by rw[List.length_map];omega)
   refine gf_ h0 ?_;refine im_ Tryz.func257 [] (g2_ ?_);refine g2_ ?_;refine .inl ⟨[oF 0,oF 5,oF 10,oF 18,oF 1,oF 6,oF 11,oF 2,oF 7,oF 12,oF 3,oF 8,oF 13,oF 9,oF 14,oF 15,oT 4,oF 16,oF 17],by kernel_rfl,gx_ ?_⟩
   refine cw_ kl (g2_ ?_);refine alQ (aQ A) m.frm m.origin.node (by omega) (fun w hw=>?_) ?_
   ·have w0:=hw 0 (by omega)
    have w2:=hw 2 (by omega)
    repeat first|simp-implicitDefEqProofs only[go_sem,ab,w0,w2]|with_reducible refine gl_ ?_
    first|done|trace_state
   ·have hWl:(dN (aQ A) m.frm m.origin.node).length<=1000000:=Nat.le_trans (List.length_filter_le _ _) hll;generalize dN (aQ A) m.frm m.origin.node=L at hWl ⊢;refine gx_ ?_;refine aq L.length (fun k=>[]) (fun _=>[]) (fun k=>[(6,.arr 60 17 ((S++(L.take k).map f).map encMg) false),(3,.arr 5 1 (L.map aA) false),(0,.var 144 (aE c++(ak A++(encMg m++[.fz 1 (dr.map aH),.rf 6 0 (S++(L.take k).map f).length,.v (.slice none 0 0)]))))]) 7 (fun _=>True) (aa [(6,.to 2)] ?_) trivial (fun g k=>ws_) (by omega) (fun g=>ws_) (fun k hk _=>?_) (fun _=>?_)
    ·refine x1_ hto ?_
     first|done|rfl|exact⟨rfl,rfl⟩
    ·have hg:(L.map aA)[k]? =some [.v (.int .u8 L[k].toNat)]:=by rw[List.getElem?_map,List.getElem?_eq_getElem hk];rfl
     have hsn:S++(L.take (k+1)).map f=(S++(L.take k).map f)++[f L[k]]:=by rw[List.take_add_one,List.getElem?_eq_getElem hk,List.map_append,List.append_assoc];rfl
     have hsl:(S++(L.take (k+1)).map f).length=(S++(L.take k).map f).length+1:=by rw[hsn,List.length_append];rfl
     have hsl2:(S++(L.take k).map f).length<=4000000:=by rw[List.length_append,List.length_map,List.length_take];omega
     have kk:=kmm L[k];have hfk:=hfe L[k];generalize S++(L.take k).map f=X at hsn hsl hsl2;generalize f L[k]=x at hsn hfk;refine gf_ hg ?_;refine cw_ kk ?_
     repeat first|simp-implicitDefEqProofs only[go_sem,ab,pMsg,zEvt,List.map_nil]|with_reducible first|refine gl_ ?_|refine ga_ ?_|refine gn_ ?_
     refine cw_ kc1 (g2_ ?_);refine cw_ kc2 (g2_ ?_);refine cw_ kc3 (g2_ ?_);refine .inl ⟨[oF 0,oF 1,oF 5,oF 2,oF 3,oF 4,oT 6,oF 7,oF 8,oF 9,oF 10],by kernel_rfl,gx_ ?_⟩
     refine⟨k+1,aa [(6,.to 8)] ?_,rfl⟩;refine x1_ (c3_ hsn hsl hto) ?_
     first|done|exact congrArg (fun z=>List.map encMg X++[z]) hfk|trace_state
    ·rw[List.take_of_length_le (Nat.le_refl L.length)];have hsl3:(S++L.map f).length<=4000000:=by rw[List.length_append,List.length_map];omega
     generalize S++L.map f=X at hsl3 ⊢;clear km2;have km2:=km3;exact q2_ km2
end Go.Proofs.YtmhmahcdanclnaaGreat.V
namespace Go.Proofs.YtmhmahcdanclnaaGreat.V
open Go.Eng
section
variable {c:ar} {nd:UInt8} {p q:af} {m:aK} {dr:List UInt32} {k:Int} {e:GEvt}
theorem yC(h:aF c=true):0<=c.hops/\c.hops<=12/\1<=c.patience/\c.patience<=255:=by grind [aF,inR]
theorem ajP{t:List (List GMark)}(h:fQ t):ajH t:=⟨by have:=h.1;omega,h.2⟩
theorem aii(hc:aF c=true)(hB:Bd c nd p):Con2 Tryz.prog 91 [.agg (ak p)] (· =ba 5 1 ((aQ p).map aA)):=by
 have h1:=mM hc hB;have h2:=hB.h.g.ok;have h:=zD p (by omega) (by omega) h2.succ h2.pred (show(cj p).length<=26 from iC hc hB)
 unfold ba;rw[List.length_map];exact h
theorem ajb(hc:aF c=true)(hcs: ∀s∈c.schema,okS s)(hB:Bd c nd p)(hE:Ew c p k)(hk:k<=1000000000)(hdr:dr.length<=4000000):
  Con2 Tryz.prog 35 [.agg (aE c),.agg (ak p),.fz 1 (dr.map aH)] (· =plR (.tup [.agg (ak (eu c p dr).1),.fz 17 ((eu c p dr).2.map encMg)])):=by
 have hr:=cy hc;have h1:Bd c nd (rU p):=afR hc hB hE;have g:Pl1 p (rU p):=(qE (p:=p)).1
 have key:p.up=true->Bd c (rU p).node (aB c (ct c (rU p)) [])/\Bd c (rU p).node (ez c (aB c (ct c (rU p)) []) dr).1:=fun hu=>by
  have s1:=(aeQ h1).meet hc (by rw[g.up];exact hu) fY jy (ms:=[]) ig
  exact⟨s1.bd,(aji (dr:=dr) hc s1.bd (by rw[s1.up,g.up,hu])).1⟩
 have hq:p.up=true->Bd c nd (kE c p dr).1:=fun hu=>by
  have s:=uC (dr:=dr) hc h1 (by rw[g.up];exact hu)
  have:=s.bd;rw[h1.node]at this;exact this
 have hq2:p.up=true->Bd c nd (qt (kE c p dr).1):=fun hu=>by
  have hq:=hq hu;unfold qt;generalize (kE c p dr).1=q at hq
  exact⟨⟨⟨⟨hq.h.ok.filter,hq.h.ok.view,hq.h.ok.near,hq.h.ok.succ,hq.h.ok.pred,hq.h.ok.sent,hq.h.ok.table,hq.h.ok.heard,hq.h.ok.rows,hq.h.ok.reports,hq.h.ok.evs,hq.h.ok.pulls⟩,hq.h.g.filter,hq.h.g.view,hq.h.g.near,hq.h.g.succ,hq.h.g.pred,hq.h.g.table⟩,hq.h.rs,hq.h.v8,hq.h.vw⟩,
   ⟨hq.win.table,hq.win.rows,hq.win.heard,hq.win.view,hq.win.near,hq.win.cur,hq.win.ovl,hq.win.ring⟩,hq.node,hq.ws,hq.f8,hq.dn⟩
 refine aiM c p dr hB.h.ok (ajP hB.h.rs) ⟨hE.collected.1,by have:=hE.collected.2;omega⟩ (fun hu=>?_) (fun hu=>Nat.le_trans aly (by omega)) (fun hu=>(hq hu).h.ok) (fun hu=>by have:=(hq hu).win.rows;omega) (fun hu=>sJ hc (hq2 hu)) (fun hu=>Nat.le_trans (fZ hc (hq2 hu)) (by omega))
 exact amP c (rU p) dr _ (by omega) hcs h1.h (by rw[g.up];exact hu) (by omega) hdr h1.ws (sJ hc (key hu).2) (Nat.le_trans (fZ hc (key hu).2) (by omega))
  (ae7 (key hu).1.h.v8 (by have:=(mM hc (key hu).1).1;omega) (key hu).1.f8) (key hu).1.h.v8 h1.f8
theorem kx(hc:aF c=true)(hnd:(nd.toNat:Int)<c.nodes)(hB:Bd c nd p)(hE:Ew c p k)(hk:k<=1000000000)(hdr:dr.length<=4000000){vals:List Int}{data:List UInt8}(hv:vals.length<=4000000)(hd:data.length<=4000000):
  Con2 Tryz.prog 32 [.agg (aE c),.agg (ak p),.fz 1 (vals.map b_),.fz 1 (data.map aA),.fz 1 (dr.map aH)] (· =plR (.tup [.agg (ak (aD c p vals data dr).1),.agg (az (aD c p vals data dr).2.1),.v (.bool (aD c p vals data dr).2.2.1),.fz 17 ((aD c p vals data dr).2.2.2.1.map encMg),.v (.int .i64 (aD c p vals data dr).2.2.2.2)])):=by
 have hr:=cy hc;have hh:=yC hc;have h1:=mM hc hB;have h2:=hB.h.g.ok;have hw:=hB.win.rows;have hn:=hB.node;refine wS c p vals data dr hB.h.ok (by omega) hv hd hdr (by rw[hn];omega) ⟨hE.evicted.1,by have:=hE.evicted.2;omega⟩ (by omega) (by omega) (fun b ev=>?_) (Nat.le_trans (fZ hc hB) (by omega))
 exact afW (ix p b ev) (show p.view.length<=300 by omega) (show p.near.length<=300 by omega) h2.succ h2.pred (show(cj p).length<=26 from iC hc hB)
theorem abT(hc:aF c=true)(hB:Bd c nd p)(hE:Ew c p k)(hk:k<=1000000000)(he:e.vals.length<=4000000/\e.data.length<=4000000):
  Con2 Tryz.prog 27 [.agg (aE c),.agg (ak p),.agg (az e)] (· =plR (.tup [.agg (ak (aI c p e).1),.v (.bool (aI c p e).2.1),.v (.bool (aI c p e).2.2)])):=by
 have hr:=cy hc;exact aaG c p e hB.h.ok (by omega) he ⟨hE.passed.1,by have:=hE.passed.2;omega⟩
theorem ah_:(bB c q m).1.view=q.view/\(bB c q m).1.near=q.near/\(bB c q m).1.ring=q.ring:=by
 unfold bB;split
 ·exact⟨rfl,rfl,rfl⟩
 split
 ·exact⟨rfl,rfl,rfl⟩
 split
 ·exact⟨rfl,rfl,rfl⟩
 split
 ·exact⟨rfl,rfl,rfl⟩
 ·show(aw c q m.origin.node m.origin.inc).1.view=_/\(aw c q m.origin.node m.origin.inc).1.near=_/\(aw c q m.origin.node m.origin.inc).1.ring=_;unfold aw;split
  ·exact⟨rfl,rfl,rfl⟩
  ·split
   ·exact⟨rfl,rfl,rfl⟩
   ·split<;>exact⟨rfl,rfl,rfl⟩
structure apd(m:aK):Prop where
 mg:okMg m
 ev:m.ev.vals.length<=1048576/\m.ev.data.length<=1048576
 marks:m.marks.length<=1048576
 ids:m.ids.length<=500000
theorem oy(hc:aF c=true)(hcs: ∀s∈c.schema,okS s)(hB:Bd c nd p)(hE:Ew c p k)(hk:k<=1000000000)(hdr:dr.length<=4000000)(hm:apd m):
  Con2 Tryz.prog 31 [.agg (aE c),.agg (ak p),.agg (encMg m),.fz 1 (dr.map aH)] (· =plR (.tup [.agg (ak (bN c p m dr).1),.fz 17 ((bN c p m dr).2.1.map encMg),.fz 5 ((bN c p m dr).2.2.map az)])):=by
 have hr:=cy hc;have hh:=yC hc;have hb:=ia hc
 by_cases hkk:m.kind=10\/m.kind=11\/m.kind=12
 case neg=>
  have e1:bN c p m dr=((gH dr c p m).1,(gH dr c p m).2,[]):=by unfold bN;rw[if_pos hkk]
  rw[e1];exact zW c p m dr _ _ hkk (take_all c p m dr (by omega) hcs hB.h hm.mg hdr hB.ws)
 by_cases hun:p.up=false\/m.to≠p.node
 ·have e1:bN c p m dr=(p,[],[]):=by unfold bN;rw[if_neg (fun h=>h hkk),if_pos hun]
  rw[e1];exact af0 c p m dr hB.h.ok hkk hun
 have hu:p.up=true:=by cases h:p.up with|true=>rfl|false=>exact absurd (.inl h) hun
 have hto:m.to=p.node:=Classical.byContradiction fun h=>hun (.inr h)
 have s1:=(hB.go.hear m.frm m.inc).meet hc hu fY jy (ms:=[]) ig;have hE1:=hE.ev ((cF (c:=c) (p:=p) m.frm m.inc).trans (bT (c:=c) []));rcases hkk with h|h|h
 ·have hA:=jU (e:=m.ev) hc s1.bd hE1;exact ade c p m dr (by omega) hcs hB.h h hu hto ⟨by have:=hm.ev.1;omega,by have:=hm.ev.2;omega⟩ ⟨hE.passed.1,by have:=hE.passed.2;omega⟩ hdr (by omega) hA.h.g (aii hc hA) (Nat.le_trans (fZ hc hA) (by omega))
 ·have hA:=(z7 (m:=m) hc s1.bd hE1).1;have v:=ah_ (c:=c) (q:=aB c (aw c p m.frm m.inc).1 []) (m:=m);have h1:=mM hc s1.bd;have h2:=iC hc s1.bd;have eL:cj (bB c (aB c (aw c p m.frm m.inc).1 []) m).1=cj (aB c (aw c p m.frm m.inc).1 []):=by unfold cj;rw[v.1,v.2.1,v.2.2]
  have eN:aQ (bB c (aB c (aw c p m.frm m.inc).1 []) m).1=aQ (aB c (aw c p m.frm m.inc).1 []):=by unfold aQ;rw[eL]
  have hL:=zD (bB c (aB c (aw c p m.frm m.inc).1 []) m).1 (by rw[v.1];omega) (by rw[v.2.1];omega) hA.h.ok.succ hA.h.ok.pred (by rw[eL];exact h2)
  refine x_ c p m dr (by omega) hcs hB.h h hu hto (by have:=hm.ids;omega) (by have:=hE.pk.len;omega) (by omega) (by have:=hm.mg.table;omega) (by have:=hm.marks;omega) ?_ (by rw[eN];exact Nat.le_trans (fZ hc s1.bd) (by omega)) s1.bd.h.vw hA.h.g
  unfold ba;rw[List.length_map];exact hL
 ·exact adR c p m dr (by omega) hcs hB.h h hu hto (by have:=hm.ids;omega)
end
attribute[local go_sem] zDesc aS ah fzD plR ba aL aR aC aE ak az aU z8 z16 z32 z64 encMg a_ b_ aN aA gj List.map_cons List.map_nil
def encNop(o:iX):List DV:=[.v (.int .u8 o.what.toNat),fzS o.filter,.fz 1 (o.vals.map b_),.fz 1 (o.data.map aA)]++encMg o.m++[.fz 1 (o.draws.map aH)]
def encCame(x:af×List aK×List GEvt×Bool×Int):List DV:=ak x.1++[.fz 17 (x.2.1.map encMg),.fz 5 (x.2.2.1.map az),.v (.bool x.2.2.2.1),.v (.int .i64 x.2.2.2.2)]
structure ar8(o:iX):Prop where
 m:apd o.m
 draws:o.draws.length<=1048576
 filter:o.filter.length<=1048576
 fs: ∀s∈o.filter,okS s
 vals:o.vals.length<=1048576
 data:o.data.length<=1048576
section
variable {c:ar} {nd:UInt8} {p:af} {o:iX} {k:Int}
theorem alV(hc:aF c=true)(hcs: ∀s∈c.schema,okS s)(hnd:(nd.toNat:Int)<c.nodes)(hB:Bd c nd p)(hE:Ew c p k)(hk:k<=1000000000)(ho:ar8 o):
  Con2 Tryz.prog 14 [.agg (aE c),.agg (ak p),.agg (encNop o)] (· =plR (.agg (encCame (cS c p o)))):=by
 refine Con2.ofEmb ?_;have hr:=cy hc;obtain⟨n1,n2⟩:=lZ (f:=o.filter) hcs ho.fs (by omega)
 have hn:=m8 hB.h.g n1 n2;have k0:=rQ c p hB.h.ok;have k1:=u6 c p
 have k2:Con2 Tryz.prog 29 [.agg (aE c),.agg (ak p),fzS o.filter] (· =plR (.tup [.agg (ak (if p.up=false then p else if (bA c.schema o.filter).2=0 then aB c { p with filter:=(bA c.schema o.filter).1 } []else p)),.v (.int .i64 (if p.up=false then 53 else (bA c.schema o.filter).2))])):=by
  by_cases hu:p.up=false
  ·rw[if_pos hu,if_pos hu];exact aho c p o.filter hB.h.ok hu
  ·rw[if_neg hu,if_neg hu];exact aaL c p o.filter (by omega) hcs hB.h.g (by have:=ho.filter;omega) hn (by simpa using hu)
 have k3:Con2 Tryz.prog 49 [.agg (aE c),.agg (ak p)] (· =plR (.tup [.agg (ak (if p.up=false then p else jZ c p)),.fz 17 ((if p.up=false then []else (aQ p).map (pMsg p 9)).map encMg),.v (.int .i64 (if p.up=false then 53 else 0))])):=by
  cases hu:p.up with
  |false=>rw[if_pos rfl,if_pos rfl,if_pos rfl];exact aco c p hB.h.ok hu
  |true=>rw[if_neg (by decide),if_neg (by decide),if_neg (by decide)];exact aiC c p _ hB.h.ok hu (sJ hc hB) (Nat.le_trans (fZ hc hB) (by omega))
 have k4:=kx hc hnd hB hE hk (dr:=o.draws) (vals:=o.vals) (data:=o.data) (by have:=ho.draws;omega) (by have:=ho.vals;omega) (by have:=ho.data;omega)
 have k5:=ajb hc hcs hB hE hk (dr:=o.draws) (by have:=ho.draws;omega)
 have k6:=abT hc hB hE hk (e:=o.m.ev) ⟨by have:=ho.m.ev.1;omega,by have:=ho.m.ev.2;omega⟩
 have k7:=oy hc hcs hB hE hk (dr:=o.draws) (by have:=ho.draws;omega) ho.m
 have hR:cS c p o=cS c p o:=rfl
 conv at hR=>rhs;unfold cS
 generalize cS c p o=R at hR ⊢;have hw:=o.what.toNat_lt;clear hn n1 n2;unfold encNop encCame;refine en_ Tryz.func14 [.cell 6 68] (g2_ ?_);refine gx_ ?_
 by_cases w0:o.what=0
 ·rw[if_pos w0]at hR;rw[show((o.what.toNat:Int)==0)=true by rw[w0];rfl,hR]
  refine g2_ ?_;refine cw_ k0 (g2_ ?_);refine ae ?_ rfl
  repeat first|simp-implicitDefEqProofs only[go_sem,ab,if_false,List.map_nil,List.map_cons,List.append_eq,List.cons_append,List.nil_append]|with_reducible refine gl_ ?_
  first|done|trace_state
 rw[if_neg w0]at hR;rw[show((o.what.toNat:Int)==0)=false from beq_eq_false_iff_ne.2 (fun h=>w0 (UInt8.toNat_inj.1 (by rw[show(0:UInt8).toNat=0 from rfl];omega)))]
 refine g2_ ?_
 by_cases w1:o.what=1
 ·rw[if_pos w1]at hR;rw[show((o.what.toNat:Int)==1)=true by rw[w1];rfl,hR]
  refine g2_ ?_;refine cw_ k1 (g2_ ?_);refine ae ?_ rfl
  repeat first|simp-implicitDefEqProofs only[go_sem,ab,if_false,List.map_nil,List.map_cons,List.append_eq,List.cons_append,List.nil_append]|with_reducible refine gl_ ?_
  first|done|trace_state
 rw[if_neg w1]at hR;rw[show((o.what.toNat:Int)==1)=false from beq_eq_false_iff_ne.2 (fun h=>w1 (UInt8.toNat_inj.1 (by rw[show(1:UInt8).toNat=1 from rfl];omega)))]
 refine g2_ ?_
 by_cases w2:o.what=2
 ·rw[if_pos w2]at hR;rw[show((o.what.toNat:Int)==2)=true by rw[w2];rfl,hR]
  refine g2_ ?_;refine cw_ k2 (g2_ ?_);refine ae ?_ rfl
  repeat first|simp-implicitDefEqProofs only[go_sem,ab,if_false,List.map_nil,List.map_cons,List.append_eq,List.cons_append,List.nil_append]|with_reducible refine gl_ ?_
  first|done|trace_state
 rw[if_neg w2]at hR;rw[show((o.what.toNat:Int)==2)=false from beq_eq_false_iff_ne.2 (fun h=>w2 (UInt8.toNat_inj.1 (by rw[show(2:UInt8).toNat=2 from rfl];omega)))]
 refine g2_ ?_
 by_cases w3:o.what=3
 ·rw[if_pos w3]at hR;rw[show((o.what.toNat:Int)==3)=true by rw[w3];rfl,hR]
  refine g2_ ?_;refine cw_ k3 (g2_ ?_);refine ae ?_ rfl
  repeat first|simp-implicitDefEqProofs only[go_sem,ab,if_false,List.map_nil,List.map_cons,List.append_eq,List.cons_append,List.nil_append]|with_reducible refine gl_ ?_
  first|done|trace_state
 rw[if_neg w3]at hR;rw[show((o.what.toNat:Int)==3)=false from beq_eq_false_iff_ne.2 (fun h=>w3 (UInt8.toNat_inj.1 (by rw[show(3:UInt8).toNat=3 from rfl];omega)))]
 refine g2_ ?_
 by_cases w4:o.what=4
 ·rw[if_pos w4]at hR;rw[show((o.what.toNat:Int)==4)=true by rw[w4];rfl,hR]
  clear hR;generalize aD c p o.vals o.data o.draws=Z at k4 ⊢;obtain⟨q,e,mine,l,f⟩:=Z;simp only at k4 ⊢;refine g2_ ?_;refine cw_ k4 (g2_ ?_);have hf:decide (f=0)=(f==0):=rfl;cases mine with
  |false=>
   refine g2_ ?_;refine ae ?_ rfl
   repeat first|simp-implicitDefEqProofs only[go_sem,ab,if_false,hf,Bool.false_eq_true,List.map_nil,List.map_cons,List.append_eq,List.cons_append,List.nil_append]|with_reducible refine gl_ ?_
   first|done|trace_state
  |true=>
   refine g2_ ?_;refine ae ?_ rfl
   repeat first|simp-implicitDefEqProofs only[go_sem,ab,if_true,hf,List.map_nil,List.map_cons,List.append_eq,List.cons_append,List.nil_append]|with_reducible refine gl_ ?_
   first|done|trace_state
 rw[if_neg w4]at hR;rw[show((o.what.toNat:Int)==4)=false from beq_eq_false_iff_ne.2 (fun h=>w4 (UInt8.toNat_inj.1 (by rw[show(4:UInt8).toNat=4 from rfl];omega)))]
 refine g2_ ?_
 by_cases w5:o.what=5
 ·rw[if_pos w5]at hR;rw[show((o.what.toNat:Int)==5)=true by rw[w5];rfl,hR]
  refine g2_ ?_;refine cw_ k5 (g2_ ?_);refine ae ?_ rfl
  repeat first|simp-implicitDefEqProofs only[go_sem,ab,if_false,List.map_nil,List.map_cons,List.append_eq,List.cons_append,List.nil_append]|with_reducible refine gl_ ?_
  first|done|trace_state
 rw[if_neg w5]at hR;rw[show((o.what.toNat:Int)==5)=false from beq_eq_false_iff_ne.2 (fun h=>w5 (UInt8.toNat_inj.1 (by rw[show(5:UInt8).toNat=5 from rfl];omega)))]
 refine g2_ ?_
 by_cases w6:o.what=6
 ·rw[if_pos w6]at hR;rw[show((o.what.toNat:Int)==6)=true by rw[w6];rfl,hR]
  clear hR;generalize aI c p o.m.ev=Z at k6 ⊢;obtain⟨q,own,given⟩:=Z;simp only at k6 ⊢;refine g2_ ?_;refine cw_ k6 (g2_ ?_);cases given with
  |false=>
   refine g2_ ?_;refine ae ?_ rfl
   repeat first|simp-implicitDefEqProofs only[go_sem,ab,if_false,if_true,Bool.false_eq_true,List.map_nil,List.map_cons,List.append_eq,List.cons_append,List.nil_append]|with_reducible refine gl_ ?_
   first|done|trace_state
  |true=>
   refine g2_ ?_;refine ae ?_ rfl
   repeat first|simp-implicitDefEqProofs only[go_sem,ab,if_false,if_true,Bool.false_eq_true,List.map_nil,List.map_cons,List.append_eq,List.cons_append,List.nil_append]|with_reducible refine gl_ ?_
   first|done|trace_state
 rw[if_neg w6]at hR;rw[show((o.what.toNat:Int)==6)=false from beq_eq_false_iff_ne.2 (fun h=>w6 (UInt8.toNat_inj.1 (by rw[show(6:UInt8).toNat=6 from rfl];omega)))]
 refine g2_ ?_;rw[hR];refine cw_ k7 (g2_ ?_);refine ae ?_ rfl
 repeat first|simp-implicitDefEqProofs only[go_sem,ab,if_false,List.map_nil,List.map_cons,List.append_eq,List.cons_append,List.nil_append]|with_reducible refine gl_ ?_
 first|done|trace_state
def ahS(o:iX):Bool:=qm ⟨0,0,0,o.filter,o.m,o.draws⟩&&(decide ((o.vals.length:Int)<=8)&&(decide ((o.data.length:Int)<=100)&&(decide ((o.m.ev.vals.length:Int)<=8)&&(decide ((o.m.ev.data.length:Int)<=100)&&(decide ((o.m.marks.length:Int)<=20)&&decide ((o.m.ids.length:Int)<=40))))))
theorem aj4(o:iX)(h1:o.m.list.length<=9223372036854775807)(h2:o.m.table.length<=9223372036854775807):Con2 Tryz.prog 12 [.agg (encNop o)] (· =plR (.v (.bool (ahS o)))):=by
 refine Con2.ofEmb ?_;have kf:=aoA ⟨0,0,0,o.filter,o.m,o.draws⟩ h1 h2;unfold ahS;generalize qm ⟨0,0,0,o.filter,o.m,o.draws⟩=b at kf ⊢;unfold ai1 at kf;unfold encNop;simp only[List.append_eq,List.cons_append,List.nil_append]at kf;refine en_ Tryz.func12 [.tmp 2] (g2_ ?_);refine gx_ ?_;refine cw_ kf (g2_ ?_);generalize hd1:decide ((o.vals.length:Int)<=8)=d1;generalize hd2:decide ((o.data.length:Int)<=100)=d2;generalize hd3:decide ((o.m.ev.vals.length:Int)<=8)=d3;generalize hd4:decide ((o.m.ev.data.length:Int)<=100)=d4;generalize hd5:decide ((o.m.marks.length:Int)<=20)=d5;generalize hd6:decide ((o.m.ids.length:Int)<=40)=d6;cases b with
 |false=>
  refine g2_ ?_;refine ae ?_ rfl;exact wf_ @Bool.false_and
 |true=>
 refine gf_ hd1 ?_;cases d1 with
 |false=>
  refine g2_ ?_;refine ae ?_ rfl;exact wf_ @Bool.false_and
 |true=>
 refine gf_ hd2 ?_;cases d2 with
 |false=>
  refine g2_ ?_;refine ae ?_ rfl;exact wf_ @Bool.false_and
 |true=>
 refine gf_ hd3 ?_;cases d3 with
 |false=>
  refine g2_ ?_;refine ae ?_ rfl;exact wf_ @Bool.false_and
 |true=>
 refine gf_ hd4 ?_;cases d4 with
 |false=>
  refine g2_ ?_;refine ae ?_ rfl;exact wf_ @Bool.false_and
 |true=>
 refine gf_ hd5 ?_;cases d5 with
 |false=>
  refine g2_ ?_;refine ae ?_ rfl;exact wf_ @Bool.false_and
 |true=>
 refine gf_ hd6 ?_;refine ae ?_ rfl;exact wf_ @Bool.false_and
end
def nwC:ar:={ plainC 2 with buffer:=1 }
def sO(c:ar)(p:af)(f:List GSpan):af:=if p.up=false then p else if (bA c.schema f).2=0 then aB c { p with filter:=(bA c.schema f).1 } []else p
def py(c:ar)(p:af)(f:List GSpan):Int:=if p.up=false then 53 else (bA c.schema f).2
def il:aK:=⟨10,1,1,0,[],[],⟨⟨1,1,1⟩,[3],[]⟩,0,⟨0,0,0⟩,[],[]⟩
def sE:aK:=⟨12,1,1,0,[],[],zEvt,0,⟨0,0,0⟩,[],[⟨0,1,1⟩,⟨1,1,1⟩]⟩
def nwA:af:=(bE nwC (bF nwC 0)).1
def nwB:af:=sO nwC nwA [⟨0,9⟩]
def nwP:af×GEvt×Bool×List aK×Int:=aD nwC nwB [5] [] []
def nwQ:af×List aK×List GEvt:=bN nwC nwP.1 il []
theorem aef:aF nwC=true:=by kernel_rfl
theorem rz: ∀s∈nwC.schema,okS s:=by
 intro s hs;have hs:s∈[(⟨0,9⟩:GSpan)]:=hs;rw[List.mem_singleton.1 hs];exact⟨by decide,by decide,by decide,by decide⟩
theorem arA: ∀s∈[(⟨0,9⟩:GSpan)],okS s:=by
 intro s hs;rw[List.mem_singleton.1 hs];exact⟨by decide,by decide,by decide,by decide⟩
theorem gO(k f t:UInt8)(i:UInt16)(ev:GEvt)(h:UInt8)(o:GMark)(mk:List GMark)(ids:List GID):okMg ⟨k,f,i,t,[],[],ev,h,o,mk,ids⟩:=⟨Nat.zero_le _,by simp,by simp,Nat.zero_le _⟩
def nwO(w:UInt8)(f:List GSpan)(v:List Int)(m:aK):iX:=⟨w,f,v,[],m,[]⟩
theorem asb:Ew nwC (bF nwC 0) 0:=wM (nd:=0) (inc:=0) (up:=false) (t:=(bF nwC 0).table) (by decide) (by decide) (by decide) (Int.le_refl 0)
theorem qx{p:af}{k:Int}(o:iX)(hm:okMg o.m)(hf: ∀s∈o.filter,okS s)(hk:0<=k)(hB:Bd nwC 0 p)(hE:Ew nwC p k):Bd nwC 0 (cS nwC p o).1/\Ew nwC (cS nwC p o).1 (k+64):=
 ⟨by have:=(qX (o:=o) aef rz hB hE hm hf).bd;rw[hB.node]at this;exact this,aeS (by decide) (by decide) (by decide) (by rw[hB.node];decide) hk hE⟩
theorem afx:Bd nwC 0 nwA/\Ew nwC nwA 64:=qx (nwO 0 [] [] il) (gO ..) (by simp[nwO]) (Int.le_refl 0) (amG aef 0) asb
theorem afP:Bd nwC 0 nwB/\Ew nwC nwB 128:=qx (nwO 2 [⟨0,9⟩] [] il) (gO ..) arA (by decide) afx.1 afx.2
theorem uB:Bd nwC 0 nwP.1/\Ew nwC nwP.1 192:=qx (nwO 4 [] [5] il) (gO ..) (by simp[nwO]) (by decide) afP.1 afP.2
theorem aeH:Bd nwC 0 nwQ.1/\Ew nwC nwQ.1 256:=qx (nwO 10 [] [] il) (gO ..) (by simp[nwO]) (by decide) uB.1 uB.2
theorem atl:(bE nwC (bF nwC 0)).2=0:=by kernel_rfl
theorem atd:py nwC nwA [⟨0,9⟩]=0:=by kernel_rfl
theorem atr:nwB.up=true:=by kernel_rfl
theorem aqR:nwP.2.1=⟨⟨0,1,1⟩,[5],[]⟩/\nwP.2.2.1=true/\nwP.2.2.2.2=0:=⟨by kernel_rfl,by kernel_rfl,by kernel_rfl⟩
theorem as_:(aD nwC nwP.1 [5] [] []).2.2.2.2=52:=by kernel_rfl
theorem aq0:nwQ.2.1=[]/\nwQ.2.2=[⟨⟨1,1,1⟩,[3],[]⟩]/\nwQ.1.passed=1:=⟨by kernel_rfl,by kernel_rfl,by kernel_rfl⟩
theorem asN:(bN nwC nwQ.1 il []).2.1=[]/\(bN nwC nwQ.1 il []).2.2=[]:=⟨by kernel_rfl,by kernel_rfl⟩
theorem ast:(bN nwC nwQ.1 sE []).2.1=[{ pMsg nwQ.1 10 1 with ev:=⟨⟨0,1,1⟩,[5],[]⟩ }]/\(bN nwC nwQ.1 sE []).2.2=[]:=⟨by kernel_rfl,by kernel_rfl⟩
theorem vJ:apd il:=⟨gO ..,by decide,Nat.zero_le _,Nat.zero_le _⟩
theorem ahN:apd sE:=⟨gO ..,by decide,Nat.zero_le _,by decide⟩
theorem agd:Con2 Tryz.prog 39 [] (· =plR (.agg (aE nwC))):=by
 refine Con2.ofEmb ?_;have kp:=af3 2;refine en_ Tryz.func39 [.cell 0 26] (g2_ ?_);refine g2_ ?_;refine cw_ kp (g2_ ?_);refine ae ?_ rfl;exact wf_ @nwC.eq_1
theorem ab7(s:UInt32)(v:Int):Con2 Tryz.prog 40 [.v (.int .u32 s.toNat),.v (.int .i32 v)] (· =plR (.agg (encMg ⟨10,1,1,0,[],[],⟨⟨1,1,s⟩,[v],[]⟩,0,⟨0,0,0⟩,[],[]⟩))):=by
 refine Con2.ofEmb ?_;refine en_ Tryz.func40 [.cell 4 60] (g2_ ?_);refine g2_ ?_;refine ae ?_ rfl;refine g2_ ?_
 first|done|rfl|trace_state
theorem anP(c:ar)(nd:UInt8)(f:List GSpan)(hw:Con2 Tryz.prog 29 [.agg (aE c),.agg (ak (bE c (bF c nd)).1),fzS f] (· =plR (.tup [.agg (ak (sO c (bE c (bF c nd)).1 f)),.v (.int .i64 (py c (bE c (bF c nd)).1 f))]))):
  Con2 Tryz.prog 28 [.agg (aE c),.v (.int .u8 nd.toNat),fzS f] (· =plR (.tup [.agg (ak (sO c (bE c (bF c nd)).1 f)),.v (.bool (((bE c (bF c nd)).2==0)&&((py c (bE c (bF c nd)).1 f==0)&&(sO c (bE c (bF c nd)).1 f).up)))])):=by
 refine Con2.ofEmb ?_;have hs:=rQ c (bF c nd) (ae6 c nd);have hn:=sX c nd;generalize bF c nd=q at hs hn hw ⊢;generalize bE c q=r at hs hw ⊢;obtain⟨r,e⟩:=r;simp only at hs hw ⊢;generalize sO c r f=w at hw ⊢;generalize py c r f=g at hw ⊢;refine en_ Tryz.func28 [.cell 6 49,.tmp 7] (g2_ ?_);refine g2_ ?_;refine .inr (.inl ⟨(.fl 0 (.fl 1 (.fl 2 (.eff 3 true (.eff 4 false (.fl 5 (.fl 6 (.fl 7 (.eff 8 true (.eff 9 false (.fl 10 .done) .no) .no)))) (.eff 8 true (.eff 4 false (.fl 5 (.fl 6 (.fl 7 (.eff 9 false (.fl 10 .done) .no)))) .no) .no)) (.eff 8 true (.eff 3 true (.eff 4 false (.fl 5 (.fl 6 (.fl 7 (.eff 9 false (.fl 10 .done) .no)))) .no) .no) .no))))),by kernel_rfl,g2_ ?_⟩)
 repeat' (first
  |(with_reducible refine And.intro ?_ ?_)
  |(refine CallS.eq hn ?_ (.inl ?_) ?_;(focus (simp-implicitDefEqProofs only[go_sem,ab];done));(focus (simp-implicitDefEqProofs only[go_sem,ab];done));refine g2_ ?_)
  |(refine CallS.eq hs ?_ (.inl ?_) ?_;(focus (simp-implicitDefEqProofs only[go_sem,ab];done));(focus (simp-implicitDefEqProofs only[go_sem,ab];done));refine g2_ ?_)
  |(with_reducible refine av ?_;refine g2_ ?_))
 all_goals
  refine cw_ hw (g2_ ?_);refine .inr (.inr (.inl ⟨[oF 0,oF 1,oF 2,oF 3,oF 4,oF 5,oF 6,oF 7,oF 8,oF 9,oF 10,oT 11,oF 12],[6],by kernel_rfl,g2_ ?_⟩))
  cases hb1:(e==0)with
  |false=>
   refine g2_ ?_;refine ae ?_ rfl;exact wf_ @Bool.false_and
  | true=>
   refine g2_ ?_;cases hb2:(g==0)with
   |false=>
    refine g2_ ?_;refine ae ?_ rfl;exact wf_ @Bool.false_and
   |true=>
    refine g2_ ?_;refine ae ?_ rfl;exact wx_
attribute[local go_sem] List.length_cons List.length_nil bne_self_eq_false
theorem asL:((UInt16.toNat 1:Nat):Int)=1:=rfl
theorem asv:((UInt32.toNat 1:Nat):Int)=1:=rfl
theorem aso:((0:Nat):Int)=0:=rfl
theorem ath:((0+1:Nat):Int)=1:=rfl
attribute[local go_sem] aso ath asL asv
theorem acC:Con2 Tryz.prog 9 [] (· =plR (.v (.bool true))):=by
 refine Con2.ofEmb ?_;have c1:=agd
 have w:Con2 Tryz.prog 29 [.agg (aE nwC),.agg (ak nwA),fzS [⟨0,9⟩]] (· =plR (.tup [.agg (ak nwB),.v (.int .i64 (py nwC nwA [⟨0,9⟩]))])):=by
  have hu:nwA.up=true:=by kernel_rfl
  have h:=aaL nwC nwA [⟨0,9⟩] (by decide) rz afx.1.h.g (by decide) (m8 afx.1.h.g (lZ rz arA (by decide)).1 (lZ rz arA (by decide)).2) hu
  have e1:nwB=if (bA nwC.schema [⟨0,9⟩]).2=0 then aB nwC { nwA with filter:=(bA nwC.schema [⟨0,9⟩]).1 } []else nwA:=by
   show sO nwC nwA [⟨0,9⟩]=_;unfold sO;rw[if_neg (by rw[hu];decide)]
  have e2:py nwC nwA [⟨0,9⟩]=(bA nwC.schema [⟨0,9⟩]).2:=by unfold py;rw[if_neg (by rw[hu];decide)]
  rw[e1,e2];exact h
 have c2:=anP nwC 0 [⟨0,9⟩] w;change Con2 Tryz.prog 28 _ (· =plR (.tup [.agg (ak nwB),.v (.bool (((bE nwC (bF nwC 0)).2==0)&&((py nwC nwA [⟨0,9⟩]==0)&&nwB.up)))]))at c2
 rw[atl,atd,atr]at c2
 have c3:Con2 Tryz.prog 32 [.agg (aE nwC),.agg (ak nwB),.fz 1 (([5]:List Int).map b_),.fz 1 (([]:List UInt8).map aA),.fz 1 (([]:List UInt32).map aH)] (· =plR (.tup [.agg (ak nwP.1),.agg (az nwP.2.1),.v (.bool nwP.2.2.1),.fz 17 (nwP.2.2.2.1.map encMg),.v (.int .i64 nwP.2.2.2.2)])):=
  kx aef (by decide) afP.1 afP.2 (by decide) (by decide) (by decide) (by decide)
 rw[aqR.1,aqR.2.1,aqR.2.2]at c3;have c4:=kx aef (by decide) uB.1 uB.2 (by decide) (dr:=[]) (vals:=[5]) (data:=[]) (by decide) (by decide) (by decide)
 rw[as_]at c4
 have c5:Con2 Tryz.prog 31 [.agg (aE nwC),.agg (ak nwP.1),.agg (encMg il),.fz 1 (([]:List UInt32).map aH)] (· =plR (.tup [.agg (ak nwQ.1),.fz 17 (nwQ.2.1.map encMg),.fz 5 (nwQ.2.2.map az)])):=
  oy aef rz uB.1 uB.2 (by decide) (by decide) vJ
 rw[aq0.1,aq0.2.1]at c5;have c6:=oy aef rz aeH.1 aeH.2 (by decide) (dr:=[]) (by decide) vJ
 rw[asN.1,asN.2]at c6;have c7:=oy aef rz aeH.1 aeH.2 (by decide) (dr:=[]) (by decide) ahN
 rw[ast.1,ast.2]at c7;have h6:=aq0.2.2;have cp:=ab7 1 3;have ce:=sm ⟨⟨0,1,1⟩,[5],[]⟩ (by decide)
 clear w;generalize nwB=B at *;generalize (aD nwC nwP.1 [5] [] [])=Z at c4;generalize (bN nwC nwQ.1 il []).1=T1 at c6;generalize (bN nwC nwQ.1 sE []).1=T2 at c7;generalize nwQ.1=Q at *;generalize nwP.2.2.2.1=PL at *;generalize nwP.1=P1 at *;unfold il at c5 c6;unfold sE at c7;generalize nwC=C at *;refine en_ Tryz.func9 [.tmp 0] (g2_ ?_);refine g2_ ?_;refine cw_ c1 (g2_ ?_);refine cw_ c2 (g2_ ?_);refine cw_ c3 (g2_ ?_);refine cw_ c4 (g2_ ?_);refine rS (.fl 0 (.fl 1 (.eff 2 true (.eff 3 false (.fl 4 (.fl 5 (.fl 6 (.fl 7 (.eff 8 true (.eff 9 false (.fl 10 (.fl 11 .done)) .no) .no))))) (.eff 8 true (.eff 3 false (.fl 4 (.fl 5 (.fl 6 (.fl 7 (.eff 9 false (.fl 10 (.fl 11 .done)) .no))))) .no) .no)) (.eff 8 true (.eff 2 true (.eff 3 false (.fl 4 (.fl 5 (.fl 6 (.fl 7 (.eff 9 false (.fl 10 (.fl 11 .done)) .no))))) .no) .no) .no)))) [(13,.loc 13 0),(14,.d (.fz 17 [])),(15,.d (.fz 5 [az ⟨⟨1,1,1⟩,[3],[]⟩]))] [(13,⟨ak Q,49⟩)] ?_ ?_
 ·refine g2_ ?_
  repeat' (first
   |(with_reducible refine And.intro ?_ ?_)
   |(refine cw_ cp (g2_ ?_))
   |(refine cw_ c5 (g2_ ?_))
   |(refine aa [] ?_;(focus (simp-implicitDefEqProofs only[go_sem,ab];done))))
 refine g2_ ?_;refine rS (.fl 0 (.fl 1 (.eff 2 true (.eff 3 false (.fl 4 (.fl 5 (.fl 6 (.fl 7 (.eff 8 true (.eff 9 false (.fl 10 (.fl 11 .done)) .no) .no))))) (.eff 8 true (.eff 3 false (.fl 4 (.fl 5 (.fl 6 (.fl 7 (.eff 9 false (.fl 10 (.fl 11 .done)) .no))))) .no) .no)) (.eff 8 true (.eff 2 true (.eff 3 false (.fl 4 (.fl 5 (.fl 6 (.fl 7 (.eff 9 false (.fl 10 (.fl 11 .done)) .no))))) .no) .no) .no)))) [(16,.loc 16 0),(17,.d (.fz 17 [])),(18,.d (.fz 5 []))] [(16,⟨ak T1,49⟩)] ?_ ?_
 ·refine g2_ ?_
  repeat' (first
   |(with_reducible refine And.intro ?_ ?_)
   |(refine cw_ cp (g2_ ?_))
   |(refine cw_ c6 (g2_ ?_))
   |(refine aa [] ?_;(focus (simp-implicitDefEqProofs only[go_sem,ab];done))))
 refine g2_ ?_;refine cx_ c7 (by simp-implicitDefEqProofs only[go_sem,ab,zEvt]) (gf_ h6 ?_)
 refine .inl ⟨[oF 0,oF 1,oF 2,oF 3,oF 4,oF 5,oF 6,oF 7,oF 8,oF 9,oF 10,oF 11,oF 12,oF 13,oF 14,oF 15,oF 16,oF 17,oF 18,oF 19,oF 20,oF 21,oF 22,oF 23,oF 24,oF 25,oF 29,oF 26,oF 27,oF 28,oF 30,oF 31,oF 32],by kernel_rfl,gf_ @pMsg.eq_1 ?_⟩
 refine CallS.eqW ce ws_ (.inr ws_) ?_;refine g2_ ?_;refine ae ?_ rfl;exact ws_
end Go.Proofs.YtmhmahcdanclnaaGreat.V
namespace Go.Proofs.YtmhmahcdanclnaaGreat.V
open Go.Eng
section
variable {c:ar} {p q:af} {dr:List UInt32} {o:iX} {m:aK} {a:GEvt}
def Ui(p:af):Prop:=p.up=true->1<=p.inc.toNat
theorem Ui.of(h:Ui p)(h1:q.inc=p.inc)(h2:q.up=p.up):Ui q:=fun hu=>by rw[h1];exact h (by rw[<-h2];exact hu)
theorem aoO(h:Ui p):Ui (bN c p m dr).1:=by
 unfold bN;split
 ·exact h.of ev_take.inc ev_take.up
 split
 ·exact h
 split
 ·exact h.of (cF _ _).inc (cF _ _).up
 simp only;have k1:Ui (aB c (aw c p m.frm m.inc).1 []):=h.of ((cF (c:=c) (p:=p) m.frm m.inc).trans (bT (c:=c) [])).inc ((cF (c:=c) (p:=p) m.frm m.inc).trans (bT (c:=c) [])).up;generalize aB c (aw c p m.frm m.inc).1 []=q at k1;split
 ·rw[kA];exact k1.of pl_accept.inc pl_accept.up
 split
 ·exact k1.of rfl rfl
 ·exact k1.of nm_heard.inc nm_heard.up
theorem anU(h:Ui p):Ui (cS c p o).1:=by
 unfold cS;split
 ·show Ui (bE c p).1;unfold bE;split
  ·exact h
  ·split
   ·exact h
   ·rename_i h1 h2;intro _;have h3:p.inc.toNat≠65535:=fun e=>h2 (UInt16.toNat_inj.1 e)
    have hl:=p.inc.toNat_lt;show 1<=(p.inc+1).toNat;rw[UInt16.toNat_add];show 1<=(p.inc.toNat+1) % 65536;omega
 split
 ·intro hu;cases hu
 split
 ·simp only;split
  ·exact h
  ·split
   ·exact h.of rfl rfl
   ·exact h
 split
 ·simp only;split
  ·exact h
  ·intro hu;cases hu
 split
 ·exact h.of mU.1.inc mU.1.up
 split
 ·exact h.of nm_tick.inc nm_tick.up
 split
 ·exact h.of pl_accept.inc pl_accept.up
 ·exact aoO h
def dq(p:af)(nd:UInt8)(e:GEvt):Bool:=decide (e.id.node=nd)&&decide (e.id.inc=p.inc)
def bD(p q:af)(e:GEvt):Bool:= !cG q.buf.evs e.id&&(q.up&&decide (q.inc=p.inc))
theorem oB{e:GEvt}:bD p q e=true↔cG q.buf.evs e.id=false/\q.up=true/\q.inc=p.inc:=by
 simp[bD]
theorem ag9(ha:a∈p.buf.evs)(hs:q.buf=p.buf):bD p q a=false:=by grind [cG,bD]
theorem sU(h:cG q.buf.evs a.id=true):bD p q a=false:=by simp[bD,h]
theorem aqd(h4:o.what=4):cS c p o=((aD c p o.vals o.data o.draws).1,(aD c p o.vals o.data o.draws).2.2.2.1,
  if (aD c p o.vals o.data o.draws).2.2.1=true then [(aD c p o.vals o.data o.draws).2.1]else [],decide ((aD c p o.vals o.data o.draws).2.2.2.2=0),(aD c p o.vals o.data o.draws).2.2.2.2):=by grind [cS]
theorem alK(hu:Up qn p.buf.evs)(ha:a∈p.buf.evs)(hg:bD p (cS c p o).1 a=true):
  (o.what=5->cm p.reports p.table p.node p.rows a.id=true)/\(o.what≠5->o.what=4/\ ¬(a.id.node=p.node/\a.id.inc=p.inc)):=by
 have has:cG p.buf.evs a.id=true:=fD.2 ⟨a,ha,rfl⟩;have no: ∀q:af,cG q.buf.evs a.id=true-> ¬bD p q a=true:=fun q h h2=>by rw[sU h]at h2;cases h2
 have nd: ∀q:af,q.up=false-> ¬bD p q a=true:=fun q h h2=>by have:=(oB.1 h2).2.1;rw[h]at this;cases this
 by_cases w4:o.what=4
 ·refine⟨fun h=>absurd w4 (by rw[h];decide),fun _=>⟨w4,fun hm=>?_⟩⟩
  rw[aqd w4]at hg
  by_cases h0:(aD c p o.vals o.data o.draws).2.2.2.2=0
  ·rcases zr hu h0 with ⟨_,h2⟩|⟨_,j,hj,h2,h3⟩
   ·exact no _ (h2 a ha) hg
   ·by_cases hj2:a=p.buf.evs[j]
    ·rw[hj2]at hm;exact h2 hm
    ·exact no _ ((h3 a ha).2 hj2) hg
  ·rcases cQ (c:=c) (p:=p) (vals:=o.vals) (data:=o.data) (dr:=o.draws)with ⟨k,hk,e1⟩|⟨h1,h2,h3,h4,h5,e1⟩
   ·rw[e1]at hg;exact no _ has hg
   ·rw[e1]at h0;exact absurd rfl h0
 by_cases w5:o.what=5
 ·refine⟨fun _=>?_,fun h=>absurd w5 h⟩
  have e:(cS c p o).1=(eu c p o.draws).1:=by
   unfold cS;rw[if_neg (by rw[w5];decide),if_neg (by rw[w5];decide),if_neg (by rw[w5];decide),if_neg (by rw[w5];decide),if_neg w4,if_pos w5]
  rw[e]at hg;rcases alo (c:=c) (dr:=o.draws) has with h|h
  ·exact absurd hg (no _ h)
  ·exact h
 exfalso;unfold cS at hg;split at hg
 ·revert hg;show ¬bD p (bE c p).1 a=true;unfold bE;split
  ·exact no _ has
  ·split
   ·exact no _ has
   ·rename_i h1 h2;intro h3;have h4:=(oB.1 h3).2.2;have h5:(p.inc+1).toNat=p.inc.toNat:=by rw[show p.inc+1=p.inc from h4]
    rw[UInt16.toNat_add]at h5;have hl:=p.inc.toNat_lt;have h5:(p.inc.toNat+1) % 65536=p.inc.toNat:=h5;have h3:p.inc.toNat≠65535:=fun e2=>h2 (UInt16.toNat_inj.1 e2)
    omega
 split at hg
 ·exact nd _ rfl hg
 split at hg
 ·revert hg;simp only;split
  ·exact no _ has
  ·split
   ·exact no _ has
   ·exact no _ has
 split at hg
 ·revert hg;simp only;split
  ·exact no _ has
  ·exact nd _ rfl
 split at hg
 ·exact no _ (s_ has) hg
 ·exact no _ (amK has) hg
theorem abr{α:Type}[DecidableEq α]{x:α}: ∀{l:List α},l.Nodup->x∈l->l.filter (fun a=>decide (a=x))=[x]
 |[],_,h=>by cases h
 | y::l,hn,h=>by
  obtain⟨h1,h2⟩:=List.nodup_cons.1 hn;rw[List.filter_cons]
  by_cases e:y=x
  ·subst e
   rw[decide_eq_true rfl,if_pos rfl,List.filter_eq_nil_iff.2 (fun a ha=>by
    have:a≠y:=fun e=>h1 (e▸ha)
    simp[this])]
  ·rw[decide_eq_false e,if_neg (by decide)]
   rcases List.mem_cons.1 h with g|g
   ·exact absurd g.symm e
   ·exact abr h2 g
theorem ahZ(nd:UInt8)(hn:p.node=nd)(hnl:nd.toNat<12)(hB:Bf c p.buf)(hO:Ownb p)(hU:Ui p)(h4:o.what=4):
  ((cS c p o).2.2.2.2=52↔(((p.buf.evs.filter (dq p nd)).length:Int)=c.buffer/\p.up=true/\(gu c.schema o.vals&&(decide ((o.data.length:Int)<=64)&&decide ((p.seq.toNat:Int)<(c.last.toNat:Int))))=true))/\
  ((cS c p o).2.2.2.2≠0->(cS c p o).1=p/\(p.buf.evs.filter (bD p (cS c p o).1)).length=0)/\
  ((cS c p o).2.2.2.2=0->(p.buf.evs.filter (bD p (cS c p o).1)).length<=1/\(cS c p o).1.evicted=p.evicted+((p.buf.evs.filter (bD p (cS c p o).1)).length:Int)):=by
 rw[aqd h4];simp only;subst hn;have hl:=c.last.toNat_lt
 have hall:((p.buf.evs.filter (dq p p.node)).length:Int)=c.buffer↔(p.buf.evs.length:Int)=c.buffer/\ ∀e∈p.buf.evs,e.id.node=p.node/\e.id.inc=p.inc:=by
  have h1:=List.length_filter_le (dq p p.node) p.buf.evs;have h2:=hB.len;constructor
  ·intro h;have h3:(p.buf.evs.filter (dq p p.node)).length=p.buf.evs.length:=by omega
   refine⟨by omega,fun e he=>?_⟩
   have:=List.length_filter_eq_length_iff.1 h3 e he;simpa[dq]using this
  ·rintro⟨g1,g2⟩
   rw[List.length_filter_eq_length_iff.2 (fun e he=>by simpa[dq]using g2 e he)]
   exact g1
 refine⟨?_,?_,?_⟩
 ·by_cases hu:p.up=true
  ·by_cases hs:p.seq.toNat<c.last.toNat
   ·have hse:(p.seq+1).toNat=p.seq.toNat+1:=by
     rw[UInt32.toNat_add];show(p.seq.toNat+1) % _=_;omega
    by_cases hv:bZ c.schema (da p o.vals o.data)=true
    ·rw[alj hB hO hs hu hv, <-hall];have hv2:=hv;unfold bZ at hv2;simp only[Bool.and_eq_true,decide_eq_true_eq]at hv2
     have h5:(gu c.schema o.vals&&(decide ((o.data.length:Int)<=64)&&decide ((p.seq.toNat:Int)<(c.last.toNat:Int))))=true:=by
      simp only[Bool.and_eq_true,decide_eq_true_eq];exact⟨hv2.1,by have:=hv2.2.1;show(o.data.length:Int)<=64;have h6:o.data.length<=64:=this;omega,by omega⟩
     exact⟨fun h=>⟨h,hu,h5⟩,fun h=>h.1⟩
    ·rw[iO,if_neg (by rw[hu];decide),if_pos (by simpa using hv)]
     refine⟨fun h=>absurd h (by decide),fun h=>absurd ?_ hv⟩
     have h5:=h.2.2;simp only[Bool.and_eq_true,decide_eq_true_eq]at h5;unfold bZ;simp only[Bool.and_eq_true,decide_eq_true_eq];exact⟨h5.1,by have:=h5.2.1;show o.data.length<=64;omega,hnl,hU hu,by show 1<=(p.seq+1).toNat;omega⟩
   ·rw[iO,if_neg (by rw[hu];decide)]
    refine⟨fun h=>?_,fun h=>?_⟩
    ·split at h
     ·cases h
     ·rw[if_pos (by omega)]at h;cases h
    ·have h5:=h.2.2;simp only[Bool.and_eq_true,decide_eq_true_eq]at h5;omega
  ·rw[iO,if_pos (by simpa using hu)]
   exact⟨fun h=>(by cases h),fun h=>absurd h.2.1 hu⟩
 ·intro h0;rcases cQ (c:=c) (p:=p) (vals:=o.vals) (data:=o.data) (dr:=o.draws)with ⟨k,hk,e1⟩|⟨h1,h2,h3,h4,h5,e1⟩
  ·rw[e1];refine⟨rfl,?_⟩;rw[List.filter_eq_nil_iff.2 (fun a ha=>by rw[ag9 ha rfl];decide)]
   rfl
  ·rw[e1]at h0;exact absurd rfl h0
 ·intro h0
  have hup:(aD c p o.vals o.data o.draws).1.up=true/\(aD c p o.vals o.data o.draws).1.inc=p.inc:=by
   rcases cQ (c:=c) (p:=p) (vals:=o.vals) (data:=o.data) (dr:=o.draws)with ⟨k,hk,e1⟩|⟨h1,h2,h3,h4,h5,e1⟩
   ·rw[e1]at h0;exact absurd h0 hk
   ·rw[e1];exact⟨h1,rfl⟩
  rcases zr hB.up h0 with ⟨h1,h2⟩|⟨h1,j,hj,h2,h3⟩
  ·have e:p.buf.evs.filter (bD p (aD c p o.vals o.data o.draws).1)=[]:=List.filter_eq_nil_iff.2 (fun a ha=>by rw[sU (h2 a ha)];decide)
   rw[e];exact⟨Nat.zero_le _,by rw[h1];simp⟩
  ·have e:p.buf.evs.filter (bD p (aD c p o.vals o.data o.draws).1)=[p.buf.evs[j]]:=by
    have h4:p.buf.evs.filter (bD p (aD c p o.vals o.data o.draws).1)=p.buf.evs.filter (fun a=>decide (a=p.buf.evs[j])):=by
     refine List.filter_congr fun a ha=>?_
     by_cases h5:a=p.buf.evs[j]
     ·rw[decide_eq_true h5];refine oB.2 ⟨?_,hup.1,hup.2⟩;cases h6:cG (aD c p o.vals o.data o.draws).1.buf.evs a.id with
      |false=>rfl
      |true=>exact absurd h5 ((h3 a ha).1 h6)
     ·rw[decide_eq_false h5];exact sU ((h3 a ha).2 h5)
    rw[h4];have hnd:p.buf.evs.Nodup:=List.Pairwise.imp (fun {a b} (h:qn a<qn b)=>fun e=>by rw[e]at h;exact absurd h (Nat.lt_irrefl _)) hB.up
    exact abr hnd (List.getElem_mem hj)
   rw[e];exact⟨Nat.le_refl _,by rw[h1];rfl⟩
end
attribute[local go_sem] zDesc aS ah fzD plR ba aL aR aC aE ak az aU z8 z16 z32 z64 encMg a_ b_ aN aA gj d_ ao List.map_cons List.map_nil SeqW2.eq_1
theorem aoa{o:iX}(h:ahS o=true)(hf: ∀d∈o.m.list, ∀s∈d.filter,okS s)(hfs: ∀s∈o.filter,okS s):ar8 o:=by
 unfold ahS at h;simp only[Bool.and_eq_true,decide_eq_true_eq]at h;obtain⟨h1,h2,h3,h4,h5,h6,h7⟩:=h;obtain⟨q1,q2,q3⟩:=aqq (o:=⟨0,0,0,o.filter,o.m,o.draws⟩) h1 hf;unfold qm at h1;simp only[Bool.and_eq_true,decide_eq_true_eq]at h1;exact⟨⟨q1,⟨by omega,by omega⟩,by omega,by omega⟩,by have:=h1.2.2.2.2;show o.draws.length<=1048576;omega,q3,hfs,by omega,by omega⟩
theorem adn(c:ar)(p:af)(o:iX)(hs:c.schema.length<=4000000)(hv:o.vals.length<=4000000):Con2 Tryz.prog 23 [.agg (aE c),.agg (ak p),.agg (encNop o)] (· =plR (.v (.bool (gu c.schema o.vals&&(decide ((o.data.length:Int)<=64)&&decide ((p.seq.toNat:Int)<(c.last.toNat:Int))))))):=by
 refine Con2.ofEmb ?_;have kf:=abj c.schema o.vals hs hv;unfold encNop;refine en_ Tryz.func23 [.tmp 6] (g2_ ?_);refine gx_ ?_;refine cw_ kf (g2_ ?_);cases gu c.schema o.vals with
 |false=>
  refine g2_ ?_;refine ae ?_ rfl;exact wf_ @Bool.false_and
 |true=>
 refine gx_ ?_;cases decide ((o.data.length:Int)<=64)with
 |false=>
  refine g2_ ?_;refine ae ?_ rfl;exact wf_ @Bool.false_and
 |true=>
 refine g2_ ?_;refine ae ?_ rfl;exact wx_
def tN{α:Type}(f:α->Bool)(l:List α)(j:Nat):Nat:=((l.take j).filter f).length
theorem arP{α:Type}{f:α->Bool}{l:List α}:tN f l 0=0:=rfl
theorem wi{α:Type}{f:α->Bool}{l:List α}{j:Nat}(h:j<l.length):tN f l (j+1)=tN f l j+if f l[j]=true then 1 else 0:=by grind [tN,List.take_add_one,List.getElem?_eq_getElem,Option.toList_some,List.length_append]
theorem afg{α:Type}{f:α->Bool}{l:List α}{j:Nat}:tN f l j<=l.length:=by grind [tN]
theorem nodeOwn_con(c:ar)(node:UInt8)(ops:List iX)(hcs: ∀s∈c.schema,okS s)(hsl:c.schema.length<=9223372036854775807)(hol:ops.length<=9223372036854775807)(hops: ∀o∈ops,o.m.list.length<=9223372036854775807/\o.m.table.length<=9223372036854775807/\(∀d∈o.m.list, ∀s∈d.filter,okS s)/\(∀s∈o.filter,okS s)):
  Con2 Tryz.prog 4 [.agg (aE c),.v (.int .u8 node.toNat),.fz 22 (ops.map encNop)] (· =plR (.v (.bool true))):=by
 have haw:=acC;refine en_ Tryz.func4 [.tmp 6] (g2_ ?_);refine g2_ ?_
 by_cases g1:(8:Int)<(c.schema.length:Int)
 ·rw[decide_eq_true g1];refine g2_ ?_;refine cw_ haw (g2_ ?_);exact⟨_,rfl,aa [] ws_⟩
 rw[decide_eq_false g1];refine g2_ ?_;refine cw_ (ac5 c (by omega)) (g2_ ?_)
 cases g2:aF c with
 |false=>
  refine g2_ ?_;refine cw_ haw (g2_ ?_);exact⟨_,rfl,aa [] ws_⟩
 |true=>
 have hrg:=cy g2;have hrb:=ia g2;obtain⟨n1,n2⟩:=xk g2;refine g2_ ?_;refine gF (by omega) ?_
 refine g2_ ?_;obtain⟨n,hn⟩: ∃n:Nat,c.nodes=n:=⟨c.nodes.toNat,by omega⟩
 rw[nA (a:=node.toNat) (b:=n) (bi:=c.nodes) rfl hn (by omega)]
 have hmod:node.toNat % n<n:=Nat.mod_lt _ (by omega)
 obtain⟨nd,hnd⟩: ∃nd:UInt8,(((node.toNat % n:Nat):Nat):Int)=(nd.toNat:Int):=⟨UInt8.ofNat (node.toNat % n),by
  rw[UInt8.toNat_ofNat'];omega⟩
 rw[hnd];have hnl:=nd.toNat_lt;have hndc:(nd.toNat:Int)<c.nodes:=by omega
 refine g2_ ?_;refine cw_ (sX c nd) ?_;have hB0:=amG g2 nd;have hE0:Ew c (bF c nd) 0:=wM (nd:=nd) (inc:=0) (up:=false) (t:=(bF c nd).table) hrb.1 hrb.2.2.1 ⟨hrb.2.2.2.2.1,hrb.2.2.2.2.2⟩ (Int.le_refl 0);have hO0:Ownb (bF c nd):=fun a ha=>absurd ha (by simp[bF])
 have hU0:Ui (bF c nd):=fun h=>by cases h
 generalize bF c nd=p0 at hB0 hE0 hO0 hU0;refine gx_ ?_;obtain⟨m,hm⟩: ∃m:Nat,m=min ops.length 25:=⟨_,rfl⟩;have hmi:(if (25:Int)<(ops.length:Int)then (25:Int)else (ops.length:Int))=(m:Int):=by split<;>omega
 rw[hmi];refine gx_ ?_;have hO:List.take (m-0) (ops.map encNop)=(ops.take m).map encNop:=by rw[Nat.sub_zero,List.map_take]
 have hOm:=fun o (h:o∈ops.take m)=>hops o (List.mem_of_mem_take h)
 have hOl:(ops.take m).length<=25:=by rw[List.length_take];omega
 rw[hO];generalize ops.take m=O at hOm hOl;obtain⟨E,hE⟩: ∃E,E=O.map encNop:=⟨_,rfl⟩;have hEl:E.length=O.length:=by rw[hE,List.length_map]
 have hEg: ∀k (hk:k<O.length),E[k]? =some (encNop O[k]):=fun k hk=>by rw[hE,List.getElem?_map,List.getElem?_eq_getElem hk];rfl
 rw[<-hE];clear hE;refine g_ (γ:=af) (ρ:=[(40,.d (.v (.int .i64 O.length))),(39,.d (.fz 22 E)),(1,.d (.v (.int .u8 nd.toNat))),(3,.loc 3 0),(7,.loc 7 0)]) O.length (fun p=>[]) (fun p=>[(3,⟨aE c,26⟩),(7,⟨ak p,49⟩)]) (fun _=>[]) 0 (fun k p=>Bd c nd p/\Ew c p (k*64)/\Ownb p/\Ui p) p0 (aa [] ?_) ⟨hB0,by simpa using hE0,hO0,hU0⟩ (fun g k=>by first|rfl|(repeat first|simp-implicitDefEqProofs only[go_sem,ab]|with_reducible refine gl_ ?_)) (by omega) (fun g=>ws_) (fun k p hk hF=>?_) (fun p hF=>?_)
 ·refine gf_ hEl ?_
  first|done|rfl|exact⟨rfl,rfl⟩
 ·obtain⟨hB,hEw,hOw,hUi⟩:=hF;obtain⟨f1,f2,f3,f4⟩:=hOm _ (List.getElem_mem hk);have hfew:=aj4 O[k] f1 f2;have hgo:=hEg k hk;generalize O[k]=x at hfew hgo f1 f2 f3 f4;have hnode:=hB.node;refine Vc2.seqJ (γ:=Unit) (fun _=>⟨[(9,.loc 9 0),(41,.d (.v (.int .i64 k))),(40,.d (.v (.int .i64 O.length))),(39,.d (.fz 22 E)),(1,.d (.v (.int .u8 nd.toNat))),(3,.loc 3 0),(7,.loc 7 0)],[(9,⟨encNop x,63⟩),(3,⟨aE c,26⟩),(7,⟨ak p,49⟩)],[],0,0⟩) (fun _=>True) ?_ (fun _ _=>?_)
  ·refine gf_ (c2_ hgo @encNop.eq_1) ?_;refine⟨(),aa [] ?_⟩
   repeat first|simp-implicitDefEqProofs only[go_sem,ab,encNop,List.append_eq,List.cons_append,List.nil_append]|with_reducible refine gl_ ?_
   first|done|rfl|exact⟨rfl,rfl⟩
  clear hgo;refine Vc2.seqJ (γ:=Unit) (fun _=>⟨[(9,.loc 9 0),(41,.d (.v (.int .i64 k))),(40,.d (.v (.int .i64 O.length))),(39,.d (.fz 22 E)),(1,.d (.v (.int .u8 nd.toNat))),(3,.loc 3 0),(7,.loc 7 0)],[(9,⟨encNop x,63⟩),(3,⟨aE c,26⟩),(7,⟨ak p,49⟩)],[],0,0⟩) (fun _=>ahS x=true) ?_ (fun _ g3=>?_)
  ·repeat first|simp-implicitDefEqProofs only[go_sem,ab,encNop,List.append_eq,List.cons_append,List.nil_append]|with_reducible first|refine gl_ ?_|refine ga_ ?_|refine gn_ ?_
   refine cx_ hfew (by simp-implicitDefEqProofs only[go_sem,ab,encNop,List.append_eq,List.cons_append,List.nil_append]) (g2_ ?_)
   cases g3:ahS x with
   |false=>
    refine g2_ ?_;refine⟨p,aa [] ?_,hB,hEw.more (by omega),hOw,hUi⟩
    exact ws_
   |true=>
    refine g2_ ?_;refine⟨(),aa [] ?_⟩
    repeat first|simp-implicitDefEqProofs only[go_sem,ab,encNop,List.append_eq,List.cons_append,List.nil_append]|with_reducible refine gl_ ?_
    first|done|rfl|exact⟨rfl,rfl⟩
  have hok:=aoa g3 f3 f4;have hW:=alV g2 hcs hndc hB hEw (by omega) hok
  have hS:=(qX (o:=x) g2 hcs hB hEw hok.m.mg f4).bd;rw[hnode]at hS;have hE2:Ew c (cS c p x).1 ((k+1:Nat)*64):=(aeS (o:=x) ⟨hrb.1,hrb.2.1⟩ hrb.2.2.1 ⟨hrb.2.2.2.2.1,hrb.2.2.2.2.2⟩ (by rw[hnode];exact hndc) (by omega) hEw).more (by omega)
  have hO2:=aij (c:=c) (o:=x) hOw;have hU2:=anU (c:=c) (o:=x) hUi;have hwhy:=fun (a:GEvt) (ha:a∈p.buf.evs)=>alK (c:=c) (o:=x) hEw.bf.up ha
  have hps:=fun (h4:x.what=4)=>ahZ (c:=c) (o:=x) nd hnode (by omega) hEw.bf hOw hUi h4
  clear hfew;generalize cS c p x=D at hW hS hE2 hO2 hU2 hwhy hps;obtain⟨q,ms,got,own,err⟩:=D;simp only at hW hS hE2 hO2 hU2 hwhy hps;refine Vc2.seqJ (γ:=Unit) (fun _=>⟨[(9,.loc 9 0),(10,.loc 10 0),(41,.d (.v (.int .i64 k))),(40,.d (.v (.int .i64 O.length))),(39,.d (.fz 22 E)),(1,.d (.v (.int .u8 nd.toNat))),(3,.loc 3 0),(7,.loc 7 0)],[(9,⟨encNop x,63⟩),(10,⟨encCame (q,ms,got,own,err),68⟩),(3,⟨aE c,26⟩),(7,⟨ak p,49⟩)],[],0,0⟩) (fun _=>True) ?_ (fun _ _=>?_)
  ·repeat first|simp-implicitDefEqProofs only[go_sem,ab,encNop,List.append_eq,List.cons_append,List.nil_append]|with_reducible first|refine gl_ ?_|refine ga_ ?_|refine gn_ ?_
   refine cx_ hW (by simp-implicitDefEqProofs only[go_sem,ab,encNop,List.append_eq,List.cons_append,List.nil_append]) (gf_ @encCame.eq_1 ?_)
   refine⟨(),aa [] ?_⟩
   repeat first|simp-implicitDefEqProofs only[go_sem,ab,encNop,encCame,List.append_eq,List.cons_append,List.nil_append]|with_reducible refine gl_ ?_
   first|done|rfl|exact⟨rfl,rfl⟩
  clear hW;have hqe:okB q.buf:=hS.h.g.ok.evs;have hpe:=hB.h.g.ok.evs;have hR1:=ajP hB.h.rs;have hpt:=hB.h.g.ok.table;have hpr:=hB.h.g.ok.rows;rw[hnode]at hwhy;refine Vc2.sq ?_
  repeat first|simp-implicitDefEqProofs only[go_sem,ab,encNop,encCame,List.append_eq,List.cons_append,List.nil_append]|with_reducible first|refine gl_ ?_|refine ga_ ?_|refine gn_ ?_
  refine Vc2.seqJ (γ:=Unit) (fun _=>⟨[(9,.loc 9 0),(10,.loc 10 0),(11,.d (.v (.int .i64 (p.buf.evs.filter (dq p nd)).length))),(12,.d (.v (.int .i64 (p.buf.evs.filter (bD p q)).length))),(41,.d (.v (.int .i64 k))),(40,.d (.v (.int .i64 O.length))),(39,.d (.fz 22 E)),(1,.d (.v (.int .u8 nd.toNat))),(3,.loc 3 0),(7,.loc 7 0)],[(9,⟨encNop x,63⟩),(10,⟨encCame (q,ms,got,own,err),68⟩),(3,⟨aE c,26⟩),(7,⟨ak p,49⟩)],[],0,0⟩) (fun _=>True) ?_ (fun _ _=>?_)
  ·refine gx_ ?_;refine aq p.buf.evs.length (fun j=>[(11,.d (.v (.int .i64 (tN (dq p nd) p.buf.evs j)))),(12,.d (.v (.int .i64 (tN (bD p q) p.buf.evs j))))]) (fun _=>[]) (fun _=>[]) 0 (fun _=>True) (aa [] ?_) trivial (fun g k=>ws_) (by omega) (fun g=>ws_) (fun j hj _=>?_) (fun _=>?_)
   ·repeat first|simp-implicitDefEqProofs only[go_sem,ab,arP,aso]|with_reducible refine gl_ ?_
    first|done|rfl|exact⟨rfl,rfl⟩
   ·have how:=wi (f:=dq p nd) hj;have hlo:=wi (f:=bD p q) hj;have hle1:=afg (f:=dq p nd) (l:=p.buf.evs) (j:=j);have hle2:=afg (f:=bD p q) (l:=p.buf.evs) (j:=j);have hwhy:=hwhy _ (List.getElem_mem hj);have hge:(p.buf.evs.map az)[j]? =some (az p.buf.evs[j]):=aV hj;generalize p.buf.evs[j]=ev at how hlo hwhy hge;generalize tN (dq p nd) p.buf.evs j=a1 at how hle1;generalize tN (bD p q) p.buf.evs j=a2 at hlo hle2;refine gf_ hge ?_;rw[ch];cases b1:decide (ev.id.node=nd)with
    | false=>
     have hM:dq p nd ev=false:=by simp[dq,b1]
     rw[hM]at how;simp only[Bool.false_eq_true,if_false,Nat.add_zero]at how;refine g2_ ?_;have kh:=nO q.buf ev.id hqe;refine gf_ hM ?_;refine cw_ kh (g2_ ?_);cases g1:cG q.buf.evs ev.id with
     |true=>
      have hG:bD p q ev=false:=by simp[bD,g1]
      rw[hG]at hlo;simp only[Bool.false_eq_true,if_false,Nat.add_zero]at hlo;refine g2_ ?_;refine⟨j+1,aa [] ?_,rfl⟩
      repeat first|simp-implicitDefEqProofs only[go_sem,ab,how,hlo,Int.natCast_add,Int.natCast_one,List.append_eq,List.cons_append,List.nil_append]|with_reducible refine gl_ ?_
      first|done|rfl|exact⟨rfl,rfl⟩
     |false=>
     refine g2_ ?_;cases g2:q.up with
     |false=>
      have hG:bD p q ev=false:=by simp[bD,g2]
      rw[hG]at hlo;simp only[Bool.false_eq_true,if_false,Nat.add_zero]at hlo;refine g2_ ?_;refine⟨j+1,aa [] ?_,rfl⟩
      repeat first|simp-implicitDefEqProofs only[go_sem,ab,how,hlo,g2,Int.natCast_add,Int.natCast_one,List.append_eq,List.cons_append,List.nil_append]|with_reducible refine gl_ ?_
      first|done|rfl|exact⟨rfl,rfl⟩
     |true=>
     refine g2_ ?_;rw[lH];cases g3:decide (q.inc=p.inc)with
     |false=>
      have hG:bD p q ev=false:=by simp[bD,g3]
      rw[hG]at hlo;simp only[Bool.false_eq_true,if_false,Nat.add_zero]at hlo;refine g2_ ?_;refine⟨j+1,aa [] ?_,rfl⟩
      repeat first|simp-implicitDefEqProofs only[go_sem,ab,how,hlo,g2,Int.natCast_add,Int.natCast_one,List.append_eq,List.cons_append,List.nil_append]|with_reducible refine gl_ ?_
      first|done|rfl|exact⟨rfl,rfl⟩
     |true=>
     have hG:bD p q ev=true:=by simp[bD,g1,g2,of_decide_eq_true g3]
     have hw:=hwhy hG;rw[hG]at hlo;simp only[if_true]at hlo;refine g2_ ?_
     by_cases w5:x.what=5
     ·have ks:=jG p.reports p.table nd p.rows ev.id hR1 (by omega) (by omega)
      have hst:=hw.1 w5;rw[show((x.what.toNat:Int)==5)=true by rw[w5];rfl]
      refine g2_ ?_;refine cw_ ks ?_;rw[hst];refine g2_ ?_;rw[show((x.what.toNat:Int) !=5)=false by rw[w5];rfl]
      refine g2_ ?_;refine⟨j+1,aa [] ?_,rfl⟩
      repeat first|simp-implicitDefEqProofs only[go_sem,ab,how,hlo,g2,Int.natCast_add,Int.natCast_one,List.append_eq,List.cons_append,List.nil_append]|with_reducible refine gl_ ?_
      first|done|rfl|exact⟨rfl,rfl⟩
     ·obtain⟨w4,hnm⟩:=hw.2 w5
      have hMf:dq p nd ev=false:=by
       cases h:dq p nd ev with
       |false=>rfl
       |true=>exact absurd (by simpa[dq]using h) hnm
      rw[hM]at hMf;cases hMf
      all_goals
       rw[show((x.what.toNat:Int)==5)=false by rw[w4];rfl]
       refine g2_ ?_;rw[show((x.what.toNat:Int) !=5)=true by rw[w4];rfl]
       refine gf_ hM ?_;rw[show((x.what.toNat:Int) !=4)=false by rw[w4];rfl]
       refine g2_ ?_;refine⟨j+1,aa [] ?_,rfl⟩
       repeat first|simp-implicitDefEqProofs only[go_sem,ab,how,hlo,g2,Int.natCast_add,Int.natCast_one,List.append_eq,List.cons_append,List.nil_append]|with_reducible refine gl_ ?_
       first|done|rfl|exact⟨rfl,rfl⟩
    |true=>
    refine g2_ ?_;rw[dW];cases b2:decide (ev.id.inc=p.inc)with
    | false=>
     have hM:dq p nd ev=false:=by simp[dq,b2]
     rw[hM]at how;simp only[Bool.false_eq_true,if_false,Nat.add_zero]at how;refine g2_ ?_;have kh:=nO q.buf ev.id hqe;refine gf_ hM ?_;refine cw_ kh (g2_ ?_);cases g1:cG q.buf.evs ev.id with
     |true=>
      have hG:bD p q ev=false:=by simp[bD,g1]
      rw[hG]at hlo;simp only[Bool.false_eq_true,if_false,Nat.add_zero]at hlo;refine g2_ ?_;refine⟨j+1,aa [] ?_,rfl⟩
      repeat first|simp-implicitDefEqProofs only[go_sem,ab,how,hlo,Int.natCast_add,Int.natCast_one,List.append_eq,List.cons_append,List.nil_append]|with_reducible refine gl_ ?_
      first|done|rfl|exact⟨rfl,rfl⟩
     |false=>
     refine g2_ ?_;cases g2:q.up with
     |false=>
      have hG:bD p q ev=false:=by simp[bD,g2]
      rw[hG]at hlo;simp only[Bool.false_eq_true,if_false,Nat.add_zero]at hlo;refine g2_ ?_;refine⟨j+1,aa [] ?_,rfl⟩
      repeat first|simp-implicitDefEqProofs only[go_sem,ab,how,hlo,g2,Int.natCast_add,Int.natCast_one,List.append_eq,List.cons_append,List.nil_append]|with_reducible refine gl_ ?_
      first|done|rfl|exact⟨rfl,rfl⟩
     |true=>
     refine g2_ ?_;rw[lH];cases g3:decide (q.inc=p.inc)with
     |false=>
      have hG:bD p q ev=false:=by simp[bD,g3]
      rw[hG]at hlo;simp only[Bool.false_eq_true,if_false,Nat.add_zero]at hlo;refine g2_ ?_;refine⟨j+1,aa [] ?_,rfl⟩
      repeat first|simp-implicitDefEqProofs only[go_sem,ab,how,hlo,g2,Int.natCast_add,Int.natCast_one,List.append_eq,List.cons_append,List.nil_append]|with_reducible refine gl_ ?_
      first|done|rfl|exact⟨rfl,rfl⟩
     |true=>
     have hG:bD p q ev=true:=by simp[bD,g1,g2,of_decide_eq_true g3]
     have hw:=hwhy hG;rw[hG]at hlo;simp only[if_true]at hlo;refine g2_ ?_
     by_cases w5:x.what=5
     ·have ks:=jG p.reports p.table nd p.rows ev.id hR1 (by omega) (by omega)
      have hst:=hw.1 w5;rw[show((x.what.toNat:Int)==5)=true by rw[w5];rfl]
      refine g2_ ?_;refine cw_ ks ?_;rw[hst];refine g2_ ?_;rw[show((x.what.toNat:Int) !=5)=false by rw[w5];rfl]
      refine g2_ ?_;refine⟨j+1,aa [] ?_,rfl⟩
      repeat first|simp-implicitDefEqProofs only[go_sem,ab,how,hlo,g2,Int.natCast_add,Int.natCast_one,List.append_eq,List.cons_append,List.nil_append]|with_reducible refine gl_ ?_
      first|done|rfl|exact⟨rfl,rfl⟩
     ·obtain⟨w4,hnm⟩:=hw.2 w5
      have hMf:dq p nd ev=false:=by
       cases h:dq p nd ev with
       |false=>rfl
       |true=>exact absurd (by simpa[dq]using h) hnm
      rw[hM]at hMf;cases hMf
      all_goals
       rw[show((x.what.toNat:Int)==5)=false by rw[w4];rfl]
       refine g2_ ?_;rw[show((x.what.toNat:Int) !=5)=true by rw[w4];rfl]
       refine gf_ hM ?_;rw[show((x.what.toNat:Int) !=4)=false by rw[w4];rfl]
       refine g2_ ?_;refine⟨j+1,aa [] ?_,rfl⟩
       repeat first|simp-implicitDefEqProofs only[go_sem,ab,how,hlo,g2,Int.natCast_add,Int.natCast_one,List.append_eq,List.cons_append,List.nil_append]|with_reducible refine gl_ ?_
       first|done|rfl|exact⟨rfl,rfl⟩
    | true=>
     have hM:dq p nd ev=true:=by simp[dq,of_decide_eq_true b1,of_decide_eq_true b2]
     rw[hM]at how;simp only[if_true]at how;refine g2_ ?_;have kh:=nO q.buf ev.id hqe;refine gf_ hM ?_;refine cw_ kh (g2_ ?_);cases g1:cG q.buf.evs ev.id with
     |true=>
      have hG:bD p q ev=false:=by simp[bD,g1]
      rw[hG]at hlo;simp only[Bool.false_eq_true,if_false,Nat.add_zero]at hlo;refine g2_ ?_;refine⟨j+1,aa [] ?_,rfl⟩
      repeat first|simp-implicitDefEqProofs only[go_sem,ab,how,hlo,Int.natCast_add,Int.natCast_one,List.append_eq,List.cons_append,List.nil_append]|with_reducible refine gl_ ?_
      first|done|rfl|exact⟨rfl,rfl⟩
     |false=>
     refine g2_ ?_;cases g2:q.up with
     |false=>
      have hG:bD p q ev=false:=by simp[bD,g2]
      rw[hG]at hlo;simp only[Bool.false_eq_true,if_false,Nat.add_zero]at hlo;refine g2_ ?_;refine⟨j+1,aa [] ?_,rfl⟩
      repeat first|simp-implicitDefEqProofs only[go_sem,ab,how,hlo,g2,Int.natCast_add,Int.natCast_one,List.append_eq,List.cons_append,List.nil_append]|with_reducible refine gl_ ?_
      first|done|rfl|exact⟨rfl,rfl⟩
     |true=>
     refine g2_ ?_;rw[lH];cases g3:decide (q.inc=p.inc)with
     |false=>
      have hG:bD p q ev=false:=by simp[bD,g3]
      rw[hG]at hlo;simp only[Bool.false_eq_true,if_false,Nat.add_zero]at hlo;refine g2_ ?_;refine⟨j+1,aa [] ?_,rfl⟩
      repeat first|simp-implicitDefEqProofs only[go_sem,ab,how,hlo,g2,Int.natCast_add,Int.natCast_one,List.append_eq,List.cons_append,List.nil_append]|with_reducible refine gl_ ?_
      first|done|rfl|exact⟨rfl,rfl⟩
     |true=>
     have hG:bD p q ev=true:=by simp[bD,g1,g2,of_decide_eq_true g3]
     have hw:=hwhy hG;rw[hG]at hlo;simp only[if_true]at hlo;refine g2_ ?_
     by_cases w5:x.what=5
     ·have ks:=jG p.reports p.table nd p.rows ev.id hR1 (by omega) (by omega)
      have hst:=hw.1 w5;rw[show((x.what.toNat:Int)==5)=true by rw[w5];rfl]
      refine g2_ ?_;refine cw_ ks ?_;rw[hst];refine g2_ ?_;rw[show((x.what.toNat:Int) !=5)=false by rw[w5];rfl]
      refine g2_ ?_;refine⟨j+1,aa [] ?_,rfl⟩
      repeat first|simp-implicitDefEqProofs only[go_sem,ab,how,hlo,g2,Int.natCast_add,Int.natCast_one,List.append_eq,List.cons_append,List.nil_append]|with_reducible refine gl_ ?_
      first|done|rfl|exact⟨rfl,rfl⟩
     ·obtain⟨w4,hnm⟩:=hw.2 w5
      have hMf:dq p nd ev=false:=by
       cases h:dq p nd ev with
       |false=>rfl
       |true=>exact absurd (by simpa[dq]using h) hnm
      rw[hM]at hMf;cases hMf
      all_goals
       rw[show((x.what.toNat:Int)==5)=false by rw[w4];rfl]
       refine g2_ ?_;rw[show((x.what.toNat:Int) !=5)=true by rw[w4];rfl]
       refine gf_ hM ?_;rw[show((x.what.toNat:Int) !=4)=false by rw[w4];rfl]
       refine g2_ ?_;refine⟨j+1,aa [] ?_,rfl⟩;refine x1_ (c3_ how hlo g2) ?_
       first|done|rfl|exact⟨rfl,rfl⟩
   ·refine g2_ ?_;refine⟨(),aa [] ?_⟩
    repeat first|simp-implicitDefEqProofs only[go_sem,ab,tN,List.take_length,encNop,encCame,List.append_eq,List.cons_append,List.nil_append]|with_reducible refine gl_ ?_
    first|done|rfl|exact⟨rfl,rfl⟩
  have hev1:=hEw.evicted;have kfi:=adn c p x (by omega) (by have:=hok.vals;omega)
  have hol2:=List.length_filter_le (dq p nd) p.buf.evs;have hlo2:=List.length_filter_le (bD p q) p.buf.evs;have hpe1:=hpe.1;generalize (p.buf.evs.filter (dq p nd)).length=ow at hps hol2 ⊢;generalize (p.buf.evs.filter (bD p q)).length=lo at hps hlo2 ⊢;refine Vc2.seqJ (γ:=Unit) (fun _=>⟨[(10,.loc 10 0),(41,.d (.v (.int .i64 k))),(40,.d (.v (.int .i64 O.length))),(39,.d (.fz 22 E)),(1,.d (.v (.int .u8 nd.toNat))),(3,.loc 3 0),(7,.loc 7 0)],[(10,⟨encCame (q,ms,got,own,err),68⟩),(3,⟨aE c,26⟩),(7,⟨ak p,49⟩)],[],0,0⟩) (fun _=>True) ?_ (fun _ _=>?_)
  ·repeat first|simp-implicitDefEqProofs only[go_sem,ab,encNop,encCame,List.append_eq,List.cons_append,List.nil_append]|with_reducible first|refine gl_ ?_|refine ga_ ?_|refine gn_ ?_
   by_cases w4:x.what=4
   ·obtain⟨s1,s2,s3⟩:=hps w4;rw[show((x.what.toNat:Int)==4)=true by rw[w4];rfl]
    generalize (gu c.schema x.vals&&(decide ((x.data.length:Int)<=64)&&decide ((p.seq.toNat:Int)<(c.last.toNat:Int))))=FB at kfi s1
    have h52:(err==52)=(((ow:Int)==c.buffer)&&(p.up&&FB)):=by
     rw[Bool.eq_iff_iff];simp only[beq_iff_eq,Bool.and_eq_true];exact s1
    refine g2_ ?_;refine .inl ⟨[oF 0,oF 3,oF 1,oF 4,oF 2,oF 5,oF 6,oF 7,oF 8,oF 9,oF 10,oF 11,oT 12,oF 13,oF 14,oF 15,oF 16,oF 17,oF 18,oF 19,oF 20,oF 22,oF 21,oF 23,oF 24,oF 25,oF 26,oF 27,oF 28,oF 29,oF 30,oF 31,oF 32,oF 33,oF 34,oF 35,oF 36,oF 39,oF 41,oF 37,oF 40,oF 38,oF 42,oF 43,oF 44,oF 45],by kernel_rfl,g2_ ?_⟩
    cases hfu:((ow:Int)==c.buffer)with
    | false=>
     rw[hfu,Bool.false_and]at h52;have hup:(0:Nat)=0:=rfl;refine gf_ h52 ?_
     by_cases e0:err=0
     ·obtain⟨t1,t2⟩:=s3 e0;rw[show(err !=0)=false by simp[e0]]
      refine g2_ ?_;rw[decide_eq_false (show ¬(1:Int)<(lo:Int)by omega)]
      refine g2_ ?_;rw[show(err==0)=true by simp[e0]]
      refine g2_ ?_;rw[show(q.evicted !=p.evicted+(lo:Int))=false by rw[t2];exact bne_self_eq_false _]
      refine g2_ ?_;refine⟨(),aa [] ?_⟩
      repeat first|simp-implicitDefEqProofs only[go_sem,ab,encNop,encCame,hup,List.append_eq,List.cons_append,List.nil_append]|with_reducible refine gl_ ?_
      first|done|rfl|exact⟨rfl,rfl⟩
     ·obtain⟨t1,t2⟩:=s2 e0;have kP:Con2 Tryz.prog 16 [.agg (ak q),.agg (ak p)] (· =plR (.v (.bool true))):=by rw[t1];exact lW p hB.h.ok
      rw[show(err !=0)=true by simp[e0]]
      refine g2_ ?_;refine cx_ kP (wf_ hup) (g2_ ?_);rw[decide_eq_false (show ¬(1:Int)<(lo:Int)by omega)]
      refine g2_ ?_;rw[show(err==0)=false by simp[e0]]
      refine g2_ ?_;refine⟨(),aa [] ?_⟩
      repeat first|simp-implicitDefEqProofs only[go_sem,ab,encNop,encCame,hup,List.append_eq,List.cons_append,List.nil_append]|with_reducible refine gl_ ?_
      first|done|rfl|exact⟨rfl,rfl⟩
    |true=>
    rw[hfu,Bool.true_and]at h52;refine g2_ ?_;cases hup:p.up with
    | false=>
     rw[hup,Bool.false_and]at h52;refine gf_ h52 ?_
     by_cases e0:err=0
     ·obtain⟨t1,t2⟩:=s3 e0;rw[show(err !=0)=false by simp[e0]]
      refine g2_ ?_;rw[decide_eq_false (show ¬(1:Int)<(lo:Int)by omega)]
      refine g2_ ?_;rw[show(err==0)=true by simp[e0]]
      refine g2_ ?_;rw[show(q.evicted !=p.evicted+(lo:Int))=false by rw[t2];exact bne_self_eq_false _]
      refine g2_ ?_;refine⟨(),aa [] ?_⟩
      repeat first|simp-implicitDefEqProofs only[go_sem,ab,encNop,encCame,hup,List.append_eq,List.cons_append,List.nil_append]|with_reducible refine gl_ ?_
      first|done|rfl|exact⟨rfl,rfl⟩
     ·obtain⟨t1,t2⟩:=s2 e0;have kP:Con2 Tryz.prog 16 [.agg (ak q),.agg (ak p)] (· =plR (.v (.bool true))):=by rw[t1];exact lW p hB.h.ok
      rw[show(err !=0)=true by simp[e0]]
      refine g2_ ?_;refine cx_ kP (wf_ hup) (g2_ ?_);rw[decide_eq_false (show ¬(1:Int)<(lo:Int)by omega)]
      refine g2_ ?_;rw[show(err==0)=false by simp[e0]]
      refine g2_ ?_;refine⟨(),aa [] ?_⟩
      repeat first|simp-implicitDefEqProofs only[go_sem,ab,encNop,encCame,hup,List.append_eq,List.cons_append,List.nil_append]|with_reducible refine gl_ ?_
      first|done|rfl|exact⟨rfl,rfl⟩
    |true=>
    rw[hup,Bool.true_and]at h52;refine g2_ ?_;refine cx_ kfi (by simp-implicitDefEqProofs only[go_sem,ab,encNop,hup,List.append_eq,List.cons_append,List.nil_append]) (g2_ ?_)
    cases FB with
    | false=>
     refine gf_ h52 ?_
     by_cases e0:err=0
     ·obtain⟨t1,t2⟩:=s3 e0;rw[show(err !=0)=false by simp[e0]]
      refine g2_ ?_;rw[decide_eq_false (show ¬(1:Int)<(lo:Int)by omega)]
      refine g2_ ?_;rw[show(err==0)=true by simp[e0]]
      refine g2_ ?_;rw[show(q.evicted !=p.evicted+(lo:Int))=false by rw[t2];exact bne_self_eq_false _]
      refine g2_ ?_;refine⟨(),aa [] ?_⟩
      repeat first|simp-implicitDefEqProofs only[go_sem,ab,encNop,encCame,hup,List.append_eq,List.cons_append,List.nil_append]|with_reducible refine gl_ ?_
      first|done|rfl|exact⟨rfl,rfl⟩
     ·obtain⟨t1,t2⟩:=s2 e0;have kP:Con2 Tryz.prog 16 [.agg (ak q),.agg (ak p)] (· =plR (.v (.bool true))):=by rw[t1];exact lW p hB.h.ok
      rw[show(err !=0)=true by simp[e0]]
      refine g2_ ?_;refine cx_ kP (wf_ hup) (g2_ ?_);rw[decide_eq_false (show ¬(1:Int)<(lo:Int)by omega)]
      refine g2_ ?_;rw[show(err==0)=false by simp[e0]]
      refine g2_ ?_;refine⟨(),aa [] ?_⟩
      repeat first|simp-implicitDefEqProofs only[go_sem,ab,encNop,encCame,hup,List.append_eq,List.cons_append,List.nil_append]|with_reducible refine gl_ ?_
      first|done|rfl|exact⟨rfl,rfl⟩
    | true=>
     refine gf_ h52 ?_
     by_cases e0:err=0
     ·obtain⟨t1,t2⟩:=s3 e0;rw[show(err !=0)=false by simp[e0]]
      refine g2_ ?_;rw[decide_eq_false (show ¬(1:Int)<(lo:Int)by omega)]
      refine g2_ ?_;rw[show(err==0)=true by simp[e0]]
      refine g2_ ?_;rw[show(q.evicted !=p.evicted+(lo:Int))=false by rw[t2];exact bne_self_eq_false _]
      refine g2_ ?_;refine⟨(),aa [] ?_⟩
      repeat first|simp-implicitDefEqProofs only[go_sem,ab,encNop,encCame,hup,List.append_eq,List.cons_append,List.nil_append]|with_reducible refine gl_ ?_
      first|done|rfl|exact⟨rfl,rfl⟩
     ·obtain⟨t1,t2⟩:=s2 e0;have kP:Con2 Tryz.prog 16 [.agg (ak q),.agg (ak p)] (· =plR (.v (.bool true))):=by rw[t1];exact lW p hB.h.ok
      rw[show(err !=0)=true by simp[e0]]
      refine g2_ ?_;refine cx_ kP (wf_ hup) (g2_ ?_);rw[decide_eq_false (show ¬(1:Int)<(lo:Int)by omega)]
      refine g2_ ?_;rw[show(err==0)=false by simp[e0]]
      refine g2_ ?_;refine⟨(),aa [] ?_⟩
      repeat first|simp-implicitDefEqProofs only[go_sem,ab,encNop,encCame,hup,List.append_eq,List.cons_append,List.nil_append]|with_reducible refine gl_ ?_
      first|done|rfl|exact⟨rfl,rfl⟩
   ·rw[show((x.what.toNat:Int)==4)=false from beq_eq_false_iff_ne.2 (fun h=>w4 (UInt8.toNat_inj.1 (by rw[show(4:UInt8).toNat=4 from rfl];omega)))]
    refine g2_ ?_;refine⟨(),aa [] ?_⟩
    repeat first|simp-implicitDefEqProofs only[go_sem,ab,encNop,encCame,List.append_eq,List.cons_append,List.nil_append]|with_reducible refine gl_ ?_
    first|done|rfl|exact⟨rfl,rfl⟩
  refine Vc2.of ?_
  repeat first|simp-implicitDefEqProofs only[go_sem,ab,encCame,List.append_eq,List.cons_append,List.nil_append]|with_reducible first|refine gl_ ?_|refine ga_ ?_|refine gn_ ?_
  refine⟨q,aa [] ?_,hS,hE2,hO2,hU2⟩
  repeat first|simp-implicitDefEqProofs only[go_sem,ab,encCame,List.append_eq,List.cons_append,List.nil_append]|with_reducible refine gl_ ?_
  first|done|rfl|exact⟨rfl,rfl⟩
 ·refine g2_ ?_;refine cw_ haw (g2_ ?_);exact⟨_,rfl,aa [] ws_⟩
