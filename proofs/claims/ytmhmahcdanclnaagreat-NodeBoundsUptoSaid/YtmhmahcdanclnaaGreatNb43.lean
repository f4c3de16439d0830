import Derived.Test.YtmhmahcdanclnaaGreatNb42
set_option linter.unusedSectionVars false
set_option linter.unusedSimpArgs false
set_option linter.unusedVariables false
set_option maxRecDepth 10000
set_option maxHeartbeats 8000000
namespace Go.Proofs.YtmhmahcdanclnaaGreat.V
open Go.Eng
attribute [local go_sem] aS ah fzD plR a_ aO aQ aA aC ak aB aT z8 z16 z32 z64 encMg aL bP az dx aF List.set_cons_succ List.set_cons_zero
theorem ang(w:Nat->Option Rn)(h:w 0=some (.to 0)):wkRow w (mpRow kv8 nFns) (some (mpRow kv8 nFns)):=by
 exact wf_ (c3_ @mpRow.eq_1 @nFns.eq_1 h)
theorem acu(c:ao)(p:af)(m:aJ)(dr:List UInt32)(hc:c.schema.length<=4)(hcs: ∀s∈c.schema,okS s)(hp:okH p)(hk:m.kind=10)(hu:p.up=true)(hto:m.to=p.node)
  (he:m.ev.vals.length<=4000000/\m.ev.data.length<=4000000) (hps:0<=p.passed/\p.passed<=1000000000) (hdr:dr.length<=4000000) (hsw:0<=c.swap/\c.swap<=1000000)
  (hgA:okG (aI c (aD c (ax c p m.frm m.inc).1 []) m.ev).1)
  (kl:Con2 Tryz.prog 91 [.agg (ak (aI c (aD c (ax c p m.frm m.inc).1 []) m.ev).1)] (· =a_ 5 1 ((aK (aI c (aD c (ax c p m.frm m.inc).1 []) m.ev).1).map az))) (hll:(aK (aI c (aD c (ax c p m.frm m.inc).1 []) m.ev).1).length<=1000000):
  Con2 Tryz.prog 31 [.agg (aC c),.agg (ak p),.agg (encMg m),.fz 1 (dr.map aF)] (· =plR (.tup [.agg (ak (bL c p m dr).1),.fz 17 ((bL c p m dr).2.1.map encMg),.fz 5 ((bL c p m dr).2.2.map aB)])):=by
 refine Con2.ofEmb ?_;have kf:=g_ c p hp.ok;have kh:=qT c p m.frm m.inc hp.ok hp.rs;have hq:=dk (c:=c) hp m.frm m.inc;have hpq:(ax c p m.frm m.inc).1.passed=p.passed:=(d9 (c:=c) (p:=p) m.frm m.inc).passed
 have hN:bL c p m dr=if (ax c p m.frm m.inc).2=false then ((ax c p m.frm m.inc).1,[],[])else (aD c (jW c (aD c (ax c p m.frm m.inc).1 []) m dr).1 [],(jW c (aD c (ax c p m.frm m.inc).1 []) m dr).2.1,(jW c (aD c (ax c p m.frm m.inc).1 []) m dr).2.2):=by
  unfold bL;rw[if_neg (by rw[hk];decide),if_neg (by rw[hu,hto];simp)]
  simp only[hk];rfl
 rw[hN];clear hN;generalize ax c p m.frm m.inc=Q at kh hq hgA kl hll hpq ⊢;obtain⟨q,b⟩:=Q;simp only at kh hq hgA kl hll hpq ⊢;have km:=ahf c q [] hc hcs hq.g ⟨by simp,by simp⟩ (by simp)
 have hg2:=jt (c:=c) (l:=[]) hq.g ⟨by simp,by simp⟩ (by simp)
 have hrq:(aD c q []).rows=q.rows:=rfl
 have hps:0<=(aD c q []).passed/\(aD c q []).passed<=1000000000:=by
  show 0<=q.passed/\q.passed<=1000000000;rw[hpq];exact hps
 have km2:=iG c (aD c q []) [] hc hcs hg2 ⟨by simp,by simp⟩ (by simp)
 have km3:=iG c (aI c (aD c q []) m.ev).1 [] hc hcs hgA ⟨by simp,by simp⟩ (by simp)
 rw[<-hrq]at km;generalize aD c q []=r at km km2 km3 hg2 hgA kl hll hps ⊢;clear hrq hpq;have hp:=hp.ok;refine(mm c p m dr _).2 ?_;dsimp only[mm];rw[show gp nFns m.kind=some (.fn 153 [.pt 0 0] [])by rw[hk];rfl]
 refine x0_ ?_;refine cw_ kf (g2_ ?_);rw[hu,hto];refine gx_ ?_;refine cx_ kh (wg_ hu hto) (g2_ ?_);cases b with
 |false=>
  refine g2_ ?_;refine ae ?_ rfl;exact wg_ hu hto
 |true=>
 rw[if_neg (by decide)]
 refine g2_ ?_;refine cw_ km (g2_ ?_);refine il_ Tryz.func153 [] ?_;refine Vc2.sq (g2_ ?_)
 refine Vc2.seqJ (γ:=Bool) (fun g=>bif g then
   ⟨[(0,.d (.pt 0 0)),(2,.loc 2 0),(3,.loc 3 0),(4,.d (.v (.bool true))),(5,.d (.v (.bool (e_ r.filter m.ev.vals))))],[(2,⟨aB m.ev,56⟩),(3,⟨kJ (aI c r m.ev).1 r.rows.length,49⟩)],
    [(3,.arr 178 5 ((aI c r m.ev).1.pulls.map aT) false),(2,.arr 84 3 ((aI c r m.ev).1.rows.map aA) false),(0,.var 144 (aC c++((ak r).set 24 (.rf 2 0 r.rows.length)++(encMg m++[.fz 1 (dr.map aF),.v (.slice none 0 0),.v (.slice none 0 0)]))))],4,3⟩
  else ⟨[(0,.d (.pt 0 0)),(4,.d (.v (.bool false)))],[],[(2,.arr 84 3 (r.rows.map aA) false),(0,.var 144 (aC c++((ak r).set 24 (.rf 2 0 r.rows.length)++(encMg m++[.fz 1 (dr.map aF),.v (.slice none 0 0),.v (.slice none 0 0)]))))],3,3⟩)
  (fun g=>bif g then r.up=true/\j4 c r m.ev=true else r.up=false\/j4 c r m.ev=false) ?_ (fun g hg=>?_)
 ·refine g2_ ?_;refine .inr (.inl ⟨(.fl 0 (.fl 4 (.fl 8 (.fl 1 (.fl 5 (.fl 2 (.fl 6 (.fl 3 (.fl 7 (.eff 9 false (.fl 10 (.fl 11 (.fl 12 (.fl 13 (.eff 14 true (.eff 15 false (.fl 16 (.fl 17 .done)) .no) .no))))) (.eff 14 true (.eff 9 false (.fl 10 (.fl 11 (.fl 12 (.fl 13 (.eff 15 false (.fl 16 (.fl 17 .done)) .no))))) .no) .no))))))))))),by kernel_rfl,g2_ ?_⟩)
  repeat' (first
   |(with_reducible refine And.intro ?_ ?_)
   |(refine alD c r m.ev hg2.ok (by omega) he hps (fun w w0 w1 w2=>⟨?_,ang w w0⟩) (fun w1=>?_) (fun w1 w2=>?_);(focus (repeat first|simp-implicitDefEqProofs only[go_sem,ab,w0,w1,w2]|with_reducible refine gl_ ?_;done))))
  all_goals
   repeat first|simp-implicitDefEqProofs only[go_sem,ab,kJ]|with_reducible first|refine gl_ ?_|refine ga_ ?_|refine gn_ ?_
   first
    |(refine⟨true,aa [] ?_,⟨w1,w2⟩⟩;(focus (repeat first|simp-implicitDefEqProofs only[go_sem,ab,hto,cond_true,kJ,List.append_eq,List.cons_append,List.nil_append]|with_reducible refine gl_ ?_;done)))
    |(refine⟨false,aa [] ?_,w1⟩;(focus (repeat first|simp-implicitDefEqProofs only[go_sem,ab,hto,cond_false,List.append_eq,List.cons_append,List.nil_append]|with_reducible refine gl_ ?_;done)))
    |trace_state
 ·cases g with
  |false=>
   have hP:jW c r m dr=(r,[],[]):=by unfold jW;simp only;rw[show aI c r m.ev=(r,false,false)from if_pos hg];rfl
   rw[hP];simp only[cond_false];refine Vc2.of ?_;exact q2_ km2
  | true=>
   have hg:r.up=true/\j4 c r m.ev=true:=hg;have hA2:(aI c r m.ev).2=(true,e_ r.filter m.ev.vals):=by rw[lj hg.1 hg.2]
   have hAn:(aI c r m.ev).1.rows.length=r.rows.length:=pl_accept.rows;obtain⟨S,hS⟩: ∃S,S=(if m.hops=0 then []else eH c (aI c r m.ev).1 m.ev (m.hops-1) (dG (aK (aI c r m.ev).1) m.frm m.ev.id.node) dr):=⟨_,rfl⟩
   obtain⟨G,hG⟩: ∃G,G=if e_ r.filter m.ev.vals=true then [m.ev]else []:=⟨_,rfl⟩
   have hP:jW c r m dr=((aI c r m.ev).1,S,G):=by
    unfold jW;simp only[hA2];rw[if_neg (by decide),hS,hG]
   rw[hP];clear hP hA2;simp only[cond_true];generalize (aI c r m.ev).1=A at *;refine Vc2.sq ?_
   repeat first|simp-implicitDefEqProofs only[go_sem,ab,kJ,List.append_eq,List.cons_append,List.nil_append]|with_reducible first|refine gl_ ?_|refine ga_ ?_|refine gn_ ?_
   refine Vc2.sq ?_
   repeat first|simp-implicitDefEqProofs only[go_sem,ab,kJ,List.append_eq,List.cons_append,List.nil_append]|with_reducible first|refine gl_ ?_|refine ga_ ?_|refine gn_ ?_
   refine Vc2.seqJ (γ:=Unit) (fun _=>⟨[(0,.d (.pt 0 0)),(2,.loc 2 0)],[(2,⟨aB m.ev,56⟩)],
    [(4,.arr 56 5 (G.map aB) false),(3,.arr 178 5 (A.pulls.map aT) false),(2,.arr 84 3 (A.rows.map aA) false),(0,.var 144 (aC c++(kJ A A.rows.length++(encMg m++[.fz 1 (dr.map aF),.v (.slice none 0 0),.rf 4 0 G.length]))))],5,3⟩)
    (fun _=>True) ?_ (fun _ _=>?_)
   ·have kc:=jF m.ev he.1 he.2;cases hd:e_ r.filter m.ev.vals with
    |false=>
     rw[if_neg (by rw[hd];decide)]at hG
     refine g2_ ?_;refine⟨(),aa [(4,.nil 5)] ?_⟩
     repeat first|simp-implicitDefEqProofs only[go_sem,ab,hG,hto,hAn,kJ,List.map_nil,List.length_nil,List.append_eq,List.cons_append,List.nil_append]|with_reducible refine gl_ ?_
     first|done|rfl|exact⟨rfl,rfl⟩
    |true=>
     rw[if_pos hd]at hG;refine g2_ ?_;refine .inl ⟨[oF 0,oF 1,oF 5,oF 2,oF 3,oF 4,oT 6,oT 7,oF 8,oF 9,oF 10,oF 11],by kernel_rfl,g2_ ?_⟩
     refine cw_ kc (g2_ ?_);refine⟨(),aa [(4,.to 5)] ?_⟩
     repeat first|simp-implicitDefEqProofs only[go_sem,ab,hG,hto,hAn,kJ,List.map_nil,List.map_cons,List.length_nil,List.length_cons,List.append_eq,List.cons_append,List.nil_append]|with_reducible refine gl_ ?_
     first|done|rfl|exact⟨rfl,rfl⟩
   ·have kL:=vQ m.hops;refine Vc2.sq ?_
    repeat first|simp-implicitDefEqProofs only[go_sem,ab,kJ,List.append_eq,List.cons_append,List.nil_append]|with_reducible first|refine gl_ ?_|refine ga_ ?_|refine gn_ ?_
    refine cw_ kL (g2_ ?_);refine Vc2.of ?_;refine g2_ ?_
    by_cases h0:m.hops=0
    ·rw[if_pos h0]at hS;rw[hS];rw[decide_eq_true h0];refine g2_ ?_;clear km2;have km2:=km3;refine .inl ⟨[oF 0,oF 1,oF 2,oF 3,oF 4,oF 5,oF 6,oF 7,oF 8,oF 9],by kernel_rfl,gx_ ?_⟩
     refine cw_ km2 (gx_ ?_);refine .inr (.inr (.inl ⟨[oF 0,oF 4,oF 8,oF 1,oF 5,oF 9,oF 2,oF 6,oF 10,oF 3,oF 7,oF 11,oT 12,oF 13,oF 14],[8],by kernel_rfl,gx_ ?_⟩))
     refine ae ?_ rfl;exact wf_ @an
    ·rw[if_neg h0]at hS;have kp:=qL c A m.ev (m.hops-1) (dG (aK A) m.frm m.ev.id.node) dr he (Nat.le_trans (List.length_filter_le _ _) (by omega)) hdr hsw
     rw[<-hS]at kp;rw[decide_eq_false h0];refine g2_ ?_;refine .inl ⟨[oF 0,oF 5,oF 10,oF 1,oF 6,oF 11,oF 2,oF 7,oF 12,oF 3,oF 8,oF 9,oT 4,oF 13,oF 14],by kernel_rfl,?_⟩
     repeat first|simp-implicitDefEqProofs only[go_sem,ab,kJ,List.append_eq,List.cons_append,List.nil_append]|with_reducible first|refine gl_ ?_|refine ga_ ?_|refine gn_ ?_
     refine cx_ kl (by simp-implicitDefEqProofs only[go_sem,ab,kJ,an,List.length_map]) (g2_ ?_)
     refine ai2 (aK A) m.frm m.ev.id.node (by omega) (fun w hw=>?_) ?_
     ·have w0:=hw 0 (by omega)
      have w2:=hw 2 (by omega)
      have w3:=hw 3 (by omega)
      have w4:=hw 4 (by omega)
      repeat first|simp-implicitDefEqProofs only[go_sem,ab,w0,w2,w3,w4]|with_reducible refine gl_ ?_
      first|done|trace_state
     ·refine g2_ ?_;refine .inl ⟨[oF 0,oF 1,oF 5,oF 9,oF 10,oF 11,oF 12,oF 2,oF 6,oF 13,oF 3,oF 7,oF 14,oF 4,oF 8,oF 15,oF 16,oF 17,oF 18,oF 19],by kernel_rfl,gf_ @an ?_⟩
      refine cx_ kp (wg_ @an h0) (g2_ ?_);clear km2;have km2:=km3;refine .inl ⟨[oF 0,oF 1,oF 2,oF 3,oF 4,oF 5,oF 6,oF 7,oF 8,oF 9],by kernel_rfl,gx_ ?_⟩
      refine cw_ km2 (gx_ ?_);refine .inr (.inr (.inl ⟨[oF 0,oF 4,oF 8,oF 1,oF 5,oF 9,oF 2,oF 6,oF 10,oF 3,oF 7,oF 11,oT 12,oF 13,oF 14],[8],by kernel_rfl,gx_ ?_⟩))
      refine ae ?_ rfl;exact wf_ @an
end Go.Proofs.YtmhmahcdanclnaaGreat.V
namespace Go.Proofs.YtmhmahcdanclnaaGreat.V
open Go.Eng
attribute [local go_sem] aS ah fzD plR a_ aO aQ aA aC ak aB aT z8 z16 z32 z64 encMg List.set_cons_succ List.set_cons_zero
theorem agJ(c:ao)(p:af)(node:UInt8)(inc:UInt16)(hp:okP p)(hr:fU p.reports):Con2 Tryz.prog 84 [.agg (aC c),.agg (ak p),.v (.int .u8 node.toNat),.v (.int .u16 inc.toNat)]
  (· =⟨.tup [.agg ((ak (ax c p node inc).1).set 22 (.rf 0 0 p.heard.length)),.v (.bool (ax c p node inc).2)],[(0,.arr 57 3 (p.heard.map aO) false)],1⟩):=by
 have hi:=node.toNat_lt;have hj:=p.node.toNat_lt;have htb:=hp.table;have kf:=pJ p hp;refine en_ Tryz.func84 [.cell 8 49,.tmp 9] (g2_ ?_);refine g2_ ?_;refine .inr (.inr (.inl ⟨[oF 0,oF 1,oF 3,oF 4,oT 2,oF 5,oF 6,oF 7,oF 8,oF 9],[],by kernel_rfl,g2_ ?_⟩))
 refine cw_ kf (g2_ ?_);refine im_ Tryz.func156 [.cell 8 49,.tmp 9] (g2_ ?_);refine gf_ @au ?_
 by_cases h1:c.nodes<=(node.toNat:Int)
 ·have e:ax c p node inc=(p,false):=if_pos (.inl h1);rw[e,decide_eq_true h1];refine gf_ @au ?_;exact⟨_,rfl,aa [(0,.to 0)] ws_⟩
 rw[decide_eq_false h1];refine gf_ @au ?_
 by_cases h2:p.table.length<=node.toNat
 ·have e:ax c p node inc=(p,false):=if_pos (.inr (.inl h2));rw[e,decide_eq_true (show(p.table.length:Int)<=(node.toNat:Int)by omega)]
  refine gf_ @au ?_;exact⟨_,rfl,aa [(0,.to 0)] ws_⟩
 rw[decide_eq_false (show ¬(p.table.length:Int)<=(node.toNat:Int)by omega)]
 refine gf_ @au ?_;rw[bW]
 by_cases h3:node=p.node
 ·have e:ax c p node inc=(p,false):=if_pos (.inr (.inr (.inl h3)));rw[e,decide_eq_true h3];refine gf_ @au ?_;exact⟨_,rfl,aa [(0,.to 0)] ws_⟩
 rw[decide_eq_false h3];refine gf_ @au ?_;rw[nJ];refine aV (fun h4=>?_) (fun h4=>?_)
 ·have e:ax c p node inc=(p,false):=if_pos (.inr (.inr (.inr h4)));rw[e];refine gf_ @au ?_;exact⟨_,rfl,aa [(0,.to 0)] ws_⟩
 have hk:node.toNat<p.table.length:=by omega
 refine gf_ (c2_ @au (mE_ hk)) ?_
 have e0:ax c p node inc=if inc<p.table[node.toNat].inc\/(inc=p.table[node.toNat].inc/\p.table[node.toNat].state=3)then (p,false)
   else ({ p with table:=iB p.table node inc,reports:=if p.table[node.toNat].inc<inc then gd p.reports node else p.reports },true):=by
  unfold ax;rw[if_neg (by simp[h1,h2,h3,h4]),List.getElem?_eq_getElem hk]
 rw[e0];have hth:=s9 p.table node inc htb;generalize p.table[node.toNat]=m
 by_cases h5:(inc.toNat:Int)<(m.inc.toNat:Int)
 ·have h6:inc<m.inc:=by rw[UInt16.lt_iff_toNat_lt];omega
  rw[if_pos (.inl h6),decide_eq_true h5];refine gf_ @au ?_;exact⟨_,rfl,aa [(0,.to 0)] ws_⟩
 have h6: ¬inc<m.inc:=by rw[UInt16.lt_iff_toNat_lt];omega
 rw[decide_eq_false h5];refine gf_ @au ?_;rw[dQ]
 by_cases h7:inc=m.inc/\m.state=3
 ·rw[if_pos (.inr h7),decide_eq_true h7.1];refine gf_ @au ?_;rw[yl,decide_eq_true h7.2];refine gf_ @au ?_;exact⟨_,rfl,aa [(0,.to 0)] ws_⟩
 rw[if_neg (by simp[h6];exact fun a b=>h7 ⟨a,b⟩)]
 by_cases hA:inc=m.inc
 ·have hs3: ¬m.state=3:=fun h=>h7 ⟨hA,h⟩
  have h8: ¬(m.inc.toNat:Int)<(inc.toNat:Int):=by rw[hA];omega
  have h9: ¬m.inc<inc:=by rw[UInt16.lt_iff_toNat_lt];omega
  rw[decide_eq_true hA,if_neg h9];refine gf_ @au ?_;rw[yl,decide_eq_false hs3];refine gf_ @au ?_;refine ce_ hth (gf_ @au ?_);rw[decide_eq_false h8];refine gf_ @au ?_;exact⟨_,rfl,aa [(0,.to 0)] ws_⟩
 ·have h8:(m.inc.toNat:Int)<(inc.toNat:Int):=by
   have:m.inc.toNat≠inc.toNat:=fun h=>hA (UInt16.toNat_inj.1 h.symm)
   omega
  have h9:m.inc<inc:=by rw[UInt16.lt_iff_toNat_lt];omega
  rw[decide_eq_false hA,if_pos h9];refine gf_ @au ?_;refine ce_ hth (gf_ @au ?_);rw[decide_eq_true h8];refine gf_ @au ?_;refine ce_ (jJ p.reports node hr) (gf_ @au ?_);exact⟨_,rfl,aa [(0,.to 0)] (wf_ @au)⟩
attribute[local go_sem] aL bP az dx aF SeqW2.eq_1 cond_false
@[local go_sem] theorem asn:aaL Tryz.prog 5=true:=by kernel_rfl
theorem ak6(L:List UInt8)(a b:UInt8)(hl:L.length<=4000000){R0 R2:Row}{ρ σ nb K}(hR: ∀r:Nat->Option Rn,(∀i,i<3->r i=some (.to i))->wkRow r R0 (some R0)/\wkRow r R2 (some R2))
  (hk:K (.rf 3 0 (dG L a b).length) ⟨ρ,σ,[(5,.var 5 [.v (.int .u8 b.toNat)]),(4,.var 5 [.v (.int .u8 a.toNat)]),(3,.arr 5 1 ((dG L a b).map az) false),(2,R2),(0,R0)],6,nb⟩):
  CallS Tryz.prog false 251 [.rf 3 0 L.length,.v (.int .u8 a.toNat),.v (.int .u8 b.toNat)] ⟨ρ,σ,[(3,.arr 5 1 (L.map az) false),(2,R2),(0,R0)],4,nb⟩ K:=by
 have hQ:=hR (rnOf [] 6) (fun i hi=>by
  have:i<6:=by omega
  simp only[rnOf,decide_eq_true this,cond_true];rfl)
 obtain⟨q,hq⟩: ∃q:UInt8->Bool,q=fun x=>decide (x=a)||decide (x=b):=⟨_,rfl⟩
 have kq: ∀x,Con2 Tryz.prog 317 [.v (.int .u8 x.toNat),.fp [.v (.int .u8 a.toNat)],.fp [.v (.int .u8 b.toNat)]] (· =plR (.v (.bool (q x)))):=fun x=>by rw[hq];exact vS a b x
 have hU:dG L a b=L.filter fun x=> !q x:=by rw[hq];rfl
 rw[hU]at hk;clear hq hU hR;have hdf:=wv (q:=q) (l:=L);have hdn:=qv (q:=q) (l:=L);have hFl:(L.filter fun x=> !q x).length<=4000000:=Nat.le_trans (List.length_filter_le _ _) hl
 refine im_ Tryz.func251 [.tmp 6] (g2_ ?_);refine g2_ ?_;refine im_ Tryz.func316 [.tmp 4] (g2_ ?_);refine g2_ ?_;refine CallS.eq (aam 317 [.fp [.v (.int .u8 a.toNat)],.fp [.v (.int .u8 b.toNat)]] L q hl (fun _=>ws_) ws_ (fun _=>ws_) (fun x _=>kq x)) (wf_ @an) (.inr ws_) ?_
 cases hi:L.findIdx? q with
 |none=>
  have e1:(L.filter fun x=> !q x)=L:=List.filter_eq_self.2 fun x hx=>by simp[List.findIdx?_eq_none_iff.1 hi x hx]
  rw[show fJ none= -1 from rfl]
  rw[e1]at hk;refine g2_ ?_;exact hk
 | some i=>
  obtain⟨hil,hib,hif⟩:=List.findIdx?_eq_some_iff_getElem.1 hi;have hbi:q L[i]=true:=hib
  have hF0: ∀x∈L.take i,q x=false:=fun x hx=>by
   obtain⟨j,hj,rfl⟩:=List.mem_take_iff_getElem.1 hx;have:=hif j (by omega)
   simpa using this
  obtain⟨d1,d2⟩:=nR hil hbi hF0;rw[show fJ (some i)=((i:Nat):Int)from rfl]
  refine g2_ ?_;rw[show(((i:Nat):Int)== -1)=false from beq_eq_false_iff_ne.2 (by omega)]
  refine g2_ ?_;refine bm (γ:=Nat) (fun j=>[(6,.d (.v (.int .i64 (j:Nat)))),(5,.d (.v (.int .i64 (dfN q L j:Nat))))]) (fun _=>[]) (fun j=>[(5,.var 5 [.v (.int .u8 b.toNat)]),(4,.var 5 [.v (.int .u8 a.toNat)]),(3,.arr 5 1 ((dfR q L j).map az) false),(2,R2),(0,R0)]) 6 (fun j=>i+1<=j/\j<=L.length/\dfN q L j<j) (fun j=>L.length-j) (i+1) (aa [] ?_) ⟨Nat.le_refl _,by omega,by omega⟩ (fun j hj=>?_)
  ·refine gf_ (c3_ d1 d2 hQ) ?_
   first|done|rfl|exact⟨rfl,rfl⟩
  ·obtain⟨j1,j2,j3⟩:=hj;have hdl:=r_ (q:=q) (l:=L) (j:=j);have hrl2:=qm (q:=q) j2
   by_cases hjl:j<L.length
   ·have hg:((dfR q L j).map az)[j]? =some (az L[j]):=by rw[List.getElem?_map,qy hjl];rfl
    refine gf_ hrl2 ?_;rw[decide_eq_true (show(j:Int)<(L.length:Int)by omega)]
    refine gg_ hg hrl2 ?_;refine CallS.eq (kq L[j]) ws_ (.inr ws_) ?_;refine g2_ ?_;cases hb:q L[j]with
    |true=>
     refine g2_ ?_;refine⟨j+1,aa [] ?_,⟨by omega,by omega,by rw[fI hjl hb];omega⟩,by omega⟩
     repeat first|simp-implicitDefEqProofs only[go_sem,ab,fI hjl hb,np hjl hb,hQ]|with_reducible refine gl_ ?_
     first|done|rfl|exact⟨rfl,rfl⟩
    |false=>
     have hg2:((dfR q L j).map az)[dfN q L j]? =some (az (dfR q L j)[dfN q L j]):=aZ (by omega)
     refine gg_ hg2 hrl2 ?_;refine⟨j+1,aa [] ?_,⟨by omega,by omega,by rw[fF hjl hb];omega⟩,by omega⟩
     repeat first|simp-implicitDefEqProofs only[go_sem,ab,fF hjl hb, <-nI hjl hb,List.map_set,hQ]|with_reducible refine gl_ ?_
     first|done|rfl|exact⟨rfl,rfl,rfl,rfl⟩|trace_state
   ·obtain rfl:j=L.length:=by omega
    refine gf_ hrl2 ?_;rw[decide_eq_false (show ¬(L.length:Int)<(L.length:Int)by omega)]
    refine gf_ hrl2 ?_;rw[Nat.sub_zero, <-List.map_take,hdf,hdn];exact hk
theorem zU(l:List (List DV))(hl:l.length<=5000000):Con2 Tryz.prog 323 [.fz 3 l] (· =plR (.fz 3 l)):=jw (fg (T:=58) Tryz.func323 (by kernel_rfl) (by kernel_rfl) rfl rfl Ty.elOf58 (by decide) l hl)
theorem afS(l:List GAsk)(x:GAsk)(most:Int):(yF l x most).length<=l.length+1:=by grind [yF,abY]
theorem ade(c:ao)(p:af)(n:UInt8)(i:UInt16):(ax c p n i).1.heard=p.heard:=by grind [ax]
theorem wj(c:ao)(p:af)(m:aJ)(dr:List UInt32)(hc:c.schema.length<=4)(hcs: ∀s∈c.schema,okS s)(hp:okH p)(hk:m.kind=11)(hu:p.up=true)(hto:m.to=p.node)
  (hids:m.ids.length<=500000) (hpl:p.pulls.length<=3000000) (hpat:0<=c.patience/\c.patience<=255) (htb:m.table.length<=4000000) (hmk:m.marks.length<=4000000) (kl:Con2 Tryz.prog 91 [.agg (ak (bG c (aD c (ax c p m.frm m.inc).1 []) m).1)] (· =a_ 5 1 ((aK (bG c (aD c (ax c p m.frm m.inc).1 []) m).1).map az))) (hll:(aK (bG c (aD c (ax c p m.frm m.inc).1 []) m).1).length<=1000000) (hVw:Vw (aD c (ax c p m.frm m.inc).1 []).node (aD c (ax c p m.frm m.inc).1 []).view) (hgA:okG (bG c (aD c (ax c p m.frm m.inc).1 []) m).1):
  Con2 Tryz.prog 31 [.agg (aC c),.agg (ak p),.agg (encMg m),.fz 1 (dr.map aF)] (· =plR (.tup [.agg (ak (bL c p m dr).1),.fz 17 ((bL c p m dr).2.1.map encMg),.fz 5 ((bL c p m dr).2.2.map aB)])):=by
 refine Con2.ofEmb ?_;have kf:=g_ c p hp.ok;have kh:=qT c p m.frm m.inc hp.ok hp.rs;have hq:=dk (c:=c) hp m.frm m.inc
 have hN:bL c p m dr=if (ax c p m.frm m.inc).2=false then ((ax c p m.frm m.inc).1,[],[])else (aD c (bG c (aD c (ax c p m.frm m.inc).1 []) m).1 [],(bG c (aD c (ax c p m.frm m.inc).1 []) m).2,[]):=by
  unfold bL;rw[if_neg (by rw[hk];decide),if_neg (by rw[hu,hto];simp)]
  simp only[hk];rfl
 rw[hN];clear hN;have hqp:(ax c p m.frm m.inc).1.pulls=p.pulls:=(d9 (c:=c) (p:=p) m.frm m.inc).pulls;generalize ax c p m.frm m.inc=Q at kh hq hVw hgA hqp kl hll ⊢;obtain⟨q,b⟩:=Q;simp only at kh hq hVw hgA hqp kl hll ⊢;have km:=iG c q [] hc hcs hq.g ⟨by simp,by simp⟩ (by simp)
 have hg2:=jt (c:=c) (l:=[]) hq.g ⟨by simp,by simp⟩ (by simp)
 have hrs:fU (aD c q []).reports:=hq.rs;have hv8:ok8 (aD c q []).view:=⟨Nat.le_trans (List.length_filter_le _ _) hq.v8.1,fun d hd=>hq.v8.2 d (List.mem_filter.1 hd).1⟩
 have hrp:(aD c q []).pulls.length<=3000000:=by show q.pulls.length<=_;rw[hqp];exact hpl
 have hvw:Vw (aD c q []).node (aD c q []).view:=hVw;have km3:=iG c (bG c (aD c q []) m).1 [] hc hcs hgA ⟨by simp,by simp⟩ (by simp)
 have km2:=iG c (aD c q []) [] hc hcs hg2 ⟨by simp,by simp⟩ (by simp)
 generalize aD c q []=r at km km2 km3 hg2 hgA hrs hv8 hvw hrp kl hll ⊢;have hp:=hp.ok;refine(mm c p m dr _).2 ?_;dsimp only[mm];rw[show gp nFns m.kind=some (.fn 155 [.pt 0 0] [])by rw[hk];rfl]
 refine x0_ ?_;refine cw_ kf (g2_ ?_);rw[hu,hto];refine gx_ ?_;refine cx_ kh (wg_ hu hto) (g2_ ?_);cases b with
 |false=>
  refine g2_ ?_;refine ae ?_ rfl;exact wg_ hu hto
 |true=>
 rw[if_neg (by decide)]
 refine g2_ ?_;refine cw_ km (g2_ ?_);refine il_ Tryz.func155 [] ?_;refine Vc2.sq (g2_ ?_);refine Vc2.sq ?_;refine .inl ⟨[oF 0,oF 3,oF 1,oF 4,oF 2,oF 5,oF 6,oF 7,oF 8,oF 9,oF 10,oF 12,oF 11,oF 13,oF 14,oF 15,oF 16,oF 17,oF 18,oF 19,oF 20,oF 23,oF 21,oF 24,oF 22,oF 25,oF 26,oF 27,oF 28,oF 29,oF 30],by kernel_rfl,?_⟩
 have ho:=m.origin.node.toNat_lt;have hhe:=hg2.ok.heard;refine gx_ ?_
 by_cases h1:c.nodes<=(m.origin.node.toNat:Int)
 ·have hb:bG c r m=(r,[]):=if_pos (.inl h1);rw[decide_eq_true h1];refine g2_ ?_;rw[hb];exact q2_ km2
 rw[decide_eq_false h1];refine gx_ ?_;rw[bW]
 by_cases h2:m.origin.node=r.node
 ·have hb:bG c r m=(r,[]):=if_pos (.inr h2);rw[decide_eq_true h2];refine g2_ ?_;rw[hb];exact q2_ km2
 rw[decide_eq_false h2];refine gx_ ?_
 by_cases h3:r.heard.length<=m.origin.node.toNat
 ·have hb:bG c r m=(r,[]):=by unfold bG;rw[if_neg (by simp[h1,h2]),List.getElem?_eq_none h3]
  rw[decide_eq_true (show(r.heard.length:Int)<=(m.origin.node.toNat:Int)by omega)]
  refine g2_ ?_;rw[hb];exact q2_ km2
 rw[decide_eq_false (show ¬(r.heard.length:Int)<=(m.origin.node.toNat:Int)by omega)]
 have h3:m.origin.node.toNat<r.heard.length:=by omega
 have hN:bG c r m=if mU m.origin { r.heard[m.origin.node.toNat]with node:=m.origin.node }=false then (r,[])else if (ax c r m.origin.node m.origin.inc).2=false then (r,[])
   else ((lY c { bz { (ax c r m.origin.node m.origin.inc).1 with heard:=(ax c r m.origin.node m.origin.inc).1.heard.set m.origin.node.toNat m.origin } m.table with reports:=cg (bz { (ax c r m.origin.node m.origin.inc).1 with heard:=(ax c r m.origin.node m.origin.inc).1.heard.set m.origin.node.toNat m.origin } m.table).reports m.origin.node m.marks } m).1,
    (lY c { bz { (ax c r m.origin.node m.origin.inc).1 with heard:=(ax c r m.origin.node m.origin.inc).1.heard.set m.origin.node.toNat m.origin } m.table with reports:=cg (bz { (ax c r m.origin.node m.origin.inc).1 with heard:=(ax c r m.origin.node m.origin.inc).1.heard.set m.origin.node.toNat m.origin } m.table).reports m.origin.node m.marks } m).2++
    if m.hops=0 then []else j9 (lY c { bz { (ax c r m.origin.node m.origin.inc).1 with heard:=(ax c r m.origin.node m.origin.inc).1.heard.set m.origin.node.toNat m.origin } m.table with reports:=cg (bz { (ax c r m.origin.node m.origin.inc).1 with heard:=(ax c r m.origin.node m.origin.inc).1.heard.set m.origin.node.toNat m.origin } m.table).reports m.origin.node m.marks } m).1 m):=by
  unfold bG;rw[if_neg (by simp[h1,h2]),List.getElem?_eq_getElem h3]
 have kn:=s_ m.origin { r.heard[m.origin.node.toNat]with node:=m.origin.node };have kH:=agJ c r m.origin.node m.origin.inc hg2.ok hrs;have hhd:(ax c r m.origin.node m.origin.inc).1.heard=r.heard:=ade ..;refine g2_ ?_;refine Vc2.sq (g2_ ?_);refine .inl ⟨[oF 0,oF 5,oF 1,oF 6,oF 2,oF 3,oF 4,oF 7,oF 8,oT 9,oF 10],by kernel_rfl,gf_ (mE_ h3) ?_⟩
 refine Vc2.sq (g2_ ?_);refine Vc2.sq (g2_ ?_);refine cw_ kn ?_;clear kn;refine g2_ ?_;generalize mU m.origin { r.heard[m.origin.node.toNat]with node:=m.origin.node }=b4 at hN ⊢;cases b4 with
 |false=>
  have hb:bG c r m=(r,[]):=hN;refine g2_ ?_;rw[hb];exact q2_ km2
 |true=>
 rw[if_neg (by decide)]at hN
 refine g2_ ?_
 refine Vc2.seqJ (γ:=Unit) (fun _=>⟨[(0,.d (.pt 0 0)),(2,.loc 2 0),(4,.loc 4 0),(5,.d (.v (.bool (ax c r m.origin.node m.origin.inc).2)))],[(2,⟨aO m.origin,57⟩),(4,⟨(ak (ax c r m.origin.node m.origin.inc).1).set 22 (.rf 2 0 r.heard.length),49⟩)],
  [(2,.arr 57 3 (r.heard.map aO) false),(0,.var 144 (aC c++(ak r++(encMg m++[.fz 1 (dr.map aF),.v (.slice none 0 0),.v (.slice none 0 0)]))))],3,2⟩) (fun _=>True) ?_ (fun _ _=>?_)
 ·refine g2_ ?_;refine .inr (.inl ⟨(.fl 0 (.fl 4 (.fl 8 (.fl 10 (.fl 1 (.fl 5 (.fl 9 (.fl 11 (.fl 2 (.fl 6 (.fl 3 (.fl 7 (.eff 12 false (.fl 13 (.fl 14 (.fl 15 (.eff 16 true (.eff 17 false (.fl 18 .done) .no) .no)))) (.eff 16 true (.eff 12 false (.fl 13 (.fl 14 (.fl 15 (.eff 17 false (.fl 18 .done) .no)))) .no) .no)))))))))))))),by kernel_rfl,g2_ ?_⟩)
  repeat' (first
   |(with_reducible refine And.intro ?_ ?_)
   |(refine CallS.eqW kH ?_ (.inl ?_) ?_;(focus (simp-implicitDefEqProofs only[go_sem,ab];done));(focus (simp-implicitDefEqProofs only[go_sem,ab];done));refine g2_ ?_)
   |(refine⟨(),aa [] ?_⟩;(focus (repeat first|simp-implicitDefEqProofs only[go_sem,ab,hto,List.append_eq,List.cons_append,List.nil_append]|with_reducible refine gl_ ?_;done))))
 have okH2:=dk (c:=c) ⟨hg2,hrs,hv8,hvw⟩ m.origin.node m.origin.inc;have hhp:(ax c r m.origin.node m.origin.inc).1.pulls.length<=3000000:=by rw[(d9 (c:=c) (p:=r) m.origin.node m.origin.inc).pulls];exact hrp
 generalize ax c r m.origin.node m.origin.inc=Q at hN hhd okH2 hhp ⊢;obtain⟨h,b5⟩:=Q;simp only at hN hhd okH2 hhp ⊢;refine Vc2.sq (gx_ ?_);cases b5 with
 |false=>
  have hb:bG c r m=(r,[]):=hN;refine g2_ ?_;rw[hb];exact q2_ km2
 |true=>
 rw[if_neg (by decide)]at hN
 refine g2_ ?_;have hmp:(r.heard.map aO).set m.origin.node.toNat [.v (.int .u8 m.origin.node.toNat),.v (.int .u16 m.origin.inc.toNat),.v (.int .u32 m.origin.seq.toNat)]=(r.heard.set m.origin.node.toNat m.origin).map aO:=by rw[List.map_set];rfl
 have hln:(r.heard.set m.origin.node.toNat m.origin).length=r.heard.length:=List.length_set;rw[hhd]at hN;generalize r.heard.set m.origin.node.toNat m.origin=Hs at hmp hln hN;have hpk:okP { h with heard:=Hs }:={ okH2.ok with heard:=by show Hs.length<=4000000;omega }
 have kle:=adh { h with heard:=Hs } m.table hpk (by have:=okH2.g.table;show h.table.length<=256;omega) htb okH2.rs
 have hr1:fU (bz { h with heard:=Hs } m.table).reports:=jc okH2.rs _;have krp:=ab2 (bz { h with heard:=Hs } m.table).reports m.origin.node m.marks hr1 hmk;have hP1r:(bz { h with heard:=Hs } m.table).rows=h.rows:=rfl;have hP1p:(bz { h with heard:=Hs } m.table).pulls=h.pulls:=rfl;generalize bz { h with heard:=Hs } m.table=P1 at hN kle krp hr1 hP1r hP1p;obtain⟨P2,hP2⟩: ∃P2:af,P2={ P1 with reports:=cg P1.reports m.origin.node m.marks }:=⟨_,rfl⟩;rw[<-hP2]at hN;have hprw:P2.rows.length<=4000000:=by rw[hP2];show P1.rows.length<=_;rw[hP1r];exact okH2.ok.rows
 have hppl:P2.pulls.length<=3000000:=by rw[hP2];show P1.pulls.length<=_;rw[hP1p];exact hhp
 refine Vc2.sq (gf_ (mE_ h3) ?_);rw[hmp];have hht:List.take r.heard.length (Hs.map aO)=Hs.map aO:=List.take_of_length_le (by rw[List.length_map,hln];exact Nat.le_refl _)
 refine Vc2.sq ?_;refine .inl ⟨[oF 0,oF 1,oF 2,oF 3,oF 4,oF 5,oF 6,oF 7],by kernel_rfl,g2_ ?_⟩
 refine cx_ kle (wg_ hht hln) (g2_ ?_);refine Vc2.sq ?_;refine .inl ⟨[oF 0,oF 2,oF 4,oF 1,oF 3,oF 5,oF 6,oF 7,oF 8,oF 9,oF 10,oF 11],by kernel_rfl,g2_ ?_⟩
 refine cx_ krp (wf_ @au) (g2_ ?_);refine Vc2.seqJ (γ:=Unit) (fun _=>⟨[(0,.d (.pt 0 0)),(2,.loc 2 0)],[(2,⟨aO m.origin,57⟩)],[(0,.var 144 (aC c++(ak P2++(encMg m++[.fz 1 (dr.map aF),.v (.slice none 0 0),.v (.slice none 0 0)]))))],2,2⟩) (fun _=>True) ?_ (fun _ _=>?_)
 ·refine g2_ ?_;refine⟨(),aa [] ?_⟩
  repeat first|simp-implicitDefEqProofs only[go_sem,ab,hto,hP2,au,List.append_eq,List.cons_append,List.nil_append]|with_reducible refine gl_ ?_
  first|done|rfl|exact⟨rfl,rfl⟩
 obtain⟨B,hB⟩: ∃B:Nat->List GAsk×List GID,B=fun k=>((fC m.ids P2.rows c.window).take k).foldl (qR c m.origin.node) (P2.pulls,[]):=⟨_,rfl⟩
 have hBn:lY c P2 m=({ P2 with pulls:=(B (fC m.ids P2.rows c.window).length).1 },if (B (fC m.ids P2.rows c.window).length).2=[]then []else [{ pMsg P2 12 m.origin.node with ids:=(B (fC m.ids P2.rows c.window).length).2 }]):=by
  rw[hB];simp only[List.take_length];rfl
 have hB0:B 0=(P2.pulls,[]):=by rw[hB];rfl
 have hLl:(fC m.ids P2.rows c.window).length<=m.ids.length:=by
  have:=o5 P2.rows c.window m.ids [];simp only[List.length_nil,Nat.zero_add]at this;exact this
 have kla:=agB m.ids P2.rows c.window (by omega) hprw
 have hBs: ∀k (hk:k<(fC m.ids P2.rows c.window).length),B (k+1)=qR c m.origin.node (B k) (fC m.ids P2.rows c.window)[k]:=fun k hk=>by
  rw[hB];simp only;rw[List.take_add_one,List.getElem?_eq_getElem hk,List.foldl_append];rfl
 rw[hBn]at hN;generalize fC m.ids P2.rows c.window=Ls at hBn hLl kla hBs hN
 have hBl: ∀k,k<=Ls.length->(B k).1.length<=P2.pulls.length+k/\(B k).2.length<=k:=by
  intro k
  induction k with
  |zero=>intro _;rw[hB0];exact⟨Nat.le_refl _,Nat.le_refl _⟩
  | succ k ih=>
   intro hk;obtain⟨i1,i2⟩:=ih (by omega)
   rw[hBs k (by omega)]
   unfold qR;split
   ·exact⟨by omega,by omega⟩
   ·split
    ·refine⟨?_,?_⟩
     ·have:=afS (B k).1 ⟨Ls[k],m.origin.node,UInt8.ofNat (c.patience % 256).toNat⟩ c.pulls;simp only;omega
     ·simp only[List.length_append,List.length_cons,List.length_nil];omega
    ·exact⟨by omega,by omega⟩
 clear hB hBn
 refine Vc2.seqJ (γ:=Unit) (fun _=>⟨[(0,.d (.pt 0 0)),(2,.loc 2 0)],[(2,⟨aO m.origin,57⟩)],
  [(2,.arr 60 17 ((if (B Ls.length).2=[]then []else [{ pMsg P2 12 m.origin.node with ids:=(B Ls.length).2 }]).map encMg) false),(0,.var 144 (aC c++(ak { P2 with pulls:=(B Ls.length).1 }++(encMg m++[.fz 1 (dr.map aF),.rf 2 0 (if (B Ls.length).2=[]then []else [{ pMsg P2 12 m.origin.node with ids:=(B Ls.length).2 }]).length,.v (.slice none 0 0)]))))],3,2⟩) (fun _=>True) ?_ (fun _ _=>?_)
 ·refine gx_ ?_;refine im_ Tryz.func256 [] (g2_ ?_);refine g2_ ?_;refine .inl ⟨[oF 0,oF 5,oF 10,oF 17,oF 1,oF 6,oF 11,oF 2,oF 7,oF 12,oF 3,oF 8,oF 13,oF 4,oF 9,oF 14,oF 15,oF 16],by kernel_rfl,g2_ ?_⟩
  refine cw_ kla (gx_ ?_);refine aq Ls.length (fun k=>[(2,.d (.rf 2 0 (B k).2.length))]) (fun _=>[]) (fun k=>[(2,.arr 54 3 ((B k).2.map aL) false),(0,.var 144 (aC c++(ak { P2 with pulls:=(B k).1 }++(encMg m++[.fz 1 (dr.map aF),.v (.slice none 0 0),.v (.slice none 0 0)]))))]) 3 (fun _=>True) (aa [(2,.nil 3)] ?_) trivial (fun g k=>ws_) (by omega) (fun g=>ws_) (fun k hk _=>?_) (fun _=>?_)
  ·refine gf_ (c2_ hB0 hto) ?_
   first|done|rfl|exact⟨rfl,rfl⟩
  ·obtain⟨l1,l2⟩:=hBl k (by omega)
   have hs:=hBs k hk;have hl3:=hBl (k+1) (by omega)
   have hg:(Ls.map aL)[k]? =some (aL Ls[k]):=aZ hk;have knr:=ad8 c Ls[k];have hxb:=Ls[k].bd;generalize Ls[k]=x at hs hg knr hxb;generalize B k=S at l1 l2 hs ⊢;obtain⟨S1,S2⟩:=S;simp only at l1 l2;unfold qR at hs;simp only at hs;refine gf_ hg ?_;refine .inl ⟨[oF 0,oF 4,oF 1,oF 2,oF 3,oF 5,oF 6],by kernel_rfl,g2_ ?_⟩
   refine cw_ knr (g2_ ?_);cases g2:n_ x c.nodes c.last with
   |false=>
    rw[if_pos g2]at hs;refine g2_ ?_;refine⟨k+1,aa [] ?_,rfl⟩
    repeat first|simp-implicitDefEqProofs only[go_sem,ab,hs,hto,List.append_eq,List.cons_append,List.nil_append]|with_reducible refine gl_ ?_
    first|done|rfl|exact⟨rfl,rfl⟩
   | true=>
    rw[if_neg (by rw[g2];decide)]at hs
    have kpa:=ajL S1 ⟨x,m.origin.node,UInt8.ofNat (c.patience % 256).toNat⟩ c.pulls (by omega)
    have hh8:((UInt8.ofNat (c.patience % 256).toNat).toNat:Int)=c.patience:=by rw[UInt8.toNat_ofNat'];omega
    refine g2_ ?_;refine .inl ⟨[oF 0,oF 1,oF 7,oF 2,oF 8,oF 3,oF 9,oF 4,oF 10,oF 5,oF 11,oF 6,oF 12,oF 13,oT 14,oF 15],by kernel_rfl,g2_ ?_⟩
    refine gF (by omega) ?_
    refine g2_ ?_;refine .inl ⟨[oF 0,oF 5,oF 6,oF 1,oF 7,oF 2,oF 8,oF 3,oF 9,oF 4,oF 10,oF 11,oF 12,oF 13,oF 14,oF 15,oF 16],by kernel_rfl,g2_ ?_⟩
    refine cx_ kpa (wf_ hh8) (g2_ ?_);generalize yF S1 ⟨x,m.origin.node,UInt8.ofNat (c.patience % 256).toNat⟩ c.pulls=A1 at hs ⊢;generalize adH S1 ⟨x,m.origin.node,UInt8.ofNat (c.patience % 256).toNat⟩ c.pulls=E1 at hs⊢
    by_cases h0:E1=0
    ·rw[if_pos h0]at hs;rw[show(E1==0)=true by simp[h0]]
     refine gx_ ?_;refine⟨k+1,aa [(2,.to 4)] ?_,rfl⟩
     repeat first|simp-implicitDefEqProofs only[go_sem,ab,hs,hto,List.length_append,List.map_append,List.append_eq,List.cons_append,List.nil_append]|with_reducible refine gl_ ?_
     first|done|rfl|exact⟨rfl,rfl⟩
    ·rw[if_neg h0]at hs;rw[show(E1==0)=false by simp[h0]]
     refine g2_ ?_;refine⟨k+1,aa [] ?_,rfl⟩
     repeat first|simp-implicitDefEqProofs only[go_sem,ab,hs,hto,List.append_eq,List.cons_append,List.nil_append]|with_reducible refine gl_ ?_
     first|done|rfl|exact⟨rfl,rfl⟩
  ·obtain⟨l1,l2⟩:=hBl Ls.length (Nat.le_refl _);generalize B Ls.length=S at l1 l2 ⊢;obtain⟨S1,S2⟩:=S;simp only at l1 l2 ⊢;refine gx_ ?_
   by_cases h0:S2=[]
   ·rw[if_pos h0];rw[show decide ((0:Int)<(S2.length:Int))=false by rw[h0];rfl]
    refine g2_ ?_;refine⟨(),aa [(2,.nil 17)] ?_⟩
    repeat first|simp-implicitDefEqProofs only[go_sem,ab,hto,List.map_nil,List.length_nil,List.append_eq,List.cons_append,List.nil_append]|with_reducible refine gl_ ?_
    first|done|rfl|exact⟨rfl,rfl⟩
   ·rw[if_neg h0];have hpos:0<S2.length:=List.length_pos_iff.2 h0;rw[show decide ((0:Int)<(S2.length:Int))=true from decide_eq_true (by omega)]
    have kn:=lp { P2 with pulls:=S1 } 12 m.origin.node;refine g2_ ?_;refine tG (.fl 0 (.fl 4 (.fl 1 (.fl 5 (.fl 2 (.fl 6 (.fl 3 (.fl 7 (.fl 8 (.fl 9 (.eff 10 false (.eff 11 true (.eff 12 false .done .no) .no) (.eff 11 true (.eff 10 false (.eff 12 false .done .no) .no) .no)))))))))))) [(8,.loc 8 0)] [(8,⟨encMg (pMsg P2 12 m.origin.node),60⟩)] ?_ ?_
    ·refine g2_ ?_
     repeat' (first
      |(with_reducible refine And.intro ?_ ?_)
      |(refine CallS.eqW kn ?_ (.inl ?_) ?_;(focus (simp-implicitDefEqProofs only[go_sem,ab];done));(focus (simp-implicitDefEqProofs only[go_sem,ab];done));refine g2_ ?_)
      |(refine aa [] ?_;(focus (repeat first|simp-implicitDefEqProofs only[go_sem,ab,pMsg]|with_reducible refine gl_ ?_;done))))
    refine gf_ (c2_ @pMsg.eq_1 @zEvt.eq_1) ?_;refine .inl ⟨[oF 0,oF 1,oF 5,oF 2,oF 3,oF 4,oT 6,oF 7,oF 8,oF 9,oF 10],by kernel_rfl,gx_ ?_⟩
    refine⟨(),aa [(2,.to 4)] ?_⟩
    repeat first|simp-implicitDefEqProofs only[go_sem,ab,hto,pMsg,zEvt,List.map_nil,List.map_cons,List.length_nil,List.length_cons,an,List.append_eq,List.cons_append,List.nil_append]|with_reducible refine gl_ ?_
    first|done|rfl|exact⟨rfl,rfl⟩
 ·have hA2:({ P2 with pulls:=(B Ls.length).1 }:af).table=P2.table:=rfl;have hSl:(if (B Ls.length).2=[]then []else [{ pMsg P2 12 m.origin.node with ids:=(B Ls.length).2 }]:List aJ).length<=1:=by split<;>simp
  generalize (if (B Ls.length).2=[]then []else [{ pMsg P2 12 m.origin.node with ids:=(B Ls.length).2 }]:List aJ)=S at hN hSl⊢
  generalize ({ P2 with pulls:=(B Ls.length).1 }:af)=A at hN ⊢;clear hA2;have kL:=vQ m.hops;rw[hN]at kl km3 hll ⊢;simp only at kl km3 hll ⊢;refine Vc2.sq (gx_ ?_);refine cw_ kL (g2_ ?_);refine Vc2.of ?_;refine g2_ ?_
  by_cases h0:m.hops=0
  ·rw[if_pos h0,List.append_nil];rw[decide_eq_true h0];refine g2_ ?_;clear km2;have km2:=km3;refine .inl ⟨[oF 0,oF 1,oF 2,oF 3,oF 4,oF 5,oF 6,oF 7,oF 8,oF 9],by kernel_rfl,gx_ ?_⟩
   refine cw_ km2 (gx_ ?_);refine .inr (.inr (.inl ⟨[oF 0,oF 4,oF 8,oF 1,oF 5,oF 9,oF 2,oF 6,oF 10,oF 3,oF 7,oF 11,oT 12,oF 13,oF 14],[8],by kernel_rfl,gx_ ?_⟩))
   refine ae ?_ rfl;exact wf_ @an
  ·rw[if_neg h0];unfold j9;rw[decide_eq_false h0];obtain⟨f,hf⟩: ∃f:UInt8->aJ,f=fun to=>{ pMsg A 11 to with hops:=m.hops-1,origin:=m.origin,table:=m.table,marks:=m.marks,ids:=m.ids }:=⟨_,rfl⟩
   have hfe: ∀to,encMg (f to)=[.v (.int .u8 11),.v (.int .u8 A.node.toNat),.v (.int .u16 A.inc.toNat),.v (.int .u8 to.toNat),.fz 4 [],.fz 3 (m.table.map aQ),.v (.int .u8 0),.v (.int .u16 0),.v (.int .u32 0),.fz 1 [],.fz 1 [],.v (.int .u8 (m.hops-1).toNat),.v (.int .u8 m.origin.node.toNat),.v (.int .u16 m.origin.inc.toNat),.v (.int .u32 m.origin.seq.toNat),.fz 3 (m.marks.map aO),.fz 3 (m.ids.map aL)]:=fun to=>by rw[hf];rfl
   rw[<-hf];clear hf;have kmm:=fun to=>lp A 11 to
   have kc1:=dY (m.table.map aQ) (by rw[List.length_map];omega)
   have kc2:=ia (m.marks.map aO) (by rw[List.length_map];omega)
   have kc3:=zU (m.ids.map aL) (by rw[List.length_map];omega)
   refine gf_ h0 ?_;refine im_ Tryz.func257 [] (g2_ ?_);refine g2_ ?_;refine .inl ⟨[oF 0,oF 5,oF 10,oF 18,oF 1,oF 6,oF 11,oF 2,oF 7,oF 12,oF 3,oF 8,oF 13,oF 9,oF 14,oF 15,oT 4,oF 16,oF 17],by kernel_rfl,gx_ ?_⟩
   refine cw_ kl (g2_ ?_);refine ak6 (aK A) m.frm m.origin.node (by omega) (fun w hw=>?_) ?_
   ·have w0:=hw 0 (by omega)
    have w2:=hw 2 (by omega)
    repeat first|simp-implicitDefEqProofs only[go_sem,ab,w0,w2]|with_reducible refine gl_ ?_
    first|done|trace_state
   ·have hWl:(dG (aK A) m.frm m.origin.node).length<=1000000:=Nat.le_trans (List.length_filter_le _ _) hll;generalize dG (aK A) m.frm m.origin.node=L at hWl ⊢;refine gx_ ?_;refine aq L.length (fun k=>[]) (fun _=>[]) (fun k=>[(6,.arr 60 17 ((S++(L.take k).map f).map encMg) false),(3,.arr 5 1 (L.map az) false),(0,.var 144 (aC c++(ak A++(encMg m++[.fz 1 (dr.map aF),.rf 6 0 (S++(L.take k).map f).length,.v (.slice none 0 0)]))))]) 7 (fun _=>True) (aa [(6,.to 2)] ?_) trivial (fun g k=>ws_) (by omega) (fun g=>ws_) (fun k hk _=>?_) (fun _=>?_)
    ·refine x1_ hto ?_
     first|done|rfl|exact⟨rfl,rfl⟩
    ·have hg:(L.map az)[k]? =some [.v (.int .u8 L[k].toNat)]:=by rw[List.getElem?_map,List.getElem?_eq_getElem hk];rfl
     have hsn:S++(L.take (k+1)).map f=(S++(L.take k).map f)++[f L[k]]:=by rw[List.take_add_one,List.getElem?_eq_getElem hk,List.map_append,List.append_assoc];rfl
     have hsl:(S++(L.take (k+1)).map f).length=(S++(L.take k).map f).length+1:=by rw[hsn,List.length_append];rfl
     have hsl2:(S++(L.take k).map f).length<=4000000:=by rw[List.length_append,List.length_map,List.length_take];omega
     have kk:=kmm L[k];have hfk:=hfe L[k];generalize S++(L.take k).map f=X at hsn hsl hsl2;generalize f L[k]=x at hsn hfk;refine gf_ hg ?_;refine cw_ kk ?_
     repeat first|simp-implicitDefEqProofs only[go_sem,ab,pMsg,zEvt,List.map_nil]|with_reducible first|refine gl_ ?_|refine ga_ ?_|refine gn_ ?_
     refine cw_ kc1 (g2_ ?_);refine cw_ kc2 (g2_ ?_);refine cw_ kc3 (g2_ ?_);refine .inl ⟨[oF 0,oF 1,oF 5,oF 2,oF 3,oF 4,oT 6,oF 7,oF 8,oF 9,oF 10],by kernel_rfl,gx_ ?_⟩
     refine⟨k+1,aa [(6,.to 8)] ?_,rfl⟩;refine x1_ (c3_ hsn hsl hto) ?_
     first|done|exact congrArg (fun z=>List.map encMg X++[z]) hfk|trace_state
    ·rw[List.take_of_length_le (Nat.le_refl L.length)];have hsl3:(S++L.map f).length<=4000000:=by rw[List.length_append,List.length_map];omega
     generalize S++L.map f=X at hsl3 ⊢;clear km2;have km2:=km3;exact q2_ km2
end Go.Proofs.YtmhmahcdanclnaaGreat.V
namespace Go.Proofs.YtmhmahcdanclnaaGreat.V
open Go.Eng
section
variable {c:ao} {nd:UInt8} {p q:af} {m:aJ} {dr:List UInt32} {k:Int} {e:GEvt}
theorem zI(h:aE c=true):0<=c.hops/\c.hops<=12/\1<=c.patience/\c.patience<=255:=by grind [aE,inR]
theorem aqw{t:List (List GMark)}(h:fU t):alI t:=⟨by have:=h.1;omega,h.2⟩
theorem af0(hc:aE c=true)(hB:Bd c nd p):Con2 Tryz.prog 91 [.agg (ak p)] (· =a_ 5 1 ((aK p).map az)):=by
 have h1:=mG hc hB;have h2:=hB.h.g.ok;have h:=yy p (by omega) (by omega) h2.succ h2.pred (show(bU p).length<=26 from ix hc hB)
 unfold a_;rw[List.length_map];exact h
theorem al0(hc:aE c=true)(hcs: ∀s∈c.schema,okS s)(hB:Bd c nd p)(hE:Ew c p k)(hk:k<=1000000000)(hdr:dr.length<=4000000):
  Con2 Tryz.prog 35 [.agg (aC c),.agg (ak p),.fz 1 (dr.map aF)] (· =plR (.tup [.agg (ak (fh c p dr).1),.fz 17 ((fh c p dr).2.map encMg)])):=by
 have hr:=bZ hc;have h1:Bd c nd (rF p):=aeE hc hB hE;have g:Pl1 p (rF p):=(qn (p:=p)).1
 have key:p.up=true->Bd c (rF p).node (aD c (cu c (rF p)) [])/\Bd c (rF p).node (eZ c (aD c (cu c (rF p)) []) dr).1:=fun hu=>by
  have s1:=(ae5 h1).meet hc (by rw[g.up];exact hu) fA iJ (ms:=[]) gG
  exact⟨s1.bd,(al7 (dr:=dr) hc s1.bd (by rw[s1.up,g.up,hu])).1⟩
 have hq:p.up=true->Bd c nd (j0 c p dr).1:=fun hu=>by
  have s:=uy (dr:=dr) hc h1 (by rw[g.up];exact hu)
  have:=s.bd;rw[h1.node]at this;exact this
 have hq2:p.up=true->Bd c nd (qf (j0 c p dr).1):=fun hu=>by
  have hq:=hq hu;unfold qf;generalize (j0 c p dr).1=q at hq
  exact⟨⟨⟨⟨hq.h.ok.filter,hq.h.ok.view,hq.h.ok.near,hq.h.ok.succ,hq.h.ok.pred,hq.h.ok.sent,hq.h.ok.table,hq.h.ok.heard,hq.h.ok.rows,hq.h.ok.reports,hq.h.ok.evs,hq.h.ok.pulls⟩,hq.h.g.filter,hq.h.g.view,hq.h.g.near,hq.h.g.succ,hq.h.g.pred,hq.h.g.table⟩,hq.h.rs,hq.h.v8,hq.h.vw⟩,
   ⟨hq.win.table,hq.win.rows,hq.win.heard,hq.win.view,hq.win.near,hq.win.cur,hq.win.ovl,hq.win.ring⟩,hq.node,hq.ws,hq.f8,hq.dn⟩
 refine afY c p dr hB.h.ok (aqw hB.h.rs) ⟨hE.collected.1,by have:=hE.collected.2;omega⟩ (fun hu=>?_) (fun hu=>Nat.le_trans aaR (by omega)) (fun hu=>(hq hu).h.ok) (fun hu=>by have:=(hq hu).win.rows;omega) (fun hu=>tg hc (hq2 hu)) (fun hu=>Nat.le_trans (db hc (hq2 hu)) (by omega))
 exact ak1 c (rF p) dr _ (by omega) hcs h1.h (by rw[g.up];exact hu) (by omega) hdr h1.ws (tg hc (key hu).2) (Nat.le_trans (db hc (key hu).2) (by omega))
  (aey (key hu).1.h.v8 (by have:=(mG hc (key hu).1).1;omega) (key hu).1.f8) (key hu).1.h.v8 h1.f8
theorem kR(hc:aE c=true)(hnd:(nd.toNat:Int)<c.nodes)(hB:Bd c nd p)(hE:Ew c p k)(hk:k<=1000000000)(hdr:dr.length<=4000000){vals:List Int}{data:List UInt8}(hv:vals.length<=4000000)(hd:data.length<=4000000):
  Con2 Tryz.prog 32 [.agg (aC c),.agg (ak p),.fz 1 (vals.map bP),.fz 1 (data.map az),.fz 1 (dr.map aF)] (· =plR (.tup [.agg (ak (aR c p vals data dr).1),.agg (aB (aR c p vals data dr).2.1),.v (.bool (aR c p vals data dr).2.2.1),.fz 17 ((aR c p vals data dr).2.2.2.1.map encMg),.v (.int .i64 (aR c p vals data dr).2.2.2.2)])):=by
 have hr:=bZ hc;have hh:=zI hc;have h1:=mG hc hB;have h2:=hB.h.g.ok;have hw:=hB.win.rows;have hn:=hB.node;refine wZ c p vals data dr hB.h.ok (by omega) hv hd hdr (by rw[hn];omega) ⟨hE.evicted.1,by have:=hE.evicted.2;omega⟩ (by omega) (by omega) (fun b ev=>?_) (Nat.le_trans (db hc hB) (by omega))
 exact ae2 (iA p b ev) (show p.view.length<=300 by omega) (show p.near.length<=300 by omega) h2.succ h2.pred (show(bU p).length<=26 from ix hc hB)
theorem adx(hc:aE c=true)(hB:Bd c nd p)(hE:Ew c p k)(hk:k<=1000000000)(he:e.vals.length<=4000000/\e.data.length<=4000000):
  Con2 Tryz.prog 27 [.agg (aC c),.agg (ak p),.agg (aB e)] (· =plR (.tup [.agg (ak (aI c p e).1),.v (.bool (aI c p e).2.1),.v (.bool (aI c p e).2.2)])):=by
 have hr:=bZ hc;exact zY c p e hB.h.ok (by omega) he ⟨hE.passed.1,by have:=hE.passed.2;omega⟩
theorem uC:(bG c q m).1.view=q.view/\(bG c q m).1.near=q.near/\(bG c q m).1.ring=q.ring:=by
 unfold bG;split
 ·exact⟨rfl,rfl,rfl⟩
 split
 ·exact⟨rfl,rfl,rfl⟩
 split
 ·exact⟨rfl,rfl,rfl⟩
 split
 ·exact⟨rfl,rfl,rfl⟩
 ·show(ax c q m.origin.node m.origin.inc).1.view=_/\(ax c q m.origin.node m.origin.inc).1.near=_/\(ax c q m.origin.node m.origin.inc).1.ring=_;unfold ax;split
  ·exact⟨rfl,rfl,rfl⟩
  ·split
   ·exact⟨rfl,rfl,rfl⟩
   ·split<;>exact⟨rfl,rfl,rfl⟩
structure amK(m:aJ):Prop where
 mg:okMg m
 ev:m.ev.vals.length<=1048576/\m.ev.data.length<=1048576
 marks:m.marks.length<=1048576
 ids:m.ids.length<=500000
theorem nM(hc:aE c=true)(hcs: ∀s∈c.schema,okS s)(hB:Bd c nd p)(hE:Ew c p k)(hk:k<=1000000000)(hdr:dr.length<=4000000)(hm:amK m):
  Con2 Tryz.prog 31 [.agg (aC c),.agg (ak p),.agg (encMg m),.fz 1 (dr.map aF)] (· =plR (.tup [.agg (ak (bL c p m dr).1),.fz 17 ((bL c p m dr).2.1.map encMg),.fz 5 ((bL c p m dr).2.2.map aB)])):=by
 have hr:=bZ hc;have hh:=zI hc;have hb:=gm hc
 by_cases hkk:m.kind=10\/m.kind=11\/m.kind=12
 case neg=>
  have e1:bL c p m dr=((gr dr c p m).1,(gr dr c p m).2,[]):=by unfold bL;rw[if_pos hkk]
  rw[e1];exact aak c p m dr _ _ hkk (take_all c p m dr (by omega) hcs hB.h hm.mg hdr hB.ws)
 by_cases hun:p.up=false\/m.to≠p.node
 ·have e1:bL c p m dr=(p,[],[]):=by unfold bL;rw[if_neg (fun h=>h hkk),if_pos hun]
  rw[e1];exact agH c p m dr hB.h.ok hkk hun
 have hu:p.up=true:=by cases h:p.up with|true=>rfl|false=>exact absurd (.inl h) hun
 have hto:m.to=p.node:=Classical.byContradiction fun h=>hun (.inr h)
 have s1:=(hB.go.hear m.frm m.inc).meet hc hu fA iJ (ms:=[]) gG;have hE1:=hE.ev ((d9 (c:=c) (p:=p) m.frm m.inc).trans (cT (c:=c) []));rcases hkk with h|h|h
 ·have hA:=gL (e:=m.ev) hc s1.bd hE1;exact acu c p m dr (by omega) hcs hB.h h hu hto ⟨by have:=hm.ev.1;omega,by have:=hm.ev.2;omega⟩ ⟨hE.passed.1,by have:=hE.passed.2;omega⟩ hdr (by omega) hA.h.g (af0 hc hA) (Nat.le_trans (db hc hA) (by omega))
 ·have hA:=(yz (m:=m) hc s1.bd hE1).1;have v:=uC (c:=c) (q:=aD c (ax c p m.frm m.inc).1 []) (m:=m);have h1:=mG hc s1.bd;have h2:=ix hc s1.bd;have eL:bU (bG c (aD c (ax c p m.frm m.inc).1 []) m).1=bU (aD c (ax c p m.frm m.inc).1 []):=by unfold bU;rw[v.1,v.2.1,v.2.2]
  have eN:aK (bG c (aD c (ax c p m.frm m.inc).1 []) m).1=aK (aD c (ax c p m.frm m.inc).1 []):=by unfold aK;rw[eL]
  have hL:=yy (bG c (aD c (ax c p m.frm m.inc).1 []) m).1 (by rw[v.1];omega) (by rw[v.2.1];omega) hA.h.ok.succ hA.h.ok.pred (by rw[eL];exact h2)
  refine wj c p m dr (by omega) hcs hB.h h hu hto (by have:=hm.ids;omega) (by have:=hE.pk.len;omega) (by omega) (by have:=hm.mg.table;omega) (by have:=hm.marks;omega) ?_ (by rw[eN];exact Nat.le_trans (db hc s1.bd) (by omega)) s1.bd.h.vw hA.h.g
  unfold a_;rw[List.length_map];exact hL
 ·exact ach c p m dr (by omega) hcs hB.h h hu hto (by have:=hm.ids;omega)
end
attribute[local go_sem] zDesc aS ah fzD plR a_ aO aQ aA aC ak aB aT z8 z16 z32 z64 encMg ba bP aL az hX List.map_cons List.map_nil
def encNop(o:jm):List DV:=[.v (.int .u8 o.what.toNat),fzS o.filter,.fz 1 (o.vals.map bP),.fz 1 (o.data.map az)]++encMg o.m++[.fz 1 (o.draws.map aF)]
def encCame(x:af×List aJ×List GEvt×Bool×Int):List DV:=ak x.1++[.fz 17 (x.2.1.map encMg),.fz 5 (x.2.2.1.map aB),.v (.bool x.2.2.2.1),.v (.int .i64 x.2.2.2.2)]
structure apG(o:jm):Prop where
 m:amK o.m
 draws:o.draws.length<=1048576
 filter:o.filter.length<=1048576
 fs: ∀s∈o.filter,okS s
 vals:o.vals.length<=1048576
 data:o.data.length<=1048576
section
variable {c:ao} {nd:UInt8} {p:af} {o:jm} {k:Int}
theorem akc(hc:aE c=true)(hcs: ∀s∈c.schema,okS s)(hnd:(nd.toNat:Int)<c.nodes)(hB:Bd c nd p)(hE:Ew c p k)(hk:k<=1000000000)(ho:apG o):
  Con2 Tryz.prog 14 [.agg (aC c),.agg (ak p),.agg (encNop o)] (· =plR (.agg (encCame (dO c p o)))):=by
 refine Con2.ofEmb ?_;have hr:=bZ hc;obtain⟨n1,n2⟩:=lN (f:=o.filter) hcs ho.fs (by omega)
 have hn:=mS hB.h.g n1 n2;have k0:=qW c p hB.h.ok;have k1:=uW c p
 have k2:Con2 Tryz.prog 29 [.agg (aC c),.agg (ak p),fzS o.filter] (· =plR (.tup [.agg (ak (if p.up=false then p else if (bA c.schema o.filter).2=0 then aD c { p with filter:=(bA c.schema o.filter).1 } []else p)),.v (.int .i64 (if p.up=false then 53 else (bA c.schema o.filter).2))])):=by
  by_cases hu:p.up=false
  ·rw[if_pos hu,if_pos hu];exact ag_ c p o.filter hB.h.ok hu
  ·rw[if_neg hu,if_neg hu];exact aan c p o.filter (by omega) hcs hB.h.g (by have:=ho.filter;omega) hn (by simpa using hu)
 have k3:Con2 Tryz.prog 49 [.agg (aC c),.agg (ak p)] (· =plR (.tup [.agg (ak (if p.up=false then p else mo c p)),.fz 17 ((if p.up=false then []else (aK p).map (pMsg p 9)).map encMg),.v (.int .i64 (if p.up=false then 53 else 0))])):=by
  cases hu:p.up with
  |false=>rw[if_pos rfl,if_pos rfl,if_pos rfl];exact acp c p hB.h.ok hu
  |true=>rw[if_neg (by decide),if_neg (by decide),if_neg (by decide)];exact ags c p _ hB.h.ok hu (tg hc hB) (Nat.le_trans (db hc hB) (by omega))
 have k4:=kR hc hnd hB hE hk (dr:=o.draws) (vals:=o.vals) (data:=o.data) (by have:=ho.draws;omega) (by have:=ho.vals;omega) (by have:=ho.data;omega)
 have k5:=al0 hc hcs hB hE hk (dr:=o.draws) (by have:=ho.draws;omega)
 have k6:=adx hc hB hE hk (e:=o.m.ev) ⟨by have:=ho.m.ev.1;omega,by have:=ho.m.ev.2;omega⟩
 have k7:=nM hc hcs hB hE hk (dr:=o.draws) (by have:=ho.draws;omega) ho.m
 have hR:dO c p o=dO c p o:=rfl
 conv at hR=>rhs;unfold dO
 generalize dO c p o=R at hR ⊢;have hw:=o.what.toNat_lt;clear hn n1 n2;unfold encNop encCame;refine en_ Tryz.func14 [.cell 6 68] (g2_ ?_);refine gx_ ?_
 by_cases w0:o.what=0
 ·rw[if_pos w0]at hR;rw[show((o.what.toNat:Int)==0)=true by rw[w0];rfl,hR]
  refine g2_ ?_;refine cw_ k0 (g2_ ?_);refine ae ?_ rfl
  repeat first|simp-implicitDefEqProofs only[go_sem,ab,if_false,List.map_nil,List.map_cons,List.append_eq,List.cons_append,List.nil_append]|with_reducible refine gl_ ?_
  first|done|trace_state
 rw[if_neg w0]at hR;rw[show((o.what.toNat:Int)==0)=false from beq_eq_false_iff_ne.2 (fun h=>w0 (UInt8.toNat_inj.1 (by rw[show(0:UInt8).toNat=0 from rfl];omega)))]
 refine g2_ ?_
 by_cases w1:o.what=1
 ·rw[if_pos w1]at hR;rw[show((o.what.toNat:Int)==1)=true by rw[w1];rfl,hR]
  refine g2_ ?_;refine cw_ k1 (g2_ ?_);refine ae ?_ rfl
  repeat first|simp-implicitDefEqProofs only[go_sem,ab,if_false,List.map_nil,List.map_cons,List.append_eq,List.cons_append,List.nil_append]|with_reducible refine gl_ ?_
  first|done|trace_state
 rw[if_neg w1]at hR;rw[show((o.what.toNat:Int)==1)=false from beq_eq_false_iff_ne.2 (fun h=>w1 (UInt8.toNat_inj.1 (by rw[show(1:UInt8).toNat=1 from rfl];omega)))]
 refine g2_ ?_
 by_cases w2:o.what=2
 ·rw[if_pos w2]at hR;rw[show((o.what.toNat:Int)==2)=true by rw[w2];rfl,hR]
  refine g2_ ?_;refine cw_ k2 (g2_ ?_);refine ae ?_ rfl
  repeat first|simp-implicitDefEqProofs only[go_sem,ab,if_false,List.map_nil,List.map_cons,List.append_eq,List.cons_append,List.nil_append]|with_reducible refine gl_ ?_
  first|done|trace_state
 rw[if_neg w2]at hR;rw[show((o.what.toNat:Int)==2)=false from beq_eq_false_iff_ne.2 (fun h=>w2 (UInt8.toNat_inj.1 (by rw[show(2:UInt8).toNat=2 from rfl];omega)))]
 refine g2_ ?_
 by_cases w3:o.what=3
 ·rw[if_pos w3]at hR;rw[show((o.what.toNat:Int)==3)=true by rw[w3];rfl,hR]
  refine g2_ ?_;refine cw_ k3 (g2_ ?_);refine ae ?_ rfl
  repeat first|simp-implicitDefEqProofs only[go_sem,ab,if_false,List.map_nil,List.map_cons,List.append_eq,List.cons_append,List.nil_append]|with_reducible refine gl_ ?_
  first|done|trace_state
 rw[if_neg w3]at hR;rw[show((o.what.toNat:Int)==3)=false from beq_eq_false_iff_ne.2 (fun h=>w3 (UInt8.toNat_inj.1 (by rw[show(3:UInt8).toNat=3 from rfl];omega)))]
 refine g2_ ?_
 by_cases w4:o.what=4
 ·rw[if_pos w4]at hR;rw[show((o.what.toNat:Int)==4)=true by rw[w4];rfl,hR]
  clear hR;generalize aR c p o.vals o.data o.draws=Z at k4 ⊢;obtain⟨q,e,mine,l,f⟩:=Z;simp only at k4 ⊢;refine g2_ ?_;refine cw_ k4 (g2_ ?_);have hf:decide (f=0)=(f==0):=rfl;cases mine with
  |false=>
   refine g2_ ?_;refine ae ?_ rfl
   repeat first|simp-implicitDefEqProofs only[go_sem,ab,if_false,hf,Bool.false_eq_true,List.map_nil,List.map_cons,List.append_eq,List.cons_append,List.nil_append]|with_reducible refine gl_ ?_
   first|done|trace_state
  |true=>
   refine g2_ ?_;refine ae ?_ rfl
   repeat first|simp-implicitDefEqProofs only[go_sem,ab,if_true,hf,List.map_nil,List.map_cons,List.append_eq,List.cons_append,List.nil_append]|with_reducible refine gl_ ?_
   first|done|trace_state
 rw[if_neg w4]at hR;rw[show((o.what.toNat:Int)==4)=false from beq_eq_false_iff_ne.2 (fun h=>w4 (UInt8.toNat_inj.1 (by rw[show(4:UInt8).toNat=4 from rfl];omega)))]
 refine g2_ ?_
 by_cases w5:o.what=5
 ·rw[if_pos w5]at hR;rw[show((o.what.toNat:Int)==5)=true by rw[w5];rfl,hR]
  refine g2_ ?_;refine cw_ k5 (g2_ ?_);refine ae ?_ rfl
  repeat first|simp-implicitDefEqProofs only[go_sem,ab,if_false,List.map_nil,List.map_cons,List.append_eq,List.cons_append,List.nil_append]|with_reducible refine gl_ ?_
  first|done|trace_state
 rw[if_neg w5]at hR;rw[show((o.what.toNat:Int)==5)=false from beq_eq_false_iff_ne.2 (fun h=>w5 (UInt8.toNat_inj.1 (by rw[show(5:UInt8).toNat=5 from rfl];omega)))]
 refine g2_ ?_
 by_cases w6:o.what=6
 ·rw[if_pos w6]at hR;rw[show((o.what.toNat:Int)==6)=true by rw[w6];rfl,hR]
  clear hR;generalize aI c p o.m.ev=Z at k6 ⊢;obtain⟨q,own,given⟩:=Z;simp only at k6 ⊢;refine g2_ ?_;refine cw_ k6 (g2_ ?_);cases given with
  |false=>
   refine g2_ ?_;refine ae ?_ rfl
   repeat first|simp-implicitDefEqProofs only[go_sem,ab,if_false,if_true,Bool.false_eq_true,List.map_nil,List.map_cons,List.append_eq,List.cons_append,List.nil_append]|with_reducible refine gl_ ?_
   first|done|trace_state
  |true=>
   refine g2_ ?_;refine ae ?_ rfl
   repeat first|simp-implicitDefEqProofs only[go_sem,ab,if_false,if_true,Bool.false_eq_true,List.map_nil,List.map_cons,List.append_eq,List.cons_append,List.nil_append]|with_reducible refine gl_ ?_
   first|done|trace_state
 rw[if_neg w6]at hR;rw[show((o.what.toNat:Int)==6)=false from beq_eq_false_iff_ne.2 (fun h=>w6 (UInt8.toNat_inj.1 (by rw[show(6:UInt8).toNat=6 from rfl];omega)))]
 refine g2_ ?_;rw[hR];refine cw_ k7 (g2_ ?_);refine ae ?_ rfl
 repeat first|simp-implicitDefEqProofs only[go_sem,ab,if_false,List.map_nil,List.map_cons,List.append_eq,List.cons_append,List.nil_append]|with_reducible refine gl_ ?_
 first|done|trace_state
def afH(o:jm):Bool:=qc ⟨0,0,0,o.filter,o.m,o.draws⟩&&(decide ((o.vals.length:Int)<=8)&&(decide ((o.data.length:Int)<=100)&&(decide ((o.m.ev.vals.length:Int)<=8)&&(decide ((o.m.ev.data.length:Int)<=100)&&(decide ((o.m.marks.length:Int)<=20)&&decide ((o.m.ids.length:Int)<=40))))))
theorem ame(o:jm)(h1:o.m.list.length<=9223372036854775807)(h2:o.m.table.length<=9223372036854775807):Con2 Tryz.prog 12 [.agg (encNop o)] (· =plR (.v (.bool (afH o)))):=by
 refine Con2.ofEmb ?_;have kf:=am7 ⟨0,0,0,o.filter,o.m,o.draws⟩ h1 h2;unfold afH;generalize qc ⟨0,0,0,o.filter,o.m,o.draws⟩=b at kf ⊢;unfold ajP at kf;unfold encNop;simp only[List.append_eq,List.cons_append,List.nil_append]at kf;refine en_ Tryz.func12 [.tmp 2] (g2_ ?_);refine gx_ ?_;refine cw_ kf (g2_ ?_);generalize hd1:decide ((o.vals.length:Int)<=8)=d1;generalize hd2:decide ((o.data.length:Int)<=100)=d2;generalize hd3:decide ((o.m.ev.vals.length:Int)<=8)=d3;generalize hd4:decide ((o.m.ev.data.length:Int)<=100)=d4;generalize hd5:decide ((o.m.marks.length:Int)<=20)=d5;generalize hd6:decide ((o.m.ids.length:Int)<=40)=d6;cases b with
 |false=>
  refine g2_ ?_;refine ae ?_ rfl;exact wf_ @Bool.false_and
 |true=>
 refine gf_ hd1 ?_;cases d1 with
 |false=>
  refine g2_ ?_;refine ae ?_ rfl;exact wf_ @Bool.false_and
 |true=>
 refine gf_ hd2 ?_;cases d2 with
 |false=>
  refine g2_ ?_;refine ae ?_ rfl;exact wf_ @Bool.false_and
 |true=>
 refine gf_ hd3 ?_;cases d3 with
 |false=>
  refine g2_ ?_;refine ae ?_ rfl;exact wf_ @Bool.false_and
 |true=>
 refine gf_ hd4 ?_;cases d4 with
 |false=>
  refine g2_ ?_;refine ae ?_ rfl;exact wf_ @Bool.false_and
 |true=>
 refine gf_ hd5 ?_;cases d5 with
 |false=>
  refine g2_ ?_;refine ae ?_ rfl;exact wf_ @Bool.false_and
 |true=>
 refine gf_ hd6 ?_;refine ae ?_ rfl;exact wf_ @Bool.false_and
end
def nwC:ao:={ plainC 2 with buffer:=1 }
def rK(c:ao)(p:af)(f:List GSpan):af:=if p.up=false then p else if (bA c.schema f).2=0 then aD c { p with filter:=(bA c.schema f).1 } []else p
def pr(c:ao)(p:af)(f:List GSpan):Int:=if p.up=false then 53 else (bA c.schema f).2
def im:aJ:=⟨10,1,1,0,[],[],⟨⟨1,1,1⟩,[3],[]⟩,0,⟨0,0,0⟩,[],[]⟩
def rX:aJ:=⟨12,1,1,0,[],[],zEvt,0,⟨0,0,0⟩,[],[⟨0,1,1⟩,⟨1,1,1⟩]⟩
def nwA:af:=(bE nwC (bI nwC 0)).1
def nwB:af:=rK nwC nwA [⟨0,9⟩]
def nwP:af×GEvt×Bool×List aJ×Int:=aR nwC nwB [5] [] []
def nwQ:af×List aJ×List GEvt:=bL nwC nwP.1 im []
theorem ab1:aE nwC=true:=by kernel_rfl
theorem rz: ∀s∈nwC.schema,okS s:=by
 intro s hs;have hs:s∈[(⟨0,9⟩:GSpan)]:=hs;rw[List.mem_singleton.1 hs];exact⟨by decide,by decide,by decide,by decide⟩
theorem apY: ∀s∈[(⟨0,9⟩:GSpan)],okS s:=by
 intro s hs;rw[List.mem_singleton.1 hs];exact⟨by decide,by decide,by decide,by decide⟩
theorem gS(k f t:UInt8)(i:UInt16)(ev:GEvt)(h:UInt8)(o:GMark)(mk:List GMark)(ids:List GID):okMg ⟨k,f,i,t,[],[],ev,h,o,mk,ids⟩:=⟨Nat.zero_le _,by simp,by simp,Nat.zero_le _⟩
def nwO(w:UInt8)(f:List GSpan)(v:List Int)(m:aJ):jm:=⟨w,f,v,[],m,[]⟩
theorem ar5:Ew nwC (bI nwC 0) 0:=wW (nd:=0) (inc:=0) (up:=false) (t:=(bI nwC 0).table) (by decide) (by decide) (by decide) (Int.le_refl 0)
theorem qu{p:af}{k:Int}(o:jm)(hm:okMg o.m)(hf: ∀s∈o.filter,okS s)(hk:0<=k)(hB:Bd nwC 0 p)(hE:Ew nwC p k):Bd nwC 0 (dO nwC p o).1/\Ew nwC (dO nwC p o).1 (k+64):=
 ⟨by have:=(my (o:=o) ab1 rz hB hE hm hf).bd;rw[hB.node]at this;exact this,afe (by decide) (by decide) (by decide) (by rw[hB.node];decide) hk hE⟩
theorem aeR:Bd nwC 0 nwA/\Ew nwC nwA 64:=qu (nwO 0 [] [] im) (gS ..) (by simp[nwO]) (Int.le_refl 0) (akz ab1 0) ar5
theorem aff:Bd nwC 0 nwB/\Ew nwC nwB 128:=qu (nwO 2 [⟨0,9⟩] [] im) (gS ..) apY (by decide) aeR.1 aeR.2
theorem uB:Bd nwC 0 nwP.1/\Ew nwC nwP.1 192:=qu (nwO 4 [] [5] im) (gS ..) (by simp[nwO]) (by decide) aff.1 aff.2
theorem aeA:Bd nwC 0 nwQ.1/\Ew nwC nwQ.1 256:=qu (nwO 10 [] [] im) (gS ..) (by simp[nwO]) (by decide) uB.1 uB.2
theorem asO:(bE nwC (bI nwC 0)).2=0:=by kernel_rfl
theorem asQ:pr nwC nwA [⟨0,9⟩]=0:=by kernel_rfl
theorem asC:nwB.up=true:=by kernel_rfl
theorem aqr:nwP.2.1=⟨⟨0,1,1⟩,[5],[]⟩/\nwP.2.2.1=true/\nwP.2.2.2.2=0:=⟨by kernel_rfl,by kernel_rfl,by kernel_rfl⟩
theorem asR:(aR nwC nwP.1 [5] [] []).2.2.2.2=52:=by kernel_rfl
theorem aq4:nwQ.2.1=[]/\nwQ.2.2=[⟨⟨1,1,1⟩,[3],[]⟩]/\nwQ.1.passed=1:=⟨by kernel_rfl,by kernel_rfl,by kernel_rfl⟩
theorem ar6:(bL nwC nwQ.1 im []).2.1=[]/\(bL nwC nwQ.1 im []).2.2=[]:=⟨by kernel_rfl,by kernel_rfl⟩
theorem arG:(bL nwC nwQ.1 rX []).2.1=[{ pMsg nwQ.1 10 1 with ev:=⟨⟨0,1,1⟩,[5],[]⟩ }]/\(bL nwC nwQ.1 rX []).2.2=[]:=⟨by kernel_rfl,by kernel_rfl⟩
theorem vV:amK im:=⟨gS ..,by decide,Nat.zero_le _,Nat.zero_le _⟩
theorem agn:amK rX:=⟨gS ..,by decide,Nat.zero_le _,by decide⟩
theorem ahH:Con2 Tryz.prog 39 [] (· =plR (.agg (aC nwC))):=by
 refine Con2.ofEmb ?_;have kp:=aia 2;refine en_ Tryz.func39 [.cell 0 26] (g2_ ?_);refine g2_ ?_;refine cw_ kp (g2_ ?_);refine ae ?_ rfl;exact wf_ @nwC.eq_1
theorem aek(s:UInt32)(v:Int):Con2 Tryz.prog 40 [.v (.int .u32 s.toNat),.v (.int .i32 v)] (· =plR (.agg (encMg ⟨10,1,1,0,[],[],⟨⟨1,1,s⟩,[v],[]⟩,0,⟨0,0,0⟩,[],[]⟩))):=by
 refine Con2.ofEmb ?_;refine en_ Tryz.func40 [.cell 4 60] (g2_ ?_);refine g2_ ?_;refine ae ?_ rfl;refine g2_ ?_
 first|done|rfl|trace_state
theorem aou(c:ao)(nd:UInt8)(f:List GSpan)(hw:Con2 Tryz.prog 29 [.agg (aC c),.agg (ak (bE c (bI c nd)).1),fzS f] (· =plR (.tup [.agg (ak (rK c (bE c (bI c nd)).1 f)),.v (.int .i64 (pr c (bE c (bI c nd)).1 f))]))):
  Con2 Tryz.prog 28 [.agg (aC c),.v (.int .u8 nd.toNat),fzS f] (· =plR (.tup [.agg (ak (rK c (bE c (bI c nd)).1 f)),.v (.bool (((bE c (bI c nd)).2==0)&&((pr c (bE c (bI c nd)).1 f==0)&&(rK c (bE c (bI c nd)).1 f).up)))])):=by
 refine Con2.ofEmb ?_;have hs:=qW c (bI c nd) (aen c nd);have hn:=tD c nd;generalize bI c nd=q at hs hn hw ⊢;generalize bE c q=r at hs hw ⊢;obtain⟨r,e⟩:=r;simp only at hs hw ⊢;generalize rK c r f=w at hw ⊢;generalize pr c r f=g at hw ⊢;refine en_ Tryz.func28 [.cell 6 49,.tmp 7] (g2_ ?_);refine g2_ ?_;refine .inr (.inl ⟨(.fl 0 (.fl 1 (.fl 2 (.eff 3 true (.eff 4 false (.fl 5 (.fl 6 (.fl 7 (.eff 8 true (.eff 9 false (.fl 10 .done) .no) .no)))) (.eff 8 true (.eff 4 false (.fl 5 (.fl 6 (.fl 7 (.eff 9 false (.fl 10 .done) .no)))) .no) .no)) (.eff 8 true (.eff 3 true (.eff 4 false (.fl 5 (.fl 6 (.fl 7 (.eff 9 false (.fl 10 .done) .no)))) .no) .no) .no))))),by kernel_rfl,g2_ ?_⟩)
 repeat' (first
  |(with_reducible refine And.intro ?_ ?_)
  |(refine CallS.eq hn ?_ (.inl ?_) ?_;(focus (simp-implicitDefEqProofs only[go_sem,ab];done));(focus (simp-implicitDefEqProofs only[go_sem,ab];done));refine g2_ ?_)
  |(refine CallS.eq hs ?_ (.inl ?_) ?_;(focus (simp-implicitDefEqProofs only[go_sem,ab];done));(focus (simp-implicitDefEqProofs only[go_sem,ab];done));refine g2_ ?_)
  |(with_reducible refine av ?_;refine g2_ ?_))
 all_goals
  refine cw_ hw (g2_ ?_);refine .inr (.inr (.inl ⟨[oF 0,oF 1,oF 2,oF 3,oF 4,oF 5,oF 6,oF 7,oF 8,oF 9,oF 10,oT 11,oF 12],[6],by kernel_rfl,g2_ ?_⟩))
  cases hb1:(e==0)with
  |false=>
   refine g2_ ?_;refine ae ?_ rfl;exact wf_ @Bool.false_and
  | true=>
   refine g2_ ?_;cases hb2:(g==0)with
   |false=>
    refine g2_ ?_;refine ae ?_ rfl;exact wf_ @Bool.false_and
   |true=>
    refine g2_ ?_;refine ae ?_ rfl;exact wx_
attribute[local go_sem] List.length_cons List.length_nil bne_self_eq_false
theorem ar7:((UInt16.toNat 1:Nat):Int)=1:=rfl
theorem arE:((UInt32.toNat 1:Nat):Int)=1:=rfl
theorem asK:((0:Nat):Int)=0:=rfl
theorem asP:((0+1:Nat):Int)=1:=rfl
attribute[local go_sem] asK asP ar7 arE
theorem abu:Con2 Tryz.prog 9 [] (· =plR (.v (.bool true))):=by
 refine Con2.ofEmb ?_;have c1:=ahH
 have w:Con2 Tryz.prog 29 [.agg (aC nwC),.agg (ak nwA),fzS [⟨0,9⟩]] (· =plR (.tup [.agg (ak nwB),.v (.int .i64 (pr nwC nwA [⟨0,9⟩]))])):=by
  have hu:nwA.up=true:=by kernel_rfl
  have h:=aan nwC nwA [⟨0,9⟩] (by decide) rz aeR.1.h.g (by decide) (mS aeR.1.h.g (lN rz apY (by decide)).1 (lN rz apY (by decide)).2) hu
  have e1:nwB=if (bA nwC.schema [⟨0,9⟩]).2=0 then aD nwC { nwA with filter:=(bA nwC.schema [⟨0,9⟩]).1 } []else nwA:=by
   show rK nwC nwA [⟨0,9⟩]=_;unfold rK;rw[if_neg (by rw[hu];decide)]
  have e2:pr nwC nwA [⟨0,9⟩]=(bA nwC.schema [⟨0,9⟩]).2:=by unfold pr;rw[if_neg (by rw[hu];decide)]
  rw[e1,e2];exact h
 have c2:=aou nwC 0 [⟨0,9⟩] w;change Con2 Tryz.prog 28 _ (· =plR (.tup [.agg (ak nwB),.v (.bool (((bE nwC (bI nwC 0)).2==0)&&((pr nwC nwA [⟨0,9⟩]==0)&&nwB.up)))]))at c2
 rw[asO,asQ,asC]at c2
 have c3:Con2 Tryz.prog 32 [.agg (aC nwC),.agg (ak nwB),.fz 1 (([5]:List Int).map bP),.fz 1 (([]:List UInt8).map az),.fz 1 (([]:List UInt32).map aF)] (· =plR (.tup [.agg (ak nwP.1),.agg (aB nwP.2.1),.v (.bool nwP.2.2.1),.fz 17 (nwP.2.2.2.1.map encMg),.v (.int .i64 nwP.2.2.2.2)])):=
  kR ab1 (by decide) aff.1 aff.2 (by decide) (by decide) (by decide) (by decide)
 rw[aqr.1,aqr.2.1,aqr.2.2]at c3;have c4:=kR ab1 (by decide) uB.1 uB.2 (by decide) (dr:=[]) (vals:=[5]) (data:=[]) (by decide) (by decide) (by decide)
 rw[asR]at c4
 have c5:Con2 Tryz.prog 31 [.agg (aC nwC),.agg (ak nwP.1),.agg (encMg im),.fz 1 (([]:List UInt32).map aF)] (· =plR (.tup [.agg (ak nwQ.1),.fz 17 (nwQ.2.1.map encMg),.fz 5 (nwQ.2.2.map aB)])):=
  nM ab1 rz uB.1 uB.2 (by decide) (by decide) vV
 rw[aq4.1,aq4.2.1]at c5;have c6:=nM ab1 rz aeA.1 aeA.2 (by decide) (dr:=[]) (by decide) vV
 rw[ar6.1,ar6.2]at c6;have c7:=nM ab1 rz aeA.1 aeA.2 (by decide) (dr:=[]) (by decide) agn
 rw[arG.1,arG.2]at c7;have h6:=aq4.2.2;have cp:=aek 1 3;have ce:=acA ⟨⟨0,1,1⟩,[5],[]⟩ (by decide)
 clear w;generalize nwB=B at *;generalize (aR nwC nwP.1 [5] [] [])=Z at c4;generalize (bL nwC nwQ.1 im []).1=T1 at c6;generalize (bL nwC nwQ.1 rX []).1=T2 at c7;generalize nwQ.1=Q at *;generalize nwP.2.2.2.1=PL at *;generalize nwP.1=P1 at *;unfold im at c5 c6;unfold rX at c7;generalize nwC=C at *;refine en_ Tryz.func9 [.tmp 0] (g2_ ?_);refine g2_ ?_;refine cw_ c1 (g2_ ?_);refine cw_ c2 (g2_ ?_);refine cw_ c3 (g2_ ?_);refine cw_ c4 (g2_ ?_);refine tG (.fl 0 (.fl 1 (.eff 2 true (.eff 3 false (.fl 4 (.fl 5 (.fl 6 (.fl 7 (.eff 8 true (.eff 9 false (.fl 10 (.fl 11 .done)) .no) .no))))) (.eff 8 true (.eff 3 false (.fl 4 (.fl 5 (.fl 6 (.fl 7 (.eff 9 false (.fl 10 (.fl 11 .done)) .no))))) .no) .no)) (.eff 8 true (.eff 2 true (.eff 3 false (.fl 4 (.fl 5 (.fl 6 (.fl 7 (.eff 9 false (.fl 10 (.fl 11 .done)) .no))))) .no) .no) .no)))) [(13,.loc 13 0),(14,.d (.fz 17 [])),(15,.d (.fz 5 [aB ⟨⟨1,1,1⟩,[3],[]⟩]))] [(13,⟨ak Q,49⟩)] ?_ ?_
 ·refine g2_ ?_
  repeat' (first
   |(with_reducible refine And.intro ?_ ?_)
   |(refine cw_ cp (g2_ ?_))
   |(refine cw_ c5 (g2_ ?_))
   |(refine aa [] ?_;(focus (simp-implicitDefEqProofs only[go_sem,ab];done))))
 refine g2_ ?_;refine tG (.fl 0 (.fl 1 (.eff 2 true (.eff 3 false (.fl 4 (.fl 5 (.fl 6 (.fl 7 (.eff 8 true (.eff 9 false (.fl 10 (.fl 11 .done)) .no) .no))))) (.eff 8 true (.eff 3 false (.fl 4 (.fl 5 (.fl 6 (.fl 7 (.eff 9 false (.fl 10 (.fl 11 .done)) .no))))) .no) .no)) (.eff 8 true (.eff 2 true (.eff 3 false (.fl 4 (.fl 5 (.fl 6 (.fl 7 (.eff 9 false (.fl 10 (.fl 11 .done)) .no))))) .no) .no) .no)))) [(16,.loc 16 0),(17,.d (.fz 17 [])),(18,.d (.fz 5 []))] [(16,⟨ak T1,49⟩)] ?_ ?_
 ·refine g2_ ?_
  repeat' (first
   |(with_reducible refine And.intro ?_ ?_)
   |(refine cw_ cp (g2_ ?_))
   |(refine cw_ c6 (g2_ ?_))
   |(refine aa [] ?_;(focus (simp-implicitDefEqProofs only[go_sem,ab];done))))
 refine g2_ ?_;refine cx_ c7 (by simp-implicitDefEqProofs only[go_sem,ab,zEvt]) (gf_ h6 ?_)
 refine .inl ⟨[oF 0,oF 1,oF 2,oF 3,oF 4,oF 5,oF 6,oF 7,oF 8,oF 9,oF 10,oF 11,oF 12,oF 13,oF 14,oF 15,oF 16,oF 17,oF 18,oF 19,oF 20,oF 21,oF 22,oF 23,oF 24,oF 25,oF 29,oF 26,oF 27,oF 28,oF 30,oF 31,oF 32],by kernel_rfl,gf_ @pMsg.eq_1 ?_⟩
 refine CallS.eqW ce ws_ (.inr ws_) ?_;refine g2_ ?_;refine ae ?_ rfl;exact ws_
end Go.Proofs.YtmhmahcdanclnaaGreat.V
namespace Go.Proofs.YtmhmahcdanclnaaGreat.V
open Go.Eng
section
variable {c:ao} {p q:af} {dr:List UInt32} {o:jm} {m:aJ} {a:GEvt}
def Ui(p:af):Prop:=p.up=true->1<=p.inc.toNat
theorem Ui.of(h:Ui p)(h1:q.inc=p.inc)(h2:q.up=p.up):Ui q:=fun hu=>by rw[h1];exact h (by rw[<-h2];exact hu)
theorem arX(h4:o.what=4):dO c p o=((aR c p o.vals o.data o.draws).1,(aR c p o.vals o.data o.draws).2.2.2.1,
  if (aR c p o.vals o.data o.draws).2.2.1=true then [(aR c p o.vals o.data o.draws).2.1]else [],decide ((aR c p o.vals o.data o.draws).2.2.2.2=0),(aR c p o.vals o.data o.draws).2.2.2.2):=by grind [dO]
end
attribute[local go_sem] zDesc aS ah fzD plR a_ aO aQ aA aC ak aB aT z8 z16 z32 z64 encMg ba bP aL az hX dx au List.map_cons List.map_nil SeqW2.eq_1
theorem ann{o:jm}(h:afH o=true)(hf: ∀d∈o.m.list, ∀s∈d.filter,okS s)(hfs: ∀s∈o.filter,okS s):apG o:=by
 unfold afH at h;simp only[Bool.and_eq_true,decide_eq_true_eq]at h;obtain⟨h1,h2,h3,h4,h5,h6,h7⟩:=h;obtain⟨q1,q2,q3⟩:=apX (o:=⟨0,0,0,o.filter,o.m,o.draws⟩) h1 hf;unfold qc at h1;simp only[Bool.and_eq_true,decide_eq_true_eq]at h1;exact⟨⟨q1,⟨by omega,by omega⟩,by omega,by omega⟩,by have:=h1.2.2.2.2;show o.draws.length<=1048576;omega,q3,hfs,by omega,by omega⟩
