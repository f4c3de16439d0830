import Derived.Test.YtmhmahcdanclnaaGreatNr43
set_option linter.unusedSectionVars false
set_option linter.unusedSimpArgs false
set_option linter.unusedVariables false
set_option maxRecDepth 10000
set_option maxHeartbeats 4000000
namespace Go.Proofs.YtmhmahcdanclnaaGreat.V
open Go.Eng
attribute [local go_sem] aQ ah fzD plR a_ aN aP aD aB ak aE aU z8 z16 z32 z64 encMg aO bP aC dZ aI List.set_cons_succ List.set_cons_zero
theorem aoA(w:Nat->Option Rn)(h:w 0=some (.to 0)):wkRow w (mpRow kv8 nFns) (some (mpRow kv8 nFns)):=by
 exact wf_ (c3_ @mpRow.eq_1 @nFns.eq_1 h)
theorem acf(c:an)(p:af)(m:aF)(dr:List UInt32)(hc:c.schema.length<=4)(hcs: ∀s∈c.schema,okS s)(hp:okH p)(hk:m.kind=10)(hu:p.up=true)(hto:m.to=p.node)
  (he:m.ev.vals.length<=4000000/\m.ev.data.length<=4000000) (hps:0<=p.passed/\p.passed<=1000000000) (hdr:dr.length<=4000000) (hsw:0<=c.swap/\c.swap<=1000000)
  (hgA:okG (aV c (ay c (au c p m.frm m.inc).1 []) m.ev).1)
  (kl:Con2 Tryz.prog 91 [.agg (ak (aV c (ay c (au c p m.frm m.inc).1 []) m.ev).1)] (· =a_ 5 1 ((aH (aV c (ay c (au c p m.frm m.inc).1 []) m.ev).1).map aC))) (hll:(aH (aV c (ay c (au c p m.frm m.inc).1 []) m.ev).1).length<=1000000):
  Con2 Tryz.prog 31 [.agg (aB c),.agg (ak p),.agg (encMg m),.fz 1 (dr.map aI)] (· =plR (.tup [.agg (ak (bA c p m dr).1),.fz 17 ((bA c p m dr).2.1.map encMg),.fz 5 ((bA c p m dr).2.2.map aE)])):=by
 refine Con2.ofEmb ?_;have kf:=ix c p hp.ok;have kh:=sI c p m.frm m.inc hp.ok hp.rs;have hq:=du (c:=c) hp m.frm m.inc;have hpq:(au c p m.frm m.inc).1.passed=p.passed:=(eh (c:=c) (p:=p) m.frm m.inc).passed
 have hN:bA c p m dr=if (au c p m.frm m.inc).2=false then ((au c p m.frm m.inc).1,[],[])else (ay c (js c (ay c (au c p m.frm m.inc).1 []) m dr).1 [],(js c (ay c (au c p m.frm m.inc).1 []) m dr).2.1,(js c (ay c (au c p m.frm m.inc).1 []) m dr).2.2):=by
  unfold bA;rw[if_neg (by rw[hk];decide),if_neg (by rw[hu,hto];simp)]
  simp only[hk];rfl
 rw[hN];clear hN;generalize au c p m.frm m.inc=Q at kh hq hgA kl hll hpq ⊢;obtain⟨q,b⟩:=Q;simp only at kh hq hgA kl hll hpq ⊢;have km:=agf c q [] hc hcs hq.g ⟨by simp,by simp⟩ (by simp)
 have hg2:=jw (c:=c) (l:=[]) hq.g ⟨by simp,by simp⟩ (by simp)
 have hrq:(ay c q []).rows=q.rows:=rfl
 have hps:0<=(ay c q []).passed/\(ay c q []).passed<=1000000000:=by
  show 0<=q.passed/\q.passed<=1000000000;rw[hpq];exact hps
 have km2:=im c (ay c q []) [] hc hcs hg2 ⟨by simp,by simp⟩ (by simp)
 have km3:=im c (aV c (ay c q []) m.ev).1 [] hc hcs hgA ⟨by simp,by simp⟩ (by simp)
 rw[<-hrq]at km;generalize ay c q []=r at km km2 km3 hg2 hgA kl hll hps ⊢;clear hrq hpq;have hp:=hp.ok;refine(mw c p m dr _).2 ?_;dsimp only[mw];rw[show gq nFns m.kind=some (.fn 153 [.pt 0 0] [])by rw[hk];rfl]
 refine x0_ ?_;refine cw_ kf (g2_ ?_);rw[hu,hto];refine gx_ ?_;refine cx_ kh (wg_ hu hto) (g2_ ?_);cases b with
 |false=>
  refine g2_ ?_;refine ae ?_ rfl;exact wg_ hu hto
 |true=>
 rw[if_neg (by decide)]
 refine g2_ ?_;refine cw_ km (g2_ ?_);refine il_ Tryz.func153 [] ?_;refine Vc2.sq (g2_ ?_)
 refine Vc2.seqJ (γ:=Bool) (fun g=>bif g then
   ⟨[(0,.d (.pt 0 0)),(2,.loc 2 0),(3,.loc 3 0),(4,.d (.v (.bool true))),(5,.d (.v (.bool (dH r.filter m.ev.vals))))],[(2,⟨aE m.ev,56⟩),(3,⟨kC (aV c r m.ev).1 r.rows.length,49⟩)],
    [(3,.arr 178 5 ((aV c r m.ev).1.pulls.map aU) false),(2,.arr 84 3 ((aV c r m.ev).1.rows.map aD) false),(0,.var 144 (aB c++((ak r).set 24 (.rf 2 0 r.rows.length)++(encMg m++[.fz 1 (dr.map aI),.v (.slice none 0 0),.v (.slice none 0 0)]))))],4,3⟩
  else ⟨[(0,.d (.pt 0 0)),(4,.d (.v (.bool false)))],[],[(2,.arr 84 3 (r.rows.map aD) false),(0,.var 144 (aB c++((ak r).set 24 (.rf 2 0 r.rows.length)++(encMg m++[.fz 1 (dr.map aI),.v (.slice none 0 0),.v (.slice none 0 0)]))))],3,3⟩)
  (fun g=>bif g then r.up=true/\jN c r m.ev=true else r.up=false\/jN c r m.ev=false) ?_ (fun g hg=>?_)
 ·refine g2_ ?_;refine .inr (.inl ⟨(.fl 0 (.fl 4 (.fl 8 (.fl 1 (.fl 5 (.fl 2 (.fl 6 (.fl 3 (.fl 7 (.eff 9 false (.fl 10 (.fl 11 (.fl 12 (.fl 13 (.eff 14 true (.eff 15 false (.fl 16 (.fl 17 .done)) .no) .no))))) (.eff 14 true (.eff 9 false (.fl 10 (.fl 11 (.fl 12 (.fl 13 (.eff 15 false (.fl 16 (.fl 17 .done)) .no))))) .no) .no))))))))))),by kernel_rfl,g2_ ?_⟩)
  repeat' (first
   |(with_reducible refine And.intro ?_ ?_)
   |(refine akJ c r m.ev hg2.ok (by omega) he hps (fun w w0 w1 w2=>⟨?_,aoA w w0⟩) (fun w1=>?_) (fun w1 w2=>?_);(focus (repeat first|simp-implicitDefEqProofs only[go_sem,ab,w0,w1,w2]|with_reducible refine gl_ ?_;done))))
  all_goals
   repeat first|simp-implicitDefEqProofs only[go_sem,ab,kC]|with_reducible first|refine gl_ ?_|refine ga_ ?_|refine gn_ ?_
   first
    |(refine⟨true,aa [] ?_,⟨w1,w2⟩⟩;(focus (repeat first|simp-implicitDefEqProofs only[go_sem,ab,hto,cond_true,kC,List.append_eq,List.cons_append,List.nil_append]|with_reducible refine gl_ ?_;done)))
    |(refine⟨false,aa [] ?_,w1⟩;(focus (repeat first|simp-implicitDefEqProofs only[go_sem,ab,hto,cond_false,List.append_eq,List.cons_append,List.nil_append]|with_reducible refine gl_ ?_;done)))
    |trace_state
 ·cases g with
  |false=>
   have hP:js c r m dr=(r,[],[]):=by unfold js;simp only;rw[show aV c r m.ev=(r,false,false)from if_pos hg];rfl
   rw[hP];simp only[cond_false];refine Vc2.of ?_;exact q2_ km2
  | true=>
   have hg:r.up=true/\jN c r m.ev=true:=hg;have hA2:(aV c r m.ev).2=(true,dH r.filter m.ev.vals):=by rw[pE hg.1 hg.2]
   have hAn:(aV c r m.ev).1.rows.length=r.rows.length:=pl_accept.rows;obtain⟨S,hS⟩: ∃S,S=(if m.hops=0 then []else f_ c (aV c r m.ev).1 m.ev (m.hops-1) (dK (aH (aV c r m.ev).1) m.frm m.ev.id.node) dr):=⟨_,rfl⟩
   obtain⟨G,hG⟩: ∃G,G=if dH r.filter m.ev.vals=true then [m.ev]else []:=⟨_,rfl⟩
   have hP:js c r m dr=((aV c r m.ev).1,S,G):=by
    unfold js;simp only[hA2];rw[if_neg (by decide),hS,hG]
   rw[hP];clear hP hA2;simp only[cond_true];generalize (aV c r m.ev).1=A at *;refine Vc2.sq ?_
   repeat first|simp-implicitDefEqProofs only[go_sem,ab,kC,List.append_eq,List.cons_append,List.nil_append]|with_reducible first|refine gl_ ?_|refine ga_ ?_|refine gn_ ?_
   refine Vc2.sq ?_
   repeat first|simp-implicitDefEqProofs only[go_sem,ab,kC,List.append_eq,List.cons_append,List.nil_append]|with_reducible first|refine gl_ ?_|refine ga_ ?_|refine gn_ ?_
   refine Vc2.seqJ (γ:=Unit) (fun _=>⟨[(0,.d (.pt 0 0)),(2,.loc 2 0)],[(2,⟨aE m.ev,56⟩)],
    [(4,.arr 56 5 (G.map aE) false),(3,.arr 178 5 (A.pulls.map aU) false),(2,.arr 84 3 (A.rows.map aD) false),(0,.var 144 (aB c++(kC A A.rows.length++(encMg m++[.fz 1 (dr.map aI),.v (.slice none 0 0),.rf 4 0 G.length]))))],5,3⟩)
    (fun _=>True) ?_ (fun _ _=>?_)
   ·have kc:=jO m.ev he.1 he.2;cases hd:dH r.filter m.ev.vals with
    |false=>
     rw[if_neg (by rw[hd];decide)]at hG
     refine g2_ ?_;refine⟨(),aa [(4,.nil 5)] ?_⟩
     repeat first|simp-implicitDefEqProofs only[go_sem,ab,hG,hto,hAn,kC,List.map_nil,List.length_nil,List.append_eq,List.cons_append,List.nil_append]|with_reducible refine gl_ ?_
     first|done|rfl|exact⟨rfl,rfl⟩
    |true=>
     rw[if_pos hd]at hG;refine g2_ ?_;refine .inl ⟨[oF 0,oF 1,oF 5,oF 2,oF 3,oF 4,oT 6,oT 7,oF 8,oF 9,oF 10,oF 11],by kernel_rfl,g2_ ?_⟩
     refine cw_ kc (g2_ ?_);refine⟨(),aa [(4,.to 5)] ?_⟩
     repeat first|simp-implicitDefEqProofs only[go_sem,ab,hG,hto,hAn,kC,List.map_nil,List.map_cons,List.length_nil,List.length_cons,List.append_eq,List.cons_append,List.nil_append]|with_reducible refine gl_ ?_
     first|done|rfl|exact⟨rfl,rfl⟩
   ·have kL:=vl m.hops;refine Vc2.sq ?_
    repeat first|simp-implicitDefEqProofs only[go_sem,ab,kC,List.append_eq,List.cons_append,List.nil_append]|with_reducible first|refine gl_ ?_|refine ga_ ?_|refine gn_ ?_
    refine cw_ kL (g2_ ?_);refine Vc2.of ?_;refine g2_ ?_
    by_cases h0:m.hops=0
    ·rw[if_pos h0]at hS;rw[hS];rw[decide_eq_true h0];refine g2_ ?_;clear km2;have km2:=km3;refine .inl ⟨[oF 0,oF 1,oF 2,oF 3,oF 4,oF 5,oF 6,oF 7,oF 8,oF 9],by kernel_rfl,gx_ ?_⟩
     refine cw_ km2 (gx_ ?_);refine .inr (.inr (.inl ⟨[oF 0,oF 4,oF 8,oF 1,oF 5,oF 9,oF 2,oF 6,oF 10,oF 3,oF 7,oF 11,oT 12,oF 13,oF 14],[8],by kernel_rfl,gx_ ?_⟩))
     refine ae ?_ rfl;exact wf_ @ao
    ·rw[if_neg h0]at hS;have kp:=tY c A m.ev (m.hops-1) (dK (aH A) m.frm m.ev.id.node) dr he (Nat.le_trans (List.length_filter_le _ _) (by omega)) hdr hsw
     rw[<-hS]at kp;rw[decide_eq_false h0];refine g2_ ?_;refine .inl ⟨[oF 0,oF 5,oF 10,oF 1,oF 6,oF 11,oF 2,oF 7,oF 12,oF 3,oF 8,oF 9,oT 4,oF 13,oF 14],by kernel_rfl,?_⟩
     repeat first|simp-implicitDefEqProofs only[go_sem,ab,kC,List.append_eq,List.cons_append,List.nil_append]|with_reducible first|refine gl_ ?_|refine ga_ ?_|refine gn_ ?_
     refine cx_ kl (by simp-implicitDefEqProofs only[go_sem,ab,kC,ao,List.length_map]) (g2_ ?_)
     refine aiP (aH A) m.frm m.ev.id.node (by omega) (fun w hw=>?_) ?_
     ·have w0:=hw 0 (by omega)
      have w2:=hw 2 (by omega)
      have w3:=hw 3 (by omega)
      have w4:=hw 4 (by omega)
      repeat first|simp-implicitDefEqProofs only[go_sem,ab,w0,w2,w3,w4]|with_reducible refine gl_ ?_
      first|done|trace_state
     ·refine g2_ ?_;refine .inl ⟨[oF 0,oF 1,oF 5,oF 9,oF 10,oF 11,oF 12,oF 2,oF 6,oF 13,oF 3,oF 7,oF 14,oF 4,oF 8,oF 15,oF 16,oF 17,oF 18,oF 19],by kernel_rfl,gf_ @ao ?_⟩
      refine cx_ kp (wg_ @ao h0) (g2_ ?_);clear km2;have km2:=km3;refine .inl ⟨[oF 0,oF 1,oF 2,oF 3,oF 4,oF 5,oF 6,oF 7,oF 8,oF 9],by kernel_rfl,gx_ ?_⟩
      refine cw_ km2 (gx_ ?_);refine .inr (.inr (.inl ⟨[oF 0,oF 4,oF 8,oF 1,oF 5,oF 9,oF 2,oF 6,oF 10,oF 3,oF 7,oF 11,oT 12,oF 13,oF 14],[8],by kernel_rfl,gx_ ?_⟩))
      refine ae ?_ rfl;exact wf_ @ao
end Go.Proofs.YtmhmahcdanclnaaGreat.V
namespace Go.Proofs.YtmhmahcdanclnaaGreat.V
open Go.Eng
attribute [local go_sem] aQ ah fzD plR a_ aN aP aD aB ak aE aU z8 z16 z32 z64 encMg List.set_cons_succ List.set_cons_zero
theorem ait(c:an)(p:af)(node:UInt8)(inc:UInt16)(hp:okP p)(hr:fP p.reports):Con2 Tryz.prog 84 [.agg (aB c),.agg (ak p),.v (.int .u8 node.toNat),.v (.int .u16 inc.toNat)]
  (· =⟨.tup [.agg ((ak (au c p node inc).1).set 22 (.rf 0 0 p.heard.length)),.v (.bool (au c p node inc).2)],[(0,.arr 57 3 (p.heard.map aN) false)],1⟩):=by
 have hi:=node.toNat_lt;have hj:=p.node.toNat_lt;have htb:=hp.table;have kf:=qm p hp;refine en_ Tryz.func84 [.cell 8 49,.tmp 9] (g2_ ?_);refine g2_ ?_;refine .inr (.inr (.inl ⟨[oF 0,oF 1,oF 3,oF 4,oT 2,oF 5,oF 6,oF 7,oF 8,oF 9],[],by kernel_rfl,g2_ ?_⟩))
 refine cw_ kf (g2_ ?_);refine im_ Tryz.func156 [.cell 8 49,.tmp 9] (g2_ ?_);refine gf_ @ar ?_
 by_cases h1:c.nodes<=(node.toNat:Int)
 ·have e:au c p node inc=(p,false):=if_pos (.inl h1);rw[e,decide_eq_true h1];refine gf_ @ar ?_;exact⟨_,rfl,aa [(0,.to 0)] ws_⟩
 rw[decide_eq_false h1];refine gf_ @ar ?_
 by_cases h2:p.table.length<=node.toNat
 ·have e:au c p node inc=(p,false):=if_pos (.inr (.inl h2));rw[e,decide_eq_true (show(p.table.length:Int)<=(node.toNat:Int)by omega)]
  refine gf_ @ar ?_;exact⟨_,rfl,aa [(0,.to 0)] ws_⟩
 rw[decide_eq_false (show ¬(p.table.length:Int)<=(node.toNat:Int)by omega)]
 refine gf_ @ar ?_;rw[cE]
 by_cases h3:node=p.node
 ·have e:au c p node inc=(p,false):=if_pos (.inr (.inr (.inl h3)));rw[e,decide_eq_true h3];refine gf_ @ar ?_;exact⟨_,rfl,aa [(0,.to 0)] ws_⟩
 rw[decide_eq_false h3];refine gf_ @ar ?_;rw[vo];refine bb (fun h4=>?_) (fun h4=>?_)
 ·have e:au c p node inc=(p,false):=if_pos (.inr (.inr (.inr h4)));rw[e];refine gf_ @ar ?_;exact⟨_,rfl,aa [(0,.to 0)] ws_⟩
 have hk:node.toNat<p.table.length:=by omega
 refine gf_ (c2_ @ar (mE_ hk)) ?_
 have e0:au c p node inc=if inc<p.table[node.toNat].inc\/(inc=p.table[node.toNat].inc/\p.table[node.toNat].state=3)then (p,false)
   else ({ p with table:=de p.table node inc,reports:=if p.table[node.toNat].inc<inc then dU p.reports node else p.reports },true):=by
  unfold au;rw[if_neg (by simp[h1,h2,h3,h4]),List.getElem?_eq_getElem hk]
 rw[e0];have hth:=sB p.table node inc htb;generalize p.table[node.toNat]=m
 by_cases h5:(inc.toNat:Int)<(m.inc.toNat:Int)
 ·have h6:inc<m.inc:=by rw[UInt16.lt_iff_toNat_lt];omega
  rw[if_pos (.inl h6),decide_eq_true h5];refine gf_ @ar ?_;exact⟨_,rfl,aa [(0,.to 0)] ws_⟩
 have h6: ¬inc<m.inc:=by rw[UInt16.lt_iff_toNat_lt];omega
 rw[decide_eq_false h5];refine gf_ @ar ?_;rw[eV]
 by_cases h7:inc=m.inc/\m.state=3
 ·rw[if_pos (.inr h7),decide_eq_true h7.1];refine gf_ @ar ?_;rw[aba,decide_eq_true h7.2];refine gf_ @ar ?_;exact⟨_,rfl,aa [(0,.to 0)] ws_⟩
 rw[if_neg (by simp[h6];exact fun a b=>h7 ⟨a,b⟩)]
 by_cases hA:inc=m.inc
 ·have hs3: ¬m.state=3:=fun h=>h7 ⟨hA,h⟩
  have h8: ¬(m.inc.toNat:Int)<(inc.toNat:Int):=by rw[hA];omega
  have h9: ¬m.inc<inc:=by rw[UInt16.lt_iff_toNat_lt];omega
  rw[decide_eq_true hA,if_neg h9];refine gf_ @ar ?_;rw[aba,decide_eq_false hs3];refine gf_ @ar ?_;refine ce_ hth (gf_ @ar ?_);rw[decide_eq_false h8];refine gf_ @ar ?_;exact⟨_,rfl,aa [(0,.to 0)] ws_⟩
 ·have h8:(m.inc.toNat:Int)<(inc.toNat:Int):=by
   have:m.inc.toNat≠inc.toNat:=fun h=>hA (UInt16.toNat_inj.1 h.symm)
   omega
  have h9:m.inc<inc:=by rw[UInt16.lt_iff_toNat_lt];omega
  rw[decide_eq_false hA,if_pos h9];refine gf_ @ar ?_;refine ce_ hth (gf_ @ar ?_);rw[decide_eq_true h8];refine gf_ @ar ?_;refine ce_ (jR p.reports node hr) (gf_ @ar ?_);exact⟨_,rfl,aa [(0,.to 0)] (wf_ @ar)⟩
attribute[local go_sem] aO bP aC dZ aI SeqW2.eq_1 cond_false
@[local go_sem] theorem asD:aa_ Tryz.prog 5=true:=by kernel_rfl
theorem ak7(L:List UInt8)(a b:UInt8)(hl:L.length<=4000000){R0 R2:Row}{ρ σ nb K}(hR: ∀r:Nat->Option Rn,(∀i,i<3->r i=some (.to i))->wkRow r R0 (some R0)/\wkRow r R2 (some R2))
  (hk:K (.rf 3 0 (dK L a b).length) ⟨ρ,σ,[(5,.var 5 [.v (.int .u8 b.toNat)]),(4,.var 5 [.v (.int .u8 a.toNat)]),(3,.arr 5 1 ((dK L a b).map aC) false),(2,R2),(0,R0)],6,nb⟩):
  CallS Tryz.prog false 251 [.rf 3 0 L.length,.v (.int .u8 a.toNat),.v (.int .u8 b.toNat)] ⟨ρ,σ,[(3,.arr 5 1 (L.map aC) false),(2,R2),(0,R0)],4,nb⟩ K:=by
 have hQ:=hR (rnOf [] 6) (fun i hi=>by
  have:i<6:=by omega
  simp only[rnOf,decide_eq_true this,cond_true];rfl)
 obtain⟨q,hq⟩: ∃q:UInt8->Bool,q=fun x=>decide (x=a)||decide (x=b):=⟨_,rfl⟩
 have kq: ∀x,Con2 Tryz.prog 317 [.v (.int .u8 x.toNat),.fp [.v (.int .u8 a.toNat)],.fp [.v (.int .u8 b.toNat)]] (· =plR (.v (.bool (q x)))):=fun x=>by rw[hq];exact vI a b x
 have hU:dK L a b=L.filter fun x=> !q x:=by rw[hq];rfl
 rw[hU]at hk;clear hq hU hR;have hdf:=adt (q:=q) (l:=L);have hdn:=x9 (q:=q) (l:=L);have hFl:(L.filter fun x=> !q x).length<=4000000:=Nat.le_trans (List.length_filter_le _ _) hl
 refine im_ Tryz.func251 [.tmp 6] (g2_ ?_);refine g2_ ?_;refine im_ Tryz.func316 [.tmp 4] (g2_ ?_);refine g2_ ?_;refine CallS.eq (z_ 317 [.fp [.v (.int .u8 a.toNat)],.fp [.v (.int .u8 b.toNat)]] L q hl (fun _=>ws_) ws_ (fun _=>ws_) (fun x _=>kq x)) (wf_ @ao) (.inr ws_) ?_
 cases hi:L.findIdx? q with
 |none=>
  have e1:(L.filter fun x=> !q x)=L:=List.filter_eq_self.2 fun x hx=>by simp[List.findIdx?_eq_none_iff.1 hi x hx]
  rw[show gw none= -1 from rfl]
  rw[e1]at hk;refine g2_ ?_;exact hk
 | some i=>
  obtain⟨hil,hib,hif⟩:=List.findIdx?_eq_some_iff_getElem.1 hi;have hbi:q L[i]=true:=hib
  have hF0: ∀x∈L.take i,q x=false:=fun x hx=>by
   obtain⟨j,hj,rfl⟩:=List.mem_take_iff_getElem.1 hx;have:=hif j (by omega)
   simpa using this
  obtain⟨d1,d2⟩:=sE hil hbi hF0;rw[show gw (some i)=((i:Nat):Int)from rfl]
  refine g2_ ?_;rw[show(((i:Nat):Int)== -1)=false from beq_eq_false_iff_ne.2 (by omega)]
  refine g2_ ?_;refine bG (γ:=Nat) (fun j=>[(6,.d (.v (.int .i64 (j:Nat)))),(5,.d (.v (.int .i64 (dfN q L j:Nat))))]) (fun _=>[]) (fun j=>[(5,.var 5 [.v (.int .u8 b.toNat)]),(4,.var 5 [.v (.int .u8 a.toNat)]),(3,.arr 5 1 ((dfR q L j).map aC) false),(2,R2),(0,R0)]) 6 (fun j=>i+1<=j/\j<=L.length/\dfN q L j<j) (fun j=>L.length-j) (i+1) (aa [] ?_) ⟨Nat.le_refl _,by omega,by omega⟩ (fun j hj=>?_)
  ·refine gf_ (c3_ d1 d2 hQ) ?_
   first|done|rfl|exact⟨rfl,rfl⟩
  ·obtain⟨j1,j2,j3⟩:=hj;have hdl:=yv (q:=q) (l:=L) (j:=j);have hrl2:=xV (q:=q) j2
   by_cases hjl:j<L.length
   ·have hg:((dfR q L j).map aC)[j]? =some (aC L[j]):=by rw[List.getElem?_map,wZ hjl];rfl
    refine gf_ hrl2 ?_;rw[decide_eq_true (show(j:Int)<(L.length:Int)by omega)]
    refine gg_ hg hrl2 ?_;refine CallS.eq (kq L[j]) ws_ (.inr ws_) ?_;refine g2_ ?_;cases hb:q L[j]with
    |true=>
     refine g2_ ?_;refine⟨j+1,aa [] ?_,⟨by omega,by omega,by rw[gX hjl hb];omega⟩,by omega⟩
     repeat first|simp-implicitDefEqProofs only[go_sem,ab,gX hjl hb,tG hjl hb,hQ]|with_reducible refine gl_ ?_
     first|done|rfl|exact⟨rfl,rfl⟩
    |false=>
     have hg2:((dfR q L j).map aC)[dfN q L j]? =some (aC (dfR q L j)[dfN q L j]):=aZ (by omega)
     refine gg_ hg2 hrl2 ?_;refine⟨j+1,aa [] ?_,⟨by omega,by omega,by rw[iI hjl hb];omega⟩,by omega⟩
     repeat first|simp-implicitDefEqProofs only[go_sem,ab,iI hjl hb, <-rC hjl hb,List.map_set,hQ]|with_reducible refine gl_ ?_
     first|done|rfl|exact⟨rfl,rfl,rfl,rfl⟩|trace_state
   ·obtain rfl:j=L.length:=by omega
    refine gf_ hrl2 ?_;rw[decide_eq_false (show ¬(L.length:Int)<(L.length:Int)by omega)]
    refine gf_ hrl2 ?_;rw[Nat.sub_zero, <-List.map_take,hdf,hdn];exact hk
theorem aac(l:List (List DV))(hl:l.length<=5000000):Con2 Tryz.prog 323 [.fz 3 l] (· =plR (.fz 3 l)):=jf (fi (T:=58) Tryz.func323 (by kernel_rfl) (by kernel_rfl) rfl rfl Ty.elOf58 (by decide) l hl)
theorem agF(l:List GAsk)(x:GAsk)(most:Int):(pAdd l x most).length<=l.length+1:=by grind [pAdd,pIns]
theorem adu(c:an)(p:af)(n:UInt8)(i:UInt16):(au c p n i).1.heard=p.heard:=by grind [au]
theorem xm(c:an)(p:af)(m:aF)(dr:List UInt32)(hc:c.schema.length<=4)(hcs: ∀s∈c.schema,okS s)(hp:okH p)(hk:m.kind=11)(hu:p.up=true)(hto:m.to=p.node)
  (hids:m.ids.length<=500000) (hpl:p.pulls.length<=3000000) (hpat:0<=c.patience/\c.patience<=255) (htb:m.table.length<=4000000) (hmk:m.marks.length<=4000000) (kl:Con2 Tryz.prog 91 [.agg (ak (bS c (ay c (au c p m.frm m.inc).1 []) m).1)] (· =a_ 5 1 ((aH (bS c (ay c (au c p m.frm m.inc).1 []) m).1).map aC))) (hll:(aH (bS c (ay c (au c p m.frm m.inc).1 []) m).1).length<=1000000) (hVw:Vw (ay c (au c p m.frm m.inc).1 []).node (ay c (au c p m.frm m.inc).1 []).view) (hgA:okG (bS c (ay c (au c p m.frm m.inc).1 []) m).1):
  Con2 Tryz.prog 31 [.agg (aB c),.agg (ak p),.agg (encMg m),.fz 1 (dr.map aI)] (· =plR (.tup [.agg (ak (bA c p m dr).1),.fz 17 ((bA c p m dr).2.1.map encMg),.fz 5 ((bA c p m dr).2.2.map aE)])):=by
 refine Con2.ofEmb ?_;have kf:=ix c p hp.ok;have kh:=sI c p m.frm m.inc hp.ok hp.rs;have hq:=du (c:=c) hp m.frm m.inc
 have hN:bA c p m dr=if (au c p m.frm m.inc).2=false then ((au c p m.frm m.inc).1,[],[])else (ay c (bS c (ay c (au c p m.frm m.inc).1 []) m).1 [],(bS c (ay c (au c p m.frm m.inc).1 []) m).2,[]):=by
  unfold bA;rw[if_neg (by rw[hk];decide),if_neg (by rw[hu,hto];simp)]
  simp only[hk];rfl
 rw[hN];clear hN;have hqp:(au c p m.frm m.inc).1.pulls=p.pulls:=(eh (c:=c) (p:=p) m.frm m.inc).pulls;generalize au c p m.frm m.inc=Q at kh hq hVw hgA hqp kl hll ⊢;obtain⟨q,b⟩:=Q;simp only at kh hq hVw hgA hqp kl hll ⊢;have km:=im c q [] hc hcs hq.g ⟨by simp,by simp⟩ (by simp)
 have hg2:=jw (c:=c) (l:=[]) hq.g ⟨by simp,by simp⟩ (by simp)
 have hrs:fP (ay c q []).reports:=hq.rs;have hv8:ok8 (ay c q []).view:=⟨Nat.le_trans (List.length_filter_le _ _) hq.v8.1,fun d hd=>hq.v8.2 d (List.mem_filter.1 hd).1⟩
 have hrp:(ay c q []).pulls.length<=3000000:=by show q.pulls.length<=_;rw[hqp];exact hpl
 have hvw:Vw (ay c q []).node (ay c q []).view:=hVw;have km3:=im c (bS c (ay c q []) m).1 [] hc hcs hgA ⟨by simp,by simp⟩ (by simp)
 have km2:=im c (ay c q []) [] hc hcs hg2 ⟨by simp,by simp⟩ (by simp)
 generalize ay c q []=r at km km2 km3 hg2 hgA hrs hv8 hvw hrp kl hll ⊢;have hp:=hp.ok;refine(mw c p m dr _).2 ?_;dsimp only[mw];rw[show gq nFns m.kind=some (.fn 155 [.pt 0 0] [])by rw[hk];rfl]
 refine x0_ ?_;refine cw_ kf (g2_ ?_);rw[hu,hto];refine gx_ ?_;refine cx_ kh (wg_ hu hto) (g2_ ?_);cases b with
 |false=>
  refine g2_ ?_;refine ae ?_ rfl;exact wg_ hu hto
 |true=>
 rw[if_neg (by decide)]
 refine g2_ ?_;refine cw_ km (g2_ ?_);refine il_ Tryz.func155 [] ?_;refine Vc2.sq (g2_ ?_);refine Vc2.sq ?_;refine .inl ⟨[oF 0,oF 3,oF 1,oF 4,oF 2,oF 5,oF 6,oF 7,oF 8,oF 9,oF 10,oF 12,oF 11,oF 13,oF 14,oF 15,oF 16,oF 17,oF 18,oF 19,oF 20,oF 23,oF 21,oF 24,oF 22,oF 25,oF 26,oF 27,oF 28,oF 29,oF 30],by kernel_rfl,?_⟩
 have ho:=m.origin.node.toNat_lt;have hhe:=hg2.ok.heard;refine gx_ ?_
 by_cases h1:c.nodes<=(m.origin.node.toNat:Int)
 ·have hb:bS c r m=(r,[]):=if_pos (.inl h1);rw[decide_eq_true h1];refine g2_ ?_;rw[hb];exact q2_ km2
 rw[decide_eq_false h1];refine gx_ ?_;rw[cE]
 by_cases h2:m.origin.node=r.node
 ·have hb:bS c r m=(r,[]):=if_pos (.inr h2);rw[decide_eq_true h2];refine g2_ ?_;rw[hb];exact q2_ km2
 rw[decide_eq_false h2];refine gx_ ?_
 by_cases h3:r.heard.length<=m.origin.node.toNat
 ·have hb:bS c r m=(r,[]):=by unfold bS;rw[if_neg (by simp[h1,h2]),List.getElem?_eq_none h3]
  rw[decide_eq_true (show(r.heard.length:Int)<=(m.origin.node.toNat:Int)by omega)]
  refine g2_ ?_;rw[hb];exact q2_ km2
 rw[decide_eq_false (show ¬(r.heard.length:Int)<=(m.origin.node.toNat:Int)by omega)]
 have h3:m.origin.node.toNat<r.heard.length:=by omega
 have hN:bS c r m=if jV m.origin { r.heard[m.origin.node.toNat]with node:=m.origin.node }=false then (r,[])else if (au c r m.origin.node m.origin.inc).2=false then (r,[])
   else ((iM c { bu { (au c r m.origin.node m.origin.inc).1 with heard:=(au c r m.origin.node m.origin.inc).1.heard.set m.origin.node.toNat m.origin } m.table with reports:=bZ (bu { (au c r m.origin.node m.origin.inc).1 with heard:=(au c r m.origin.node m.origin.inc).1.heard.set m.origin.node.toNat m.origin } m.table).reports m.origin.node m.marks } m).1,
    (iM c { bu { (au c r m.origin.node m.origin.inc).1 with heard:=(au c r m.origin.node m.origin.inc).1.heard.set m.origin.node.toNat m.origin } m.table with reports:=bZ (bu { (au c r m.origin.node m.origin.inc).1 with heard:=(au c r m.origin.node m.origin.inc).1.heard.set m.origin.node.toNat m.origin } m.table).reports m.origin.node m.marks } m).2++
    if m.hops=0 then []else lh (iM c { bu { (au c r m.origin.node m.origin.inc).1 with heard:=(au c r m.origin.node m.origin.inc).1.heard.set m.origin.node.toNat m.origin } m.table with reports:=bZ (bu { (au c r m.origin.node m.origin.inc).1 with heard:=(au c r m.origin.node m.origin.inc).1.heard.set m.origin.node.toNat m.origin } m.table).reports m.origin.node m.marks } m).1 m):=by
  unfold bS;rw[if_neg (by simp[h1,h2]),List.getElem?_eq_getElem h3]
 have kn:=rF m.origin { r.heard[m.origin.node.toNat]with node:=m.origin.node };have kH:=ait c r m.origin.node m.origin.inc hg2.ok hrs;have hhd:(au c r m.origin.node m.origin.inc).1.heard=r.heard:=adu ..;refine g2_ ?_;refine Vc2.sq (g2_ ?_);refine .inl ⟨[oF 0,oF 5,oF 1,oF 6,oF 2,oF 3,oF 4,oF 7,oF 8,oT 9,oF 10],by kernel_rfl,gf_ (mE_ h3) ?_⟩
 refine Vc2.sq (g2_ ?_);refine Vc2.sq (g2_ ?_);refine cw_ kn ?_;clear kn;refine g2_ ?_;generalize jV m.origin { r.heard[m.origin.node.toNat]with node:=m.origin.node }=b4 at hN ⊢;cases b4 with
 |false=>
  have hb:bS c r m=(r,[]):=hN;refine g2_ ?_;rw[hb];exact q2_ km2
 |true=>
 rw[if_neg (by decide)]at hN
 refine g2_ ?_
 refine Vc2.seqJ (γ:=Unit) (fun _=>⟨[(0,.d (.pt 0 0)),(2,.loc 2 0),(4,.loc 4 0),(5,.d (.v (.bool (au c r m.origin.node m.origin.inc).2)))],[(2,⟨aN m.origin,57⟩),(4,⟨(ak (au c r m.origin.node m.origin.inc).1).set 22 (.rf 2 0 r.heard.length),49⟩)],
  [(2,.arr 57 3 (r.heard.map aN) false),(0,.var 144 (aB c++(ak r++(encMg m++[.fz 1 (dr.map aI),.v (.slice none 0 0),.v (.slice none 0 0)]))))],3,2⟩) (fun _=>True) ?_ (fun _ _=>?_)
 ·refine g2_ ?_;refine .inr (.inl ⟨(.fl 0 (.fl 4 (.fl 8 (.fl 10 (.fl 1 (.fl 5 (.fl 9 (.fl 11 (.fl 2 (.fl 6 (.fl 3 (.fl 7 (.eff 12 false (.fl 13 (.fl 14 (.fl 15 (.eff 16 true (.eff 17 false (.fl 18 .done) .no) .no)))) (.eff 16 true (.eff 12 false (.fl 13 (.fl 14 (.fl 15 (.eff 17 false (.fl 18 .done) .no)))) .no) .no)))))))))))))),by kernel_rfl,g2_ ?_⟩)
  repeat' (first
   |(with_reducible refine And.intro ?_ ?_)
   |(refine CallS.eqW kH ?_ (.inl ?_) ?_;(focus (simp-implicitDefEqProofs only[go_sem,ab];done));(focus (simp-implicitDefEqProofs only[go_sem,ab];done));refine g2_ ?_)
   |(refine⟨(),aa [] ?_⟩;(focus (repeat first|simp-implicitDefEqProofs only[go_sem,ab,hto,List.append_eq,List.cons_append,List.nil_append]|with_reducible refine gl_ ?_;done))))
 have okH2:=du (c:=c) ⟨hg2,hrs,hv8,hvw⟩ m.origin.node m.origin.inc;have hhp:(au c r m.origin.node m.origin.inc).1.pulls.length<=3000000:=by rw[(eh (c:=c) (p:=r) m.origin.node m.origin.inc).pulls];exact hrp
 generalize au c r m.origin.node m.origin.inc=Q at hN hhd okH2 hhp ⊢;obtain⟨h,b5⟩:=Q;simp only at hN hhd okH2 hhp ⊢;refine Vc2.sq (gx_ ?_);cases b5 with
 |false=>
  have hb:bS c r m=(r,[]):=hN;refine g2_ ?_;rw[hb];exact q2_ km2
 |true=>
 rw[if_neg (by decide)]at hN
 refine g2_ ?_;have hmp:(r.heard.map aN).set m.origin.node.toNat [.v (.int .u8 m.origin.node.toNat),.v (.int .u16 m.origin.inc.toNat),.v (.int .u32 m.origin.seq.toNat)]=(r.heard.set m.origin.node.toNat m.origin).map aN:=by rw[List.map_set];rfl
 have hln:(r.heard.set m.origin.node.toNat m.origin).length=r.heard.length:=List.length_set;rw[hhd]at hN;generalize r.heard.set m.origin.node.toNat m.origin=Hs at hmp hln hN;have hpk:okP { h with heard:=Hs }:={ okH2.ok with heard:=by show Hs.length<=4000000;omega }
 have kle:=aeB { h with heard:=Hs } m.table hpk (by have:=okH2.g.table;show h.table.length<=256;omega) htb okH2.rs
 have hr1:fP (bu { h with heard:=Hs } m.table).reports:=jm okH2.rs _;have krp:=acF (bu { h with heard:=Hs } m.table).reports m.origin.node m.marks hr1 hmk;have hP1r:(bu { h with heard:=Hs } m.table).rows=h.rows:=rfl;have hP1p:(bu { h with heard:=Hs } m.table).pulls=h.pulls:=rfl;generalize bu { h with heard:=Hs } m.table=P1 at hN kle krp hr1 hP1r hP1p;obtain⟨P2,hP2⟩: ∃P2:af,P2={ P1 with reports:=bZ P1.reports m.origin.node m.marks }:=⟨_,rfl⟩;rw[<-hP2]at hN;have hprw:P2.rows.length<=4000000:=by rw[hP2];show P1.rows.length<=_;rw[hP1r];exact okH2.ok.rows
 have hppl:P2.pulls.length<=3000000:=by rw[hP2];show P1.pulls.length<=_;rw[hP1p];exact hhp
 refine Vc2.sq (gf_ (mE_ h3) ?_);rw[hmp];have hht:List.take r.heard.length (Hs.map aN)=Hs.map aN:=List.take_of_length_le (by rw[List.length_map,hln];exact Nat.le_refl _)
 refine Vc2.sq ?_;refine .inl ⟨[oF 0,oF 1,oF 2,oF 3,oF 4,oF 5,oF 6,oF 7],by kernel_rfl,g2_ ?_⟩
 refine cx_ kle (wg_ hht hln) (g2_ ?_);refine Vc2.sq ?_;refine .inl ⟨[oF 0,oF 2,oF 4,oF 1,oF 3,oF 5,oF 6,oF 7,oF 8,oF 9,oF 10,oF 11],by kernel_rfl,g2_ ?_⟩
 refine cx_ krp (wf_ @ar) (g2_ ?_);refine Vc2.seqJ (γ:=Unit) (fun _=>⟨[(0,.d (.pt 0 0)),(2,.loc 2 0)],[(2,⟨aN m.origin,57⟩)],[(0,.var 144 (aB c++(ak P2++(encMg m++[.fz 1 (dr.map aI),.v (.slice none 0 0),.v (.slice none 0 0)]))))],2,2⟩) (fun _=>True) ?_ (fun _ _=>?_)
 ·refine g2_ ?_;refine⟨(),aa [] ?_⟩
  repeat first|simp-implicitDefEqProofs only[go_sem,ab,hto,hP2,ar,List.append_eq,List.cons_append,List.nil_append]|with_reducible refine gl_ ?_
  first|done|rfl|exact⟨rfl,rfl⟩
 obtain⟨B,hB⟩: ∃B:Nat->List GAsk×List GID,B=fun k=>((dE m.ids P2.rows c.window).take k).foldl (mn c m.origin.node) (P2.pulls,[]):=⟨_,rfl⟩
 have hBn:iM c P2 m=({ P2 with pulls:=(B (dE m.ids P2.rows c.window).length).1 },if (B (dE m.ids P2.rows c.window).length).2=[]then []else [{ pMsg P2 12 m.origin.node with ids:=(B (dE m.ids P2.rows c.window).length).2 }]):=by
  rw[hB];simp only[List.take_length];rfl
 have hB0:B 0=(P2.pulls,[]):=by rw[hB];rfl
 have hLl:(dE m.ids P2.rows c.window).length<=m.ids.length:=by
  have:=o5 P2.rows c.window m.ids [];simp only[List.length_nil,Nat.zero_add]at this;exact this
 have kla:=aih m.ids P2.rows c.window (by omega) hprw
 have hBs: ∀k (hk:k<(dE m.ids P2.rows c.window).length),B (k+1)=mn c m.origin.node (B k) (dE m.ids P2.rows c.window)[k]:=fun k hk=>by
  rw[hB];simp only;rw[List.take_add_one,List.getElem?_eq_getElem hk,List.foldl_append];rfl
 rw[hBn]at hN;generalize dE m.ids P2.rows c.window=Ls at hBn hLl kla hBs hN
 have hBl: ∀k,k<=Ls.length->(B k).1.length<=P2.pulls.length+k/\(B k).2.length<=k:=by
  intro k
  induction k with
  |zero=>intro _;rw[hB0];exact⟨Nat.le_refl _,Nat.le_refl _⟩
  | succ k ih=>
   intro hk;obtain⟨i1,i2⟩:=ih (by omega)
   rw[hBs k (by omega)]
   unfold mn;split
   ·exact⟨by omega,by omega⟩
   ·split
    ·refine⟨?_,?_⟩
     ·have:=agF (B k).1 ⟨Ls[k],m.origin.node,UInt8.ofNat (c.patience % 256).toNat⟩ c.pulls;simp only;omega
     ·simp only[List.length_append,List.length_cons,List.length_nil];omega
    ·exact⟨by omega,by omega⟩
 clear hB hBn
 refine Vc2.seqJ (γ:=Unit) (fun _=>⟨[(0,.d (.pt 0 0)),(2,.loc 2 0)],[(2,⟨aN m.origin,57⟩)],
  [(2,.arr 60 17 ((if (B Ls.length).2=[]then []else [{ pMsg P2 12 m.origin.node with ids:=(B Ls.length).2 }]).map encMg) false),(0,.var 144 (aB c++(ak { P2 with pulls:=(B Ls.length).1 }++(encMg m++[.fz 1 (dr.map aI),.rf 2 0 (if (B Ls.length).2=[]then []else [{ pMsg P2 12 m.origin.node with ids:=(B Ls.length).2 }]).length,.v (.slice none 0 0)]))))],3,2⟩) (fun _=>True) ?_ (fun _ _=>?_)
 ·refine gx_ ?_;refine im_ Tryz.func256 [] (g2_ ?_);refine g2_ ?_;refine .inl ⟨[oF 0,oF 5,oF 10,oF 17,oF 1,oF 6,oF 11,oF 2,oF 7,oF 12,oF 3,oF 8,oF 13,oF 4,oF 9,oF 14,oF 15,oF 16],by kernel_rfl,g2_ ?_⟩
  refine cw_ kla (gx_ ?_);refine aw Ls.length (fun k=>[(2,.d (.rf 2 0 (B k).2.length))]) (fun _=>[]) (fun k=>[(2,.arr 54 3 ((B k).2.map aO) false),(0,.var 144 (aB c++(ak { P2 with pulls:=(B k).1 }++(encMg m++[.fz 1 (dr.map aI),.v (.slice none 0 0),.v (.slice none 0 0)]))))]) 3 (fun _=>True) (aa [(2,.nil 3)] ?_) trivial (fun g k=>ws_) (by omega) (fun g=>ws_) (fun k hk _=>?_) (fun _=>?_)
  ·refine gf_ (c2_ hB0 hto) ?_
   first|done|rfl|exact⟨rfl,rfl⟩
  ·obtain⟨l1,l2⟩:=hBl k (by omega)
   have hs:=hBs k hk;have hl3:=hBl (k+1) (by omega)
   have hg:(Ls.map aO)[k]? =some (aO Ls[k]):=aZ hk;have knr:=ada c Ls[k];have hxb:=Ls[k].bd;generalize Ls[k]=x at hs hg knr hxb;generalize B k=S at l1 l2 hs ⊢;obtain⟨S1,S2⟩:=S;simp only at l1 l2;unfold mn at hs;simp only at hs;refine gf_ hg ?_;refine .inl ⟨[oF 0,oF 4,oF 1,oF 2,oF 3,oF 5,oF 6],by kernel_rfl,g2_ ?_⟩
   refine cw_ knr (g2_ ?_);cases g2:j4 x c.nodes c.last with
   |false=>
    rw[if_pos g2]at hs;refine g2_ ?_;refine⟨k+1,aa [] ?_,rfl⟩
    repeat first|simp-implicitDefEqProofs only[go_sem,ab,hs,hto,List.append_eq,List.cons_append,List.nil_append]|with_reducible refine gl_ ?_
    first|done|rfl|exact⟨rfl,rfl⟩
   | true=>
    rw[if_neg (by rw[g2];decide)]at hs
    have kpa:=ajD S1 ⟨x,m.origin.node,UInt8.ofNat (c.patience % 256).toNat⟩ c.pulls (by omega)
    have hh8:((UInt8.ofNat (c.patience % 256).toNat).toNat:Int)=c.patience:=by rw[UInt8.toNat_ofNat'];omega
    refine g2_ ?_;refine .inl ⟨[oF 0,oF 1,oF 7,oF 2,oF 8,oF 3,oF 9,oF 4,oF 10,oF 5,oF 11,oF 6,oF 12,oF 13,oT 14,oF 15],by kernel_rfl,g2_ ?_⟩
    refine iq (by omega) ?_
    refine g2_ ?_;refine .inl ⟨[oF 0,oF 5,oF 6,oF 1,oF 7,oF 2,oF 8,oF 3,oF 9,oF 4,oF 10,oF 11,oF 12,oF 13,oF 14,oF 15,oF 16],by kernel_rfl,g2_ ?_⟩
    refine cx_ kpa (wf_ hh8) (g2_ ?_);generalize pAdd S1 ⟨x,m.origin.node,UInt8.ofNat (c.patience % 256).toNat⟩ c.pulls=A1 at hs ⊢;generalize pErr S1 ⟨x,m.origin.node,UInt8.ofNat (c.patience % 256).toNat⟩ c.pulls=E1 at hs⊢
    by_cases h0:E1=0
    ·rw[if_pos h0]at hs;rw[show(E1==0)=true by simp[h0]]
     refine gx_ ?_;refine⟨k+1,aa [(2,.to 4)] ?_,rfl⟩
     repeat first|simp-implicitDefEqProofs only[go_sem,ab,hs,hto,List.length_append,List.map_append,List.append_eq,List.cons_append,List.nil_append]|with_reducible refine gl_ ?_
     first|done|rfl|exact⟨rfl,rfl⟩
    ·rw[if_neg h0]at hs;rw[show(E1==0)=false by simp[h0]]
     refine g2_ ?_;refine⟨k+1,aa [] ?_,rfl⟩
     repeat first|simp-implicitDefEqProofs only[go_sem,ab,hs,hto,List.append_eq,List.cons_append,List.nil_append]|with_reducible refine gl_ ?_
     first|done|rfl|exact⟨rfl,rfl⟩
  ·obtain⟨l1,l2⟩:=hBl Ls.length (Nat.le_refl _);generalize B Ls.length=S at l1 l2 ⊢;obtain⟨S1,S2⟩:=S;simp only at l1 l2 ⊢;refine gx_ ?_
   by_cases h0:S2=[]
   ·rw[if_pos h0];rw[show decide ((0:Int)<(S2.length:Int))=false by rw[h0];rfl]
    refine g2_ ?_;refine⟨(),aa [(2,.nil 17)] ?_⟩
    repeat first|simp-implicitDefEqProofs only[go_sem,ab,hto,List.map_nil,List.length_nil,List.append_eq,List.cons_append,List.nil_append]|with_reducible refine gl_ ?_
    first|done|rfl|exact⟨rfl,rfl⟩
   ·rw[if_neg h0];have hpos:0<S2.length:=List.length_pos_iff.2 h0;rw[show decide ((0:Int)<(S2.length:Int))=true from decide_eq_true (by omega)]
    have kn:=kI { P2 with pulls:=S1 } 12 m.origin.node;refine g2_ ?_;refine o4 (.fl 0 (.fl 4 (.fl 1 (.fl 5 (.fl 2 (.fl 6 (.fl 3 (.fl 7 (.fl 8 (.fl 9 (.eff 10 false (.eff 11 true (.eff 12 false .done .no) .no) (.eff 11 true (.eff 10 false (.eff 12 false .done .no) .no) .no)))))))))))) [(8,.loc 8 0)] [(8,⟨encMg (pMsg P2 12 m.origin.node),60⟩)] ?_ ?_
    ·refine g2_ ?_
     repeat' (first
      |(with_reducible refine And.intro ?_ ?_)
      |(refine CallS.eqW kn ?_ (.inl ?_) ?_;(focus (simp-implicitDefEqProofs only[go_sem,ab];done));(focus (simp-implicitDefEqProofs only[go_sem,ab];done));refine g2_ ?_)
      |(refine aa [] ?_;(focus (repeat first|simp-implicitDefEqProofs only[go_sem,ab,pMsg]|with_reducible refine gl_ ?_;done))))
    refine gf_ (c2_ @pMsg.eq_1 @zEvt.eq_1) ?_;refine .inl ⟨[oF 0,oF 1,oF 5,oF 2,oF 3,oF 4,oT 6,oF 7,oF 8,oF 9,oF 10],by kernel_rfl,gx_ ?_⟩
    refine⟨(),aa [(2,.to 4)] ?_⟩
    repeat first|simp-implicitDefEqProofs only[go_sem,ab,hto,pMsg,zEvt,List.map_nil,List.map_cons,List.length_nil,List.length_cons,ao,List.append_eq,List.cons_append,List.nil_append]|with_reducible refine gl_ ?_
    first|done|rfl|exact⟨rfl,rfl⟩
 ·have hA2:({ P2 with pulls:=(B Ls.length).1 }:af).table=P2.table:=rfl;have hSl:(if (B Ls.length).2=[]then []else [{ pMsg P2 12 m.origin.node with ids:=(B Ls.length).2 }]:List aF).length<=1:=by split<;>simp
  generalize (if (B Ls.length).2=[]then []else [{ pMsg P2 12 m.origin.node with ids:=(B Ls.length).2 }]:List aF)=S at hN hSl⊢
  generalize ({ P2 with pulls:=(B Ls.length).1 }:af)=A at hN ⊢;clear hA2;have kL:=vl m.hops;rw[hN]at kl km3 hll ⊢;simp only at kl km3 hll ⊢;refine Vc2.sq (gx_ ?_);refine cw_ kL (g2_ ?_);refine Vc2.of ?_;refine g2_ ?_
  by_cases h0:m.hops=0
  ·rw[if_pos h0,List.append_nil];rw[decide_eq_true h0];refine g2_ ?_;clear km2;have km2:=km3;refine .inl ⟨[oF 0,oF 1,oF 2,oF 3,oF 4,oF 5,oF 6,oF 7,oF 8,oF 9],by kernel_rfl,gx_ ?_⟩
   refine cw_ km2 (gx_ ?_);refine .inr (.inr (.inl ⟨[oF 0,oF 4,oF 8,oF 1,oF 5,oF 9,oF 2,oF 6,oF 10,oF 3,oF 7,oF 11,oT 12,oF 13,oF 14],[8],by kernel_rfl,gx_ ?_⟩))
   refine ae ?_ rfl;exact wf_ @ao
  ·rw[if_neg h0];unfold lh;rw[decide_eq_false h0];obtain⟨f,hf⟩: ∃f:UInt8->aF,f=fun to=>{ pMsg A 11 to with hops:=m.hops-1,origin:=m.origin,table:=m.table,marks:=m.marks,ids:=m.ids }:=⟨_,rfl⟩
   have hfe: ∀to,encMg (f to)=[.v (.int .u8 11),.v (.int .u8 A.node.toNat),.v (.int .u16 A.inc.toNat),.v (.int .u8 to.toNat),.fz 4 [],.fz 3 (m.table.map aP),.v (.int .u8 0),.v (.int .u16 0),.v (.int .u32 0),.fz 1 [],.fz 1 [],.v (.int .u8 (m.hops-1).toNat),.v (.int .u8 m.origin.node.toNat),.v (.int .u16 m.origin.inc.toNat),.v (.int .u32 m.origin.seq.toNat),.fz 3 (m.marks.map aN),.fz 3 (m.ids.map aO)]:=fun to=>by rw[hf];rfl
   rw[<-hf];clear hf;have kmm:=fun to=>kI A 11 to
   have kc1:=dY (m.table.map aP) (by rw[List.length_map];omega)
   have kc2:=ij (m.marks.map aN) (by rw[List.length_map];omega)
   have kc3:=aac (m.ids.map aO) (by rw[List.length_map];omega)
   refine gf_ h0 ?_;refine im_ Tryz.func257 [] (g2_ ?_);refine g2_ ?_;refine .inl ⟨[oF 0,oF 5,oF 10,oF 18,oF 1,oF 6,oF 11,oF 2,oF 7,oF 12,oF 3,oF 8,oF 13,oF 9,oF 14,oF 15,oT 4,oF 16,oF 17],by kernel_rfl,gx_ ?_⟩
   refine cw_ kl (g2_ ?_);refine ak7 (aH A) m.frm m.origin.node (by omega) (fun w hw=>?_) ?_
   ·have w0:=hw 0 (by omega)
    have w2:=hw 2 (by omega)
    repeat first|simp-implicitDefEqProofs only[go_sem,ab,w0,w2]|with_reducible refine gl_ ?_
    first|done|trace_state
   ·have hWl:(dK (aH A) m.frm m.origin.node).length<=1000000:=Nat.le_trans (List.length_filter_le _ _) hll;generalize dK (aH A) m.frm m.origin.node=L at hWl ⊢;refine gx_ ?_;refine aw L.length (fun k=>[]) (fun _=>[]) (fun k=>[(6,.arr 60 17 ((S++(L.take k).map f).map encMg) false),(3,.arr 5 1 (L.map aC) false),(0,.var 144 (aB c++(ak A++(encMg m++[.fz 1 (dr.map aI),.rf 6 0 (S++(L.take k).map f).length,.v (.slice none 0 0)]))))]) 7 (fun _=>True) (aa [(6,.to 2)] ?_) trivial (fun g k=>ws_) (by omega) (fun g=>ws_) (fun k hk _=>?_) (fun _=>?_)
    ·refine x1_ hto ?_
     first|done|rfl|exact⟨rfl,rfl⟩
    ·have hg:(L.map aC)[k]? =some [.v (.int .u8 L[k].toNat)]:=by rw[List.getElem?_map,List.getElem?_eq_getElem hk];rfl
     have hsn:S++(L.take (k+1)).map f=(S++(L.take k).map f)++[f L[k]]:=by rw[List.take_add_one,List.getElem?_eq_getElem hk,List.map_append,List.append_assoc];rfl
     have hsl:(S++(L.take (k+1)).map f).length=(S++(L.take k).map f).length+1:=by rw[hsn,List.length_append];rfl
     have hsl2:(S++(L.take k).map f).length<=4000000:=by rw[List.length_append,List.length_map,List.length_take];omega
     have kk:=kmm L[k];have hfk:=hfe L[k];generalize S++(L.take k).map f=X at hsn hsl hsl2;generalize f L[k]=x at hsn hfk;refine gf_ hg ?_;refine cw_ kk ?_
     repeat first|simp-implicitDefEqProofs only[go_sem,ab,pMsg,zEvt,List.map_nil]|with_reducible first|refine gl_ ?_|refine ga_ ?_|refine gn_ ?_
     refine cw_ kc1 (g2_ ?_);refine cw_ kc2 (g2_ ?_);refine cw_ kc3 (g2_ ?_);refine .inl ⟨[oF 0,oF 1,oF 5,oF 2,oF 3,oF 4,oT 6,oF 7,oF 8,oF 9,oF 10],by kernel_rfl,gx_ ?_⟩
     refine⟨k+1,aa [(6,.to 8)] ?_,rfl⟩;refine x1_ (c3_ hsn hsl hto) ?_
     first|done|exact congrArg (fun z=>List.map encMg X++[z]) hfk|trace_state
    ·rw[List.take_of_length_le (Nat.le_refl L.length)];have hsl3:(S++L.map f).length<=4000000:=by rw[List.length_append,List.length_map];omega
     generalize S++L.map f=X at hsl3 ⊢;clear km2;have km2:=km3;exact q2_ km2
end Go.Proofs.YtmhmahcdanclnaaGreat.V
namespace Go.Proofs.YtmhmahcdanclnaaGreat.V
open Go.Eng
section
variable {c:an} {nd:UInt8} {p q:af} {m:aF} {dr:List UInt32} {k:Int} {e:GEvt}
theorem sZ(h:az c=true):0<=c.hops/\c.hops<=12/\1<=c.patience/\c.patience<=255:=by grind [az,inR]
theorem aqR{t:List (List GMark)}(h:fP t):alC t:=⟨by have:=h.1;omega,h.2⟩
theorem agr(hc:az c=true)(hB:Bd c nd p):Con2 Tryz.prog 91 [.agg (ak p)] (· =a_ 5 1 ((aH p).map aC)):=by
 have h1:=nh hc hB;have h2:=hB.h.g.ok;have h:=abf p (by omega) (by omega) h2.succ h2.pred (show(bF p).length<=26 from iL hc hB)
 unfold a_;rw[List.length_map];exact h
theorem amn(hc:az c=true)(hcs: ∀s∈c.schema,okS s)(hB:Bd c nd p)(hE:Ew c p k)(hk:k<=1000000000)(hdr:dr.length<=4000000):
  Con2 Tryz.prog 35 [.agg (aB c),.agg (ak p),.fz 1 (dr.map aI)] (· =plR (.tup [.agg (ak (gI c p dr).1),.fz 17 ((gI c p dr).2.map encMg)])):=by
 have hr:=bJ hc;have h1:Bd c nd (oU p):=afG hc hB hE;have g:Pl1 p (oU p):=(qF (p:=p)).1
 have key:p.up=true->Bd c (oU p).node (ay c (bQ c (oU p)) [])/\Bd c (oU p).node (dy c (ay c (bQ c (oU p)) []) dr).1:=fun hu=>by
  have s1:=(aeY h1).meet hc (by rw[g.up];exact hu) fT jD (ms:=[]) iv
  exact⟨s1.bd,(akl (dr:=dr) hc s1.bd (by rw[s1.up,g.up,hu])).1⟩
 have hq:p.up=true->Bd c nd (gK c p dr).1:=fun hu=>by
  have s:=oE (dr:=dr) hc h1 (by rw[g.up];exact hu)
  have:=s.bd;rw[h1.node]at this;exact this
 have hq2:p.up=true->Bd c nd (mK (gK c p dr).1):=fun hu=>by
  have hq:=hq hu;unfold mK;generalize (gK c p dr).1=q at hq
  exact⟨⟨⟨⟨hq.h.ok.filter,hq.h.ok.view,hq.h.ok.near,hq.h.ok.succ,hq.h.ok.pred,hq.h.ok.sent,hq.h.ok.table,hq.h.ok.heard,hq.h.ok.rows,hq.h.ok.reports,hq.h.ok.evs,hq.h.ok.pulls⟩,hq.h.g.filter,hq.h.g.view,hq.h.g.near,hq.h.g.succ,hq.h.g.pred,hq.h.g.table⟩,hq.h.rs,hq.h.v8,hq.h.vw⟩,
   ⟨hq.win.table,hq.win.rows,hq.win.heard,hq.win.view,hq.win.near,hq.win.cur,hq.win.ovl,hq.win.ring⟩,hq.node,hq.ws,hq.f8,hq.dn⟩
 refine ah5 c p dr hB.h.ok (aqR hB.h.rs) ⟨hE.collected.1,by have:=hE.collected.2;omega⟩ (fun hu=>?_) (fun hu=>Nat.le_trans abe (by omega)) (fun hu=>(hq hu).h.ok) (fun hu=>by have:=(hq hu).win.rows;omega) (fun hu=>abB hc (hq2 hu)) (fun hu=>Nat.le_trans (gY hc (hq2 hu)) (by omega))
 exact ak3 c (oU p) dr _ (by omega) hcs h1.h (by rw[g.up];exact hu) (by omega) hdr h1.ws (abB hc (key hu).2) (Nat.le_trans (gY hc (key hu).2) (by omega))
  (ae7 (key hu).1.h.v8 (by have:=(nh hc (key hu).1).1;omega) (key hu).1.f8) (key hu).1.h.v8 h1.f8
theorem kN(hc:az c=true)(hnd:(nd.toNat:Int)<c.nodes)(hB:Bd c nd p)(hE:Ew c p k)(hk:k<=1000000000)(hdr:dr.length<=4000000){vals:List Int}{data:List UInt8}(hv:vals.length<=4000000)(hd:data.length<=4000000):
  Con2 Tryz.prog 32 [.agg (aB c),.agg (ak p),.fz 1 (vals.map bP),.fz 1 (data.map aC),.fz 1 (dr.map aI)] (· =plR (.tup [.agg (ak (aT c p vals data dr).1),.agg (aE (aT c p vals data dr).2.1),.v (.bool (aT c p vals data dr).2.2.1),.fz 17 ((aT c p vals data dr).2.2.2.1.map encMg),.v (.int .i64 (aT c p vals data dr).2.2.2.2)])):=by
 have hr:=bJ hc;have hh:=sZ hc;have h1:=nh hc hB;have h2:=hB.h.g.ok;have hw:=hB.win.rows;have hn:=hB.node;refine xZ c p vals data dr hB.h.ok (by omega) hv hd hdr (by rw[hn];omega) ⟨hE.evicted.1,by have:=hE.evicted.2;omega⟩ (by omega) (by omega) (fun b ev=>?_) (Nat.le_trans (gY hc hB) (by omega))
 exact ae1 (ib p b ev) (show p.view.length<=300 by omega) (show p.near.length<=300 by omega) h2.succ h2.pred (show(bF p).length<=26 from iL hc hB)
theorem ag4:(bS c q m).1.view=q.view/\(bS c q m).1.near=q.near/\(bS c q m).1.ring=q.ring:=by
 unfold bS;split
 ·exact⟨rfl,rfl,rfl⟩
 split
 ·exact⟨rfl,rfl,rfl⟩
 split
 ·exact⟨rfl,rfl,rfl⟩
 split
 ·exact⟨rfl,rfl,rfl⟩
 ·show(au c q m.origin.node m.origin.inc).1.view=_/\(au c q m.origin.node m.origin.inc).1.near=_/\(au c q m.origin.node m.origin.inc).1.ring=_;unfold au;split
  ·exact⟨rfl,rfl,rfl⟩
  ·split
   ·exact⟨rfl,rfl,rfl⟩
   ·split<;>exact⟨rfl,rfl,rfl⟩
structure x8(m:aF):Prop where
 mg:okMg m
 ev:m.ev.vals.length<=1048576/\m.ev.data.length<=1048576
 marks:m.marks.length<=1048576
 ids:m.ids.length<=500000
theorem ik(hc:az c=true)(hcs: ∀s∈c.schema,okS s)(hB:Bd c nd p)(hE:Ew c p k)(hk:k<=1000000000)(hdr:dr.length<=4000000)(hm:x8 m):
  Con2 Tryz.prog 31 [.agg (aB c),.agg (ak p),.agg (encMg m),.fz 1 (dr.map aI)] (· =plR (.tup [.agg (ak (bA c p m dr).1),.fz 17 ((bA c p m dr).2.1.map encMg),.fz 5 ((bA c p m dr).2.2.map aE)])):=by
 have hr:=bJ hc;have hh:=sZ hc;have hb:=eB hc
 by_cases hkk:m.kind=10\/m.kind=11\/m.kind=12
 case neg=>
  have e1:bA c p m dr=((gr dr c p m).1,(gr dr c p m).2,[]):=by unfold bA;rw[if_pos hkk]
  rw[e1];exact yK c p m dr _ _ hkk (take_all c p m dr (by omega) hcs hB.h hm.mg hdr hB.ws)
 by_cases hun:p.up=false\/m.to≠p.node
 ·have e1:bA c p m dr=(p,[],[]):=by unfold bA;rw[if_neg (fun h=>h hkk),if_pos hun]
  rw[e1];exact aim c p m dr hB.h.ok hkk hun
 have hu:p.up=true:=by cases h:p.up with|true=>rfl|false=>exact absurd (.inl h) hun
 have hto:m.to=p.node:=Classical.byContradiction fun h=>hun (.inr h)
 have s1:=(hB.go.hear m.frm m.inc).meet hc hu fT jD (ms:=[]) iv;have hE1:=hE.ev ((eh (c:=c) (p:=p) m.frm m.inc).trans (dh (c:=c) []));rcases hkk with h|h|h
 ·have hA:=jS (e:=m.ev) hc s1.bd hE1;exact acf c p m dr (by omega) hcs hB.h h hu hto ⟨by have:=hm.ev.1;omega,by have:=hm.ev.2;omega⟩ ⟨hE.passed.1,by have:=hE.passed.2;omega⟩ hdr (by omega) hA.h.g (agr hc hA) (Nat.le_trans (gY hc hA) (by omega))
 ·have hA:=(zh (m:=m) hc s1.bd hE1).1;have v:=ag4 (c:=c) (q:=ay c (au c p m.frm m.inc).1 []) (m:=m);have h1:=nh hc s1.bd;have h2:=iL hc s1.bd;have eL:bF (bS c (ay c (au c p m.frm m.inc).1 []) m).1=bF (ay c (au c p m.frm m.inc).1 []):=by unfold bF;rw[v.1,v.2.1,v.2.2]
  have eN:aH (bS c (ay c (au c p m.frm m.inc).1 []) m).1=aH (ay c (au c p m.frm m.inc).1 []):=by unfold aH;rw[eL]
  have hL:=abf (bS c (ay c (au c p m.frm m.inc).1 []) m).1 (by rw[v.1];omega) (by rw[v.2.1];omega) hA.h.ok.succ hA.h.ok.pred (by rw[eL];exact h2)
  refine xm c p m dr (by omega) hcs hB.h h hu hto (by have:=hm.ids;omega) (by have:=hE.pk.len;omega) (by omega) (by have:=hm.mg.table;omega) (by have:=hm.marks;omega) ?_ (by rw[eN];exact Nat.le_trans (gY hc s1.bd) (by omega)) s1.bd.h.vw hA.h.g
  unfold a_;rw[List.length_map];exact hL
 ·exact adH c p m dr (by omega) hcs hB.h h hu hto (by have:=hm.ids;omega)
