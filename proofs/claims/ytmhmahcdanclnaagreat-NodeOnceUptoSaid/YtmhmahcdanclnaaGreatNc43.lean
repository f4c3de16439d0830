import Derived.Test.YtmhmahcdanclnaaGreatNc42
set_option linter.unusedSectionVars false
set_option linter.unusedSimpArgs false
set_option linter.unusedVariables false
set_option maxRecDepth 10000
set_option maxHeartbeats 8000000
namespace Go.Proofs.YtmhmahcdanclnaaGreat.V
open Go.Eng
attribute [local go_sem] aR ah fzD plR aZ aO aP az aE an aC aT z8 z16 z32 z64 encMg aI bW aB dT aG List.set_cons_succ List.set_cons_zero
theorem aoL(w:Nat->Option Rn)(h:w 0=some (.to 0)):wkRow w (mpRow kv8 nFns) (some (mpRow kv8 nFns)):=by
 exact wf_ (c3_ @mpRow.eq_1 @nFns.eq_1 h)
theorem adN(c:ao)(p:af)(m:aJ)(dr:List UInt32)(hc:c.schema.length<=4)(hcs: ∀s∈c.schema,okS s)(hp:okH p)(hk:m.kind=10)(hu:p.up=true)(hto:m.to=p.node)
  (he:m.ev.vals.length<=4000000/\m.ev.data.length<=4000000) (hps:0<=p.passed/\p.passed<=1000000000) (hdr:dr.length<=4000000) (hsw:0<=c.swap/\c.swap<=1000000)
  (hgA:okG (aA c (aD c (ax c p m.frm m.inc).1 []) m.ev).1)
  (kl:Con2 Tryz.prog 91 [.agg (an (aA c (aD c (ax c p m.frm m.inc).1 []) m.ev).1)] (· =aZ 5 1 ((aQ (aA c (aD c (ax c p m.frm m.inc).1 []) m.ev).1).map aB))) (hll:(aQ (aA c (aD c (ax c p m.frm m.inc).1 []) m.ev).1).length<=1000000):
  Con2 Tryz.prog 31 [.agg (aE c),.agg (an p),.agg (encMg m),.fz 1 (dr.map aG)] (· =plR (.tup [.agg (an (bN c p m dr).1),.fz 17 ((bN c p m dr).2.1.map encMg),.fz 5 ((bN c p m dr).2.2.map aC)])):=by
 refine Con2.ofEmb ?_;have kf:=ig c p hp.ok;have kh:=ss c p m.frm m.inc hp.ok hp.rs;have hq:=dk (c:=c) hp m.frm m.inc;have hpq:(ax c p m.frm m.inc).1.passed=p.passed:=(eM (c:=c) (p:=p) m.frm m.inc).passed
 have hN:bN c p m dr=if (ax c p m.frm m.inc).2=false then ((ax c p m.frm m.inc).1,[],[])else (aD c (ij c (aD c (ax c p m.frm m.inc).1 []) m dr).1 [],(ij c (aD c (ax c p m.frm m.inc).1 []) m dr).2.1,(ij c (aD c (ax c p m.frm m.inc).1 []) m dr).2.2):=by
  unfold bN;rw[if_neg (by rw[hk];decide),if_neg (by rw[hu,hto];simp)]
  simp only[hk];rfl
 rw[hN];clear hN;generalize ax c p m.frm m.inc=Q at kh hq hgA kl hll hpq ⊢;obtain⟨q,b⟩:=Q;simp only at kh hq hgA kl hll hpq ⊢;have km:=ahw c q [] hc hcs hq.g ⟨by simp,by simp⟩ (by simp)
 have hg2:=jz (c:=c) (l:=[]) hq.g ⟨by simp,by simp⟩ (by simp)
 have hrq:(aD c q []).rows=q.rows:=rfl
 have hps:0<=(aD c q []).passed/\(aD c q []).passed<=1000000000:=by
  show 0<=q.passed/\q.passed<=1000000000;rw[hpq];exact hps
 have km2:=gZ c (aD c q []) [] hc hcs hg2 ⟨by simp,by simp⟩ (by simp)
 have km3:=gZ c (aA c (aD c q []) m.ev).1 [] hc hcs hgA ⟨by simp,by simp⟩ (by simp)
 rw[<-hrq]at km;generalize aD c q []=r at km km2 km3 hg2 hgA kl hll hps ⊢;clear hrq hpq;have hp:=hp.ok;refine(mw c p m dr _).2 ?_;dsimp only[mw];rw[show dK nFns m.kind=some (.fn 153 [.pt 0 0] [])by rw[hk];rfl]
 refine x0_ ?_;refine cw_ kf (g2_ ?_);rw[hu,hto];refine gx_ ?_;refine cx_ kh (wg_ hu hto) (g2_ ?_);cases b with
 |false=>
  refine g2_ ?_;refine ae ?_ rfl;exact wg_ hu hto
 |true=>
 rw[if_neg (by decide)]
 refine g2_ ?_;refine cw_ km (g2_ ?_);refine il_ Tryz.func153 [] ?_;refine Vc2.sq (g2_ ?_)
 refine Vc2.seqJ (γ:=Bool) (fun g=>bif g then
   ⟨[(0,.d (.pt 0 0)),(2,.loc 2 0),(3,.loc 3 0),(4,.d (.v (.bool true))),(5,.d (.v (.bool (eZ r.filter m.ev.vals))))],[(2,⟨aC m.ev,56⟩),(3,⟨kE (aA c r m.ev).1 r.rows.length,49⟩)],
    [(3,.arr 178 5 ((aA c r m.ev).1.pulls.map aT) false),(2,.arr 84 3 ((aA c r m.ev).1.rows.map az) false),(0,.var 144 (aE c++((an r).set 24 (.rf 2 0 r.rows.length)++(encMg m++[.fz 1 (dr.map aG),.v (.slice none 0 0),.v (.slice none 0 0)]))))],4,3⟩
  else ⟨[(0,.d (.pt 0 0)),(4,.d (.v (.bool false)))],[],[(2,.arr 84 3 (r.rows.map az) false),(0,.var 144 (aE c++((an r).set 24 (.rf 2 0 r.rows.length)++(encMg m++[.fz 1 (dr.map aG),.v (.slice none 0 0),.v (.slice none 0 0)]))))],3,3⟩)
  (fun g=>bif g then r.up=true/\jk c r m.ev=true else r.up=false\/jk c r m.ev=false) ?_ (fun g hg=>?_)
 ·refine g2_ ?_;refine .inr (.inl ⟨(.fl 0 (.fl 4 (.fl 8 (.fl 1 (.fl 5 (.fl 2 (.fl 6 (.fl 3 (.fl 7 (.eff 9 false (.fl 10 (.fl 11 (.fl 12 (.fl 13 (.eff 14 true (.eff 15 false (.fl 16 (.fl 17 .done)) .no) .no))))) (.eff 14 true (.eff 9 false (.fl 10 (.fl 11 (.fl 12 (.fl 13 (.eff 15 false (.fl 16 (.fl 17 .done)) .no))))) .no) .no))))))))))),by kernel_rfl,g2_ ?_⟩)
  repeat' (first
   |(with_reducible refine And.intro ?_ ?_)
   |(refine ajU c r m.ev hg2.ok (by omega) he hps (fun w w0 w1 w2=>⟨?_,aoL w w0⟩) (fun w1=>?_) (fun w1 w2=>?_);(focus (repeat first|simp-implicitDefEqProofs only[go_sem,ab,w0,w1,w2]|with_reducible refine gl_ ?_;done))))
  all_goals
   repeat first|simp-implicitDefEqProofs only[go_sem,ab,kE]|with_reducible first|refine gl_ ?_|refine ga_ ?_|refine gn_ ?_
   first
    |(refine⟨true,aa [] ?_,⟨w1,w2⟩⟩;(focus (repeat first|simp-implicitDefEqProofs only[go_sem,ab,hto,cond_true,kE,List.append_eq,List.cons_append,List.nil_append]|with_reducible refine gl_ ?_;done)))
    |(refine⟨false,aa [] ?_,w1⟩;(focus (repeat first|simp-implicitDefEqProofs only[go_sem,ab,hto,cond_false,List.append_eq,List.cons_append,List.nil_append]|with_reducible refine gl_ ?_;done)))
    |trace_state
 ·cases g with
  |false=>
   have hP:ij c r m dr=(r,[],[]):=by unfold ij;simp only;rw[show aA c r m.ev=(r,false,false)from if_pos hg];rfl
   rw[hP];simp only[cond_false];refine Vc2.of ?_;exact q2_ km2
  | true=>
   have hg:r.up=true/\jk c r m.ev=true:=hg;have hA2:(aA c r m.ev).2=(true,eZ r.filter m.ev.vals):=by rw[lx hg.1 hg.2]
   have hAn:(aA c r m.ev).1.rows.length=r.rows.length:=pl_accept.rows;obtain⟨S,hS⟩: ∃S,S=(if m.hops=0 then []else gd c (aA c r m.ev).1 m.ev (m.hops-1) (dH (aQ (aA c r m.ev).1) m.frm m.ev.id.node) dr):=⟨_,rfl⟩
   obtain⟨G,hG⟩: ∃G,G=if eZ r.filter m.ev.vals=true then [m.ev]else []:=⟨_,rfl⟩
   have hP:ij c r m dr=((aA c r m.ev).1,S,G):=by
    unfold ij;simp only[hA2];rw[if_neg (by decide),hS,hG]
   rw[hP];clear hP hA2;simp only[cond_true];generalize (aA c r m.ev).1=A at *;refine Vc2.sq ?_
   repeat first|simp-implicitDefEqProofs only[go_sem,ab,kE,List.append_eq,List.cons_append,List.nil_append]|with_reducible first|refine gl_ ?_|refine ga_ ?_|refine gn_ ?_
   refine Vc2.sq ?_
   repeat first|simp-implicitDefEqProofs only[go_sem,ab,kE,List.append_eq,List.cons_append,List.nil_append]|with_reducible first|refine gl_ ?_|refine ga_ ?_|refine gn_ ?_
   refine Vc2.seqJ (γ:=Unit) (fun _=>⟨[(0,.d (.pt 0 0)),(2,.loc 2 0)],[(2,⟨aC m.ev,56⟩)],
    [(4,.arr 56 5 (G.map aC) false),(3,.arr 178 5 (A.pulls.map aT) false),(2,.arr 84 3 (A.rows.map az) false),(0,.var 144 (aE c++(kE A A.rows.length++(encMg m++[.fz 1 (dr.map aG),.v (.slice none 0 0),.rf 4 0 G.length]))))],5,3⟩)
    (fun _=>True) ?_ (fun _ _=>?_)
   ·have kc:=jN m.ev he.1 he.2;cases hd:eZ r.filter m.ev.vals with
    |false=>
     rw[if_neg (by rw[hd];decide)]at hG
     refine g2_ ?_;refine⟨(),aa [(4,.nil 5)] ?_⟩
     repeat first|simp-implicitDefEqProofs only[go_sem,ab,hG,hto,hAn,kE,List.map_nil,List.length_nil,List.append_eq,List.cons_append,List.nil_append]|with_reducible refine gl_ ?_
     first|done|rfl|exact⟨rfl,rfl⟩
    |true=>
     rw[if_pos hd]at hG;refine g2_ ?_;refine .inl ⟨[oF 0,oF 1,oF 5,oF 2,oF 3,oF 4,oT 6,oT 7,oF 8,oF 9,oF 10,oF 11],by kernel_rfl,g2_ ?_⟩
     refine cw_ kc (g2_ ?_);refine⟨(),aa [(4,.to 5)] ?_⟩
     repeat first|simp-implicitDefEqProofs only[go_sem,ab,hG,hto,hAn,kE,List.map_nil,List.map_cons,List.length_nil,List.length_cons,List.append_eq,List.cons_append,List.nil_append]|with_reducible refine gl_ ?_
     first|done|rfl|exact⟨rfl,rfl⟩
   ·have kL:=uU m.hops;refine Vc2.sq ?_
    repeat first|simp-implicitDefEqProofs only[go_sem,ab,kE,List.append_eq,List.cons_append,List.nil_append]|with_reducible first|refine gl_ ?_|refine ga_ ?_|refine gn_ ?_
    refine cw_ kL (g2_ ?_);refine Vc2.of ?_;refine g2_ ?_
    by_cases h0:m.hops=0
    ·rw[if_pos h0]at hS;rw[hS];rw[decide_eq_true h0];refine g2_ ?_;clear km2;have km2:=km3;refine .inl ⟨[oF 0,oF 1,oF 2,oF 3,oF 4,oF 5,oF 6,oF 7,oF 8,oF 9],by kernel_rfl,gx_ ?_⟩
     refine cw_ km2 (gx_ ?_);refine .inr (.inr (.inl ⟨[oF 0,oF 4,oF 8,oF 1,oF 5,oF 9,oF 2,oF 6,oF 10,oF 3,oF 7,oF 11,oT 12,oF 13,oF 14],[8],by kernel_rfl,gx_ ?_⟩))
     refine ae ?_ rfl;exact wf_ @ak
    ·rw[if_neg h0]at hS;have kp:=rQ c A m.ev (m.hops-1) (dH (aQ A) m.frm m.ev.id.node) dr he (Nat.le_trans (List.length_filter_le _ _) (by omega)) hdr hsw
     rw[<-hS]at kp;rw[decide_eq_false h0];refine g2_ ?_;refine .inl ⟨[oF 0,oF 5,oF 10,oF 1,oF 6,oF 11,oF 2,oF 7,oF 12,oF 3,oF 8,oF 9,oT 4,oF 13,oF 14],by kernel_rfl,?_⟩
     repeat first|simp-implicitDefEqProofs only[go_sem,ab,kE,List.append_eq,List.cons_append,List.nil_append]|with_reducible first|refine gl_ ?_|refine ga_ ?_|refine gn_ ?_
     refine cx_ kl (by simp-implicitDefEqProofs only[go_sem,ab,kE,ak,List.length_map]) (g2_ ?_)
     refine alK (aQ A) m.frm m.ev.id.node (by omega) (fun w hw=>?_) ?_
     ·have w0:=hw 0 (by omega)
      have w2:=hw 2 (by omega)
      have w3:=hw 3 (by omega)
      have w4:=hw 4 (by omega)
      repeat first|simp-implicitDefEqProofs only[go_sem,ab,w0,w2,w3,w4]|with_reducible refine gl_ ?_
      first|done|trace_state
     ·refine g2_ ?_;refine .inl ⟨[oF 0,oF 1,oF 5,oF 9,oF 10,oF 11,oF 12,oF 2,oF 6,oF 13,oF 3,oF 7,oF 14,oF 4,oF 8,oF 15,oF 16,oF 17,oF 18,oF 19],by kernel_rfl,gf_ @ak ?_⟩
      refine cx_ kp (wg_ @ak h0) (g2_ ?_);clear km2;have km2:=km3;refine .inl ⟨[oF 0,oF 1,oF 2,oF 3,oF 4,oF 5,oF 6,oF 7,oF 8,oF 9],by kernel_rfl,gx_ ?_⟩
      refine cw_ km2 (gx_ ?_);refine .inr (.inr (.inl ⟨[oF 0,oF 4,oF 8,oF 1,oF 5,oF 9,oF 2,oF 6,oF 10,oF 3,oF 7,oF 11,oT 12,oF 13,oF 14],[8],by kernel_rfl,gx_ ?_⟩))
      refine ae ?_ rfl;exact wf_ @ak
end Go.Proofs.YtmhmahcdanclnaaGreat.V
namespace Go.Proofs.YtmhmahcdanclnaaGreat.V
open Go.Eng
attribute [local go_sem] aR ah fzD plR aZ aO aP az aE an aC aT z8 z16 z32 z64 encMg List.set_cons_succ List.set_cons_zero
theorem ahC(c:ao)(p:af)(node:UInt8)(inc:UInt16)(hp:okP p)(hr:fX p.reports):Con2 Tryz.prog 84 [.agg (aE c),.agg (an p),.v (.int .u8 node.toNat),.v (.int .u16 inc.toNat)]
  (· =⟨.tup [.agg ((an (ax c p node inc).1).set 22 (.rf 0 0 p.heard.length)),.v (.bool (ax c p node inc).2)],[(0,.arr 57 3 (p.heard.map aO) false)],1⟩):=by
 have hi:=node.toNat_lt;have hj:=p.node.toNat_lt;have htb:=hp.table;have kf:=qn p hp;refine en_ Tryz.func84 [.cell 8 49,.tmp 9] (g2_ ?_);refine g2_ ?_;refine .inr (.inr (.inl ⟨[oF 0,oF 1,oF 3,oF 4,oT 2,oF 5,oF 6,oF 7,oF 8,oF 9],[],by kernel_rfl,g2_ ?_⟩))
 refine cw_ kf (g2_ ?_);refine im_ Tryz.func156 [.cell 8 49,.tmp 9] (g2_ ?_);refine gf_ @ar ?_
 by_cases h1:c.nodes<=(node.toNat:Int)
 ·have e:ax c p node inc=(p,false):=if_pos (.inl h1);rw[e,decide_eq_true h1];refine gf_ @ar ?_;exact⟨_,rfl,aa [(0,.to 0)] ws_⟩
 rw[decide_eq_false h1];refine gf_ @ar ?_
 by_cases h2:p.table.length<=node.toNat
 ·have e:ax c p node inc=(p,false):=if_pos (.inr (.inl h2));rw[e,decide_eq_true (show(p.table.length:Int)<=(node.toNat:Int)by omega)]
  refine gf_ @ar ?_;exact⟨_,rfl,aa [(0,.to 0)] ws_⟩
 rw[decide_eq_false (show ¬(p.table.length:Int)<=(node.toNat:Int)by omega)]
 refine gf_ @ar ?_;rw[cH]
 by_cases h3:node=p.node
 ·have e:ax c p node inc=(p,false):=if_pos (.inr (.inr (.inl h3)));rw[e,decide_eq_true h3];refine gf_ @ar ?_;exact⟨_,rfl,aa [(0,.to 0)] ws_⟩
 rw[decide_eq_false h3];refine gf_ @ar ?_;rw[nK];refine ba (fun h4=>?_) (fun h4=>?_)
 ·have e:ax c p node inc=(p,false):=if_pos (.inr (.inr (.inr h4)));rw[e];refine gf_ @ar ?_;exact⟨_,rfl,aa [(0,.to 0)] ws_⟩
 have hk:node.toNat<p.table.length:=by omega
 refine gf_ (c2_ @ar (mE_ hk)) ?_
 have e0:ax c p node inc=if inc<p.table[node.toNat].inc\/(inc=p.table[node.toNat].inc/\p.table[node.toNat].state=3)then (p,false)
   else ({ p with table:=iz p.table node inc,reports:=if p.table[node.toNat].inc<inc then gj p.reports node else p.reports },true):=by
  unfold ax;rw[if_neg (by simp[h1,h2,h3,h4]),List.getElem?_eq_getElem hk]
 rw[e0];have hth:=sV p.table node inc htb;generalize p.table[node.toNat]=m
 by_cases h5:(inc.toNat:Int)<(m.inc.toNat:Int)
 ·have h6:inc<m.inc:=by rw[UInt16.lt_iff_toNat_lt];omega
  rw[if_pos (.inl h6),decide_eq_true h5];refine gf_ @ar ?_;exact⟨_,rfl,aa [(0,.to 0)] ws_⟩
 have h6: ¬inc<m.inc:=by rw[UInt16.lt_iff_toNat_lt];omega
 rw[decide_eq_false h5];refine gf_ @ar ?_;rw[ed]
 by_cases h7:inc=m.inc/\m.state=3
 ·rw[if_pos (.inr h7),decide_eq_true h7.1];refine gf_ @ar ?_;rw[aam,decide_eq_true h7.2];refine gf_ @ar ?_;exact⟨_,rfl,aa [(0,.to 0)] ws_⟩
 rw[if_neg (by simp[h6];exact fun a b=>h7 ⟨a,b⟩)]
 by_cases hA:inc=m.inc
 ·have hs3: ¬m.state=3:=fun h=>h7 ⟨hA,h⟩
  have h8: ¬(m.inc.toNat:Int)<(inc.toNat:Int):=by rw[hA];omega
  have h9: ¬m.inc<inc:=by rw[UInt16.lt_iff_toNat_lt];omega
  rw[decide_eq_true hA,if_neg h9];refine gf_ @ar ?_;rw[aam,decide_eq_false hs3];refine gf_ @ar ?_;refine ce_ hth (gf_ @ar ?_);rw[decide_eq_false h8];refine gf_ @ar ?_;exact⟨_,rfl,aa [(0,.to 0)] ws_⟩
 ·have h8:(m.inc.toNat:Int)<(inc.toNat:Int):=by
   have:m.inc.toNat≠inc.toNat:=fun h=>hA (UInt16.toNat_inj.1 h.symm)
   omega
  have h9:m.inc<inc:=by rw[UInt16.lt_iff_toNat_lt];omega
  rw[decide_eq_false hA,if_pos h9];refine gf_ @ar ?_;refine ce_ hth (gf_ @ar ?_);rw[decide_eq_true h8];refine gf_ @ar ?_;refine ce_ (jP p.reports node hr) (gf_ @ar ?_);exact⟨_,rfl,aa [(0,.to 0)] (wf_ @ar)⟩
attribute[local go_sem] aI bW aB dT aG SeqW2.eq_1 cond_false
@[local go_sem] theorem asw:yI Tryz.prog 5=true:=by kernel_rfl
theorem ajv(L:List UInt8)(a b:UInt8)(hl:L.length<=4000000){R0 R2:Row}{ρ σ nb K}(hR: ∀r:Nat->Option Rn,(∀i,i<3->r i=some (.to i))->wkRow r R0 (some R0)/\wkRow r R2 (some R2))
  (hk:K (.rf 3 0 (dH L a b).length) ⟨ρ,σ,[(5,.var 5 [.v (.int .u8 b.toNat)]),(4,.var 5 [.v (.int .u8 a.toNat)]),(3,.arr 5 1 ((dH L a b).map aB) false),(2,R2),(0,R0)],6,nb⟩):
  CallS Tryz.prog false 251 [.rf 3 0 L.length,.v (.int .u8 a.toNat),.v (.int .u8 b.toNat)] ⟨ρ,σ,[(3,.arr 5 1 (L.map aB) false),(2,R2),(0,R0)],4,nb⟩ K:=by
 have hQ:=hR (rnOf [] 6) (fun i hi=>by
  have:i<6:=by omega
  simp only[rnOf,decide_eq_true this,cond_true];rfl)
 obtain⟨q,hq⟩: ∃q:UInt8->Bool,q=fun x=>decide (x=a)||decide (x=b):=⟨_,rfl⟩
 have kq: ∀x,Con2 Tryz.prog 317 [.v (.int .u8 x.toNat),.fp [.v (.int .u8 a.toNat)],.fp [.v (.int .u8 b.toNat)]] (· =plR (.v (.bool (q x)))):=fun x=>by rw[hq];exact uK a b x
 have hU:dH L a b=L.filter fun x=> !q x:=by rw[hq];rfl
 rw[hU]at hk;clear hq hU hR;have hdf:=x0 (q:=q) (l:=L);have hdn:=qG (q:=q) (l:=L);have hFl:(L.filter fun x=> !q x).length<=4000000:=Nat.le_trans (List.length_filter_le _ _) hl
 refine im_ Tryz.func251 [.tmp 6] (g2_ ?_);refine g2_ ?_;refine im_ Tryz.func316 [.tmp 4] (g2_ ?_);refine g2_ ?_;refine CallS.eq (yP 317 [.fp [.v (.int .u8 a.toNat)],.fp [.v (.int .u8 b.toNat)]] L q hl (fun _=>ws_) ws_ (fun _=>ws_) (fun x _=>kq x)) (wf_ @ak) (.inr ws_) ?_
 cases hi:L.findIdx? q with
 |none=>
  have e1:(L.filter fun x=> !q x)=L:=List.filter_eq_self.2 fun x hx=>by simp[List.findIdx?_eq_none_iff.1 hi x hx]
  rw[show fH none= -1 from rfl]
  rw[e1]at hk;refine g2_ ?_;exact hk
 | some i=>
  obtain⟨hil,hib,hif⟩:=List.findIdx?_eq_some_iff_getElem.1 hi;have hbi:q L[i]=true:=hib
  have hF0: ∀x∈L.take i,q x=false:=fun x hx=>by
   obtain⟨j,hj,rfl⟩:=List.mem_take_iff_getElem.1 hx;have:=hif j (by omega)
   simpa using this
  obtain⟨d1,d2⟩:=oh hil hbi hF0;rw[show fH (some i)=((i:Nat):Int)from rfl]
  refine g2_ ?_;rw[show(((i:Nat):Int)== -1)=false from beq_eq_false_iff_ne.2 (by omega)]
  refine g2_ ?_;refine bu (γ:=Nat) (fun j=>[(6,.d (.v (.int .i64 (j:Nat)))),(5,.d (.v (.int .i64 (dfN q L j:Nat))))]) (fun _=>[]) (fun j=>[(5,.var 5 [.v (.int .u8 b.toNat)]),(4,.var 5 [.v (.int .u8 a.toNat)]),(3,.arr 5 1 ((dfR q L j).map aB) false),(2,R2),(0,R0)]) 6 (fun j=>i+1<=j/\j<=L.length/\dfN q L j<j) (fun j=>L.length-j) (i+1) (aa [] ?_) ⟨Nat.le_refl _,by omega,by omega⟩ (fun j hj=>?_)
  ·refine gf_ (c3_ d1 d2 hQ) ?_
   first|done|rfl|exact⟨rfl,rfl⟩
  ·obtain⟨j1,j2,j3⟩:=hj;have hdl:=s6 (q:=q) (l:=L) (j:=j);have hrl2:=qH (q:=q) j2
   by_cases hjl:j<L.length
   ·have hg:((dfR q L j).map aB)[j]? =some (aB L[j]):=by rw[List.getElem?_map,qL hjl];rfl
    refine gf_ hrl2 ?_;rw[decide_eq_true (show(j:Int)<(L.length:Int)by omega)]
    refine gg_ hg hrl2 ?_;refine CallS.eq (kq L[j]) ws_ (.inr ws_) ?_;refine g2_ ?_;cases hb:q L[j]with
    |true=>
     refine g2_ ?_;refine⟨j+1,aa [] ?_,⟨by omega,by omega,by rw[fy hjl hb];omega⟩,by omega⟩
     repeat first|simp-implicitDefEqProofs only[go_sem,ab,fy hjl hb,nP hjl hb,hQ]|with_reducible refine gl_ ?_
     first|done|rfl|exact⟨rfl,rfl⟩
    |false=>
     have hg2:((dfR q L j).map aB)[dfN q L j]? =some (aB (dfR q L j)[dfN q L j]):=aY (by omega)
     refine gg_ hg2 hrl2 ?_;refine⟨j+1,aa [] ?_,⟨by omega,by omega,by rw[fu hjl hb];omega⟩,by omega⟩
     repeat first|simp-implicitDefEqProofs only[go_sem,ab,fu hjl hb, <-nO hjl hb,List.map_set,hQ]|with_reducible refine gl_ ?_
     first|done|rfl|exact⟨rfl,rfl,rfl,rfl⟩|trace_state
   ·obtain rfl:j=L.length:=by omega
    refine gf_ hrl2 ?_;rw[decide_eq_false (show ¬(L.length:Int)<(L.length:Int)by omega)]
    refine gf_ hrl2 ?_;rw[Nat.sub_zero, <-List.map_take,hdf,hdn];exact hk
theorem zO(l:List (List DV))(hl:l.length<=5000000):Con2 Tryz.prog 323 [.fz 3 l] (· =plR (.fz 3 l)):=jw (fo (T:=58) Tryz.func323 (by kernel_rfl) (by kernel_rfl) rfl rfl Ty.elOf58 (by decide) l hl)
theorem af_(l:List GAsk)(x:GAsk)(most:Int):(yq l x most).length<=l.length+1:=by grind [yq,adD]
theorem adl(c:ao)(p:af)(n:UInt8)(i:UInt16):(ax c p n i).1.heard=p.heard:=by grind [ax]
theorem wN(c:ao)(p:af)(m:aJ)(dr:List UInt32)(hc:c.schema.length<=4)(hcs: ∀s∈c.schema,okS s)(hp:okH p)(hk:m.kind=11)(hu:p.up=true)(hto:m.to=p.node)
  (hids:m.ids.length<=500000) (hpl:p.pulls.length<=3000000) (hpat:0<=c.patience/\c.patience<=255) (htb:m.table.length<=4000000) (hmk:m.marks.length<=4000000) (kl:Con2 Tryz.prog 91 [.agg (an (bL c (aD c (ax c p m.frm m.inc).1 []) m).1)] (· =aZ 5 1 ((aQ (bL c (aD c (ax c p m.frm m.inc).1 []) m).1).map aB))) (hll:(aQ (bL c (aD c (ax c p m.frm m.inc).1 []) m).1).length<=1000000) (hVw:Vw (aD c (ax c p m.frm m.inc).1 []).node (aD c (ax c p m.frm m.inc).1 []).view) (hgA:okG (bL c (aD c (ax c p m.frm m.inc).1 []) m).1):
  Con2 Tryz.prog 31 [.agg (aE c),.agg (an p),.agg (encMg m),.fz 1 (dr.map aG)] (· =plR (.tup [.agg (an (bN c p m dr).1),.fz 17 ((bN c p m dr).2.1.map encMg),.fz 5 ((bN c p m dr).2.2.map aC)])):=by
 refine Con2.ofEmb ?_;have kf:=ig c p hp.ok;have kh:=ss c p m.frm m.inc hp.ok hp.rs;have hq:=dk (c:=c) hp m.frm m.inc
 have hN:bN c p m dr=if (ax c p m.frm m.inc).2=false then ((ax c p m.frm m.inc).1,[],[])else (aD c (bL c (aD c (ax c p m.frm m.inc).1 []) m).1 [],(bL c (aD c (ax c p m.frm m.inc).1 []) m).2,[]):=by
  unfold bN;rw[if_neg (by rw[hk];decide),if_neg (by rw[hu,hto];simp)]
  simp only[hk];rfl
 rw[hN];clear hN;have hqp:(ax c p m.frm m.inc).1.pulls=p.pulls:=(eM (c:=c) (p:=p) m.frm m.inc).pulls;generalize ax c p m.frm m.inc=Q at kh hq hVw hgA hqp kl hll ⊢;obtain⟨q,b⟩:=Q;simp only at kh hq hVw hgA hqp kl hll ⊢;have km:=gZ c q [] hc hcs hq.g ⟨by simp,by simp⟩ (by simp)
 have hg2:=jz (c:=c) (l:=[]) hq.g ⟨by simp,by simp⟩ (by simp)
 have hrs:fX (aD c q []).reports:=hq.rs;have hv8:ok8 (aD c q []).view:=⟨Nat.le_trans (List.length_filter_le _ _) hq.v8.1,fun d hd=>hq.v8.2 d (List.mem_filter.1 hd).1⟩
 have hrp:(aD c q []).pulls.length<=3000000:=by show q.pulls.length<=_;rw[hqp];exact hpl
 have hvw:Vw (aD c q []).node (aD c q []).view:=hVw;have km3:=gZ c (bL c (aD c q []) m).1 [] hc hcs hgA ⟨by simp,by simp⟩ (by simp)
 have km2:=gZ c (aD c q []) [] hc hcs hg2 ⟨by simp,by simp⟩ (by simp)
 generalize aD c q []=r at km km2 km3 hg2 hgA hrs hv8 hvw hrp kl hll ⊢;have hp:=hp.ok;refine(mw c p m dr _).2 ?_;dsimp only[mw];rw[show dK nFns m.kind=some (.fn 155 [.pt 0 0] [])by rw[hk];rfl]
 refine x0_ ?_;refine cw_ kf (g2_ ?_);rw[hu,hto];refine gx_ ?_;refine cx_ kh (wg_ hu hto) (g2_ ?_);cases b with
 |false=>
  refine g2_ ?_;refine ae ?_ rfl;exact wg_ hu hto
 |true=>
 rw[if_neg (by decide)]
 refine g2_ ?_;refine cw_ km (g2_ ?_);refine il_ Tryz.func155 [] ?_;refine Vc2.sq (g2_ ?_);refine Vc2.sq ?_;refine .inl ⟨[oF 0,oF 3,oF 1,oF 4,oF 2,oF 5,oF 6,oF 7,oF 8,oF 9,oF 10,oF 12,oF 11,oF 13,oF 14,oF 15,oF 16,oF 17,oF 18,oF 19,oF 20,oF 23,oF 21,oF 24,oF 22,oF 25,oF 26,oF 27,oF 28,oF 29,oF 30],by kernel_rfl,?_⟩
 have ho:=m.origin.node.toNat_lt;have hhe:=hg2.ok.heard;refine gx_ ?_
 by_cases h1:c.nodes<=(m.origin.node.toNat:Int)
 ·have hb:bL c r m=(r,[]):=if_pos (.inl h1);rw[decide_eq_true h1];refine g2_ ?_;rw[hb];exact q2_ km2
 rw[decide_eq_false h1];refine gx_ ?_;rw[cH]
 by_cases h2:m.origin.node=r.node
 ·have hb:bL c r m=(r,[]):=if_pos (.inr h2);rw[decide_eq_true h2];refine g2_ ?_;rw[hb];exact q2_ km2
 rw[decide_eq_false h2];refine gx_ ?_
 by_cases h3:r.heard.length<=m.origin.node.toNat
 ·have hb:bL c r m=(r,[]):=by unfold bL;rw[if_neg (by simp[h1,h2]),List.getElem?_eq_none h3]
  rw[decide_eq_true (show(r.heard.length:Int)<=(m.origin.node.toNat:Int)by omega)]
  refine g2_ ?_;rw[hb];exact q2_ km2
 rw[decide_eq_false (show ¬(r.heard.length:Int)<=(m.origin.node.toNat:Int)by omega)]
 have h3:m.origin.node.toNat<r.heard.length:=by omega
 have hN:bL c r m=if mW m.origin { r.heard[m.origin.node.toNat]with node:=m.origin.node }=false then (r,[])else if (ax c r m.origin.node m.origin.inc).2=false then (r,[])
   else ((nC c { bx { (ax c r m.origin.node m.origin.inc).1 with heard:=(ax c r m.origin.node m.origin.inc).1.heard.set m.origin.node.toNat m.origin } m.table with reports:=cf (bx { (ax c r m.origin.node m.origin.inc).1 with heard:=(ax c r m.origin.node m.origin.inc).1.heard.set m.origin.node.toNat m.origin } m.table).reports m.origin.node m.marks } m).1,
    (nC c { bx { (ax c r m.origin.node m.origin.inc).1 with heard:=(ax c r m.origin.node m.origin.inc).1.heard.set m.origin.node.toNat m.origin } m.table with reports:=cf (bx { (ax c r m.origin.node m.origin.inc).1 with heard:=(ax c r m.origin.node m.origin.inc).1.heard.set m.origin.node.toNat m.origin } m.table).reports m.origin.node m.marks } m).2++
    if m.hops=0 then []else tV (nC c { bx { (ax c r m.origin.node m.origin.inc).1 with heard:=(ax c r m.origin.node m.origin.inc).1.heard.set m.origin.node.toNat m.origin } m.table with reports:=cf (bx { (ax c r m.origin.node m.origin.inc).1 with heard:=(ax c r m.origin.node m.origin.inc).1.heard.set m.origin.node.toNat m.origin } m.table).reports m.origin.node m.marks } m).1 m):=by
  unfold bL;rw[if_neg (by simp[h1,h2]),List.getElem?_eq_getElem h3]
 have kn:=sh m.origin { r.heard[m.origin.node.toNat]with node:=m.origin.node };have kH:=ahC c r m.origin.node m.origin.inc hg2.ok hrs;have hhd:(ax c r m.origin.node m.origin.inc).1.heard=r.heard:=adl ..;refine g2_ ?_;refine Vc2.sq (g2_ ?_);refine .inl ⟨[oF 0,oF 5,oF 1,oF 6,oF 2,oF 3,oF 4,oF 7,oF 8,oT 9,oF 10],by kernel_rfl,gf_ (mE_ h3) ?_⟩
 refine Vc2.sq (g2_ ?_);refine Vc2.sq (g2_ ?_);refine cw_ kn ?_;clear kn;refine g2_ ?_;generalize mW m.origin { r.heard[m.origin.node.toNat]with node:=m.origin.node }=b4 at hN ⊢;cases b4 with
 |false=>
  have hb:bL c r m=(r,[]):=hN;refine g2_ ?_;rw[hb];exact q2_ km2
 |true=>
 rw[if_neg (by decide)]at hN
 refine g2_ ?_
 refine Vc2.seqJ (γ:=Unit) (fun _=>⟨[(0,.d (.pt 0 0)),(2,.loc 2 0),(4,.loc 4 0),(5,.d (.v (.bool (ax c r m.origin.node m.origin.inc).2)))],[(2,⟨aO m.origin,57⟩),(4,⟨(an (ax c r m.origin.node m.origin.inc).1).set 22 (.rf 2 0 r.heard.length),49⟩)],
  [(2,.arr 57 3 (r.heard.map aO) false),(0,.var 144 (aE c++(an r++(encMg m++[.fz 1 (dr.map aG),.v (.slice none 0 0),.v (.slice none 0 0)]))))],3,2⟩) (fun _=>True) ?_ (fun _ _=>?_)
 ·refine g2_ ?_;refine .inr (.inl ⟨(.fl 0 (.fl 4 (.fl 8 (.fl 10 (.fl 1 (.fl 5 (.fl 9 (.fl 11 (.fl 2 (.fl 6 (.fl 3 (.fl 7 (.eff 12 false (.fl 13 (.fl 14 (.fl 15 (.eff 16 true (.eff 17 false (.fl 18 .done) .no) .no)))) (.eff 16 true (.eff 12 false (.fl 13 (.fl 14 (.fl 15 (.eff 17 false (.fl 18 .done) .no)))) .no) .no)))))))))))))),by kernel_rfl,g2_ ?_⟩)
  repeat' (first
   |(with_reducible refine And.intro ?_ ?_)
   |(refine CallS.eqW kH ?_ (.inl ?_) ?_;(focus (simp-implicitDefEqProofs only[go_sem,ab];done));(focus (simp-implicitDefEqProofs only[go_sem,ab];done));refine g2_ ?_)
   |(refine⟨(),aa [] ?_⟩;(focus (repeat first|simp-implicitDefEqProofs only[go_sem,ab,hto,List.append_eq,List.cons_append,List.nil_append]|with_reducible refine gl_ ?_;done))))
 have okH2:=dk (c:=c) ⟨hg2,hrs,hv8,hvw⟩ m.origin.node m.origin.inc;have hhp:(ax c r m.origin.node m.origin.inc).1.pulls.length<=3000000:=by rw[(eM (c:=c) (p:=r) m.origin.node m.origin.inc).pulls];exact hrp
 generalize ax c r m.origin.node m.origin.inc=Q at hN hhd okH2 hhp ⊢;obtain⟨h,b5⟩:=Q;simp only at hN hhd okH2 hhp ⊢;refine Vc2.sq (gx_ ?_);cases b5 with
 |false=>
  have hb:bL c r m=(r,[]):=hN;refine g2_ ?_;rw[hb];exact q2_ km2
 |true=>
 rw[if_neg (by decide)]at hN
 refine g2_ ?_;have hmp:(r.heard.map aO).set m.origin.node.toNat [.v (.int .u8 m.origin.node.toNat),.v (.int .u16 m.origin.inc.toNat),.v (.int .u32 m.origin.seq.toNat)]=(r.heard.set m.origin.node.toNat m.origin).map aO:=by rw[List.map_set];rfl
 have hln:(r.heard.set m.origin.node.toNat m.origin).length=r.heard.length:=List.length_set;rw[hhd]at hN;generalize r.heard.set m.origin.node.toNat m.origin=Hs at hmp hln hN;have hpk:okP { h with heard:=Hs }:={ okH2.ok with heard:=by show Hs.length<=4000000;omega }
 have kle:=ace { h with heard:=Hs } m.table hpk (by have:=okH2.g.table;show h.table.length<=256;omega) htb okH2.rs
 have hr1:fX (bx { h with heard:=Hs } m.table).reports:=jE okH2.rs _;have krp:=ab3 (bx { h with heard:=Hs } m.table).reports m.origin.node m.marks hr1 hmk;have hP1r:(bx { h with heard:=Hs } m.table).rows=h.rows:=rfl;have hP1p:(bx { h with heard:=Hs } m.table).pulls=h.pulls:=rfl;generalize bx { h with heard:=Hs } m.table=P1 at hN kle krp hr1 hP1r hP1p;obtain⟨P2,hP2⟩: ∃P2:af,P2={ P1 with reports:=cf P1.reports m.origin.node m.marks }:=⟨_,rfl⟩;rw[<-hP2]at hN;have hprw:P2.rows.length<=4000000:=by rw[hP2];show P1.rows.length<=_;rw[hP1r];exact okH2.ok.rows
 have hppl:P2.pulls.length<=3000000:=by rw[hP2];show P1.pulls.length<=_;rw[hP1p];exact hhp
 refine Vc2.sq (gf_ (mE_ h3) ?_);rw[hmp];have hht:List.take r.heard.length (Hs.map aO)=Hs.map aO:=List.take_of_length_le (by rw[List.length_map,hln];exact Nat.le_refl _)
 refine Vc2.sq ?_;refine .inl ⟨[oF 0,oF 1,oF 2,oF 3,oF 4,oF 5,oF 6,oF 7],by kernel_rfl,g2_ ?_⟩
 refine cx_ kle (wg_ hht hln) (g2_ ?_);refine Vc2.sq ?_;refine .inl ⟨[oF 0,oF 2,oF 4,oF 1,oF 3,oF 5,oF 6,oF 7,oF 8,oF 9,oF 10,oF 11],by kernel_rfl,g2_ ?_⟩
 refine cx_ krp (wf_ @ar) (g2_ ?_);refine Vc2.seqJ (γ:=Unit) (fun _=>⟨[(0,.d (.pt 0 0)),(2,.loc 2 0)],[(2,⟨aO m.origin,57⟩)],[(0,.var 144 (aE c++(an P2++(encMg m++[.fz 1 (dr.map aG),.v (.slice none 0 0),.v (.slice none 0 0)]))))],2,2⟩) (fun _=>True) ?_ (fun _ _=>?_)
 ·refine g2_ ?_;refine⟨(),aa [] ?_⟩
  repeat first|simp-implicitDefEqProofs only[go_sem,ab,hto,hP2,ar,List.append_eq,List.cons_append,List.nil_append]|with_reducible refine gl_ ?_
  first|done|rfl|exact⟨rfl,rfl⟩
 obtain⟨B,hB⟩: ∃B:Nat->List GAsk×List GID,B=fun k=>((fw m.ids P2.rows c.window).take k).foldl (qU c m.origin.node) (P2.pulls,[]):=⟨_,rfl⟩
 have hBn:nC c P2 m=({ P2 with pulls:=(B (fw m.ids P2.rows c.window).length).1 },if (B (fw m.ids P2.rows c.window).length).2=[]then []else [{ pMsg P2 12 m.origin.node with ids:=(B (fw m.ids P2.rows c.window).length).2 }]):=by
  rw[hB];simp only[List.take_length];rfl
 have hB0:B 0=(P2.pulls,[]):=by rw[hB];rfl
 have hLl:(fw m.ids P2.rows c.window).length<=m.ids.length:=by
  have:=oH P2.rows c.window m.ids [];simp only[List.length_nil,Nat.zero_add]at this;exact this
 have kla:=ah3 m.ids P2.rows c.window (by omega) hprw
 have hBs: ∀k (hk:k<(fw m.ids P2.rows c.window).length),B (k+1)=qU c m.origin.node (B k) (fw m.ids P2.rows c.window)[k]:=fun k hk=>by
  rw[hB];simp only;rw[List.take_add_one,List.getElem?_eq_getElem hk,List.foldl_append];rfl
 rw[hBn]at hN;generalize fw m.ids P2.rows c.window=Ls at hBn hLl kla hBs hN
 have hBl: ∀k,k<=Ls.length->(B k).1.length<=P2.pulls.length+k/\(B k).2.length<=k:=by
  intro k
  induction k with
  |zero=>intro _;rw[hB0];exact⟨Nat.le_refl _,Nat.le_refl _⟩
  | succ k ih=>
   intro hk;obtain⟨i1,i2⟩:=ih (by omega)
   rw[hBs k (by omega)]
   unfold qU;split
   ·exact⟨by omega,by omega⟩
   ·split
    ·refine⟨?_,?_⟩
     ·have:=af_ (B k).1 ⟨Ls[k],m.origin.node,UInt8.ofNat (c.patience % 256).toNat⟩ c.pulls;simp only;omega
     ·simp only[List.length_append,List.length_cons,List.length_nil];omega
    ·exact⟨by omega,by omega⟩
 clear hB hBn
 refine Vc2.seqJ (γ:=Unit) (fun _=>⟨[(0,.d (.pt 0 0)),(2,.loc 2 0)],[(2,⟨aO m.origin,57⟩)],
  [(2,.arr 60 17 ((if (B Ls.length).2=[]then []else [{ pMsg P2 12 m.origin.node with ids:=(B Ls.length).2 }]).map encMg) false),(0,.var 144 (aE c++(an { P2 with pulls:=(B Ls.length).1 }++(encMg m++[.fz 1 (dr.map aG),.rf 2 0 (if (B Ls.length).2=[]then []else [{ pMsg P2 12 m.origin.node with ids:=(B Ls.length).2 }]).length,.v (.slice none 0 0)]))))],3,2⟩) (fun _=>True) ?_ (fun _ _=>?_)
 ·refine gx_ ?_;refine im_ Tryz.func256 [] (g2_ ?_);refine g2_ ?_;refine .inl ⟨[oF 0,oF 5,oF 10,oF 17,oF 1,oF 6,oF 11,oF 2,oF 7,oF 12,oF 3,oF 8,oF 13,oF 4,oF 9,oF 14,oF 15,oF 16],by kernel_rfl,g2_ ?_⟩
  refine cw_ kla (gx_ ?_);refine au Ls.length (fun k=>[(2,.d (.rf 2 0 (B k).2.length))]) (fun _=>[]) (fun k=>[(2,.arr 54 3 ((B k).2.map aI) false),(0,.var 144 (aE c++(an { P2 with pulls:=(B k).1 }++(encMg m++[.fz 1 (dr.map aG),.v (.slice none 0 0),.v (.slice none 0 0)]))))]) 3 (fun _=>True) (aa [(2,.nil 3)] ?_) trivial (fun g k=>ws_) (by omega) (fun g=>ws_) (fun k hk _=>?_) (fun _=>?_)
  ·refine gf_ (c2_ hB0 hto) ?_
   first|done|rfl|exact⟨rfl,rfl⟩
  ·obtain⟨l1,l2⟩:=hBl k (by omega)
   have hs:=hBs k hk;have hl3:=hBl (k+1) (by omega)
   have hg:(Ls.map aI)[k]? =some (aI Ls[k]):=aY hk;have knr:=ac7 c Ls[k];have hxb:=Ls[k].bd;generalize Ls[k]=x at hs hg knr hxb;generalize B k=S at l1 l2 hs ⊢;obtain⟨S1,S2⟩:=S;simp only at l1 l2;unfold qU at hs;simp only at hs;refine gf_ hg ?_;refine .inl ⟨[oF 0,oF 4,oF 1,oF 2,oF 3,oF 5,oF 6],by kernel_rfl,g2_ ?_⟩
   refine cw_ knr (g2_ ?_);cases g2:ou x c.nodes c.last with
   |false=>
    rw[if_pos g2]at hs;refine g2_ ?_;refine⟨k+1,aa [] ?_,rfl⟩
    repeat first|simp-implicitDefEqProofs only[go_sem,ab,hs,hto,List.append_eq,List.cons_append,List.nil_append]|with_reducible refine gl_ ?_
    first|done|rfl|exact⟨rfl,rfl⟩
   | true=>
    rw[if_neg (by rw[g2];decide)]at hs
    have kpa:=ajE S1 ⟨x,m.origin.node,UInt8.ofNat (c.patience % 256).toNat⟩ c.pulls (by omega)
    have hh8:((UInt8.ofNat (c.patience % 256).toNat).toNat:Int)=c.patience:=by rw[UInt8.toNat_ofNat'];omega
    refine g2_ ?_;refine .inl ⟨[oF 0,oF 1,oF 7,oF 2,oF 8,oF 3,oF 9,oF 4,oF 10,oF 5,oF 11,oF 6,oF 12,oF 13,oT 14,oF 15],by kernel_rfl,g2_ ?_⟩
    refine gK (by omega) ?_
    refine g2_ ?_;refine .inl ⟨[oF 0,oF 5,oF 6,oF 1,oF 7,oF 2,oF 8,oF 3,oF 9,oF 4,oF 10,oF 11,oF 12,oF 13,oF 14,oF 15,oF 16],by kernel_rfl,g2_ ?_⟩
    refine cx_ kpa (wf_ hh8) (g2_ ?_);generalize yq S1 ⟨x,m.origin.node,UInt8.ofNat (c.patience % 256).toNat⟩ c.pulls=A1 at hs ⊢;generalize acM S1 ⟨x,m.origin.node,UInt8.ofNat (c.patience % 256).toNat⟩ c.pulls=E1 at hs⊢
    by_cases h0:E1=0
    ·rw[if_pos h0]at hs;rw[show(E1==0)=true by simp[h0]]
     refine gx_ ?_;refine⟨k+1,aa [(2,.to 4)] ?_,rfl⟩
     repeat first|simp-implicitDefEqProofs only[go_sem,ab,hs,hto,List.length_append,List.map_append,List.append_eq,List.cons_append,List.nil_append]|with_reducible refine gl_ ?_
     first|done|rfl|exact⟨rfl,rfl⟩
    ·rw[if_neg h0]at hs;rw[show(E1==0)=false by simp[h0]]
     refine g2_ ?_;refine⟨k+1,aa [] ?_,rfl⟩
     repeat first|simp-implicitDefEqProofs only[go_sem,ab,hs,hto,List.append_eq,List.cons_append,List.nil_append]|with_reducible refine gl_ ?_
     first|done|rfl|exact⟨rfl,rfl⟩
  ·obtain⟨l1,l2⟩:=hBl Ls.length (Nat.le_refl _);generalize B Ls.length=S at l1 l2 ⊢;obtain⟨S1,S2⟩:=S;simp only at l1 l2 ⊢;refine gx_ ?_
   by_cases h0:S2=[]
   ·rw[if_pos h0];rw[show decide ((0:Int)<(S2.length:Int))=false by rw[h0];rfl]
    refine g2_ ?_;refine⟨(),aa [(2,.nil 17)] ?_⟩
    repeat first|simp-implicitDefEqProofs only[go_sem,ab,hto,List.map_nil,List.length_nil,List.append_eq,List.cons_append,List.nil_append]|with_reducible refine gl_ ?_
    first|done|rfl|exact⟨rfl,rfl⟩
   ·rw[if_neg h0];have hpos:0<S2.length:=List.length_pos_iff.2 h0;rw[show decide ((0:Int)<(S2.length:Int))=true from decide_eq_true (by omega)]
    have kn:=kx { P2 with pulls:=S1 } 12 m.origin.node;refine g2_ ?_;refine rW (.fl 0 (.fl 4 (.fl 1 (.fl 5 (.fl 2 (.fl 6 (.fl 3 (.fl 7 (.fl 8 (.fl 9 (.eff 10 false (.eff 11 true (.eff 12 false .done .no) .no) (.eff 11 true (.eff 10 false (.eff 12 false .done .no) .no) .no)))))))))))) [(8,.loc 8 0)] [(8,⟨encMg (pMsg P2 12 m.origin.node),60⟩)] ?_ ?_
    ·refine g2_ ?_
     repeat' (first
      |(with_reducible refine And.intro ?_ ?_)
      |(refine CallS.eqW kn ?_ (.inl ?_) ?_;(focus (simp-implicitDefEqProofs only[go_sem,ab];done));(focus (simp-implicitDefEqProofs only[go_sem,ab];done));refine g2_ ?_)
      |(refine aa [] ?_;(focus (repeat first|simp-implicitDefEqProofs only[go_sem,ab,pMsg]|with_reducible refine gl_ ?_;done))))
    refine gf_ (c2_ @pMsg.eq_1 @zEvt.eq_1) ?_;refine .inl ⟨[oF 0,oF 1,oF 5,oF 2,oF 3,oF 4,oT 6,oF 7,oF 8,oF 9,oF 10],by kernel_rfl,gx_ ?_⟩
    refine⟨(),aa [(2,.to 4)] ?_⟩
    repeat first|simp-implicitDefEqProofs only[go_sem,ab,hto,pMsg,zEvt,List.map_nil,List.map_cons,List.length_nil,List.length_cons,ak,List.append_eq,List.cons_append,List.nil_append]|with_reducible refine gl_ ?_
    first|done|rfl|exact⟨rfl,rfl⟩
 ·have hA2:({ P2 with pulls:=(B Ls.length).1 }:af).table=P2.table:=rfl;have hSl:(if (B Ls.length).2=[]then []else [{ pMsg P2 12 m.origin.node with ids:=(B Ls.length).2 }]:List aJ).length<=1:=by split<;>simp
  generalize (if (B Ls.length).2=[]then []else [{ pMsg P2 12 m.origin.node with ids:=(B Ls.length).2 }]:List aJ)=S at hN hSl⊢
  generalize ({ P2 with pulls:=(B Ls.length).1 }:af)=A at hN ⊢;clear hA2;have kL:=uU m.hops;rw[hN]at kl km3 hll ⊢;simp only at kl km3 hll ⊢;refine Vc2.sq (gx_ ?_);refine cw_ kL (g2_ ?_);refine Vc2.of ?_;refine g2_ ?_
  by_cases h0:m.hops=0
  ·rw[if_pos h0,List.append_nil];rw[decide_eq_true h0];refine g2_ ?_;clear km2;have km2:=km3;refine .inl ⟨[oF 0,oF 1,oF 2,oF 3,oF 4,oF 5,oF 6,oF 7,oF 8,oF 9],by kernel_rfl,gx_ ?_⟩
   refine cw_ km2 (gx_ ?_);refine .inr (.inr (.inl ⟨[oF 0,oF 4,oF 8,oF 1,oF 5,oF 9,oF 2,oF 6,oF 10,oF 3,oF 7,oF 11,oT 12,oF 13,oF 14],[8],by kernel_rfl,gx_ ?_⟩))
   refine ae ?_ rfl;exact wf_ @ak
  ·rw[if_neg h0];unfold tV;rw[decide_eq_false h0];obtain⟨f,hf⟩: ∃f:UInt8->aJ,f=fun to=>{ pMsg A 11 to with hops:=m.hops-1,origin:=m.origin,table:=m.table,marks:=m.marks,ids:=m.ids }:=⟨_,rfl⟩
   have hfe: ∀to,encMg (f to)=[.v (.int .u8 11),.v (.int .u8 A.node.toNat),.v (.int .u16 A.inc.toNat),.v (.int .u8 to.toNat),.fz 4 [],.fz 3 (m.table.map aP),.v (.int .u8 0),.v (.int .u16 0),.v (.int .u32 0),.fz 1 [],.fz 1 [],.v (.int .u8 (m.hops-1).toNat),.v (.int .u8 m.origin.node.toNat),.v (.int .u16 m.origin.inc.toNat),.v (.int .u32 m.origin.seq.toNat),.fz 3 (m.marks.map aO),.fz 3 (m.ids.map aI)]:=fun to=>by rw[hf];rfl
   rw[<-hf];clear hf;have kmm:=fun to=>kx A 11 to
   have kc1:=dW (m.table.map aP) (by rw[List.length_map];omega)
   have kc2:=hZ (m.marks.map aO) (by rw[List.length_map];omega)
   have kc3:=zO (m.ids.map aI) (by rw[List.length_map];omega)
   refine gf_ h0 ?_;refine im_ Tryz.func257 [] (g2_ ?_);refine g2_ ?_;refine .inl ⟨[oF 0,oF 5,oF 10,oF 18,oF 1,oF 6,oF 11,oF 2,oF 7,oF 12,oF 3,oF 8,oF 13,oF 9,oF 14,oF 15,oT 4,oF 16,oF 17],by kernel_rfl,gx_ ?_⟩
   refine cw_ kl (g2_ ?_);refine ajv (aQ A) m.frm m.origin.node (by omega) (fun w hw=>?_) ?_
   ·have w0:=hw 0 (by omega)
    have w2:=hw 2 (by omega)
    repeat first|simp-implicitDefEqProofs only[go_sem,ab,w0,w2]|with_reducible refine gl_ ?_
    first|done|trace_state
   ·have hWl:(dH (aQ A) m.frm m.origin.node).length<=1000000:=Nat.le_trans (List.length_filter_le _ _) hll;generalize dH (aQ A) m.frm m.origin.node=L at hWl ⊢;refine gx_ ?_;refine au L.length (fun k=>[]) (fun _=>[]) (fun k=>[(6,.arr 60 17 ((S++(L.take k).map f).map encMg) false),(3,.arr 5 1 (L.map aB) false),(0,.var 144 (aE c++(an A++(encMg m++[.fz 1 (dr.map aG),.rf 6 0 (S++(L.take k).map f).length,.v (.slice none 0 0)]))))]) 7 (fun _=>True) (aa [(6,.to 2)] ?_) trivial (fun g k=>ws_) (by omega) (fun g=>ws_) (fun k hk _=>?_) (fun _=>?_)
    ·refine x1_ hto ?_
     first|done|rfl|exact⟨rfl,rfl⟩
    ·have hg:(L.map aB)[k]? =some [.v (.int .u8 L[k].toNat)]:=by rw[List.getElem?_map,List.getElem?_eq_getElem hk];rfl
     have hsn:S++(L.take (k+1)).map f=(S++(L.take k).map f)++[f L[k]]:=by rw[List.take_add_one,List.getElem?_eq_getElem hk,List.map_append,List.append_assoc];rfl
     have hsl:(S++(L.take (k+1)).map f).length=(S++(L.take k).map f).length+1:=by rw[hsn,List.length_append];rfl
     have hsl2:(S++(L.take k).map f).length<=4000000:=by rw[List.length_append,List.length_map,List.length_take];omega
     have kk:=kmm L[k];have hfk:=hfe L[k];generalize S++(L.take k).map f=X at hsn hsl hsl2;generalize f L[k]=x at hsn hfk;refine gf_ hg ?_;refine cw_ kk ?_
     repeat first|simp-implicitDefEqProofs only[go_sem,ab,pMsg,zEvt,List.map_nil]|with_reducible first|refine gl_ ?_|refine ga_ ?_|refine gn_ ?_
     refine cw_ kc1 (g2_ ?_);refine cw_ kc2 (g2_ ?_);refine cw_ kc3 (g2_ ?_);refine .inl ⟨[oF 0,oF 1,oF 5,oF 2,oF 3,oF 4,oT 6,oF 7,oF 8,oF 9,oF 10],by kernel_rfl,gx_ ?_⟩
     refine⟨k+1,aa [(6,.to 8)] ?_,rfl⟩;refine x1_ (c3_ hsn hsl hto) ?_
     first|done|exact congrArg (fun z=>List.map encMg X++[z]) hfk|trace_state
    ·rw[List.take_of_length_le (Nat.le_refl L.length)];have hsl3:(S++L.map f).length<=4000000:=by rw[List.length_append,List.length_map];omega
     generalize S++L.map f=X at hsl3 ⊢;clear km2;have km2:=km3;exact q2_ km2
end Go.Proofs.YtmhmahcdanclnaaGreat.V
namespace Go.Proofs.YtmhmahcdanclnaaGreat.V
open Go.Eng
section
variable {c:ao} {nd:UInt8} {p q:af} {m:aJ} {dr:List UInt32} {k:Int} {e:GEvt}
theorem aa0(h:aF c=true):0<=c.hops/\c.hops<=12/\1<=c.patience/\c.patience<=255:=by grind [aF,inR]
theorem aqM{t:List (List GMark)}(h:fX t):alI t:=⟨by have:=h.1;omega,h.2⟩
theorem agC(hc:aF c=true)(hB:Bd c nd p):Con2 Tryz.prog 91 [.agg (an p)] (· =aZ 5 1 ((aQ p).map aB)):=by
 have h1:=m_ hc hB;have h2:=hB.h.g.ok;have h:=aai p (by omega) (by omega) h2.succ h2.pred (show(bZ p).length<=26 from iK hc hB)
 unfold aZ;rw[List.length_map];exact h
theorem amg(hc:aF c=true)(hcs: ∀s∈c.schema,okS s)(hB:Bd c nd p)(hE:Ew c p k)(hk:k<=1000000000)(hdr:dr.length<=4000000):
  Con2 Tryz.prog 35 [.agg (aE c),.agg (an p),.fz 1 (dr.map aG)] (· =plR (.tup [.agg (an (gA c p dr).1),.fz 17 ((gA c p dr).2.map encMg)])):=by
 have hr:=cu hc;have h1:Bd c nd (sk p):=afH hc hB hE;have g:Pl1 p (sk p):=(qQ (p:=p)).1
 have key:p.up=true->Bd c (sk p).node (aD c (cy c (sk p)) [])/\Bd c (sk p).node (eX c (aD c (cy c (sk p)) []) dr).1:=fun hu=>by
  have s1:=(aeB h1).meet hc (by rw[g.up];exact hu) fS ja (ms:=[]) iA
  exact⟨s1.bd,(aiW (dr:=dr) hc s1.bd (by rw[s1.up,g.up,hu])).1⟩
 have hq:p.up=true->Bd c nd (kD c p dr).1:=fun hu=>by
  have s:=uT (dr:=dr) hc h1 (by rw[g.up];exact hu)
  have:=s.bd;rw[h1.node]at this;exact this
 have hq2:p.up=true->Bd c nd (qu (kD c p dr).1):=fun hu=>by
  have hq:=hq hu;unfold qu;generalize (kD c p dr).1=q at hq
  exact⟨⟨⟨⟨hq.h.ok.filter,hq.h.ok.view,hq.h.ok.near,hq.h.ok.succ,hq.h.ok.pred,hq.h.ok.sent,hq.h.ok.table,hq.h.ok.heard,hq.h.ok.rows,hq.h.ok.reports,hq.h.ok.evs,hq.h.ok.pulls⟩,hq.h.g.filter,hq.h.g.view,hq.h.g.near,hq.h.g.succ,hq.h.g.pred,hq.h.g.table⟩,hq.h.rs,hq.h.v8,hq.h.vw⟩,
   ⟨hq.win.table,hq.win.rows,hq.win.heard,hq.win.view,hq.win.near,hq.win.cur,hq.win.ovl,hq.win.ring⟩,hq.node,hq.ws,hq.f8,hq.dn⟩
 refine ais c p dr hB.h.ok (aqM hB.h.rs) ⟨hE.collected.1,by have:=hE.collected.2;omega⟩ (fun hu=>?_) (fun hu=>Nat.le_trans alC (by omega)) (fun hu=>(hq hu).h.ok) (fun hu=>by have:=(hq hu).win.rows;omega) (fun hu=>tT hc (hq2 hu)) (fun hu=>Nat.le_trans (fV hc (hq2 hu)) (by omega))
 exact amb c (sk p) dr _ (by omega) hcs h1.h (by rw[g.up];exact hu) (by omega) hdr h1.ws (tT hc (key hu).2) (Nat.le_trans (fV hc (key hu).2) (by omega))
  (aeM (key hu).1.h.v8 (by have:=(m_ hc (key hu).1).1;omega) (key hu).1.f8) (key hu).1.h.v8 h1.f8
theorem ku(hc:aF c=true)(hnd:(nd.toNat:Int)<c.nodes)(hB:Bd c nd p)(hE:Ew c p k)(hk:k<=1000000000)(hdr:dr.length<=4000000){vals:List Int}{data:List UInt8}(hv:vals.length<=4000000)(hd:data.length<=4000000):
  Con2 Tryz.prog 32 [.agg (aE c),.agg (an p),.fz 1 (vals.map bW),.fz 1 (data.map aB),.fz 1 (dr.map aG)] (· =plR (.tup [.agg (an (aU c p vals data dr).1),.agg (aC (aU c p vals data dr).2.1),.v (.bool (aU c p vals data dr).2.2.1),.fz 17 ((aU c p vals data dr).2.2.2.1.map encMg),.v (.int .i64 (aU c p vals data dr).2.2.2.2)])):=by
 have hr:=cu hc;have hh:=aa0 hc;have h1:=m_ hc hB;have h2:=hB.h.g.ok;have hw:=hB.win.rows;have hn:=hB.node;refine yb c p vals data dr hB.h.ok (by omega) hv hd hdr (by rw[hn];omega) ⟨hE.evicted.1,by have:=hE.evicted.2;omega⟩ (by omega) (by omega) (fun b ev=>?_) (Nat.le_trans (fV hc hB) (by omega))
 exact afy (fF p b ev) (show p.view.length<=300 by omega) (show p.near.length<=300 by omega) h2.succ h2.pred (show(bZ p).length<=26 from iK hc hB)
theorem th(hc:aF c=true)(hB:Bd c nd p)(hE:Ew c p k)(hk:k<=1000000000)(he:e.vals.length<=4000000/\e.data.length<=4000000):
  Con2 Tryz.prog 27 [.agg (aE c),.agg (an p),.agg (aC e)] (· =plR (.tup [.agg (an (aA c p e).1),.v (.bool (aA c p e).2.1),.v (.bool (aA c p e).2.2)])):=by
 have hr:=cu hc;exact z5 c p e hB.h.ok (by omega) he ⟨hE.passed.1,by have:=hE.passed.2;omega⟩
theorem ahK:(bL c q m).1.view=q.view/\(bL c q m).1.near=q.near/\(bL c q m).1.ring=q.ring:=by
 unfold bL;split
 ·exact⟨rfl,rfl,rfl⟩
 split
 ·exact⟨rfl,rfl,rfl⟩
 split
 ·exact⟨rfl,rfl,rfl⟩
 split
 ·exact⟨rfl,rfl,rfl⟩
 ·show(ax c q m.origin.node m.origin.inc).1.view=_/\(ax c q m.origin.node m.origin.inc).1.near=_/\(ax c q m.origin.node m.origin.inc).1.ring=_;unfold ax;split
  ·exact⟨rfl,rfl,rfl⟩
  ·split
   ·exact⟨rfl,rfl,rfl⟩
   ·split<;>exact⟨rfl,rfl,rfl⟩
structure anR(m:aJ):Prop where
 mg:okMg m
 ev:m.ev.vals.length<=1048576/\m.ev.data.length<=1048576
 marks:m.marks.length<=1048576
 ids:m.ids.length<=500000
theorem oy(hc:aF c=true)(hcs: ∀s∈c.schema,okS s)(hB:Bd c nd p)(hE:Ew c p k)(hk:k<=1000000000)(hdr:dr.length<=4000000)(hm:anR m):
  Con2 Tryz.prog 31 [.agg (aE c),.agg (an p),.agg (encMg m),.fz 1 (dr.map aG)] (· =plR (.tup [.agg (an (bN c p m dr).1),.fz 17 ((bN c p m dr).2.1.map encMg),.fz 5 ((bN c p m dr).2.2.map aC)])):=by
 have hr:=cu hc;have hh:=aa0 hc;have hb:=gX hc
 by_cases hkk:m.kind=10\/m.kind=11\/m.kind=12
 case neg=>
  have e1:bN c p m dr=((iE dr c p m).1,(iE dr c p m).2,[]):=by unfold bN;rw[if_pos hkk]
  rw[e1];exact aa5 c p m dr _ _ hkk (take_all c p m dr (by omega) hcs hB.h hm.mg hdr hB.ws)
 by_cases hun:p.up=false\/m.to≠p.node
 ·have e1:bN c p m dr=(p,[],[]):=by unfold bN;rw[if_neg (fun h=>h hkk),if_pos hun]
  rw[e1];exact air c p m dr hB.h.ok hkk hun
 have hu:p.up=true:=by cases h:p.up with|true=>rfl|false=>exact absurd (.inl h) hun
 have hto:m.to=p.node:=Classical.byContradiction fun h=>hun (.inr h)
 have s1:=(hB.go.hear m.frm m.inc).meet hc hu fS ja (ms:=[]) iA;have hE1:=hE.ev ((eM (c:=c) (p:=p) m.frm m.inc).trans (cl (c:=c) []));rcases hkk with h|h|h
 ·have hA:=jT (e:=m.ev) hc s1.bd hE1;exact adN c p m dr (by omega) hcs hB.h h hu hto ⟨by have:=hm.ev.1;omega,by have:=hm.ev.2;omega⟩ ⟨hE.passed.1,by have:=hE.passed.2;omega⟩ hdr (by omega) hA.h.g (agC hc hA) (Nat.le_trans (fV hc hA) (by omega))
 ·have hA:=(z7 (m:=m) hc s1.bd hE1).1;have v:=ahK (c:=c) (q:=aD c (ax c p m.frm m.inc).1 []) (m:=m);have h1:=m_ hc s1.bd;have h2:=iK hc s1.bd;have eL:bZ (bL c (aD c (ax c p m.frm m.inc).1 []) m).1=bZ (aD c (ax c p m.frm m.inc).1 []):=by unfold bZ;rw[v.1,v.2.1,v.2.2]
  have eN:aQ (bL c (aD c (ax c p m.frm m.inc).1 []) m).1=aQ (aD c (ax c p m.frm m.inc).1 []):=by unfold aQ;rw[eL]
  have hL:=aai (bL c (aD c (ax c p m.frm m.inc).1 []) m).1 (by rw[v.1];omega) (by rw[v.2.1];omega) hA.h.ok.succ hA.h.ok.pred (by rw[eL];exact h2)
  refine wN c p m dr (by omega) hcs hB.h h hu hto (by have:=hm.ids;omega) (by have:=hE.pk.len;omega) (by omega) (by have:=hm.mg.table;omega) (by have:=hm.marks;omega) ?_ (by rw[eN];exact Nat.le_trans (fV hc s1.bd) (by omega)) s1.bd.h.vw hA.h.g
  unfold aZ;rw[List.length_map];exact hL
 ·exact adP c p m dr (by omega) hcs hB.h h hu hto (by have:=hm.ids;omega)
end
attribute[local go_sem] zDesc aR ah fzD plR aZ aO aP az aE an aC aT z8 z16 z32 z64 encMg a_ bW aI aB h_ List.map_cons List.map_nil
def encNop(o:jF):List DV:=[.v (.int .u8 o.what.toNat),fzS o.filter,.fz 1 (o.vals.map bW),.fz 1 (o.data.map aB)]++encMg o.m++[.fz 1 (o.draws.map aG)]
def encCame(x:af×List aJ×List GEvt×Bool×Int):List DV:=an x.1++[.fz 17 (x.2.1.map encMg),.fz 5 (x.2.2.1.map aC),.v (.bool x.2.2.2.1),.v (.int .i64 x.2.2.2.2)]
structure arx(o:jF):Prop where
 m:anR o.m
 draws:o.draws.length<=1048576
 filter:o.filter.length<=1048576
 fs: ∀s∈o.filter,okS s
 vals:o.vals.length<=1048576
 data:o.data.length<=1048576
section
variable {c:ao} {nd:UInt8} {p:af} {o:jF} {k:Int}
theorem akG(hc:aF c=true)(hcs: ∀s∈c.schema,okS s)(hnd:(nd.toNat:Int)<c.nodes)(hB:Bd c nd p)(hE:Ew c p k)(hk:k<=1000000000)(ho:arx o):
  Con2 Tryz.prog 14 [.agg (aE c),.agg (an p),.agg (encNop o)] (· =plR (.agg (encCame (fK c p o)))):=by
 refine Con2.ofEmb ?_;have hr:=cu hc;obtain⟨n1,n2⟩:=lS (f:=o.filter) hcs ho.fs (by omega)
 have hn:=nh hB.h.g n1 n2;have k0:=ru c p hB.h.ok;have k1:=v9 c p
 have k2:Con2 Tryz.prog 29 [.agg (aE c),.agg (an p),fzS o.filter] (· =plR (.tup [.agg (an (if p.up=false then p else if (bB c.schema o.filter).2=0 then aD c { p with filter:=(bB c.schema o.filter).1 } []else p)),.v (.int .i64 (if p.up=false then 53 else (bB c.schema o.filter).2))])):=by
  by_cases hu:p.up=false
  ·rw[if_pos hu,if_pos hu];exact agk c p o.filter hB.h.ok hu
  ·rw[if_neg hu,if_neg hu];exact zK c p o.filter (by omega) hcs hB.h.g (by have:=ho.filter;omega) hn (by simpa using hu)
 have k3:Con2 Tryz.prog 49 [.agg (aE c),.agg (an p)] (· =plR (.tup [.agg (an (if p.up=false then p else j6 c p)),.fz 17 ((if p.up=false then []else (aQ p).map (pMsg p 9)).map encMg),.v (.int .i64 (if p.up=false then 53 else 0))])):=by
  cases hu:p.up with
  |false=>rw[if_pos rfl,if_pos rfl,if_pos rfl];exact ab7 c p hB.h.ok hu
  |true=>rw[if_neg (by decide),if_neg (by decide),if_neg (by decide)];exact agJ c p _ hB.h.ok hu (tT hc hB) (Nat.le_trans (fV hc hB) (by omega))
 have k4:=ku hc hnd hB hE hk (dr:=o.draws) (vals:=o.vals) (data:=o.data) (by have:=ho.draws;omega) (by have:=ho.vals;omega) (by have:=ho.data;omega)
 have k5:=amg hc hcs hB hE hk (dr:=o.draws) (by have:=ho.draws;omega)
 have k6:=th hc hB hE hk (e:=o.m.ev) ⟨by have:=ho.m.ev.1;omega,by have:=ho.m.ev.2;omega⟩
 have k7:=oy hc hcs hB hE hk (dr:=o.draws) (by have:=ho.draws;omega) ho.m
 have hR:fK c p o=fK c p o:=rfl
 conv at hR=>rhs;unfold fK
 generalize fK c p o=R at hR ⊢;have hw:=o.what.toNat_lt;clear hn n1 n2;unfold encNop encCame;refine en_ Tryz.func14 [.cell 6 68] (g2_ ?_);refine gx_ ?_
 by_cases w0:o.what=0
 ·rw[if_pos w0]at hR;rw[show((o.what.toNat:Int)==0)=true by rw[w0];rfl,hR]
  refine g2_ ?_;refine cw_ k0 (g2_ ?_);refine ae ?_ rfl
  repeat first|simp-implicitDefEqProofs only[go_sem,ab,if_false,List.map_nil,List.map_cons,List.append_eq,List.cons_append,List.nil_append]|with_reducible refine gl_ ?_
  first|done|trace_state
 rw[if_neg w0]at hR;rw[show((o.what.toNat:Int)==0)=false from beq_eq_false_iff_ne.2 (fun h=>w0 (UInt8.toNat_inj.1 (by rw[show(0:UInt8).toNat=0 from rfl];omega)))]
 refine g2_ ?_
 by_cases w1:o.what=1
 ·rw[if_pos w1]at hR;rw[show((o.what.toNat:Int)==1)=true by rw[w1];rfl,hR]
  refine g2_ ?_;refine cw_ k1 (g2_ ?_);refine ae ?_ rfl
  repeat first|simp-implicitDefEqProofs only[go_sem,ab,if_false,List.map_nil,List.map_cons,List.append_eq,List.cons_append,List.nil_append]|with_reducible refine gl_ ?_
  first|done|trace_state
 rw[if_neg w1]at hR;rw[show((o.what.toNat:Int)==1)=false from beq_eq_false_iff_ne.2 (fun h=>w1 (UInt8.toNat_inj.1 (by rw[show(1:UInt8).toNat=1 from rfl];omega)))]
 refine g2_ ?_
 by_cases w2:o.what=2
 ·rw[if_pos w2]at hR;rw[show((o.what.toNat:Int)==2)=true by rw[w2];rfl,hR]
  refine g2_ ?_;refine cw_ k2 (g2_ ?_);refine ae ?_ rfl
  repeat first|simp-implicitDefEqProofs only[go_sem,ab,if_false,List.map_nil,List.map_cons,List.append_eq,List.cons_append,List.nil_append]|with_reducible refine gl_ ?_
  first|done|trace_state
 rw[if_neg w2]at hR;rw[show((o.what.toNat:Int)==2)=false from beq_eq_false_iff_ne.2 (fun h=>w2 (UInt8.toNat_inj.1 (by rw[show(2:UInt8).toNat=2 from rfl];omega)))]
 refine g2_ ?_
 by_cases w3:o.what=3
 ·rw[if_pos w3]at hR;rw[show((o.what.toNat:Int)==3)=true by rw[w3];rfl,hR]
  refine g2_ ?_;refine cw_ k3 (g2_ ?_);refine ae ?_ rfl
  repeat first|simp-implicitDefEqProofs only[go_sem,ab,if_false,List.map_nil,List.map_cons,List.append_eq,List.cons_append,List.nil_append]|with_reducible refine gl_ ?_
  first|done|trace_state
 rw[if_neg w3]at hR;rw[show((o.what.toNat:Int)==3)=false from beq_eq_false_iff_ne.2 (fun h=>w3 (UInt8.toNat_inj.1 (by rw[show(3:UInt8).toNat=3 from rfl];omega)))]
 refine g2_ ?_
 by_cases w4:o.what=4
 ·rw[if_pos w4]at hR;rw[show((o.what.toNat:Int)==4)=true by rw[w4];rfl,hR]
  clear hR;generalize aU c p o.vals o.data o.draws=Z at k4 ⊢;obtain⟨q,e,mine,l,f⟩:=Z;simp only at k4 ⊢;refine g2_ ?_;refine cw_ k4 (g2_ ?_);have hf:decide (f=0)=(f==0):=rfl;cases mine with
  |false=>
   refine g2_ ?_;refine ae ?_ rfl
   repeat first|simp-implicitDefEqProofs only[go_sem,ab,if_false,hf,Bool.false_eq_true,List.map_nil,List.map_cons,List.append_eq,List.cons_append,List.nil_append]|with_reducible refine gl_ ?_
   first|done|trace_state
  |true=>
   refine g2_ ?_;refine ae ?_ rfl
   repeat first|simp-implicitDefEqProofs only[go_sem,ab,if_true,hf,List.map_nil,List.map_cons,List.append_eq,List.cons_append,List.nil_append]|with_reducible refine gl_ ?_
   first|done|trace_state
 rw[if_neg w4]at hR;rw[show((o.what.toNat:Int)==4)=false from beq_eq_false_iff_ne.2 (fun h=>w4 (UInt8.toNat_inj.1 (by rw[show(4:UInt8).toNat=4 from rfl];omega)))]
 refine g2_ ?_
 by_cases w5:o.what=5
 ·rw[if_pos w5]at hR;rw[show((o.what.toNat:Int)==5)=true by rw[w5];rfl,hR]
  refine g2_ ?_;refine cw_ k5 (g2_ ?_);refine ae ?_ rfl
  repeat first|simp-implicitDefEqProofs only[go_sem,ab,if_false,List.map_nil,List.map_cons,List.append_eq,List.cons_append,List.nil_append]|with_reducible refine gl_ ?_
  first|done|trace_state
 rw[if_neg w5]at hR;rw[show((o.what.toNat:Int)==5)=false from beq_eq_false_iff_ne.2 (fun h=>w5 (UInt8.toNat_inj.1 (by rw[show(5:UInt8).toNat=5 from rfl];omega)))]
 refine g2_ ?_
 by_cases w6:o.what=6
 ·rw[if_pos w6]at hR;rw[show((o.what.toNat:Int)==6)=true by rw[w6];rfl,hR]
  clear hR;generalize aA c p o.m.ev=Z at k6 ⊢;obtain⟨q,own,given⟩:=Z;simp only at k6 ⊢;refine g2_ ?_;refine cw_ k6 (g2_ ?_);cases given with
  |false=>
   refine g2_ ?_;refine ae ?_ rfl
   repeat first|simp-implicitDefEqProofs only[go_sem,ab,if_false,if_true,Bool.false_eq_true,List.map_nil,List.map_cons,List.append_eq,List.cons_append,List.nil_append]|with_reducible refine gl_ ?_
   first|done|trace_state
  |true=>
   refine g2_ ?_;refine ae ?_ rfl
   repeat first|simp-implicitDefEqProofs only[go_sem,ab,if_false,if_true,Bool.false_eq_true,List.map_nil,List.map_cons,List.append_eq,List.cons_append,List.nil_append]|with_reducible refine gl_ ?_
   first|done|trace_state
 rw[if_neg w6]at hR;rw[show((o.what.toNat:Int)==6)=false from beq_eq_false_iff_ne.2 (fun h=>w6 (UInt8.toNat_inj.1 (by rw[show(6:UInt8).toNat=6 from rfl];omega)))]
 refine g2_ ?_;rw[hR];refine cw_ k7 (g2_ ?_);refine ae ?_ rfl
 repeat first|simp-implicitDefEqProofs only[go_sem,ab,if_false,List.map_nil,List.map_cons,List.append_eq,List.cons_append,List.nil_append]|with_reducible refine gl_ ?_
 first|done|trace_state
def ahO(o:jF):Bool:=qA ⟨0,0,0,o.filter,o.m,o.draws⟩&&(decide ((o.vals.length:Int)<=8)&&(decide ((o.data.length:Int)<=100)&&(decide ((o.m.ev.vals.length:Int)<=8)&&(decide ((o.m.ev.data.length:Int)<=100)&&(decide ((o.m.marks.length:Int)<=20)&&decide ((o.m.ids.length:Int)<=40))))))
theorem ajo(o:jF)(h1:o.m.list.length<=9223372036854775807)(h2:o.m.table.length<=9223372036854775807):Con2 Tryz.prog 12 [.agg (encNop o)] (· =plR (.v (.bool (ahO o)))):=by
 refine Con2.ofEmb ?_;have kf:=anz ⟨0,0,0,o.filter,o.m,o.draws⟩ h1 h2;unfold ahO;generalize qA ⟨0,0,0,o.filter,o.m,o.draws⟩=b at kf ⊢;unfold ai3 at kf;unfold encNop;simp only[List.append_eq,List.cons_append,List.nil_append]at kf;refine en_ Tryz.func12 [.tmp 2] (g2_ ?_);refine gx_ ?_;refine cw_ kf (g2_ ?_);generalize hd1:decide ((o.vals.length:Int)<=8)=d1;generalize hd2:decide ((o.data.length:Int)<=100)=d2;generalize hd3:decide ((o.m.ev.vals.length:Int)<=8)=d3;generalize hd4:decide ((o.m.ev.data.length:Int)<=100)=d4;generalize hd5:decide ((o.m.marks.length:Int)<=20)=d5;generalize hd6:decide ((o.m.ids.length:Int)<=40)=d6;cases b with
 |false=>
  refine g2_ ?_;refine ae ?_ rfl;exact wf_ @Bool.false_and
 |true=>
 refine gf_ hd1 ?_;cases d1 with
 |false=>
  refine g2_ ?_;refine ae ?_ rfl;exact wf_ @Bool.false_and
 |true=>
 refine gf_ hd2 ?_;cases d2 with
 |false=>
  refine g2_ ?_;refine ae ?_ rfl;exact wf_ @Bool.false_and
 |true=>
 refine gf_ hd3 ?_;cases d3 with
 |false=>
  refine g2_ ?_;refine ae ?_ rfl;exact wf_ @Bool.false_and
 |true=>
 refine gf_ hd4 ?_;cases d4 with
 |false=>
  refine g2_ ?_;refine ae ?_ rfl;exact wf_ @Bool.false_and
 |true=>
 refine gf_ hd5 ?_;cases d5 with
 |false=>
  refine g2_ ?_;refine ae ?_ rfl;exact wf_ @Bool.false_and
 |true=>
 refine gf_ hd6 ?_;refine ae ?_ rfl;exact wf_ @Bool.false_and
end
def nwC:ao:={ plainC 2 with buffer:=1 }
def rh(c:ao)(p:af)(f:List GSpan):af:=if p.up=false then p else if (bB c.schema f).2=0 then aD c { p with filter:=(bB c.schema f).1 } []else p
def pP(c:ao)(p:af)(f:List GSpan):Int:=if p.up=false then 53 else (bB c.schema f).2
def iy:aJ:=⟨10,1,1,0,[],[],⟨⟨1,1,1⟩,[3],[]⟩,0,⟨0,0,0⟩,[],[]⟩
def rT:aJ:=⟨12,1,1,0,[],[],zEvt,0,⟨0,0,0⟩,[],[⟨0,1,1⟩,⟨1,1,1⟩]⟩
def nwA:af:=(bI nwC (bH nwC 0)).1
def nwB:af:=rh nwC nwA [⟨0,9⟩]
def nwP:af×GEvt×Bool×List aJ×Int:=aU nwC nwB [5] [] []
def nwQ:af×List aJ×List GEvt:=bN nwC nwP.1 iy []
theorem adx:aF nwC=true:=by kernel_rfl
theorem sL: ∀s∈nwC.schema,okS s:=by
 intro s hs;have hs:s∈[(⟨0,9⟩:GSpan)]:=hs;rw[List.mem_singleton.1 hs];exact⟨by decide,by decide,by decide,by decide⟩
theorem apX: ∀s∈[(⟨0,9⟩:GSpan)],okS s:=by
 intro s hs;rw[List.mem_singleton.1 hs];exact⟨by decide,by decide,by decide,by decide⟩
theorem gQ(k f t:UInt8)(i:UInt16)(ev:GEvt)(h:UInt8)(o:GMark)(mk:List GMark)(ids:List GID):okMg ⟨k,f,i,t,[],[],ev,h,o,mk,ids⟩:=⟨Nat.zero_le _,by simp,by simp,Nat.zero_le _⟩
def nwO(w:UInt8)(f:List GSpan)(v:List Int)(m:aJ):jF:=⟨w,f,v,[],m,[]⟩
theorem asm:Ew nwC (bH nwC 0) 0:=wV (nd:=0) (inc:=0) (up:=false) (t:=(bH nwC 0).table) (by decide) (by decide) (by decide) (Int.le_refl 0)
theorem qM{p:af}{k:Int}(o:jF)(hm:okMg o.m)(hf: ∀s∈o.filter,okS s)(hk:0<=k)(hB:Bd nwC 0 p)(hE:Ew nwC p k):Bd nwC 0 (fK nwC p o).1/\Ew nwC (fK nwC p o).1 (k+64):=
 ⟨by have:=(sZ (o:=o) adx sL hB hE hm hf).bd;rw[hB.node]at this;exact this,aeR (by decide) (by decide) (by decide) (by rw[hB.node];decide) hk hE⟩
theorem ae_:Bd nwC 0 nwA/\Ew nwC nwA 64:=qM (nwO 0 [] [] iy) (gQ ..) (by simp[nwO]) (Int.le_refl 0) (amm adx 0) asm
theorem afG:Bd nwC 0 nwB/\Ew nwC nwB 128:=qM (nwO 2 [⟨0,9⟩] [] iy) (gQ ..) apX (by decide) ae_.1 ae_.2
theorem wa:Bd nwC 0 nwP.1/\Ew nwC nwP.1 192:=qM (nwO 4 [] [5] iy) (gQ ..) (by simp[nwO]) (by decide) afG.1 afG.2
theorem afd:Bd nwC 0 nwQ.1/\Ew nwC nwQ.1 256:=qM (nwO 10 [] [] iy) (gQ ..) (by simp[nwO]) (by decide) wa.1 wa.2
theorem asC:(bI nwC (bH nwC 0)).2=0:=by kernel_rfl
theorem asF:pP nwC nwA [⟨0,9⟩]=0:=by kernel_rfl
theorem asO:nwB.up=true:=by kernel_rfl
theorem aqH:nwP.2.1=⟨⟨0,1,1⟩,[5],[]⟩/\nwP.2.2.1=true/\nwP.2.2.2.2=0:=⟨by kernel_rfl,by kernel_rfl,by kernel_rfl⟩
theorem asQ:(aU nwC nwP.1 [5] [] []).2.2.2.2=52:=by kernel_rfl
theorem aqz:nwQ.2.1=[]/\nwQ.2.2=[⟨⟨1,1,1⟩,[3],[]⟩]/\nwQ.1.passed=1:=⟨by kernel_rfl,by kernel_rfl,by kernel_rfl⟩
theorem arQ:(bN nwC nwQ.1 iy []).2.1=[]/\(bN nwC nwQ.1 iy []).2.2=[]:=⟨by kernel_rfl,by kernel_rfl⟩
theorem arz:(bN nwC nwQ.1 rT []).2.1=[{ pMsg nwQ.1 10 1 with ev:=⟨⟨0,1,1⟩,[5],[]⟩ }]/\(bN nwC nwQ.1 rT []).2.2=[]:=⟨by kernel_rfl,by kernel_rfl⟩
theorem uN:anR iy:=⟨gQ ..,by decide,Nat.zero_le _,Nat.zero_le _⟩
theorem agc:anR rT:=⟨gQ ..,by decide,Nat.zero_le _,by decide⟩
theorem agN:Con2 Tryz.prog 39 [] (· =plR (.agg (aE nwC))):=by
 refine Con2.ofEmb ?_;have kp:=ags 2;refine en_ Tryz.func39 [.cell 0 26] (g2_ ?_);refine g2_ ?_;refine cw_ kp (g2_ ?_);refine ae ?_ rfl;exact wf_ @nwC.eq_1
theorem acI(s:UInt32)(v:Int):Con2 Tryz.prog 40 [.v (.int .u32 s.toNat),.v (.int .i32 v)] (· =plR (.agg (encMg ⟨10,1,1,0,[],[],⟨⟨1,1,s⟩,[v],[]⟩,0,⟨0,0,0⟩,[],[]⟩))):=by
 refine Con2.ofEmb ?_;refine en_ Tryz.func40 [.cell 4 60] (g2_ ?_);refine g2_ ?_;refine ae ?_ rfl;refine g2_ ?_
 first|done|rfl|trace_state
theorem aoj(c:ao)(nd:UInt8)(f:List GSpan)(hw:Con2 Tryz.prog 29 [.agg (aE c),.agg (an (bI c (bH c nd)).1),fzS f] (· =plR (.tup [.agg (an (rh c (bI c (bH c nd)).1 f)),.v (.int .i64 (pP c (bI c (bH c nd)).1 f))]))):
  Con2 Tryz.prog 28 [.agg (aE c),.v (.int .u8 nd.toNat),fzS f] (· =plR (.tup [.agg (an (rh c (bI c (bH c nd)).1 f)),.v (.bool (((bI c (bH c nd)).2==0)&&((pP c (bI c (bH c nd)).1 f==0)&&(rh c (bI c (bH c nd)).1 f).up)))])):=by
 refine Con2.ofEmb ?_;have hs:=ru c (bH c nd) (afA c nd);have hn:=ra c nd;generalize bH c nd=q at hs hn hw ⊢;generalize bI c q=r at hs hw ⊢;obtain⟨r,e⟩:=r;simp only at hs hw ⊢;generalize rh c r f=w at hw ⊢;generalize pP c r f=g at hw ⊢;refine en_ Tryz.func28 [.cell 6 49,.tmp 7] (g2_ ?_);refine g2_ ?_;refine .inr (.inl ⟨(.fl 0 (.fl 1 (.fl 2 (.eff 3 true (.eff 4 false (.fl 5 (.fl 6 (.fl 7 (.eff 8 true (.eff 9 false (.fl 10 .done) .no) .no)))) (.eff 8 true (.eff 4 false (.fl 5 (.fl 6 (.fl 7 (.eff 9 false (.fl 10 .done) .no)))) .no) .no)) (.eff 8 true (.eff 3 true (.eff 4 false (.fl 5 (.fl 6 (.fl 7 (.eff 9 false (.fl 10 .done) .no)))) .no) .no) .no))))),by kernel_rfl,g2_ ?_⟩)
 repeat' (first
  |(with_reducible refine And.intro ?_ ?_)
  |(refine CallS.eq hn ?_ (.inl ?_) ?_;(focus (simp-implicitDefEqProofs only[go_sem,ab];done));(focus (simp-implicitDefEqProofs only[go_sem,ab];done));refine g2_ ?_)
  |(refine CallS.eq hs ?_ (.inl ?_) ?_;(focus (simp-implicitDefEqProofs only[go_sem,ab];done));(focus (simp-implicitDefEqProofs only[go_sem,ab];done));refine g2_ ?_)
  |(with_reducible refine av ?_;refine g2_ ?_))
 all_goals
  refine cw_ hw (g2_ ?_);refine .inr (.inr (.inl ⟨[oF 0,oF 1,oF 2,oF 3,oF 4,oF 5,oF 6,oF 7,oF 8,oF 9,oF 10,oT 11,oF 12],[6],by kernel_rfl,g2_ ?_⟩))
  cases hb1:(e==0)with
  |false=>
   refine g2_ ?_;refine ae ?_ rfl;exact wf_ @Bool.false_and
  | true=>
   refine g2_ ?_;cases hb2:(g==0)with
   |false=>
    refine g2_ ?_;refine ae ?_ rfl;exact wf_ @Bool.false_and
   |true=>
    refine g2_ ?_;refine ae ?_ rfl;exact wx_
attribute[local go_sem] List.length_cons List.length_nil bne_self_eq_false
theorem asa:((UInt16.toNat 1:Nat):Int)=1:=rfl
theorem arJ:((UInt32.toNat 1:Nat):Int)=1:=rfl
theorem as0:((0:Nat):Int)=0:=rfl
theorem asE:((0+1:Nat):Int)=1:=rfl
attribute[local go_sem] as0 asE asa arJ
theorem ack:Con2 Tryz.prog 9 [] (· =plR (.v (.bool true))):=by
 refine Con2.ofEmb ?_;have c1:=agN
 have w:Con2 Tryz.prog 29 [.agg (aE nwC),.agg (an nwA),fzS [⟨0,9⟩]] (· =plR (.tup [.agg (an nwB),.v (.int .i64 (pP nwC nwA [⟨0,9⟩]))])):=by
  have hu:nwA.up=true:=by kernel_rfl
  have h:=zK nwC nwA [⟨0,9⟩] (by decide) sL ae_.1.h.g (by decide) (nh ae_.1.h.g (lS sL apX (by decide)).1 (lS sL apX (by decide)).2) hu
  have e1:nwB=if (bB nwC.schema [⟨0,9⟩]).2=0 then aD nwC { nwA with filter:=(bB nwC.schema [⟨0,9⟩]).1 } []else nwA:=by
   show rh nwC nwA [⟨0,9⟩]=_;unfold rh;rw[if_neg (by rw[hu];decide)]
  have e2:pP nwC nwA [⟨0,9⟩]=(bB nwC.schema [⟨0,9⟩]).2:=by unfold pP;rw[if_neg (by rw[hu];decide)]
  rw[e1,e2];exact h
 have c2:=aoj nwC 0 [⟨0,9⟩] w;change Con2 Tryz.prog 28 _ (· =plR (.tup [.agg (an nwB),.v (.bool (((bI nwC (bH nwC 0)).2==0)&&((pP nwC nwA [⟨0,9⟩]==0)&&nwB.up)))]))at c2
 rw[asC,asF,asO]at c2
 have c3:Con2 Tryz.prog 32 [.agg (aE nwC),.agg (an nwB),.fz 1 (([5]:List Int).map bW),.fz 1 (([]:List UInt8).map aB),.fz 1 (([]:List UInt32).map aG)] (· =plR (.tup [.agg (an nwP.1),.agg (aC nwP.2.1),.v (.bool nwP.2.2.1),.fz 17 (nwP.2.2.2.1.map encMg),.v (.int .i64 nwP.2.2.2.2)])):=
  ku adx (by decide) afG.1 afG.2 (by decide) (by decide) (by decide) (by decide)
 rw[aqH.1,aqH.2.1,aqH.2.2]at c3;have c4:=ku adx (by decide) wa.1 wa.2 (by decide) (dr:=[]) (vals:=[5]) (data:=[]) (by decide) (by decide) (by decide)
 rw[asQ]at c4
 have c5:Con2 Tryz.prog 31 [.agg (aE nwC),.agg (an nwP.1),.agg (encMg iy),.fz 1 (([]:List UInt32).map aG)] (· =plR (.tup [.agg (an nwQ.1),.fz 17 (nwQ.2.1.map encMg),.fz 5 (nwQ.2.2.map aC)])):=
  oy adx sL wa.1 wa.2 (by decide) (by decide) uN
 rw[aqz.1,aqz.2.1]at c5;have c6:=oy adx sL afd.1 afd.2 (by decide) (dr:=[]) (by decide) uN
 rw[arQ.1,arQ.2]at c6;have c7:=oy adx sL afd.1 afd.2 (by decide) (dr:=[]) (by decide) agc
 rw[arz.1,arz.2]at c7;have h6:=aqz.2.2;have cp:=acI 1 3;have ce:=aeg ⟨⟨0,1,1⟩,[5],[]⟩ (by decide)
 clear w;generalize nwB=B at *;generalize (aU nwC nwP.1 [5] [] [])=Z at c4;generalize (bN nwC nwQ.1 iy []).1=T1 at c6;generalize (bN nwC nwQ.1 rT []).1=T2 at c7;generalize nwQ.1=Q at *;generalize nwP.2.2.2.1=PL at *;generalize nwP.1=P1 at *;unfold iy at c5 c6;unfold rT at c7;generalize nwC=C at *;refine en_ Tryz.func9 [.tmp 0] (g2_ ?_);refine g2_ ?_;refine cw_ c1 (g2_ ?_);refine cw_ c2 (g2_ ?_);refine cw_ c3 (g2_ ?_);refine cw_ c4 (g2_ ?_);refine rW (.fl 0 (.fl 1 (.eff 2 true (.eff 3 false (.fl 4 (.fl 5 (.fl 6 (.fl 7 (.eff 8 true (.eff 9 false (.fl 10 (.fl 11 .done)) .no) .no))))) (.eff 8 true (.eff 3 false (.fl 4 (.fl 5 (.fl 6 (.fl 7 (.eff 9 false (.fl 10 (.fl 11 .done)) .no))))) .no) .no)) (.eff 8 true (.eff 2 true (.eff 3 false (.fl 4 (.fl 5 (.fl 6 (.fl 7 (.eff 9 false (.fl 10 (.fl 11 .done)) .no))))) .no) .no) .no)))) [(13,.loc 13 0),(14,.d (.fz 17 [])),(15,.d (.fz 5 [aC ⟨⟨1,1,1⟩,[3],[]⟩]))] [(13,⟨an Q,49⟩)] ?_ ?_
 ·refine g2_ ?_
  repeat' (first
   |(with_reducible refine And.intro ?_ ?_)
   |(refine cw_ cp (g2_ ?_))
   |(refine cw_ c5 (g2_ ?_))
   |(refine aa [] ?_;(focus (simp-implicitDefEqProofs only[go_sem,ab];done))))
 refine g2_ ?_;refine rW (.fl 0 (.fl 1 (.eff 2 true (.eff 3 false (.fl 4 (.fl 5 (.fl 6 (.fl 7 (.eff 8 true (.eff 9 false (.fl 10 (.fl 11 .done)) .no) .no))))) (.eff 8 true (.eff 3 false (.fl 4 (.fl 5 (.fl 6 (.fl 7 (.eff 9 false (.fl 10 (.fl 11 .done)) .no))))) .no) .no)) (.eff 8 true (.eff 2 true (.eff 3 false (.fl 4 (.fl 5 (.fl 6 (.fl 7 (.eff 9 false (.fl 10 (.fl 11 .done)) .no))))) .no) .no) .no)))) [(16,.loc 16 0),(17,.d (.fz 17 [])),(18,.d (.fz 5 []))] [(16,⟨an T1,49⟩)] ?_ ?_
 ·refine g2_ ?_
  repeat' (first
   |(with_reducible refine And.intro ?_ ?_)
   |(refine cw_ cp (g2_ ?_))
   |(refine cw_ c6 (g2_ ?_))
   |(refine aa [] ?_;(focus (simp-implicitDefEqProofs only[go_sem,ab];done))))
 refine g2_ ?_;refine cx_ c7 (by simp-implicitDefEqProofs only[go_sem,ab,zEvt]) (gf_ h6 ?_)
 refine .inl ⟨[oF 0,oF 1,oF 2,oF 3,oF 4,oF 5,oF 6,oF 7,oF 8,oF 9,oF 10,oF 11,oF 12,oF 13,oF 14,oF 15,oF 16,oF 17,oF 18,oF 19,oF 20,oF 21,oF 22,oF 23,oF 24,oF 25,oF 29,oF 26,oF 27,oF 28,oF 30,oF 31,oF 32],by kernel_rfl,gf_ @pMsg.eq_1 ?_⟩
 refine CallS.eqW ce ws_ (.inr ws_) ?_;refine g2_ ?_;refine ae ?_ rfl;exact ws_
end Go.Proofs.YtmhmahcdanclnaaGreat.V
namespace Go.Proofs.YtmhmahcdanclnaaGreat.V
open Go.Eng
section
variable {c:ao} {p q:af} {dr:List UInt32} {o:jF} {m:aJ} {a:GEvt}
def Ui(p:af):Prop:=p.up=true->1<=p.inc.toNat
theorem Ui.of(h:Ui p)(h1:q.inc=p.inc)(h2:q.up=p.up):Ui q:=fun hu=>by rw[h1];exact h (by rw[<-h2];exact hu)
end
attribute[local go_sem] zDesc aR ah fzD plR aZ aO aP az aE an aC aT z8 z16 z32 z64 encMg a_ bW aI aB h_ dT ar List.map_cons List.map_nil SeqW2.eq_1
theorem aoY{o:jF}(h:ahO o=true)(hf: ∀d∈o.m.list, ∀s∈d.filter,okS s)(hfs: ∀s∈o.filter,okS s):arx o:=by
 unfold ahO at h;simp only[Bool.and_eq_true,decide_eq_true_eq]at h;obtain⟨h1,h2,h3,h4,h5,h6,h7⟩:=h;obtain⟨q1,q2,q3⟩:=ard (o:=⟨0,0,0,o.filter,o.m,o.draws⟩) h1 hf;unfold qA at h1;simp only[Bool.and_eq_true,decide_eq_true_eq]at h1;exact⟨⟨q1,⟨by omega,by omega⟩,by omega,by omega⟩,by have:=h1.2.2.2.2;show o.draws.length<=1048576;omega,q3,hfs,by omega,by omega⟩
theorem dl1:decide ((1:Int)<((0:Nat):Int))=false:=rfl
theorem dl3:decide ((1:Int)<((0+1:Nat):Int))=false:=rfl
theorem dl4:decide ((0:Int)<((0:Nat):Int))=false:=rfl
theorem dl6:decide ((0:Int)<((0+1:Nat):Int))=true:=rfl
theorem dl7:decide ((1:Int)<1)=false:=rfl
attribute[local go_sem] dl1 dl3 dl4 dl6 dl7
theorem rZ:zT Tryz.prog 3 (.v (.int .i64 0)):=⟨_,fun w=>by kernel_rfl,fun us β=>⟨rfl,rfl⟩⟩
theorem ck{r:Nat->Option Rn}{kv:GID->Value}{A:List GID}:wkRow r (mpRow kv (bC (.v (.int .i64 1)) A)) (some (mpRow kv (bC (.v (.int .i64 1)) A)))=True:=by
 refine eq_true ⟨rfl,?_⟩
 induction A with
 |nil=>exact rfl
 |cons a l ih=>exact⟨rfl,ih⟩
theorem lK{z y:DV}{A:List GID}{k:GID}(h:k∉A):fL (bC z A) k y=bC z A++[(k,y)]/\(qq (bC z A) k).getD (bC z A).length=A.length:=by
 unfold fL;rw[tO]
 have:A.findIdx? (fun y=>decide (k=y))=none:=by
  rw[List.findIdx?_eq_none_iff];intro x hx;simp
  rintro rfl
  exact h hx
 rw[this];exact⟨rfl,by simp[bC]⟩
theorem af1{z y:DV}{A:List GID}{k:GID}:(bC z A++[(k,y)]).set A.length (k,z)=bC z (A++[k]):=by
 have:A.length=(bC z A).length:=by simp[bC]
 rw[this,List.set_append_right _ _ (Nat.le_refl _),Nat.sub_self];simp[bC]
theorem afR{z y:DV}{A:List GID}{k:GID}(h:k∉A):dK (bC z A++[(k,y)]) k=some y:=by
 have h2:qq (bC z A++[(k,y)]) k=some A.length:=by
  unfold qq;rw[List.map_append,List.findIdx?_append]
  have h3:((bC z A).map (·.1)).findIdx? (fun y=>decide (k=y))=none:=by
   rw[List.findIdx?_eq_none_iff];intro x hx;obtain⟨w,hw,rfl⟩:=List.mem_map.1 hx;obtain⟨v,hv,rfl⟩:=List.mem_map.1 hw;simp
   rintro rfl
   exact h hv
  rw[h3];simp[bC]
 unfold dK;rw[h2,Option.bind_some,List.getElem?_append_right (by simp[bC])]
 simp[bC]
theorem anX{p q:af}{G:List GID}:jl p q G=if (!decide (q.inc=p.inc)|| !q.up)=true then []else G:=by grind [jl]
theorem nodeOnce_con(c:ao)(node:UInt8)(ops:List jF)(hcs: ∀s∈c.schema,okS s)(hsl:c.schema.length<=9223372036854775807)(hol:ops.length<=9223372036854775807)(hops: ∀o∈ops,o.m.list.length<=9223372036854775807/\o.m.table.length<=9223372036854775807/\(∀d∈o.m.list, ∀s∈d.filter,okS s)/\(∀s∈o.filter,okS s)):
  Con2 Tryz.prog 5 [.agg (aE c),.v (.int .u8 node.toNat),.fz 22 (ops.map encNop)] (· =plR (.v (.bool true))):=by
 have haw:=ack;refine en_ Tryz.func5 [.tmp 6] (g2_ ?_);refine g2_ ?_
 by_cases g1:(8:Int)<(c.schema.length:Int)
 ·rw[decide_eq_true g1];refine g2_ ?_;refine cw_ haw (g2_ ?_);exact⟨_,rfl,aa [] ws_⟩
 rw[decide_eq_false g1];refine g2_ ?_;refine cw_ (acp c (by omega)) (g2_ ?_)
 cases g2:aF c with
 |false=>
  refine g2_ ?_;refine cw_ haw (g2_ ?_);exact⟨_,rfl,aa [] ws_⟩
 |true=>
 have hrg:=cu g2;have hrb:=gX g2;obtain⟨n1,n2⟩:=xU g2;refine g2_ ?_;refine gK (by omega) ?_
 refine g2_ ?_;obtain⟨n,hn⟩: ∃n:Nat,c.nodes=n:=⟨c.nodes.toNat,by omega⟩
 rw[ny (a:=node.toNat) (b:=n) (bi:=c.nodes) rfl hn (by omega)]
 have hmod:node.toNat % n<n:=Nat.mod_lt _ (by omega)
 obtain⟨nd,hnd⟩: ∃nd:UInt8,(((node.toNat % n:Nat):Nat):Int)=(nd.toNat:Int):=⟨UInt8.ofNat (node.toNat % n),by
  rw[UInt8.toNat_ofNat'];omega⟩
 rw[hnd];have hnl:=nd.toNat_lt;have hndc:(nd.toNat:Int)<c.nodes:=by omega
 refine g2_ ?_;refine cw_ (ra c nd) ?_;have hB0:=amm g2 nd;have hE0:Ew c (bH c nd) 0:=wV (nd:=nd) (inc:=0) (up:=false) (t:=(bH c nd).table) hrb.1 hrb.2.2.1 ⟨hrb.2.2.2.2.1,hrb.2.2.2.2.2⟩ (Int.le_refl 0);have hO0:On c (bH c nd) []:=acd (xZ nd);generalize bH c nd=p0 at hB0 hE0 hO0;refine g2_ ?_;refine lv (κ:=GID) (kv:=GID.val) ?_;rw[show mpRow GID.val ([]:List (GID×DV))=mpRow GID.val (bC (.v (.int .i64 1)) [])from rfl]
 refine gx_ ?_;obtain⟨m,hm⟩: ∃m:Nat,m=min ops.length 25:=⟨_,rfl⟩;have hmi:(if (25:Int)<(ops.length:Int)then (25:Int)else (ops.length:Int))=(m:Int):=by split<;>omega
 rw[hmi];refine gx_ ?_;have hO:List.take (m-0) (ops.map encNop)=(ops.take m).map encNop:=by rw[Nat.sub_zero,List.map_take]
 have hOm:=fun o (h:o∈ops.take m)=>hops o (List.mem_of_mem_take h)
 have hOl:(ops.take m).length<=25:=by rw[List.length_take];omega
 rw[hO];generalize ops.take m=O at hOm hOl;obtain⟨E,hE⟩: ∃E,E=O.map encNop:=⟨_,rfl⟩;have hEl:E.length=O.length:=by rw[hE,List.length_map]
 have hEg: ∀k (hk:k<O.length),E[k]? =some (encNop O[k]):=fun k hk=>by rw[hE,List.getElem?_map,List.getElem?_eq_getElem hk];rfl
 rw[<-hE];clear hE;refine il (γ:=af×List GID) (ρ:=[(8,.d (.mr 0)),(41,.d (.v (.int .i64 O.length))),(40,.d (.fz 22 E)),(1,.d (.v (.int .u8 nd.toNat))),(3,.loc 3 0),(7,.loc 7 0)]) O.length (fun s=>[]) (fun s=>[(3,⟨aE c,26⟩),(7,⟨an s.1,49⟩)]) (fun s=>[(0,mpRow GID.val (bC (.v (.int .i64 1)) s.2))]) 1 (fun k s=>Bd c nd s.1/\Ew c s.1 (k*64)/\On c s.1 s.2) (p0,[]) (aa [] ?_) ⟨hB0,by simpa using hE0,hO0⟩ (fun g k=>by first|rfl|(repeat first|simp-implicitDefEqProofs only[go_sem,ab]|with_reducible refine gl_ ?_)) (by omega) (fun g=>ws_) (fun k s hk hF=>?_) (fun s hF=>?_)
 ·refine gf_ (c2_ hEl @ck) ?_
  first|done|rfl|exact⟨rfl,rfl⟩
 ·obtain⟨p,G⟩:=s;obtain⟨hB,hEw,hOn⟩:=hF;simp only at hB hEw hOn ⊢;obtain⟨f1,f2,f3,f4⟩:=hOm _ (List.getElem_mem hk);have hfew:=ajo O[k] f1 f2;have hgo:=hEg k hk;generalize O[k]=x at hfew hgo f1 f2 f3 f4;have hnode:=hB.node;refine Vc2.seqJ (γ:=Unit) (fun _=>⟨[(10,.loc 10 0),(8,.d (.mr 0)),(42,.d (.v (.int .i64 k))),(41,.d (.v (.int .i64 O.length))),(40,.d (.fz 22 E)),(1,.d (.v (.int .u8 nd.toNat))),(3,.loc 3 0),(7,.loc 7 0)],[(10,⟨encNop x,63⟩),(3,⟨aE c,26⟩),(7,⟨an p,49⟩)],[(0,mpRow GID.val (bC (.v (.int .i64 1)) G))],1,0⟩) (fun _=>True) ?_ (fun _ _=>?_)
  ·refine gf_ (c2_ hgo @encNop.eq_1) ?_;refine⟨(),aa [] ?_⟩
   repeat first|simp-implicitDefEqProofs only[go_sem,ab,encNop,ck,List.append_eq,List.cons_append,List.nil_append]|with_reducible refine gl_ ?_
   first|done|rfl|exact⟨rfl,rfl⟩
  clear hgo;refine Vc2.seqJ (γ:=Unit) (fun _=>⟨[(10,.loc 10 0),(8,.d (.mr 0)),(42,.d (.v (.int .i64 k))),(41,.d (.v (.int .i64 O.length))),(40,.d (.fz 22 E)),(1,.d (.v (.int .u8 nd.toNat))),(3,.loc 3 0),(7,.loc 7 0)],[(10,⟨encNop x,63⟩),(3,⟨aE c,26⟩),(7,⟨an p,49⟩)],[(0,mpRow GID.val (bC (.v (.int .i64 1)) G))],1,0⟩) (fun _=>ahO x=true) ?_ (fun _ g3=>?_)
  ·repeat first|simp-implicitDefEqProofs only[go_sem,ab,encNop,List.append_eq,List.cons_append,List.nil_append]|with_reducible first|refine gl_ ?_|refine ga_ ?_|refine gn_ ?_
   refine cx_ hfew (by simp-implicitDefEqProofs only[go_sem,ab,encNop,List.append_eq,List.cons_append,List.nil_append]) (g2_ ?_)
   cases g3:ahO x with
   |false=>
    refine g2_ ?_;refine⟨(p,G),aa [] ?_,hB,hEw.more (by omega),hOn⟩
    exact wf_ @ck
   |true=>
    refine g2_ ?_;refine⟨(),aa [] ?_⟩
    repeat first|simp-implicitDefEqProofs only[go_sem,ab,encNop,ck,List.append_eq,List.cons_append,List.nil_append]|with_reducible refine gl_ ?_
    first|done|rfl|exact⟨rfl,rfl⟩
  have hok:=aoY g3 f3 f4;have hW:=akG g2 hcs hndc hB hEw (by omega) hok
  have hS:=(sZ (o:=x) g2 hcs hB hEw hok.m.mg f4).bd;rw[hnode]at hS;have hE2:Ew c (fK c p x).1 ((k+1:Nat)*64):=(aeR (o:=x) ⟨hrb.1,hrb.2.1⟩ hrb.2.2.1 ⟨hrb.2.2.2.2.1,hrb.2.2.2.2.2⟩ (by rw[hnode];exact hndc) (by omega) hEw).more (by omega)
  have hOc:=aic (o:=x) hOn (by rw[hnode];have:=hB.win.rows;omega)
  clear hfew;generalize fK c p x=D at hW hS hE2 hOc;obtain⟨q,ms,got,own,err⟩:=D;simp only at hW hS hE2 hOc;refine Vc2.seqJ (γ:=Unit) (fun _=>⟨[(11,.loc 11 0),(8,.d (.mr 0)),(42,.d (.v (.int .i64 k))),(41,.d (.v (.int .i64 O.length))),(40,.d (.fz 22 E)),(1,.d (.v (.int .u8 nd.toNat))),(3,.loc 3 0),(7,.loc 7 0)],[(11,⟨encCame (q,ms,got,own,err),68⟩),(3,⟨aE c,26⟩),(7,⟨an p,49⟩)],[(0,mpRow GID.val (bC (.v (.int .i64 1)) G))],1,0⟩) (fun _=>True) ?_ (fun _ _=>?_)
  ·repeat first|simp-implicitDefEqProofs only[go_sem,ab,encNop,List.append_eq,List.cons_append,List.nil_append]|with_reducible first|refine gl_ ?_|refine ga_ ?_|refine gn_ ?_
   refine cx_ hW (by simp-implicitDefEqProofs only[go_sem,ab,encNop,List.append_eq,List.cons_append,List.nil_append]) (gf_ @encCame.eq_1 ?_)
   refine⟨(),aa [] ?_⟩
   repeat first|simp-implicitDefEqProofs only[go_sem,ab,encNop,encCame,ck,List.append_eq,List.cons_append,List.nil_append]|with_reducible refine gl_ ?_
   first|done|rfl|exact⟨rfl,rfl⟩
  clear hW;rw[anX]at hOc;refine Vc2.seqJ (γ:=Unit) (fun _=>⟨[(11,.loc 11 0),(8,.d (.mr 0)),(42,.d (.v (.int .i64 k))),(41,.d (.v (.int .i64 O.length))),(40,.d (.fz 22 E)),(1,.d (.v (.int .u8 nd.toNat))),(3,.loc 3 0),(7,.loc 7 0)],[(11,⟨encCame (q,ms,got,own,err),68⟩),(3,⟨aE c,26⟩),(7,⟨an p,49⟩)],[(0,mpRow GID.val (bC (.v (.int .i64 1)) (if (!decide (q.inc=p.inc)|| !q.up)=true then []else G)))],1,0⟩) (fun _=>True) ?_ (fun _ _=>?_)
  ·repeat first|simp-implicitDefEqProofs only[go_sem,ab,encCame,List.append_eq,List.cons_append,List.nil_append]|with_reducible first|refine gl_ ?_|refine ga_ ?_|refine gn_ ?_
   rw[qB];cases b1:decide (q.inc=p.inc)with
   |false=>
    refine g2_ ?_;refine lv (κ:=GID) (kv:=GID.val) ?_;rw[show mpRow GID.val ([]:List (GID×DV))=mpRow GID.val (bC (.v (.int .i64 1)) [])from rfl]
    refine g2_ ?_;refine⟨(),aa [(0,.to 1)] ?_⟩
    repeat first|simp-implicitDefEqProofs only[go_sem,ab,encCame,ck,if_true,List.append_eq,List.cons_append,List.nil_append]|with_reducible refine gl_ ?_
    first|done|rfl|exact⟨rfl,rfl⟩
   |true=>
   refine g2_ ?_;cases b2:q.up with
   |false=>
    refine g2_ ?_;refine lv (κ:=GID) (kv:=GID.val) ?_;rw[show mpRow GID.val ([]:List (GID×DV))=mpRow GID.val (bC (.v (.int .i64 1)) [])from rfl]
    refine g2_ ?_;refine⟨(),aa [(0,.to 1)] ?_⟩
    repeat first|simp-implicitDefEqProofs only[go_sem,ab,encCame,ck,if_true,b2,List.append_eq,List.cons_append,List.nil_append]|with_reducible refine gl_ ?_
    first|done|rfl|exact⟨rfl,rfl⟩
   |true=>
    refine g2_ ?_;refine⟨(),aa [] ?_⟩
    repeat first|simp-implicitDefEqProofs only[go_sem,ab,encCame,ck,if_false,Bool.false_eq_true,b2,List.append_eq,List.cons_append,List.nil_append]|with_reducible refine gl_ ?_
    first|done|rfl|exact⟨rfl,rfl⟩
  generalize (if (!decide (q.inc=p.inc)|| !q.up)=true then []else G)=G1 at hOc⊢
  rcases hOc with ⟨rfl,hq1⟩|⟨ev,rfl,hd⟩
  ·refine Vc2.sq ?_
   repeat first|simp-implicitDefEqProofs only[go_sem,ab,encCame,List.length_nil,List.append_eq,List.cons_append,List.nil_append]|with_reducible first|refine gl_ ?_|refine ga_ ?_|refine gn_ ?_
   refine Vc2.seqJ (γ:=Unit) (fun _=>⟨[(11,.loc 11 0),(8,.d (.mr 0)),(42,.d (.v (.int .i64 k))),(41,.d (.v (.int .i64 O.length))),(40,.d (.fz 22 E)),(1,.d (.v (.int .u8 nd.toNat))),(3,.loc 3 0),(7,.loc 7 0)],[(11,⟨encCame (q,ms,[],own,err),68⟩),(3,⟨aE c,26⟩),(7,⟨an p,49⟩)],[(0,mpRow GID.val (bC (.v (.int .i64 1)) G1))],1,0⟩) (fun _=>True) ?_ (fun _ _=>?_)
   ·refine gx_ ?_;refine au 0 (fun j=>[]) (fun _=>[]) (fun j=>[(0,mpRow GID.val (bC (.v (.int .i64 1)) G1))]) 1 (fun _=>True) (aa [] ?_) trivial (fun g k=>ws_) (by omega) (fun g=>ws_) (fun j hj _=>absurd hj (Nat.not_lt_zero _)) (fun _=>?_)
    ·repeat first|simp-implicitDefEqProofs only[go_sem,ab,ck]|with_reducible refine gl_ ?_
     first|done|rfl|exact⟨rfl,rfl⟩
    ·refine g2_ ?_;refine⟨(),aa [] ?_⟩
     repeat first|simp-implicitDefEqProofs only[go_sem,ab,encCame,ck,List.append_eq,List.cons_append,List.nil_append]|with_reducible refine gl_ ?_
     first|done|rfl|exact⟨rfl,rfl⟩
   refine Vc2.of ?_
   repeat first|simp-implicitDefEqProofs only[go_sem,ab,encCame,List.append_eq,List.cons_append,List.nil_append]|with_reducible first|refine gl_ ?_|refine ga_ ?_|refine gn_ ?_
   refine⟨(q,G1),aa [] ?_,hS,hE2,hq1⟩
   repeat first|simp-implicitDefEqProofs only[go_sem,ab,encCame,ck,List.append_eq,List.cons_append,List.nil_append]|with_reducible refine gl_ ?_
   first|done|rfl|exact⟨rfl,rfl⟩
  ·have hup:=hd.up;have hnew:=hd.new;have hv:=hd.ok;have hvl:=mM hv;obtain⟨r,hr,hrh⟩:=hd.row;obtain⟨h6,hr6⟩:=List.getElem?_eq_some_iff.1 hr;have hcv:=mO c.schema ev (by omega) (by omega) (by omega)
   have hcm:=jU q.filter ev.vals hS.h.g.ok.filter (by omega)
   have hch:=ahp r ev.id;have hca:=th g2 hS hE2 (by omega) (e:=ev) ⟨by omega,by omega⟩
   have hna:aA c q ev=(q,false,false):=if_pos (.inr hd.no);rw[hna]at hca;rw[hv]at hcv;rw[hd.fits]at hcm;rw[hrh]at hch;have hevb:=ev.id.bd;have hge:(q.rows.map az)[ev.id.node.toNat]? =some (az r):=by rw[List.getElem?_map,hr];rfl
   refine Vc2.sq ?_
   repeat first|simp-implicitDefEqProofs only[go_sem,ab,encCame,List.length_nil,List.length_cons,hup,List.append_eq,List.cons_append,List.nil_append]|with_reducible first|refine gl_ ?_|refine ga_ ?_|refine gn_ ?_
   refine Vc2.seqJ (γ:=Unit) (fun _=>⟨[(11,.loc 11 0),(8,.d (.mr 0)),(42,.d (.v (.int .i64 k))),(41,.d (.v (.int .i64 O.length))),(40,.d (.fz 22 E)),(1,.d (.v (.int .u8 nd.toNat))),(3,.loc 3 0),(7,.loc 7 0)],[(11,⟨encCame (q,ms,[ev],own,err),68⟩),(3,⟨aE c,26⟩),(7,⟨an p,49⟩)],[(0,mpRow GID.val (bC (.v (.int .i64 1)) (G1++[ev.id])))],1,0⟩) (fun _=>True) ?_ (fun _ _=>?_)
   ·refine gx_ ?_;refine au 1 (fun j=>[]) (fun _=>[]) (fun j=>[(0,mpRow GID.val (bC (.v (.int .i64 1)) (if j=0 then G1 else G1++[ev.id])))]) 1 (fun _=>True) (aa [] ?_) trivial (fun g k=>ws_) (by omega) (fun g=>ws_) (fun j hj _=>?_) (fun _=>?_)
    ·repeat first|simp-implicitDefEqProofs only[go_sem,ab,ck,if_true]|with_reducible refine gl_ ?_
     first|done|rfl|exact⟨rfl,rfl⟩
    ·obtain rfl:j=0:=by omega
     rw[if_pos rfl];refine g2_ ?_;refine .inr (.inl ⟨(.fl 0 (.fl 1 (.fl 2 (.eff 3 false (.fl 4 (.eff 5 false (.fl 6 (.eff 7 false .done .no)) .no)) (.eff 5 false (.fl 3 (.fl 6 (.fl 4 (.eff 7 false .done .no)))) .no))))),by kernel_rfl,g2_ ?_⟩)
     refine⟨?_,?_⟩;refine nM (E:=3) (zd:=.v (.int .i64 0)) (l:=bC (.v (.int .i64 1)) G1) (k:=ev.id) mL Tryz.underlying78 rZ false ws_ ws_ rfl rfl ?_;rw[jv,if_neg hnew];refine gf_ @Option.getD_none.{0} ?_;refine uE (id:=0) (E:=3) (zd:=.v (.int .i64 0)) (l:=bC (.v (.int .i64 1)) G1) (k:=ev.id) (kd:=.agg (aI ev.id)) mL Tryz.underlying78 rZ ws_ ws_ rfl ws_ ?_;rw[jv,if_neg hnew,Option.getD_none,(lK hnew).1,(lK (y:=.v (.int .i64 0)) hnew).2];refine g2_ ?_
     rotate_left
     refine uE (id:=0) (E:=3) (zd:=.v (.int .i64 0)) (l:=bC (.v (.int .i64 1)) G1) (k:=ev.id) (kd:=.agg (aI ev.id)) mL Tryz.underlying78 rZ ws_ ws_ rfl ws_ ?_;rw[jv,if_neg hnew,Option.getD_none,(lK hnew).1,(lK (y:=.v (.int .i64 0)) hnew).2];refine g2_ ?_;refine nM (E:=3) (zd:=.v (.int .i64 0)) (l:=bC (.v (.int .i64 1)) G1++[(ev.id,.v (.int .i64 0))]) (k:=ev.id) mL Tryz.underlying78 rZ false ws_ ws_ rfl rfl ?_;rw[afR hnew];refine x0_ ?_
     all_goals
      refine xk (kv:=GID.val) (id:=0) (i:=G1.length) (p:=(ev.id,.v (.int .i64 0))) (l:=bC (.v (.int .i64 1)) G1++[(ev.id,.v (.int .i64 0))]) (vd:=.v (.int .i64 1)) ws_ ws_ ws_ ws_ (by simp[bC]) ?_
      rw[af1];refine g2_ ?_;refine .inl ⟨[oF 0,oF 1,oF 2,oF 3,oF 4,oF 5,oF 6,oF 8,oF 7,oF 9,oF 10,oF 11,oF 12,oF 13,oF 17,oF 14,oF 18,oF 15,oF 19,oF 16,oF 20,oF 21,oF 22,oF 23,oF 24,oF 27,oF 25,oF 28,oF 26,oF 29,oF 30,oF 31,oF 32,oF 33,oF 36,oF 41,oF 34,oF 37,oF 42,oF 35,oF 38,oF 39,oF 40,oF 43,oF 44,oF 45],by kernel_rfl,g2_ ?_⟩
      refine nM (E:=3) (zd:=.v (.int .i64 0)) (l:=bC (.v (.int .i64 1)) (G1++[ev.id])) (k:=ev.id) mL Tryz.underlying78 rZ false ws_ ws_ rfl rfl ?_;rw[jv,if_pos (by simp)]
      refine x0_ ?_;refine cw_ hcv (gx_ ?_);rw[decide_eq_false (show ¬((q.rows.length:Int)<=(ev.id.node.toNat:Int))by omega)]
      refine g2_ ?_;refine cw_ hcm (gf_ hge ?_);refine cw_ hch (g2_ ?_);refine cx_ hca (wf_ hup) (g2_ ?_);refine⟨0+1,aa [] ?_,rfl⟩;rw[if_neg (by decide)]
      repeat first|simp-implicitDefEqProofs only[go_sem,ab,ck,hup,List.append_eq,List.cons_append,List.nil_append]|with_reducible refine gl_ ?_
      first|done|rfl|exact⟨rfl,rfl⟩
    ·rw[if_neg (by decide)]
     refine g2_ ?_;refine⟨(),aa [] ?_⟩
     repeat first|simp-implicitDefEqProofs only[go_sem,ab,encCame,ck,hup,List.append_eq,List.cons_append,List.nil_append]|with_reducible refine gl_ ?_
     first|done|rfl|exact⟨rfl,rfl⟩
   refine Vc2.of ?_
   repeat first|simp-implicitDefEqProofs only[go_sem,ab,encCame,List.append_eq,List.cons_append,List.nil_append]|with_reducible first|refine gl_ ?_|refine ga_ ?_|refine gn_ ?_
   refine⟨(q,G1++[ev.id]),aa [] ?_,hS,hE2,hd.on.less (fun y hy=>by rcases List.mem_append.1 hy with h|h;exact List.mem_cons_of_mem _ h;rw[List.mem_singleton.1 h];exact List.mem_cons_self ..)⟩
   repeat first|simp-implicitDefEqProofs only[go_sem,ab,encCame,ck,List.append_eq,List.cons_append,List.nil_append]|with_reducible refine gl_ ?_
   first|done|rfl|exact⟨rfl,rfl⟩
 ·refine g2_ ?_;refine cw_ haw (g2_ ?_);exact⟨_,rfl,aa [] ws_⟩
