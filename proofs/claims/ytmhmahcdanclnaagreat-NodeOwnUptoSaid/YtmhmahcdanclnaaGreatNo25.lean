import Derived.Test.YtmhmahcdanclnaaGreatNo24
set_option linter.unusedSectionVars false
set_option linter.unusedSimpArgs false
set_option linter.unusedVariables false
set_option maxRecDepth 10000
namespace Go.Eng
theorem atj:((UInt8.toNat 1:Nat):Int)=1:=rfl
theorem as4:((UInt8.toNat 2:Nat):Int)=2:=rfl
theorem atf:((UInt8.toNat 3:Nat):Int)=3:=rfl
theorem atp:((UInt8.toNat 4:Nat):Int)=4:=rfl
theorem as3:((UInt8.toNat 5:Nat):Int)=5:=rfl
theorem atk:((UInt8.toNat 6:Nat):Int)=6:=rfl
theorem atu:((UInt8.toNat 7:Nat):Int)=7:=rfl
theorem atg:((UInt8.toNat 8:Nat):Int)=8:=rfl
theorem atv:((UInt8.toNat 9:Nat):Int)=9:=rfl
theorem asO:((UInt8.toNat 10:Nat):Int)=10:=rfl
theorem asa:((UInt8.toNat 11:Nat):Int)=11:=rfl
theorem asW:((UInt8.toNat 12:Nat):Int)=12:=rfl
attribute [go_sem] atj as4 atf atp as3 atk atu atg atv asO asa asW
theorem tG:cg []:=⟨by simp,by simp⟩
theorem ae6(c:ar)(node:UInt8):okP (bF c node):=by
 refine⟨by simp[bF],tG,tG,by simp[bF,zDesc],by simp[bF,zDesc],tG,?_,?_,?_,?_,by simp[bF],by simp[bF]⟩
 ·simp[bF];omega
 ·simp[bF];omega
 ·simp[bF];omega
 ·refine⟨by simp[bF];omega,fun l hl=>?_⟩
  have:=List.eq_of_mem_replicate hl;rw[this,jS];omega
theorem gl{α:Type}(f:α->α)(l:List α){i:Nat}(h:i<l.length):l.modify i f=l.set i (f l[i]):=by
 apply List.ext_getElem?;intro j;rw[List.getElem?_modify,List.getElem?_set]
 by_cases e:i=j
 ·subst e;simp[h]
 ·simp[e]
def ap4(c:ar)(p:af)(to:UInt8):List aK×Int:=
 if p.up=false then ([],53)else if c.nodes<=to.toNat\/to=p.node then ([],2)else ([{ pMsg p 1 to with list:=[pSelf p] }],0)
def kN(inc:UInt16)(m:au):au:=if m.inc<inc\/(inc=m.inc/\0<inc/\m.state≠3)then ⟨inc,1,0⟩else m
def iG(l:List au)(i:UInt8)(inc:UInt16):List au:=l.modify i.toNat (kN inc)
end Go.Eng
namespace Go.Proofs.YtmhmahcdanclnaaGreat.V
open Go.Eng
attribute [local go_sem] aS ah fzD plR ba aL aR aC aE ak az aU z8 z16 z32 z64 encMg
theorem rK(l:List au)(i:UInt8)(inc:UInt16)(hl:l.length<=4000000):Con2 Tryz.prog 258 [.fz 3 (l.map aR),.v (.int .u8 i.toNat),.v (.int .u16 inc.toNat)] (· =plR (.fz 3 ((iG l i inc).map aR))):=by
 refine Con2.ofEmb ?_;have hi:=i.toNat_lt;refine en_ Tryz.func258 [.tmp 6] (g2_ ?_);refine g2_ ?_;refine im_ Tryz.func324 [.tmp 6] (g2_ ?_);refine g2_ ?_;refine ce_ (gx (l.map aR) (by rw[List.length_map];omega)) (gx_ ?_)
 by_cases h1:i.toNat<l.length
 ·have e1:decide ((i.toNat:Int)<(l.length:Int))=true:=decide_eq_true (by omega)
  rw[e1];refine gf_ (mE_ h1) ?_;refine im_ Tryz.func325 [.cell 3 127] (g2_ ?_);refine g2_ ?_;have e2:iG l i inc=l.set i.toNat (kN inc l[i.toNat]):=by rw[iG,gl _ _ h1]
  rw[e2];generalize l[i.toNat]=m;rw[dW]
  by_cases hA:inc=m.inc
  ·have hD:decide ((m.inc.toNat:Int)<(inc.toNat:Int))=false:=by rw[hA];exact decide_eq_false (by omega)
   rw[decide_eq_true hA];refine g2_ ?_
   by_cases hB:(0:Int)<(inc.toNat:Int)
   ·have hB2:0<inc:=by rw[UInt16.lt_iff_toNat_lt];have:(0:UInt16).toNat=0:=rfl;omega
    rw[decide_eq_true hB];refine g2_ ?_
    by_cases hC:m.state=3
    ·have hC2:((m.state.toNat:Int) !=3)=false:=by rw[hC];rfl
     rw[hC2];refine g2_ ?_;rw[hD];refine gf_ (mE_ h1) ?_;refine ae ?_ rfl;have e3:kN inc m=m:=if_neg (by rw[hA,hC];simp)
     repeat first|simp-implicitDefEqProofs only[go_sem,ab,e3,List.map_set,List.length_map,List.length_set,List.take_of_length_le (Nat.le_refl _)]|with_reducible refine gl_ ?_
     rw[List.take_of_length_le (by simp)]
    ·have hC2:((m.state.toNat:Int) !=3)=true:=by
      have:((m.state.toNat:Int) !=(3:UInt8).toNat)= !decide (m.state=3):=by rw[bne,ch]
      rw[show((3:UInt8).toNat:Int)=3 from rfl]at this
      rw[this,decide_eq_false hC];rfl
     rw[hC2];refine g2_ ?_;rw[hD];refine gf_ (mE_ h1) ?_;refine ae ?_ rfl;have e3:kN inc m=⟨inc,1,0⟩:=if_pos (.inr ⟨hA,hB2,hC⟩)
     repeat first|simp-implicitDefEqProofs only[go_sem,ab,e3,List.map_set,List.length_map,List.length_set,List.take_of_length_le (Nat.le_refl _)]|with_reducible refine gl_ ?_
     rw[List.take_of_length_le (by simp)]
   ·have hB2: ¬0<inc:=by rw[UInt16.lt_iff_toNat_lt];have:(0:UInt16).toNat=0:=rfl;omega
    rw[decide_eq_false hB];refine g2_ ?_;rw[hD];refine gf_ (mE_ h1) ?_;refine ae ?_ rfl;have e3:kN inc m=m:=if_neg (by rw[<-hA];simp[hB2])
    repeat first|simp-implicitDefEqProofs only[go_sem,ab,e3,List.map_set,List.length_map,List.length_set,List.take_of_length_le (Nat.le_refl _)]|with_reducible refine gl_ ?_
    rw[List.take_of_length_le (by simp)]
  ·rw[decide_eq_false hA];refine g2_ ?_
   by_cases hD:(m.inc.toNat:Int)<(inc.toNat:Int)
   ·rw[decide_eq_true hD];have hD2:m.inc<inc:=by rw[UInt16.lt_iff_toNat_lt];omega
    refine gf_ (mE_ h1) ?_;refine ae ?_ rfl;have e3:kN inc m=⟨inc,1,0⟩:=if_pos (.inl hD2)
    repeat first|simp-implicitDefEqProofs only[go_sem,ab,e3,List.map_set,List.length_map,List.length_set,List.take_of_length_le (Nat.le_refl _)]|with_reducible refine gl_ ?_
    rw[List.take_of_length_le (by simp)]
   ·rw[decide_eq_false hD];have hD2: ¬m.inc<inc:=by rw[UInt16.lt_iff_toNat_lt];omega
    refine gf_ (mE_ h1) ?_;refine ae ?_ rfl;have e3:kN inc m=m:=if_neg (by simp[hD2,hA])
    repeat first|simp-implicitDefEqProofs only[go_sem,ab,e3,List.map_set,List.length_map,List.length_set,List.take_of_length_le (Nat.le_refl _)]|with_reducible refine gl_ ?_
    rw[List.take_of_length_le (by simp)]
 ·have e1:decide ((i.toNat:Int)<(l.length:Int))=false:=decide_eq_false (by omega)
  have e2:iG l i inc=l:=by rw[iG,List.modify_eq_self (by omega)]
  rw[e1,e2];refine g2_ ?_;refine ae ?_ rfl
  repeat first|simp-implicitDefEqProofs only[go_sem,ab,List.length_map,List.take_of_length_le (Nat.le_refl _),an]|with_reducible refine gl_ ?_
end Go.Proofs.YtmhmahcdanclnaaGreat.V
namespace Go.Eng
def fQ(l:List (List GMark)):Prop:=l.length<=256/\ ∀r∈l,r.length<=4000000
def bk(l:List (List GMark)):List (List DV):=l.map fun r=>[.fz 3 (r.map aL)]
def f7(l:List (List GMark))(i:UInt8):List (List GMark):=l.set i.toNat (gz l.length)
def aw(c:ar)(p:af)(node:UInt8)(inc:UInt16):af×Bool:=
 if c.nodes<=node.toNat\/p.table.length<=node.toNat\/node=p.node\/inc=0 then (p,false)else
  match p.table[node.toNat]? with
  |none=>(p,false)
  |some m=>if inc<m.inc\/(inc=m.inc/\m.state=3)then (p,false)
   else ({ p with table:=iG p.table node inc,reports:=if m.inc<inc then f7 p.reports node else p.reports },true)
theorem nv(x:UInt16):((x.toNat:Int)==0)=decide (x=0):=dW x 0
theorem abv(x:UInt8):((x.toNat:Int)==3)=decide (x=3):=ch x 3
theorem ao(l:List (List GMark)):(l.map fun r=>[DV.fz 3 (r.map aL)])=bk l:=rfl
end Go.Eng
namespace Go.Proofs.YtmhmahcdanclnaaGreat.V
open Go.Eng
attribute [local go_sem] aS ah fzD plR ba aL aR aC aE ak az aU z8 z16 z32 z64 encMg
theorem t0(l:List (List GMark))(hl:fQ l):Con2 Tryz.prog 319 [.fz 1 (bk l)] (· =ba 40 1 (bk l)):=by
 obtain⟨hl1,hl2⟩:=hl;have hLl:(bk l).length=l.length:=by rw[bk,List.length_map]
 have hge0: ∀k (hk:k<l.length),(bk l)[k]? =some [DV.fz 3 (l[k].map aL)]:=fun k hk=>by rw[bk,List.getElem?_map,List.getElem?_eq_getElem hk];rfl
 generalize bk l=L at hLl hge0;refine en_ Tryz.func319 [.tmp 2] (g2_ ?_);refine gf_ hLl ?_;refine aq l.length (fun k=>[]) (fun _=>[]) (fun k=>[(0,.arr 40 1 (dH [.v (.slice none 0 0)] L k) false)]) 1 (fun _=>True) (aa [] ?_) trivial (fun g k=>ws_) (by omega) (fun g=>ws_) (fun k hk _=>?_) (fun _=>?_)
 ·refine gf_ (c2_ @ox hLl) ?_
  first|rfl|exact⟨rfl,rfl⟩
 ·have hk2:k<L.length:=by omega
  have hge:=hge0 k hk;have hge2:L[k]=[DV.fz 3 (l[k].map aL)]:=by rw[List.getElem?_eq_getElem hk2]at hge;exact Option.some.inj hge
  repeat first|simp-implicitDefEqProofs only[go_sem,ab,hge,cT hk2,cE (Nat.le_of_lt hk2),List.contains_nil]|with_reducible first|refine gl_ ?_|refine ga_ ?_|refine gn_ ?_
  refine ce_ (ic (l[k].map aL) (by rw[List.length_map];have:=hl2 _ (List.getElem_mem hk);omega)) ?_
  repeat first|simp-implicitDefEqProofs only[go_sem,ab,cT hk2,cE (Nat.le_of_lt hk2),List.contains_nil]|with_reducible first|refine gl_ ?_|refine ga_ ?_|refine gn_ ?_
  refine⟨k+1,aa [] ?_,rfl⟩;refine g2_ ?_;rw[<-js hk2,hge2]
 ·rw[<-hLl];refine gf_ @jw ?_;exact⟨_,rfl,aa [(0,.to 0)] ws_⟩
theorem jI(l:List (List GMark))(i:UInt8)(hl:fQ l):Con2 Tryz.prog 259 [.fz 1 (bk l),.v (.int .u8 i.toNat)] (· =plR (.fz 1 (bk (f7 l i)))):=by
 refine Con2.ofEmb ?_;have hl1:=hl.1;have hi:=i.toNat_lt;have hLl:(bk l).length=l.length:=by rw[bk,List.length_map]
 refine en_ Tryz.func259 [.tmp 4] (g2_ ?_);refine g2_ ?_;refine ce_ (t0 l hl) (gf_ hLl ?_);refine aZ (fun h=>?_) (fun h=>?_)
 ·have h1:i.toNat<l.length:=by omega
  have h2:i.toNat<(bk l).length:=by omega
  have hg:=List.getElem?_eq_getElem h2;have hm:(if (256:Int)<(l.length:Int)then (256:Int)else (l.length:Int))=l.length:=if_neg (by omega)
  refine gg_ hLl hm ?_;refine ce_ (we l.length hl1) ?_;refine gg_ hLl hg ?_;refine ae ?_ rfl
  repeat first|simp-implicitDefEqProofs only[go_sem,ab,hLl,List.length_set,List.take_of_length_le (Nat.le_refl _)]|with_reducible refine gl_ ?_
  have e1:(bk l)[i.toNat]=[.fz 3 (l[i.toNat].map aL)]:=by simp[bk]
  rw[List.take_of_length_le (by simp[hLl]),e1,bk,f7,List.map_set]
  rfl
 ·have e:f7 l i=l:=List.set_eq_of_length_le (by omega)
  rw[e];refine g2_ ?_;refine ae ?_ rfl;refine gf_ (c2_ hLl @an) ?_;rw[List.take_of_length_le (by omega)]
theorem dP(c:ar)(p:af)(node:UInt8)(inc:UInt16)(hp:okP p)(hr:fQ p.reports):Con2 Tryz.prog 156 [.agg (aE c),.agg (ak p),.v (.int .u8 node.toNat),.v (.int .u16 inc.toNat)] (· =plR (.tup [.agg (ak (aw c p node inc).1),.v (.bool (aw c p node inc).2)])):=by
 refine Con2.ofEmb ?_;have hi:=node.toNat_lt;have hj:=p.node.toNat_lt;have htb:=hp.table;refine en_ Tryz.func156 [.cell 8 49,.tmp 9] (g2_ ?_);refine gf_ @ao ?_
 by_cases h1:c.nodes<=(node.toNat:Int)
 ·have e:aw c p node inc=(p,false):=if_pos (.inl h1);rw[e,decide_eq_true h1];refine gf_ @ao ?_;refine ae ?_ rfl;exact ws_
 rw[decide_eq_false h1];refine gf_ @ao ?_
 by_cases h2:p.table.length<=node.toNat
 ·have e:aw c p node inc=(p,false):=if_pos (.inr (.inl h2));rw[e,decide_eq_true (show(p.table.length:Int)<=(node.toNat:Int)by omega)]
  refine gf_ @ao ?_;refine ae ?_ rfl;exact ws_
 rw[decide_eq_false (show ¬(p.table.length:Int)<=(node.toNat:Int)by omega)]
 refine gf_ @ao ?_;rw[ch]
 by_cases h3:node=p.node
 ·have e:aw c p node inc=(p,false):=if_pos (.inr (.inr (.inl h3)));rw[e,decide_eq_true h3];refine gf_ @ao ?_;refine ae ?_ rfl;exact ws_
 rw[decide_eq_false h3];refine gf_ @ao ?_;rw[nv];refine aZ (fun h4=>?_) (fun h4=>?_)
 ·have e:aw c p node inc=(p,false):=if_pos (.inr (.inr (.inr h4)));rw[e];refine gf_ @ao ?_;refine ae ?_ rfl;exact ws_
 have hk:node.toNat<p.table.length:=by omega
 refine gf_ (c2_ @ao (mE_ hk)) ?_
 have e0:aw c p node inc=if inc<p.table[node.toNat].inc\/(inc=p.table[node.toNat].inc/\p.table[node.toNat].state=3)then (p,false)
   else ({ p with table:=iG p.table node inc,reports:=if p.table[node.toNat].inc<inc then f7 p.reports node else p.reports },true):=by
  unfold aw;rw[if_neg (by simp[h1,h2,h3,h4]),List.getElem?_eq_getElem hk]
 rw[e0];have hth:=rK p.table node inc htb;generalize p.table[node.toNat]=m
 by_cases h5:(inc.toNat:Int)<(m.inc.toNat:Int)
 ·have h6:inc<m.inc:=by rw[UInt16.lt_iff_toNat_lt];omega
  rw[if_pos (.inl h6),decide_eq_true h5];refine gf_ @ao ?_;refine ae ?_ rfl;exact ws_
 have h6: ¬inc<m.inc:=by rw[UInt16.lt_iff_toNat_lt];omega
 rw[decide_eq_false h5];refine gf_ @ao ?_;rw[dW]
 by_cases h7:inc=m.inc/\m.state=3
 ·rw[if_pos (.inr h7),decide_eq_true h7.1];refine gf_ @ao ?_;rw[abv,decide_eq_true h7.2];refine gf_ @ao ?_;refine ae ?_ rfl;exact ws_
 rw[if_neg (by simp[h6];exact fun a b=>h7 ⟨a,b⟩)]
 by_cases hA:inc=m.inc
 ·have hs3: ¬m.state=3:=fun h=>h7 ⟨hA,h⟩
  have h8: ¬(m.inc.toNat:Int)<(inc.toNat:Int):=by rw[hA];omega
  have h9: ¬m.inc<inc:=by rw[UInt16.lt_iff_toNat_lt];omega
  rw[decide_eq_true hA,if_neg h9];refine gf_ @ao ?_;rw[abv,decide_eq_false hs3];refine gf_ @ao ?_;refine ce_ hth (gf_ @ao ?_);rw[decide_eq_false h8];refine gf_ @ao ?_;refine ae ?_ rfl;exact ws_
 ·have h8:(m.inc.toNat:Int)<(inc.toNat:Int):=by
   have:m.inc.toNat≠inc.toNat:=fun h=>hA (UInt16.toNat_inj.1 h.symm)
   omega
  have h9:m.inc<inc:=by rw[UInt16.lt_iff_toNat_lt];omega
  rw[decide_eq_false hA,if_pos h9];refine gf_ @ao ?_;refine ce_ hth (gf_ @ao ?_);rw[decide_eq_true h8];refine gf_ @ao ?_;refine ce_ (jI p.reports node hr) (gf_ @ao ?_);refine ae ?_ rfl;exact wf_ @ao
end Go.Proofs.YtmhmahcdanclnaaGreat.V
namespace Go.Eng
theorem anD(a b:UInt32):((a.toNat:Int)==b.toNat)=decide (a=b):=by
 rw[Bool.eq_iff_iff];simp only[beq_iff_eq,decide_eq_true_eq];rw[<-UInt32.toNat_inj];omega
theorem as0(x:UInt32):((x.toNat:Int)==0)=decide (x=0):=anD x 0
theorem aqj(a b:UInt8):((a.toNat:Int) !=b.toNat)= !decide (a=b):=by rw[bne,ch]
theorem aob(a b:UInt16):((a.toNat:Int) !=b.toNat)= !decide (a=b):=by rw[bne,dW]
theorem wK{a b:Nat}:decide ((a:Int)<(b:Int))=decide (a<b):=by rw[Bool.eq_iff_iff];simp
theorem zj{a b:Nat}:decide ((a:Int)<=(b:Int))=decide (a<=b):=by rw[Bool.eq_iff_iff];simp
end Go.Eng
namespace Go.Proofs.YtmhmahcdanclnaaGreat.V
open Go.Eng
attribute [local go_sem] aS ah fzD plR ba aL aR aC aE ak az aU z8 z16 z32 z64 encMg aN
theorem aad(a b:GID):Con2 Tryz.prog 161 [.agg (aN a),.agg (aN b)] (· =plR (.v (.bool (a.less b)))):=by
 refine Con2.ofEmb ?_;have ha:=a.bd;have hb:=b.bd;rw[GID.less_iff];refine en_ Tryz.func161 [.tmp 4] (g2_ ?_);refine g2_ ?_;refine cU (fun h=>?_) (fun h=>?_)
 ·((try (with_reducible refine av ?_));(try simp-implicitDefEqProofs only[go_sem,ab]);repeat ((first|(with_reducible refine av ?_)|(with_reducible refine cV (by omega) ?_)|(with_reducible refine And.intro (by omega) ?_));(try simp-implicitDefEqProofs only[go_sem,ab])))
  refine ae ?_ rfl;refine g2_ ?_;refine congrArg Value.bool ?_;rw[Bool.eq_iff_iff];simp only[decide_eq_true_eq];omega
 ·((try (with_reducible refine av ?_));(try simp-implicitDefEqProofs only[go_sem,ab]);repeat ((first|(with_reducible refine av ?_)|(with_reducible refine cV (by omega) ?_)|(with_reducible refine And.intro (by omega) ?_));(try simp-implicitDefEqProofs only[go_sem,ab])))
  refine cU (fun h2=>?_) (fun h2=>?_)
  ·((try (with_reducible refine av ?_));(try simp-implicitDefEqProofs only[go_sem,ab]);repeat ((first|(with_reducible refine av ?_)|(with_reducible refine cV (by omega) ?_)|(with_reducible refine And.intro (by omega) ?_));(try simp-implicitDefEqProofs only[go_sem,ab])))
   refine ae ?_ rfl;refine g2_ ?_;refine congrArg Value.bool ?_;rw[Bool.eq_iff_iff];simp only[decide_eq_true_eq];omega
  ·((try (with_reducible refine av ?_));(try simp-implicitDefEqProofs only[go_sem,ab]);repeat ((first|(with_reducible refine av ?_)|(with_reducible refine cV (by omega) ?_)|(with_reducible refine And.intro (by omega) ?_));(try simp-implicitDefEqProofs only[go_sem,ab])))
   refine ae ?_ rfl;refine g2_ ?_;refine congrArg Value.bool ?_;rw[Bool.eq_iff_iff];simp only[decide_eq_true_eq];omega
theorem rl(a b:GMark):Con2 Tryz.prog 253 [.agg (aL a),.agg (aL b)] (· =plR (.v (.bool (nn a b)))):=by
 refine Con2.ofEmb ?_;unfold nn;refine en_ Tryz.func253 [.tmp 4] (g2_ ?_);refine g2_ ?_;refine cU (fun h=>?_) (fun h=>?_)
 ·rw[if_pos (fun e=>h (by rw[e]))]
  refine g2_ ?_;refine ae ?_ rfl;exact ws_
 ·have e:a.node=b.node:=UInt8.toNat_inj.1 (by omega)
  rw[if_neg (fun g=>g e)]
  refine g2_ ?_;refine cU (fun h2=>?_) (fun h2=>?_)
  ·rw[if_pos (fun e=>h2 (by rw[e]))]
   ((try (with_reducible refine av ?_));(try simp-implicitDefEqProofs only[go_sem,ab]);repeat ((first|(with_reducible refine av ?_)|(with_reducible refine cV (by omega) ?_)|(with_reducible refine And.intro (by omega) ?_));(try simp-implicitDefEqProofs only[go_sem,ab])))
   refine ae ?_ rfl;exact wf_ @wK
  ·have e:a.inc=b.inc:=UInt16.toNat_inj.1 (by omega)
   rw[if_neg (fun g=>g e)]
   refine g2_ ?_;refine ae ?_ rfl;exact wf_ @wK
theorem uI(h:UInt8):Con2 Tryz.prog 250 [.v (.int .u8 h.toNat)] (· =plR (.tup [.v (.int .u8 (if h=0 then 0 else h-1:UInt8).toNat),.v (.bool (!decide (h=0)))])):=by
 refine Con2.ofEmb ?_;have hl:=h.toNat_lt;refine en_ Tryz.func250 [.tmp 2,.tmp 3] (g2_ ?_);refine g2_ ?_;refine kR (fun e=>?_) (fun e=>?_)
 ·have e2:h=0:=UInt8.toNat_inj.1 (by show h.toNat=0;omega)
  subst e2;refine g2_ ?_;refine ae ?_ rfl;exact ws_
 ·have e2:h≠0:=fun g=>e (by rw[g];rfl)
  have e3:(h-1).toNat=h.toNat-1:=UInt8.toNat_sub_of_le _ _ (UInt8.le_iff_toNat_le.2 (by show 1<=_;omega))
  have e4:h.toNat≠0:=by omega
  have e5:((h.toNat-1:Nat):Int)=(h.toNat:Int)-1:=by omega
  rw[if_neg e2,decide_eq_false e2,e3,e5];refine g2_ ?_;refine gF (by omega) ?_
  refine g2_ ?_;refine ae ?_ rfl;exact ws_
theorem mC(m:GMark)(x:GID):Con2 Tryz.prog 69 [.agg (aL m),.agg (aN x)] (· =plR (.v (.bool (qR m x)))):=by
 refine Con2.ofEmb ?_;unfold qR;refine en_ Tryz.func69 [.tmp 4] (g2_ ?_);refine g2_ ?_
 by_cases h:x.inc.toNat<m.inc.toNat
 ·rw[decide_eq_true h,decide_eq_true (show(x.inc.toNat:Int)<m.inc.toNat by omega)]
  refine g2_ ?_;refine ae ?_ rfl;exact ws_
 ·rw[decide_eq_false h,decide_eq_false (show ¬(x.inc.toNat:Int)<m.inc.toNat by omega)]
  refine g2_ ?_;rw[dW]
  by_cases h2:m.inc=x.inc
  ·rw[decide_eq_true h2];refine g2_ ?_;refine ae ?_ rfl;exact wf_ @zj
  ·rw[decide_eq_false h2];refine g2_ ?_;refine ae ?_ rfl;exact ws_
theorem akV(s:GSpan)(v:Int):Con2 Tryz.prog 73 [.agg (aS s),.v (.int .i32 v)] (· =plR (.v (.bool (decide (s.a<=v)&&decide (v<=s.b))))):=by
 refine Con2.ofEmb ?_;refine en_ Tryz.func73 [.tmp 4] (g2_ ?_);refine g2_ ?_
 by_cases h:s.a<=v
 ·rw[decide_eq_true h];refine g2_ ?_;refine ae ?_ rfl;exact ws_
 ·rw[decide_eq_false h];refine g2_ ?_;refine ae ?_ rfl;exact ws_
theorem aeC(x:GID)(n:Int)(last:UInt32):Con2 Tryz.prog 373 [.agg (aN x),.v (.int .i64 n),.v (.int .u32 last.toNat)] (· =plR (.v (.bool (nt x n last)))):=by
 refine Con2.ofEmb ?_;unfold nt;have hx:=x.bd;refine en_ Tryz.func373 [.tmp 6] (g2_ ?_);refine g2_ ?_
 by_cases h1:(x.node.toNat:Int)<n
 ·rw[decide_eq_true h1];refine g2_ ?_
  by_cases h2:1<=x.inc.toNat
  ·rw[decide_eq_true h2,decide_eq_true (show(1:Int)<=x.inc.toNat by omega)]
   refine g2_ ?_
   by_cases h3:1<=x.seq.toNat
   ·rw[decide_eq_true h3,decide_eq_true (show(1:Int)<=x.seq.toNat by omega)]
    refine g2_ ?_;refine ae ?_ rfl;exact wf_ @zj
   ·rw[decide_eq_false h3,decide_eq_false (show ¬(1:Int)<=x.seq.toNat by omega)]
    refine g2_ ?_;refine ae ?_ rfl;exact ws_
  ·rw[decide_eq_false h2,decide_eq_false (show ¬(1:Int)<=x.inc.toNat by omega)]
   refine g2_ ?_;refine ae ?_ rfl;exact ws_
 ·rw[decide_eq_false h1];refine g2_ ?_;refine ae ?_ rfl;exact ws_
theorem agA(w:Int):Con2 Tryz.prog 182 [.v (.int .i64 w)] (· =plR (.v (.bool (oV w)))):=by
 refine Con2.ofEmb ?_;unfold oV;refine en_ Tryz.func182 [.tmp 2] (g2_ ?_);refine g2_ ?_
 by_cases h:1<=w
 ·rw[decide_eq_true h];refine g2_ ?_;refine ae ?_ rfl;exact ws_
 ·rw[decide_eq_false h];refine g2_ ?_;refine ae ?_ rfl;exact ws_
theorem yX(n:UInt8)(r:GRow):Con2 Tryz.prog 70 [.v (.int .u8 n.toNat),.agg (aC r)] (· =plR (.agg (aL (rwMark n r)))):=by
 refine Con2.ofEmb ?_;refine en_ Tryz.func70 [.cell 4 57] (g2_ ?_);refine g2_ ?_;refine ae ?_ rfl;exact wf_ @rwMark.eq_1
end Go.Proofs.YtmhmahcdanclnaaGreat.V
namespace Go.Eng
section
variable {P:Program} {T:TypeId} {y z:Operand} {Kv:Value->Prop} {k2:IntKind}
theorem yK{n:Nat}(h:n<18446744073709551616):IntKind.u64.wrap (n:Int)=n:=by
 simp only[IntKind.wrap,show IntKind.u64.bits=64 from rfl,show IntKind.u64.signed=false from rfl,Bool.false_and,Bool.false_eq_true,if_false]
 omega
theorem abq{a:Nat}(h:a<18446744073709551616):AtPure P (bj .and T y z (.int .u64 a) (.int .u64 1)) Kv=Kv (.int .u64 (a % 2:Nat)):=by
 rw[aeP,yK (BitVec.isLt _)]
 congr 3
 show(BitVec.ofInt 64 (a:Int) &&& BitVec.ofInt 64 1).toNat=a % 2;rw[BitVec.toNat_and,BitVec.ofInt_natCast,BitVec.toNat_ofNat,Nat.mod_eq_of_lt (by omega),show(BitVec.ofInt 64 1).toNat=1 from rfl,Nat.and_one_is_mod]
theorem afy{a n:Nat}{m:Int}(hm:m=n)(hn:n<64):AtPure P (bj .shr T y z (.int .u64 a) (.int k2 m)) Kv=Kv (.int .u64 (a / 2^n:Nat)):=by
 subst hm;rw[qL (by omega),show min (Int.toNat (n:Int)) IntKind.u64.bits=n from by show min (Int.toNat (n:Int)) 64=n;simp;omega]
 congr 2
 have h2:(2:Int)^n=((2^n:Nat):Int):=by simp
 rw[h2,Int.fdiv_eq_ediv_of_nonneg _ (Int.natCast_nonneg _)];rfl
theorem ald{m:Int}{n:Nat}(hm:m=n)(hn:n<64):AtPure P (bj .shl T y z (.int .u64 1) (.int k2 m)) Kv=Kv (.int .u64 (2^n:Nat)):=by
 subst hm;rw[xY (by omega),show min (Int.toNat (n:Int)) IntKind.u64.bits=n from by show min (Int.toNat (n:Int)) 64=n;simp;omega]
 have h1:2^n<18446744073709551616:=Nat.lt_of_le_of_lt (Nat.pow_le_pow_right (by decide) (show n<=63 by omega)) (by decide)
 have h3:(1:Int)*2^n=((2^n:Nat):Int):=by simp
 rw[h3];generalize 2^n=q at h1 ⊢;rw[jf ⟨by omega,by omega⟩]
theorem aqi{a b:Nat}(ha:a<18446744073709551616)(hb:b<18446744073709551616):AtPure P (bj .or T y z (.int .u64 a) (.int .u64 b)) Kv=Kv (.int .u64 (a ||| b:Nat)):=by
 rw[arM,yK (BitVec.isLt _)]
 congr 3
 show(BitVec.ofInt 64 (a:Int) ||| BitVec.ofInt 64 (b:Int)).toNat=a ||| b;rw[BitVec.toNat_or,BitVec.ofInt_natCast,BitVec.ofInt_natCast,BitVec.toNat_ofNat,BitVec.toNat_ofNat,Nat.mod_eq_of_lt (by omega),Nat.mod_eq_of_lt (by omega)]
theorem yf{a:UInt32}{K:Value->Prop}:bg .u32 ((a.toNat:Int)+1) K=K (.int .u32 ((a+1).toNat:Nat)):=by
 have h:=a.toNat_lt;have e:(a+1).toNat=(a.toNat+1) % 4294967296:=by rw[UInt32.toNat_add];rfl
 unfold bg;rw[e]
 congr 2
end
theorem lL{a:Int}{K:Value->Prop}(h:0<=a/\a<=18446744073709551615)(hk:K (.int .u64 a)):bg .u64 a K:=by rw[jf h];exact hk
theorem ann(a n:Nat):(((a / 2^n % 2:Nat):Int)==1)=a.testBit n:=by grind
theorem yF: ∀(n:Nat) (r:GRow),r.bits.toNat % 2≠1->fM n r=r
 |0,_,_=>rfl
 |n+1,r,h=>by rw[fM,if_neg h]
def tD(r:GRow):GRow:=⟨r.inc,r.pre+1,UInt64.ofNat (r.bits.toNat / 2)⟩
theorem j8(r:GRow):(tD r).bits.toNat=r.bits.toNat / 2:=UInt64.toNat_ofNat_of_lt' (Nat.lt_of_le_of_lt (Nat.div_le_self _ _) r.bits.toNat_lt)
def rwF(R g:GRow):Prop:= ∃n,fM n g=R/\g.bits.toNat<2^n
theorem ajs{R g:GRow}(h:rwF R g)(hb:g.bits.toNat % 2=1):rwF R (tD g)/\(tD g).bits.toNat<g.bits.toNat:=by
 obtain⟨n,h1,h2⟩:=h;refine⟨?_,by rw[j8];omega⟩
 cases n with
 |zero=>simp at h2;omega
 |succ n=>
  rw[fM,if_pos hb]at h1;refine⟨n,h1,?_⟩;rw[j8];rw[Nat.pow_succ]at h2;omega
theorem anY{R g:GRow}(h:rwF R g)(hb:g.bits.toNat % 2≠1):g=R:=by
 obtain⟨n,h1,_⟩:=h;rw[<-h1,yF n g hb]
end Go.Eng
namespace Go.Proofs.YtmhmahcdanclnaaGreat.V
open Go.Eng
attribute [local go_sem] aS ah fzD plR ba aL aR aC aE ak az aU z8 z16 z32 z64 encMg aN
theorem agv(r:GRow)(s:UInt32):Con2 Tryz.prog 74 [.agg (aC r),.v (.int .u32 s.toNat)] (· =plR (.v (.bool (dL r s)))):=by
 refine Con2.ofEmb ?_;have hs:=s.toNat_lt;have hb:=r.bits.toNat_lt;unfold dL;refine en_ Tryz.func74 [.tmp 4] (g2_ ?_);refine g2_ ?_;refine kR (fun e=>?_) (fun e=>?_)
 ·rw[if_pos (UInt32.toNat_inj.1 (by show s.toNat=0;omega))]
  refine g2_ ?_;refine ae ?_ rfl;exact ws_
 ·have e0:s.toNat≠0:=by omega
  rw[if_neg (fun g=>e0 (by rw[g];rfl))]
  refine g2_ ?_;refine aZ (fun h=>?_) (fun h=>?_)
  ·rw[if_pos (by omega)]
   refine g2_ ?_;refine ae ?_ rfl;exact ws_
  ·rw[if_neg (by omega)]
   have e1:((s.toNat:Int)-r.pre.toNat-1)=(rwBit r s:Nat):=by unfold rwBit;omega
   refine g2_ ?_;refine oO (by omega) ?_
   refine g2_ ?_;refine oO (by omega) ?_
   refine g2_ ?_;rw[e1];refine g2_ ?_
   by_cases h6:rwBit r s<64
   ·rw[decide_eq_true h6,decide_eq_true (show((rwBit r s:Nat):Int)<64 by omega)]
    refine g2_ ?_;rw[afy rfl h6];refine g2_ ?_;rw[abq (Nat.lt_of_le_of_lt (Nat.div_le_self _ _) hb)];refine g2_ ?_;rw[ann];refine ae ?_ rfl;exact ws_
   ·rw[decide_eq_false h6,decide_eq_false (show ¬((rwBit r s:Nat):Int)<64 by omega)]
    refine g2_ ?_;refine ae ?_ rfl;exact ws_
theorem aav(r:GRow)(s:UInt32)(w:Int)(hw:1<=w/\w<=64):Con2 Tryz.prog 304 [.agg (aC r),.v (.int .u32 s.toNat),.v (.int .i64 w)] (· =plR (.v (.bool (ak1 r s w)))):=by
 refine Con2.ofEmb ?_;have hs:=s.toNat_lt;have hb:=r.pre.toNat_lt;unfold ak1;refine en_ Tryz.func304 [.tmp 6] (g2_ ?_);refine g2_ ?_;refine lL (by omega) ?_
 refine g2_ ?_;refine lL (by omega) ?_
 refine g2_ ?_;refine lL (by omega) ?_
 refine g2_ ?_;refine lL (by omega) ?_
 refine g2_ ?_;refine ae ?_ rfl;exact ws_
theorem qF(r:GRow)(x:GID)(w:Int):Con2 Tryz.prog 229 [.agg (aC r),.agg (aN x),.v (.int .i64 w)] (· =plR (.v (.bool (iJ r x w)))):=by
 refine Con2.ofEmb ?_;have hx:=x.bd;have c1:=agv (gI r x) x.seq;obtain⟨R,hR⟩: ∃R,iJ r x w=R:=⟨_,rfl⟩;rw[hR];unfold iJ at hR;refine ev_ Tryz.func229 [.tmp 6] ?_;refine Vc2.sq (g2_ ?_);refine Vc2.sq (g2_ ?_);refine ce_ (agA w) (g2_ ?_)
 by_cases h1:oV w=false
 ·rw[if_pos (.inl h1)]at hR;subst hR;rw[h1];refine g2_ ?_;refine ae ?_ rfl;exact ws_
 have h1':oV w=true:=by simpa using h1
 have hw:1<=w/\w<=64:=by simpa[oV]using h1'
 have c2:=aav (gI r x) x.seq w hw;rw[h1'];refine g2_ ?_;rw[nv]
 by_cases h2:x.inc=0
 ·rw[if_pos (.inr (.inl h2))]at hR;subst hR;rw[decide_eq_true h2];refine g2_ ?_;refine ae ?_ rfl;exact ws_
 rw[decide_eq_false h2];refine g2_ ?_;rw[as0]
 by_cases h3:x.seq=0
 ·rw[if_pos (.inr (.inr (.inl h3)))]at hR;subst hR;rw[decide_eq_true h3];refine g2_ ?_;refine ae ?_ rfl;exact ws_
 rw[decide_eq_false h3];refine g2_ ?_
 by_cases h4:x.inc.toNat<r.inc.toNat
 ·rw[if_pos (.inr (.inr (.inr h4)))]at hR;subst hR;rw[decide_eq_true (show(x.inc.toNat:Int)<r.inc.toNat by omega)]
  refine g2_ ?_;refine ae ?_ rfl;exact ws_
 rw[if_neg (by simp[h1',h2,h3,h4])]at hR
 subst hR;rw[decide_eq_false (show ¬(x.inc.toNat:Int)<r.inc.toNat by omega)]
 refine g2_ ?_;refine Vc2.seqJ (γ:=Unit) (fun _=>⟨[(2,.d (.v (.int .i64 w))),(3,.loc 3 0),(4,.loc 4 0)],[(4,⟨aN x,54⟩),(3,⟨aC (gI r x),84⟩)],[],0,0⟩) (fun _=>True) ?_ (fun _ _=>?_)
 ·refine g2_ ?_;refine aZ (fun h=>?_) (fun h=>?_)
  ·have e:gI r x=⟨x.inc,0,0⟩:=if_pos (by omega)
   rw[e];refine g2_ ?_;refine⟨(),aa [] ?_⟩;exact ws_
  ·have e:gI r x=r:=if_neg (by omega)
   rw[e];refine g2_ ?_;refine⟨(),aa [] ?_⟩;exact ws_
 ·generalize gI r x=q at c1 c2;refine Vc2.of ?_;refine g2_ ?_;refine ce_ c1 (g2_ ?_);cases h5:dL q x.seq with
  |true=>
   refine g2_ ?_;refine ae ?_ rfl;exact ws_
  |false=>
   refine g2_ ?_;refine ce_ c2 (g2_ ?_);refine ae ?_ rfl;exact ws_
theorem uK(r:GRow)(x:GID)(w:Int):Con2 Tryz.prog 137 [.agg (aC r),.agg (aN x),.v (.int .i64 w)] (· =plR (.tup [.agg (aC (cO r x w).1),.v (.bool (cO r x w).2)])):=by
 refine Con2.ofEmb ?_;have hx:=x.bd;unfold cO;refine ev_ Tryz.func137 [.cell 6 84,.tmp 7] ?_;refine Vc2.sq (g2_ ?_);refine Vc2.sq (g2_ ?_);refine ce_ (qF r x w) (g2_ ?_);cases h1:iJ r x w with
 |false=>
  rw[if_neg (by decide)]
  refine g2_ ?_;refine ae ?_ rfl;exact ws_
 | true=>
  rw[if_pos rfl];refine g2_ ?_;have hm:=h1;unfold iJ at hm;split at hm
  ·cases hm
  rename_i hn;obtain⟨m1,m2⟩:=(Bool.and_eq_true _ _).mp hm
  have hok:1<=w/\w<=64:=by
   have:oV w=true:=by
    cases h:oV w with
    |true=>rfl
    |false=>exact absurd (.inl h) hn
   simpa[oV]using this
  have m3:dL (gI r x) x.seq=false:=by simpa using m1
  have m4:(x.seq.toNat:Int)<=(gI r x).pre.toNat+w:=by simpa[ak1]using m2
  have m5:x.seq.toNat≠0:=fun e=>hn (.inr (.inr (.inl (UInt32.toNat_inj.1 e))))
  have m6:(gI r x).pre.toNat<x.seq.toNat:=by
   refine Nat.lt_of_not_le fun hle=>?_
   have:dL (gI r x) x.seq=true:=fX.2 ⟨m5,.inl hle⟩;rw[m3]at this;cases this
  refine Vc2.seqJ (γ:=Unit) (fun _=>⟨[(3,.loc 3 0),(4,.loc 4 0),(6,.loc 6 0)],[(6,⟨aC ⟨0,0,0⟩,84⟩),(4,⟨aN x,54⟩),(3,⟨aC (gI r x),84⟩)],[],0,0⟩) (fun _=>True) ?_ (fun _ _=>?_)
  ·refine g2_ ?_;refine aZ (fun h=>?_) (fun h=>?_)
   ·have e:gI r x=⟨x.inc,0,0⟩:=if_pos (by omega)
    rw[e];refine g2_ ?_;refine⟨(),aa [] ?_⟩;exact ws_
   ·have e:gI r x=r:=if_neg (by omega)
    rw[e];refine g2_ ?_;refine⟨(),aa [] ?_⟩;exact ws_
  ·generalize gI r x=q at m3 m4 m6;have hb:=q.bits.toNat_lt;have e1:((x.seq.toNat:Int)-q.pre.toNat-1)=(rwBit q x.seq:Nat):=by unfold rwBit;omega
   have e2:rwBit q x.seq<64:=by omega
   refine Vc2.of ?_;have e3:2^rwBit q x.seq<18446744073709551616:=Nat.lt_of_le_of_lt (Nat.pow_le_pow_right (by decide) (show rwBit q x.seq<=63 by omega)) (by decide)
   refine g2_ ?_;refine oO (by omega) ?_
   refine g2_ ?_;refine oO (by omega) ?_
   refine g2_ ?_;rw[e1,ald rfl e2];refine g2_ ?_;rw[aqi hb e3]
   have e4:q.bits.toNat ||| 2^rwBit q x.seq=(mq q x.seq).bits.toNat:=by
    show _=(q.bits ||| UInt64.ofNat (2^rwBit q x.seq)).toNat;rw[UInt64.toNat_or,UInt64.toNat_ofNat_of_lt' e3]
   rw[e4];refine g2_ ?_;have hp1:q.inc=(mq q x.seq).inc:=rfl;have hp2:q.pre=(mq q x.seq).pre:=rfl;rw[hp1,hp2];generalize mq q x.seq=R0;refine bt (γ:=GRow) (fun _=>[]) (fun g=>[(3,⟨aC g,84⟩)]) (fun _=>[]) 0 (rwF (fM 64 R0)) (fun g=>g.bits.toNat) R0 (aa [] ?_) ⟨64,rfl,R0.bits.toNat_lt⟩ (fun g hg=>?_)
   ·exact ws_
   ·have hgb:=g.bits.toNat_lt;refine g2_ ?_;rw[abq hgb];refine g2_ ?_
    by_cases hb1:g.bits.toNat % 2=1
    ·obtain⟨n1,n2⟩:=ajs hg hb1;rw[show(((g.bits.toNat % 2:Nat):Int)==1)=true by rw[hb1];rfl]
     refine g2_ ?_;rw[yf];refine g2_ ?_;rw[afy (m:=1) (n:=1) rfl (by decide)]
     refine g2_ ?_;refine⟨tD g,aa [] ?_,n1,n2⟩;refine gf_ @j8 ?_;simp[tD]
    ·have hb0:g.bits.toNat % 2=0:=by omega
     rw[show(((g.bits.toNat % 2:Nat):Int)==1)=false by rw[hb0];rfl, <-anY hg hb1]
     refine g2_ ?_;refine ae ?_ rfl;exact ws_
end Go.Proofs.YtmhmahcdanclnaaGreat.V
namespace Go.Eng
def adm(l:List GAsk)(x:GID):Bool:=l.any fun a=>decide (a.id=x)
def pAt(l:List GAsk)(x:GAsk):Nat:=(l.findIdx? fun a=>x.id.less a.id).getD l.length
def acq(l:List GAsk)(x:GAsk):List GAsk:=l.take (pAt l x)++[x]++l.drop (pAt l x)
def abM(l:List GAsk)(x:GAsk)(most:Int):Int:=
 if x.left=0 then 2 else if adm l x.id=true then 150 else if most<=(l.length:Int)then 52 else 0
def yV(l:List GAsk)(x:GAsk)(most:Int):List GAsk:=if abM l x most=0 then acq l x else l
def pDrop(l:List GAsk)(x:GID):List GAsk:=l.filter fun a=> !decide (a.id=x)
def GAsk.less1(a:GAsk):GAsk:=⟨a.id,a.frm,a.left-1⟩
def pTick(l:List GAsk):List GAsk:=(l.filter fun a=> !decide (a.left.toNat<=1)).map GAsk.less1
def pGone(l:List GAsk):List GID:=(l.filter fun a=>decide (a.left.toNat<=1)).map GAsk.id
theorem arc(l:List GAsk)(x:GAsk):pAt l x<=l.length:=by
 unfold pAt;cases h:l.findIdx? fun a=>x.id.less a.id with
 |none=>simp
 |some i=>
  obtain⟨hi,_⟩:=List.findIdx?_eq_some_iff_getElem.1 h;simp;omega
def cC(p:af)(d:GDesc):Bool:=
 if d.node=p.node then false else match p.table[d.node.toNat]? with
  |none=>false
  |some m=>decide (m.inc<d.inc)||(decide (d.inc=m.inc)&&decide (m.state=1))
def pCur(p:af)(l:List GDesc):List GDesc:=l.filter (cC p)
theorem asu(x:UInt8):((x.toNat:Int)==1)=decide (x=1):=ch x 1
theorem fc{α:Type}{f:α->Bool}{l:List α}{k:Nat}(h:k<l.length):(l.take (k+1)).filter f=(l.take k).filter f++(if f l[k]=true then [l[k]]else []):=by grind [List.take_add_one,List.getElem?_eq_getElem,Option.toList_some]
theorem gQ{α:Type}{f:α->Bool}(l:List α)(k:Nat):((l.take k).filter f).length<=l.length:=by grind
theorem fi{f:GDesc->Bool}{l:List GDesc}(h:cg l):cg (l.filter f):=⟨Nat.le_trans (List.length_filter_le _ _) h.1,fun d hd=>h.2 d (List.mem_filter.1 hd).1⟩
end Go.Eng
namespace Go.Proofs.YtmhmahcdanclnaaGreat.V
open Go.Eng
attribute [local go_sem] aS ah fzD plR ba aL aR aC aE ak az aU z8 z16 z32 z64 encMg List.set_cons_succ List.set_cons_zero
def fG(c:ar)(d:GDesc):Bool:=decide ((d.node.toNat:Int)<c.nodes)&&decide ((1:Int)<=(d.inc.toNat:Int))&&jC c.schema d.filter
theorem aaz{c:ar}{d:GDesc}(hc:c.schema.length<=4)(h:fG c d=true):d.filter.length<=8:=by grind [fG,jC]
def pFine(c:ar)(l:List GDesc):List GDesc:=l.filter (fG c)
theorem aiy(c:ar)(l:List GDesc)(hc:c.schema.length<=4000000)(hl:cg l):Con2 Tryz.prog 236 [.agg (aE c),fzD l] (· =ba 34 4 ((pFine c l).map ah)):=by
 have hb:=hl.1;refine en_ Tryz.func236 [.tmp 4] (g2_ ?_);refine g2_ ?_;refine aq l.length (fun k=>[(5,.d (.rf 0 0 (pFine c (l.take k)).length))]) (fun _=>[]) (fun k=>[(0,.arr 34 4 ((pFine c (l.take k)).map ah) false)]) 1 (fun _=>True) (aa [(0,.nil 4)] ?_) trivial (fun g k=>ws_) (by omega) (fun g=>ws_) (fun k hk _=>?_) (fun _=>?_)
 ·refine x1_ @pFine.eq_1 ?_
  first|rfl|exact⟨rfl,rfl⟩
 ·have hdl:=gQ (f:=fG c) l k;have hdl2:(pFine c (l.take k)).length<=l.length:=hdl;have hnd:=l[k].node.toNat_lt;have hsn:pFine c (l.take (k+1))=pFine c (l.take k)++(if fG c l[k]=true then [l[k]]else []):=fc hk
  have hfr:=aaY c.schema l[k].filter (by omega) (by have:=hl.2 _ (List.getElem_mem hk);omega)
  have hfc:=jg l[k].filter (by have:=hl.2 _ (List.getElem_mem hk);omega)
  refine gf_ (mE_ hk) ?_;generalize l[k]=d at hsn hfr hfc hnd
  by_cases h1:(d.node.toNat:Int)<c.nodes
  ·rw[decide_eq_true h1];refine g2_ ?_
   by_cases h2:(1:Int)<=(d.inc.toNat:Int)
   ·rw[decide_eq_true h2];refine g2_ ?_;refine ce_ hfr (g2_ ?_);cases h3:jC c.schema d.filter with
    |true=>
     have e:fG c d=true:=by simp[fG,h1,h2,h3]
     refine g2_ ?_;refine ce_ hfc (gx_ ?_);refine⟨k+1,aa [(0,.to 2)] ?_,rfl⟩;refine u1_ (c4_ hsn e @if_true.{0} @List.length_append.{0}) ?_
     first|rfl|exact⟨rfl,by simp[ah]⟩|simp[ah]
    |false=>
     have e:fG c d=false:=by simp[fG,h3]
     refine g2_ ?_;refine⟨k+1,aa [(0,.to 0)] ?_,rfl⟩;exact y1_ (c2_ hsn e)
   ·have e:fG c d=false:=by simp[fG,h2]
    rw[decide_eq_false h2];refine g2_ ?_;refine⟨k+1,aa [(0,.to 0)] ?_,rfl⟩;exact y1_ (c2_ hsn e)
  ·have e:fG c d=false:=by simp[fG,h1]
   rw[decide_eq_false h1];refine g2_ ?_;refine⟨k+1,aa [(0,.to 0)] ?_,rfl⟩;exact y1_ (c2_ hsn e)
 ·have he:l.take l.length=l:=List.take_of_length_le (by omega)
  refine g2_ ?_;exact⟨_,rfl,aa [] (wf_ he)⟩
theorem mI(w:Nat)(R:List (List DV))(p:af)(d:GDesc)(hp:okP p):Con2 Tryz.prog 148 [.agg ((ak p).set 24 (.fz w R)),.agg (ah d)] (· =plR (.v (.bool (cC p d)))):=by
 have hnd:=d.node.toNat_lt;have htb:=hp.table;refine en_ Tryz.func148 [.tmp 4] (g2_ ?_);refine g2_ ?_;rw[ch]
 by_cases h1:d.node=p.node
 ·have e:cC p d=false:=if_pos h1;rw[e,decide_eq_true h1];refine g2_ ?_;exact⟨_,rfl,aa [] ws_⟩
 rw[decide_eq_false h1];refine g2_ ?_
 by_cases h2:p.table.length<=d.node.toNat
 ·have e:cC p d=false:=by rw[cC,if_neg h1,List.getElem?_eq_none h2]
  rw[e,decide_eq_true (show(p.table.length:Int)<=(d.node.toNat:Int)by omega)]
  refine g2_ ?_;exact⟨_,rfl,aa [] ws_⟩
 have hk:d.node.toNat<p.table.length:=by omega
 rw[decide_eq_false (show ¬(p.table.length:Int)<=(d.node.toNat:Int)by omega)]
 refine gf_ (mE_ hk) ?_;have e:cC p d=(decide (p.table[d.node.toNat].inc<d.inc)||(decide (d.inc=p.table[d.node.toNat].inc)&&decide (p.table[d.node.toNat].state=1))):=by rw[cC,if_neg h1,List.getElem?_eq_getElem hk]
 rw[e];generalize p.table[d.node.toNat]=m
 by_cases h3:(m.inc.toNat:Int)<(d.inc.toNat:Int)
 ·have h4:m.inc<d.inc:=by rw[UInt16.lt_iff_toNat_lt];omega
  rw[decide_eq_true h3,decide_eq_true h4];refine g2_ ?_;exact⟨_,rfl,aa [] (wf_ @Bool.true_or)⟩
 have h4: ¬m.inc<d.inc:=by rw[UInt16.lt_iff_toNat_lt];omega
 rw[decide_eq_false h3,decide_eq_false h4];refine g2_ ?_;rw[dW]
 by_cases h5:d.inc=m.inc
 ·rw[decide_eq_true h5];refine g2_ ?_;exact⟨_,rfl,aa [] (wg_ @asu @Bool.false_or)⟩
 ·rw[decide_eq_false h5];refine g2_ ?_;exact⟨_,rfl,aa [] (wg_ @Bool.false_or @Bool.false_and)⟩
theorem v9(p:af)(d:GDesc)(hp:okP p):Con2 Tryz.prog 148 [.agg (ak p),.agg (ah d)] (· =plR (.v (.bool (cC p d)))):=mI 3 (p.rows.map aC) p d hp
theorem vA(w:Nat)(R:List (List DV))(p:af)(l:List GDesc)(hp:okP p)(hl:cg l):Con2 Tryz.prog 147 [.agg ((ak p).set 24 (.fz w R)),fzD l] (· =ba 34 4 ((pCur p l).map ah)):=by
 have hb:=hl.1;have hcu:=fun d=>mI w R p d hp
 have hP1:onesD ((ak p).set 24 (.fz w R))=true:=ws_;have hP2:ldsD true 32 0 (some ((ak p).set 24 (.fz w R)))=some (.agg ((ak p).set 24 (.fz w R))):=ws_;have hP3: ∀r,wkDs r ((ak p).set 24 (.fz w R)) ((ak p).set 24 (.fz w R)):=fun r=>ws_
 have hP4: ∀H,embDs H ((ak p).set 24 (.fz w R))=some ((ak p).set 24 (.fz w R)):=fun H=>ws_
 have hP5:noPts ((ak p).set 24 (.fz w R))=true:=ws_;generalize (ak p).set 24 (.fz w R)=P at hcu hP1 hP2 hP3 hP4 hP5;refine en_ Tryz.func147 [.tmp 4] ?_;refine u0_ ?_;refine⟨hP1,?_⟩;refine aq l.length (fun k=>[(5,.d (.rf 0 0 (pCur p (l.take k)).length))]) (fun _=>[]) (fun k=>[(0,.arr 34 4 ((pCur p (l.take k)).map ah) false)]) 1 (fun _=>True) (aa [(0,.nil 4)] ?_) trivial (fun g k=>ws_) (by omega) (fun g=>ws_) (fun k hk _=>?_) (fun _=>?_)
 ·refine x1_ @pCur.eq_1 ?_
  repeat' (first|exact hP3 _|(with_reducible rfl)|(refine And.intro ?_ ?_)|rfl|(simp[ah];done))
 ·have hdl2:(pCur p (l.take k)).length<=l.length:=gQ (f:=cC p) l k;have hsn:pCur p (l.take (k+1))=pCur p (l.take k)++(if cC p l[k]=true then [l[k]]else []):=fc hk
  refine gf_ (c2_ (mE_ hk) hP2) ?_;refine CallS.eq (hcu l[k]) (wf_ hP4) (.inl (wf_ hP5)) ?_;refine g2_ ?_;refine jK (fun h=>?_) (fun h=>?_)
  ·refine gx_ ?_;refine⟨k+1,aa [(0,.to 2)] ?_,rfl⟩;refine x1_ (c2_ hsn h) ?_
   repeat' (first|exact hP3 _|(with_reducible rfl)|(refine And.intro ?_ ?_)|rfl|(simp[ah];done))
  ·refine g2_ ?_;refine⟨k+1,aa [(0,.to 0)] ?_,rfl⟩;refine x1_ (c2_ hsn h) ?_
   repeat' (first|exact hP3 _|(with_reducible rfl)|(refine And.intro ?_ ?_)|rfl|(simp[ah];done))
 ·have he:l.take l.length=l:=List.take_of_length_le (by omega)
  refine g2_ ?_;exact⟨_,rfl,aa [] (wf_ he)⟩
theorem vf(w:Nat)(R:List (List DV))(p:af)(l:List GDesc)(hp:okP p)(hl:cg l):Con2 Tryz.prog 147 [.agg ((ak p).set 24 (.fz w R)),fzD l] (· =plR (fzD (pCur p l))):=iV (vA w R p l hp hl)
theorem ajz(p:af)(l:List GDesc)(hp:okP p)(hl:cg l):Con2 Tryz.prog 147 [.agg (ak p),fzD l] (· =ba 34 4 ((pCur p l).map ah)):=vA 3 (p.rows.map aC) p l hp hl
theorem ve(c:ar)(l:List GDesc)(hc:c.schema.length<=4000000)(hl:cg l):Con2 Tryz.prog 236 [.agg (aE c),fzD l] (· =plR (fzD (pFine c l))):=iV (aiy c l hc hl)
theorem aaV(p:af)(l:List GDesc)(hp:okP p)(hl:cg l):Con2 Tryz.prog 147 [.agg (ak p),fzD l] (· =plR (fzD (pCur p l))):=iV (ajz p l hp hl)
def pUse(c:ar)(p:af)(l:List GDesc):List GDesc:=pCur p (pFine c l)
theorem vH(w:Nat)(R:List (List DV))(c:ar)(p:af)(l:List GDesc)(hc:c.schema.length<=4000000)(hp:okP p)(hl:cg l):Con2 Tryz.prog 150 [.agg (aE c),.agg ((ak p).set 24 (.fz w R)),fzD l] (· =plR (fzD (pUse c p l))):=by
 refine Con2.ofEmb ?_;have h1:=ve c l hc hl;have h2:=vf w R p (pFine c l) hp (fi hl);refine en_ Tryz.func150 [.tmp 6] (g2_ ?_);refine g2_ ?_;refine .inl ⟨[oF 0,oF 1,oF 2,oT 3,oF 4,oF 5],by kernel_rfl,g2_ ?_⟩
 refine ce_ h1 (g2_ ?_);refine ce_ h2 (g2_ ?_);refine ae ?_ rfl;exact wf_ @pUse.eq_1
theorem oq(c:ar)(p:af)(l:List GDesc)(hc:c.schema.length<=4000000)(hp:okP p)(hl:cg l):Con2 Tryz.prog 150 [.agg (aE c),.agg (ak p),fzD l] (· =plR (fzD (pUse c p l))):=vH 3 (p.rows.map aC) c p l hc hp hl
end Go.Proofs.YtmhmahcdanclnaaGreat.V
namespace Go.Eng
def fH:Option Nat->Int
 |some i=>(i:Nat)
 |none=> -1
section
variable {α:Type} {l:List α} {q:α->Bool} {k:Nat}
theorem aem(hk:k<l.length)(hb:q l[k]=true)(hF: ∀x∈l.take k,q x=false):fH (l.findIdx? q)=(k:Nat):=by
 have h:l.findIdx? q=some k:=List.findIdx?_eq_some_iff_getElem.2 ⟨hk,hb,fun j hj=>by
  have h2:j<l.length:=by omega
  simp[hF l[j] (List.mem_take_iff_getElem.2 ⟨j,by omega,rfl⟩)]⟩
 rw[h];rfl
theorem ac4(hF: ∀x∈l,q x=false):fH (l.findIdx? q)= -1:=by
 rw[List.findIdx?_eq_none_iff.2 hF];rfl
theorem yb(hk:k<l.length)(hb:q l[k]=false)(hF: ∀x∈l.take k,q x=false): ∀x∈l.take (k+1),q x=false:=by grind [List.take_add_one,List.getElem?_eq_getElem]
theorem afj:decide (0<=fH (l.findIdx? q))=l.any q:=by
 cases h:l.findIdx? q with
 |none=>
  rw[List.findIdx?_eq_none_iff]at h;have:l.any q=false:=by rw[List.any_eq_false];intro x hx;simp[h x hx]
  rw[this];rfl
 |some i=>
  obtain⟨hi,hb,_⟩:=List.findIdx?_eq_some_iff_getElem.1 h;have:l.any q=true:=List.any_eq_true.2 ⟨_,List.getElem_mem hi,hb⟩;rw[this];simp[fH]
end
end Go.Eng
namespace Go.Proofs.YtmhmahcdanclnaaGreat.V
open Go.Eng
attribute [local go_sem] aS ah fzD plR ba aL aR aC aE ak az aU z8 z16 z32 z64 encMg aN
theorem sV:aa_ Tryz.prog 376 178 5 12/\pX Tryz.prog 376 178 5:=ym (φ:=400) (ψ:=401) Tryz.func376 (by kernel_rfl) (by kernel_rfl) rfl rfl Ty.el47 Ty.zero178 (by kernel_rfl) (by decide) (by decide) (by decide)
theorem p9:aa_ Tryz.prog 376 178 5 12:=sV.1
theorem nB:pX Tryz.prog 376 178 5:=sV.2
theorem jF(f:FuncId)(cap:List DV)(l:List GAsk)(q:GAsk->Bool)(hl:l.length<=4000000)(hc1: ∀H,embDs H cap=some cap)(hc2:noPts cap=true)(hc3: ∀r,wkDs r cap cap)
  (hq: ∀x∈l,Con2 Tryz.prog f (.agg (aU x)::cap) (· =plR (.v (.bool (q x))))):
  Con2 Tryz.prog 230 [.fz 5 (l.map aU),.fn f [] cap] (· =plR (.v (.int .i64 (fH (l.findIdx? q))))):=by
 refine Con2.ofEmb ?_;refine en_ Tryz.func230 [.tmp 4] (g2_ ?_);refine g2_ ?_;refine aq l.length (fun _=>[]) (fun _=>[]) (fun _=>[]) 0 (fun k=> ∀x∈l.take k,q x=false) (aa [] ?_) (by simp) (fun g k=>ws_) (by omega) (fun g=>ws_) (fun k hk hF=>?_) (fun hF=>?_)
 ·refine gf_ hc3 ?_
  try rfl
 ·have hx:=hq l[k] (List.getElem_mem hk)
  repeat first|simp-implicitDefEqProofs only[go_sem,ab,aV hk,List.nil_append,List.cons_append]|with_reducible first|refine gl_ ?_|refine ga_ ?_|refine gn_ ?_
  refine CallS.eq hx (wf_ hc1) (.inl (wf_ hc2)) ?_;refine g2_ ?_;cases hb:q l[k]with
  |true=>
   refine g2_ ?_;refine ae ?_ rfl;exact wf_ (aem hk hb hF)
  |false=>
   refine g2_ ?_;refine⟨k+1,aa [] ?_,rfl,yb hk hb hF⟩;exact wf_ hc3
 ·rw[List.take_of_length_le (Nat.le_refl _)]at hF;refine g2_ ?_;refine ae ?_ rfl;exact wf_ (ac4 hF)
theorem ahs(x:GID)(a:GAsk):Con2 Tryz.prog 399 [.agg (aU a),.fp (aN x)] (· =plR (.v (.bool (decide (a.id=x))))):=by
 refine Con2.ofEmb ?_;refine en_ Tryz.func399 [.tmp 3] (g2_ ?_);refine g2_ ?_;refine ae ?_ rfl;exact ws_
theorem aay(x:GID)(l:List GAsk)(hl:l.length<=4000000):Con2 Tryz.prog 398 [.fz 5 (l.map aU),.fn 399 [] [.fp (aN x)]] (· =plR (.v (.bool (adm l x)))):=by
 refine Con2.ofEmb ?_;have h:=jF 399 [.fp (aN x)] l (fun a=>decide (a.id=x)) hl (fun _=>ws_) ws_ (fun _=>ws_) (fun a _=>ahs x a)
 have e:=afj (l:=l) (q:=fun a=>decide (a.id=x))
 unfold adm;rw[<-e];generalize fH (l.findIdx? fun a=>decide (a.id=x))=i at h
 refine en_ Tryz.func398 [.tmp 4] (g2_ ?_);refine g2_ ?_;refine ce_ h (g2_ ?_);refine ae ?_ rfl;exact ws_
theorem alB(x:GID)(l:List GAsk)(hl:l.length<=4000000):Con2 Tryz.prog 374 [.fz 5 (l.map aU),.agg (aN x)] (· =plR (.v (.bool (adm l x)))):=by
 refine Con2.ofEmb ?_;have h:=aay x l hl;refine en_ Tryz.func374 [.tmp 4] (g2_ ?_);refine g2_ ?_;refine CallS.eq h ws_ (.inr ws_) ?_;refine g2_ ?_;refine ae ?_ rfl;exact ws_
theorem agt(x a:GAsk):Con2 Tryz.prog 375 [.agg (aU a),.fp (aU x)] (· =plR (.v (.bool (x.id.less a.id)))):=by
 refine Con2.ofEmb ?_;have h:=aad x.id a.id;refine en_ Tryz.func375 [.tmp 3] (g2_ ?_);refine g2_ ?_;refine ce_ h (g2_ ?_);refine ae ?_ rfl;exact ws_
theorem ajl(l:List GAsk)(x:GAsk)(most:Int)(hl:l.length<=4000000):Con2 Tryz.prog 322 [.fz 5 (l.map aU),.agg (aU x),.v (.int .i64 most)] (· =plR (.tup [.fz 5 ((yV l x most).map aU),.v (.int .i64 (abM l x most))])):=by
 refine Con2.ofEmb ?_;have h:=jF 375 [.fp (aU x)] l (fun a=>x.id.less a.id) hl (fun _=>ws_) ws_ (fun _=>ws_) (fun a _=>agt x a)
 have h2:=alB x.id l hl;have hple:=arc l x;unfold yV;obtain⟨er,hr⟩: ∃er,abM l x most=er:=⟨_,rfl⟩;rw[hr];unfold abM at hr;refine en_ Tryz.func322 [.tmp 6,.tmp 7] (g2_ ?_);refine g2_ ?_;refine ce_ (qj (l.map aU) (by rw[List.length_map];omega)) ?_
 repeat first|simp-implicitDefEqProofs only[go_sem,ab,List.length_map]|with_reducible first|refine gl_ ?_|refine ga_ ?_|refine gn_ ?_
 rw[show((x.left.toNat:Int)==0)=decide (x.left=0)from ch x.left 0]
 by_cases e1:x.left=0
 ·rw[if_pos e1]at hr;subst hr;rw[decide_eq_true e1,if_neg (by decide)]
  refine g2_ ?_;refine ae ?_ rfl;exact wf_ @an
 rw[if_neg e1]at hr;rw[decide_eq_false e1];refine g2_ ?_;refine ce_ h2 (g2_ ?_);cases e2:adm l x.id with
 |true=>
  rw[if_pos e2]at hr;subst hr;rw[if_neg (by decide)]
  refine g2_ ?_;refine ae ?_ rfl;exact wf_ @an
 |false=>
 rw[if_neg (by rw[e2];decide)]at hr
 refine gx_ ?_
 by_cases e3:most<=(l.length:Int)
 ·rw[if_pos e3]at hr;subst hr;rw[decide_eq_true e3,if_neg (by decide)]
  refine g2_ ?_;refine ae ?_ rfl;exact wf_ @an
 rw[if_neg e3]at hr;subst hr;rw[decide_eq_false e3,if_pos rfl];have hmap:(l.map aU).take (pAt l x)++[aU x]++(l.map aU).drop (pAt l x)=(acq l x).map aU:=by simp[acq]
 have hln:(acq l x).length=l.length+1:=by simp[acq];omega
 refine g2_ ?_;refine CallS.eq h ws_ (.inr ws_) ?_;refine g2_ ?_;cases hi:l.findIdx? (fun a=>x.id.less a.id)with
 |none=>
  have ha:pAt l x=l.length:=by unfold pAt;rw[hi];rfl
  rw[show fH none= -1 from rfl,show decide ((-1:Int)<0)=true from rfl]
  refine gx_ ?_;rw[ha]at hmap;refine CallS.ins p9 nB (i:=l.length) (l:=l.map aU) (x:=aU x) rfl rfl (by decide) (by simp) (by simp) (by simp;omega) ?_
  rw[hmap];refine gx_ ?_;refine ae ?_ rfl;refine gf_ (c2_ @an hln) ?_
  try rw[List.take_of_length_le (by simp[hln])]
 |some i=>
  have ha:pAt l x=i:=by unfold pAt;rw[hi];rfl
  rw[show fH (some i)=((pAt l x:Nat):Int)from by rw[ha];rfl,decide_eq_false (show ¬((pAt l x:Nat):Int)<0 by omega)]
  refine gx_ ?_;refine CallS.ins p9 nB (i:=pAt l x) (l:=l.map aU) (x:=aU x) rfl rfl (by decide) (by simp) (by simpa using hple) (by simp;omega) ?_
  rw[hmap];refine gx_ ?_;refine ae ?_ rfl;refine u1_ (c3_ @List.length_map.{0,0} @an hln) ?_
  try rw[List.take_of_length_le (by simp[hln])]
theorem aeu(x:GID)(a:GAsk):Con2 Tryz.prog 231 [.agg (aU a),.fp (aN x)] (· =plR (.v (.bool (!decide (a.id=x))))):=by
 refine Con2.ofEmb ?_;refine en_ Tryz.func231 [.tmp 3] (g2_ ?_);refine g2_ ?_;refine ae ?_ rfl;exact ws_
theorem ab_{l:List GAsk}{x:GID}{k:Nat}(hk:k<l.length):pDrop (l.take (k+1)) x=pDrop (l.take k) x++(if (!decide (l[k].id=x))=true then [l[k]]else []):=fc hk
theorem akB{l:List GAsk}{x:GID}{k:Nat}:(pDrop (l.take k) x).length<=l.length:=gQ _ _
theorem qP(l:List GAsk)(x:GID)(hl:l.length<=4000000):Con2 Tryz.prog 139 [.fz 5 (l.map aU),.agg (aN x)] (· =ba 178 5 ((pDrop l x).map aU)):=by
 have hd:=fun a=>aeu x a
 refine en_ Tryz.func139 [.tmp 4] (g2_ ?_);refine g2_ ?_;refine im_ Tryz.func168 [.tmp 4] (g2_ ?_);refine g2_ ?_;refine aq l.length (fun k=>[(5,.d (.rf 1 0 (pDrop (l.take k) x).length))]) (fun _=>[]) (fun k=>[(1,.arr 178 5 ((pDrop (l.take k) x).map aU) false),(0,.var 54 (aN x))]) 2 (fun _=>True) (aa [(1,.nil 5)] ?_) trivial (fun g k=>ws_) (by omega) (fun g=>ws_) (fun k hk _=>?_) (fun _=>?_)
 ·refine u1_ (c3_ @List.take_zero.{0} @pDrop.eq_1 @List.filter_nil.{0}) ?_
  try rfl
 ·have hdl2:=akB (l:=l) (x:=x) (k:=k);have hsn:=ab_ (x:=x) hk
  repeat first|simp-implicitDefEqProofs only[go_sem,ab,aV hk,List.nil_append,List.cons_append]|with_reducible first|refine gl_ ?_|refine ga_ ?_|refine gn_ ?_
  refine CallS.eq (hd l[k]) ws_ (.inr ws_) ?_;refine g2_ ?_;refine jK (fun h=>?_) (fun h=>?_)
  ·refine g2_ ?_;refine⟨k+1,aa [(1,.to 1)] ?_,rfl⟩;refine u1_ (c4_ hsn h @Bool.not_true (c3_ @Bool.false_eq_true @if_false.{0} @List.append_nil.{0})) ?_
   repeat' (first|(with_reducible rfl)|(refine And.intro ?_ ?_)|rfl|(simp[aU];done))
  ·repeat first|simp-implicitDefEqProofs only[go_sem,ab,List.length_map]|with_reducible first|refine gl_ ?_|refine ga_ ?_|refine gn_ ?_
   refine⟨k+1,aa [(1,.to 3)] ?_,rfl⟩;refine u1_ (c4_ hsn h @Bool.not_false (c2_ @if_true.{0} @List.length_append.{0})) ?_
   repeat' (first|(with_reducible rfl)|(refine And.intro ?_ ?_)|rfl|(simp[aU];done))
 ·have he:l.take l.length=l:=List.take_of_length_le (by omega)
  refine g2_ ?_;exact⟨_,rfl,aa [(0,.to 1)] (wf_ he)⟩
theorem ad6{l:List GAsk}{k:Nat}(hk:k<l.length):pGone (l.take (k+1))=pGone (l.take k)++(if decide (l[k].left.toNat<=1)=true then [l[k].id]else []):=by grind [pGone,fc]
def pLive(l:List GAsk):List GAsk:=l.filter fun a=> !decide (a.left.toNat<=1)
theorem acv{l:List GAsk}{k:Nat}(hk:k<l.length):pLive (l.take (k+1))=pLive (l.take k)++(if (!decide (l[k].left.toNat<=1))=true then [l[k]]else []):=fc hk
def pOld(l:List GAsk)(j:Nat):List GAsk:=(l.take j).map GAsk.less1++l.drop j
theorem zy{l:List GAsk}{j:Nat}:(pOld l j).length=l.length:=by grind [pOld]
theorem akw{l:List GAsk}{j:Nat}(hj:j<l.length):(pOld l j)[j]? =some l[j]:=by grind [pOld]
theorem amR{l:List GAsk}{j:Nat}(hj:j<l.length):(pOld l j).set j l[j].less1=pOld l (j+1):=by
 unfold pOld;have h1:((l.take j).map GAsk.less1).length=j:=by simp;omega
 rw[List.set_append_right _ _ (by omega),h1,Nat.sub_self,List.drop_eq_getElem_cons hj,List.set_cons_zero,List.take_add_one,List.getElem?_eq_getElem hj,Option.toList_some,List.map_append,List.append_assoc]
 rfl
theorem adi(l:List GAsk)(hl:l.length<=4000000):Con2 Tryz.prog 93 [.fz 5 (l.map aU)] (· =plR (.tup [.fz 5 ((Eng.pTick l).map aU),.fz 3 ((pGone l).map aN)])):=by
 refine Con2.ofEmb ?_;refine en_ Tryz.func93 [.tmp 2,.tmp 3] (g2_ ?_);refine g2_ ?_;refine im_ Tryz.func168 [.tmp 4] (g2_ ?_);refine g2_ ?_;refine aq l.length (fun k=>[(5,.d (.rf 1 0 (pLive (l.take k)).length))]) (fun _=>[]) (fun k=>[(1,.arr 178 5 ((pLive (l.take k)).map aU) false),(2,.arr 54 3 ((pGone (l.take k)).map aN) false),(0,.var 58 [.rf 2 0 (pGone (l.take k)).length])]) 3 (fun _=>True) (aa [(1,.nil 5),(2,.nil 3)] ?_) trivial (fun g k=>ws_) (by omega) (fun g=>ws_) (fun k hk _=>?_) (fun _=>?_)
 ·refine u1_ (c4_ @List.take_zero.{0} @pLive.eq_1 @pGone.eq_1 (c3_ @List.filter_nil.{0} @List.map_nil.{0,0} @List.length_nil.{0})) ?_
  repeat' (first|rfl|(refine And.intro ?_ ?_))
 ·have h1:(pLive (l.take k)).length<=l.length:=gQ _ _;have h2:(pGone (l.take k)).length<=l.length:=by unfold pGone;rw[List.length_map];exact gQ _ _
  have hs1:=acv hk;have hs2:=ad6 hk
  repeat first|simp-implicitDefEqProofs only[go_sem,ab,aV hk,List.nil_append,List.cons_append]|with_reducible first|refine gl_ ?_|refine ga_ ?_|refine gn_ ?_
  refine im_ Tryz.func169 [.tmp 3] (g2_ ?_);refine g2_ ?_;refine aZ (fun h=>?_) (fun h=>?_)
  ·have h3:decide (l[k].left.toNat<=1)=true:=decide_eq_true (by omega)
   refine gx_ ?_;refine⟨k+1,aa [(1,.to 1),(2,.to 4)] ?_,rfl⟩;refine u1_ (c4_ hs1 hs2 h3 (c4_ @Bool.not_true @Bool.false_eq_true @if_true.{0} (c3_ @if_false.{0} @List.append_nil.{0} @List.length_append.{0}))) ?_
   repeat' (first|(with_reducible rfl)|(refine And.intro ?_ ?_)|rfl|(simp[aU,aN];done))
  ·have h3:decide (l[k].left.toNat<=1)=false:=decide_eq_false (by omega)
   refine gx_ ?_;refine⟨k+1,aa [(1,.to 4),(2,.to 2)] ?_,rfl⟩
   repeat first|simp-implicitDefEqProofs only[go_sem,ab,hs1,hs2,h3,Bool.not_false,Bool.false_eq_true,if_true,if_false,List.append_nil,List.length_append]|with_reducible refine gl_ ?_
   repeat' (first|(with_reducible rfl)|(refine And.intro ?_ ?_)|rfl|(simp[aU,aN];done))
 ·have he:l.take l.length=l:=List.take_of_length_le (by omega)
  rw[he]
  have hlv: ∀a∈pLive l,1<=a.left.toNat:=fun a ha=>by
   have:=(List.mem_filter.1 ha).2;simp at this;omega
  have hlen:(pLive l).length<=l.length:=List.length_filter_le _ _;have htk:Eng.pTick l=(pLive l).map GAsk.less1:=rfl;rw[htk];generalize pLive l=L at hlv hlen;generalize pGone l=G;refine gx_ ?_;refine aq L.length (fun k=>[]) (fun _=>[]) (fun k=>[(1,.arr 178 5 ((pOld L k).map aU) false),(2,.arr 54 3 (G.map aN) false),(0,.var 58 [.rf 2 0 G.length])]) 3 (fun _=>True) (aa [] ?_) trivial (fun g k=>ws_) (by omega) (fun g=>ws_) (fun k hk _=>?_) (fun _=>?_)
  ·refine x1_ (c2_ @pOld.eq_1 @List.drop_zero.{0}) ?_
   try rfl
  ·have hg:((pOld L k).map aU)[k]? =some (aU L[k]):=by rw[List.getElem?_map,akw hk];rfl
   have h5:=hlv _ (List.getElem_mem hk);have h6:=L[k].left.toNat_lt
   repeat first|simp-implicitDefEqProofs only[go_sem,ab,hg,List.length_map,zy,List.contains_nil]|with_reducible first|refine gl_ ?_|refine ga_ ?_|refine gn_ ?_
   refine gF (by omega) ?_
   refine gg_ hg @zy ?_;refine⟨k+1,aa [] ?_,rfl⟩;refine x1_ (amR hk).symm ?_
   have e5:((L[k].less1.left.toNat:Nat):Int)=(L[k].left.toNat:Int)-1:=by
    have:L[k].less1.left.toNat=L[k].left.toNat-1:=UInt8.toNat_sub_of_le _ _ (UInt8.le_iff_toNat_le.2 h5);omega
   rw[e5];rfl
  ·refine g2_ ?_;refine .inl ⟨[oF 0,oF 1,oF 2,oF 3],by kernel_rfl,?_⟩
   ((try (with_reducible refine av ?_));(try simp-implicitDefEqProofs only[go_sem,ab]);repeat ((first|(with_reducible refine av ?_)|(with_reducible refine cV (by omega) ?_)|(with_reducible refine And.intro (by omega) ?_));(try simp-implicitDefEqProofs only[go_sem,ab])))
   refine ae ?_ rfl
   repeat first|simp-implicitDefEqProofs only[go_sem,ab,pOld,List.take_length,List.drop_length,List.append_nil,List.length_map]|with_reducible refine gl_ ?_
   rw[List.take_of_length_le (by simp)]
end Go.Proofs.YtmhmahcdanclnaaGreat.V
namespace Go.Eng
def jH(a b:au):Bool:=if a.inc≠b.inc then decide (b.inc<a.inc)else decide (0<a.inc)&&decide (b.state<a.state)
def mMg(m:List au)(self:UInt8)(i:Nat)(x:au):au:=
 match m[i]? with
 |some y=>if i≠self.toNat/\jH y x=true then ⟨y.inc,y.state,0⟩else x
 |none=>x
def eA(l m:List au)(self:UInt8):List au:=l.mapIdx (mMg m self)
def eX(l m:List au)(self:UInt8)(k:Nat):List au:=l.mapIdx fun i x=>if i<k then mMg m self i x else x
theorem nh{l m:List au}{self:UInt8}{k:Nat}:(eX l m self k).length=l.length:=by simp[eX]
theorem am0{l m:List au}{self:UInt8}:eX l m self 0=l:=by
 apply List.ext_getElem?;intro j;simp[eX]
theorem ad3{l m:List au}{self:UInt8}{n:Nat}(h:n=min l.length m.length):eX l m self n=eA l m self:=by
 apply List.ext_getElem?;intro j;simp only[eX,eA,List.getElem?_mapIdx];cases hl:l[j]? with
 |none=>rfl
 | some x=>
  simp only[Option.map_some,Option.some.injEq];split
  ·rfl
  ·have:=(List.getElem?_eq_some_iff.1 hl).1;have:m[j]? =none:=List.getElem?_eq_none (by omega)
   rw[mMg,this]
theorem ads{l m:List au}{self:UInt8}{k:Nat}(h:k<l.length):eX l m self (k+1)=(eX l m self k).set k (mMg m self k l[k]):=by
 apply List.ext_getElem?;intro j;rw[List.getElem?_set,nh];simp only[eX,List.getElem?_mapIdx]
 by_cases e:k=j
 ·subst e;simp[h]
 ·rw[if_neg e]
  congr 1
  funext x
  have:(j<k+1)=(j<k):=by rw[eq_iff_iff];omega
  simp only[this]
theorem rX{l m:List au}{self:UInt8}{k:Nat}(h:k<l.length):(eX l m self k)[k]? =some l[k]:=by
 simp[eX,h]
end Go.Eng
namespace Go.Proofs.YtmhmahcdanclnaaGreat.V
open Go.Eng
attribute [local go_sem] aS ah fzD plR ba aL aR aC aE ak az aU z8 z16 z32 z64 encMg
theorem aez(a b:au):Con2 Tryz.prog 372 [.agg (aR a),.agg (aR b)] (· =plR (.v (.bool (jH a b)))):=by
 refine en_ Tryz.func372 [.tmp 4] (g2_ ?_);refine g2_ ?_;rw[lH]
 by_cases h:a.inc=b.inc
 ·have e:jH a b=(decide ((0:Int)<(a.inc.toNat:Int))&&decide ((b.state.toNat:Int)<(a.state.toNat:Int))):=by
   rw[jH,if_neg (by simp[h])]
   have:=gD 0 a.inc;rw[show((0:UInt16).toNat:Int)=0 from rfl]at this
   simp only[iN,this]
  rw[e,decide_eq_true h];refine g2_ ?_;refine m9 (fun h2=>?_) (fun h2=>?_)
  all_goals
   rw[h2];refine g2_ ?_;exact⟨_,rfl,aa [] (wf_ @Bool.false_and)⟩
 ·have e:jH a b=decide ((b.inc.toNat:Int)<(a.inc.toNat:Int)):=by rw[jH,if_pos h];simp only[gD]
  rw[e,decide_eq_false h];refine g2_ ?_;exact⟨_,rfl,aa [] ws_⟩
theorem rZ(l m:List au)(self:UInt8)(hl:l.length<=4000000)(hm:m.length<=4000000):Con2 Tryz.prog 318 [.fz 3 (l.map aR),.fz 3 (m.map aR),.v (.int .u8 self.toNat)] (· =plR (.fz 3 ((eA l m self).map aR))):=by
 refine Con2.ofEmb ?_;have hself:=self.toNat_lt;have hne:=fun a b=>aez a b
 refine en_ Tryz.func318 [.tmp 6] (g2_ ?_);refine g2_ ?_;refine ce_ (gx (l.map aR) (by rw[List.length_map];omega)) (gx_ ?_)
 obtain⟨n,hn⟩: ∃n,n=min l.length m.length:=⟨_,rfl⟩;rw[show(if (m.length:Int)<(l.length:Int)then (m.length:Int)else (l.length:Int))=(n:Int)by split<;>omega]
 refine aq n (fun k=>[]) (fun _=>[]) (fun k=>[(0,.arr 127 3 ((eX l m self k).map aR) false)]) 1 (fun _=>True) (aa [] ?_) trivial (fun g k=>ws_) (by omega) (fun g=>ws_) (fun k hk _=>?_) (fun _=>?_)
 ·refine gf_ @am0 ?_
  first|rfl|exact⟨rfl,rfl⟩
 ·have hk1:k<l.length:=by omega
  have hk2:k<m.length:=by omega
  refine g2_ ?_;refine .inl ⟨[oF 0,oF 1,oF 2,oF 3,oF 4,oF 5,oF 6,oF 9,oF 10,oF 7,oF 11,oF 8,oF 12,oF 13,oF 14],by kernel_rfl,g2_ ?_⟩
  have hse:=ads (l:=l) (m:=m) (self:=self) hk1
  have hsame:(eX l m self k).set k l[k]=eX l m self k:=by
   apply List.ext_getElem?;intro j;rw[List.getElem?_set];split
   ·subst_vars;rw[rX hk1];simp[nh,hk1]
   ·rfl
  have hmg:mMg m self k l[k]=if k≠self.toNat/\jH m[k] l[k]=true then ⟨m[k].inc,m[k].state,0⟩else l[k]:=by rw[mMg,List.getElem?_eq_getElem hk2]
  by_cases hs:k=self.toNat
  ·rw[show((k:Int) !=(self.toNat:Int))=false by simp[hs]]
   rw[if_neg (by simp[hs])]at hmg
   rw[hmg,hsame]at hse;refine g2_ ?_;refine⟨k+1,aa [(0,.to 0)] ?_,rfl⟩;exact wf_ hse
  ·rw[show((k:Int) !=(self.toNat:Int))=true by simp;omega]
   refine gf_ (c2_ (mE_ hk1) (mE_ hk2)) ?_;refine ce_ (hne m[k] l[k]) (g2_ ?_);cases hnw:jH m[k] l[k]with
   |true=>
    rw[if_pos ⟨hs,hnw⟩]at hmg;rw[hmg]at hse;refine g2_ ?_;refine .inl ⟨[oF 0,oF 1,oF 2,oF 3,oF 7,oF 8,oF 4,oF 9,oF 5,oF 10,oF 6,oF 11,oF 12,oF 13,oF 14],by kernel_rfl,?_⟩
    have hgt:(List.map aR (eX l m self k))[k]? =some (aR l[k]):=by rw[List.getElem?_map,rX hk1];rfl
    refine gf_ (c3_ (mE_ hk2) hgt @nh) ?_;refine⟨k+1,aa [(0,.to 0)] ?_,rfl⟩;exact y1_ hse
   |false=>
    rw[if_neg (by simp[hnw])]at hmg
    rw[hmg,hsame]at hse;refine g2_ ?_;refine⟨k+1,aa [(0,.to 0)] ?_,rfl⟩;exact wf_ hse
 ·refine g2_ ?_;refine ae ?_ rfl;rw[ad3 hn];have hlen:(eA l m self).length=l.length:=by simp[eA]
  refine gf_ hlen ?_;rw[List.take_of_length_le (by simp[hlen])]
def lrnK(a b:List au)(r:List (List GMark))(k:Nat):List (List GMark):=(List.range k).foldl (fun r i=>match a[i]?,b[i]? with
  |some x,some y=>if x.inc<y.inc then f7 r (UInt8.ofNat i)else r
  |_,_=>r) r
def bx(p:af)(t:List au):af:={ p with table:=eA p.table t p.node,reports:=lrnK p.table (eA p.table t p.node) p.reports p.table.length }
theorem uH{a b:List au}{r:List (List GMark)}{k:Nat}(h1:k<a.length)(h2:k<b.length):lrnK a b r (k+1)=if a[k].inc<b[k].inc then f7 (lrnK a b r k) (UInt8.ofNat k)else lrnK a b r k:=by grind [lrnK,List.range_succ,List.getElem?_eq_getElem]
theorem lq{r:List (List GMark)}{i:UInt8}(h:fQ r):fQ (f7 r i):=by
 refine⟨by simp[f7,h.1],fun x hx=>?_⟩
 rcases List.mem_or_eq_of_mem_set hx with h1|rfl
 ·exact h.2 x h1
 ·rw[jS];have:=h.1;omega
theorem i_{a b:List au}{r:List (List GMark)}(h:fQ r): ∀k,fQ (lrnK a b r k)
 |0=>h
 | k+1=>by
  rw[lrnK,List.range_succ,List.foldl_append];have ih:=i_ (a:=a) (b:=b) h k;simp only[List.foldl_cons,List.foldl_nil];split
  ·split
   ·exact lq ih
   ·exact ih
  ·exact ih
theorem s8(p:af)(t:List au)(hp:okP p)(ht:p.table.length<=256)(htt:t.length<=4000000)(hr:fQ p.reports):Con2 Tryz.prog 327 [.agg (ak p),.fz 3 (t.map aR)] (· =plR (.agg (ak (bx p t)))):=by
 refine Con2.ofEmb ?_;have hme:=rZ p.table t p.node (by omega) htt
 have hlen:(eA p.table t p.node).length=p.table.length:=by simp[eA]
 unfold bx;generalize eA p.table t p.node=T at hme hlen;refine en_ Tryz.func327 [.cell 4 49] (g2_ ?_);refine gf_ @ao ?_;refine ce_ hme ?_;refine gg_ @ao hlen ?_;rw[show(if (p.table.length:Int)<(p.table.length:Int)then (p.table.length:Int)else (p.table.length:Int))=(p.table.length:Int)by split<;>rfl]
 refine aq p.table.length (fun k=>[]) (fun k=>[(2,⟨ak { p with table:=T,reports:=lrnK p.table T p.reports k },49⟩)]) (fun k=>[]) 0 (fun _=>True) (aa [] ?_) trivial (fun g k=>ws_) (by omega) (fun g=>ws_) (fun k hk _=>?_) (fun _=>?_)
 ·refine gf_ (c4_ @lrnK.eq_1 @List.range_zero @List.foldl_nil.{0,0} @ao) ?_;rfl
 ·have hk2:k<T.length:=by omega
  have hok:=i_ (a:=p.table) (b:=T) hr k;have hsu:=uH (r:=p.reports) hk hk2;refine gf_ @ao ?_;refine .inl ⟨[oF 0,oF 2,oF 6,oF 7,oF 1,oF 8,oF 3,oF 9,oF 4,oF 10,oF 5,oF 11],by kernel_rfl,gf_ (c3_ (mE_ hk) (mE_ hk2) @ao) ?_⟩
  have hku:((UInt8.ofNat k).toNat:Int)=k:=by rw[UInt8.toNat_ofNat'];omega
  have hfo:=jI (lrnK p.table T p.reports k) (UInt8.ofNat k) hok;rw[hku]at hfo
  by_cases h:p.table[k].inc<T[k].inc
  ·have h2:(p.table[k].inc.toNat:Int)<(T[k].inc.toNat:Int):=(gD _ _).2 h;rw[if_pos h]at hsu;rw[decide_eq_true h2];refine gf_ @ao ?_;refine gF (by omega) ?_
   refine gf_ @ao ?_;refine ce_ hfo (gf_ @ao ?_);refine⟨k+1,aa [] ?_,rfl⟩;exact wg_ hsu @ao
  ·have h2: ¬(p.table[k].inc.toNat:Int)<(T[k].inc.toNat:Int):=fun h3=>h ((gD _ _).1 h3)
   rw[if_neg h]at hsu;rw[decide_eq_false h2];refine gf_ @ao ?_;refine⟨k+1,aa [] ?_,rfl⟩;exact wg_ hsu @ao
 ·refine gf_ @ao ?_;refine ae ?_ rfl;exact wf_ @ao
