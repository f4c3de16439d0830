import Derived.Test.YtmhmahcdanclnaaGreatNr22
import Derived.Test.YtmhmahcdanclnaaGreatNr23
set_option linter.unusedSectionVars false
set_option linter.unusedSimpArgs false
set_option linter.unusedVariables false
set_option maxRecDepth 10000
namespace Go.Eng
structure okP(p:af):Prop where
 filter:p.filter.length<=4000000
 view:ck p.view
 near:ck p.near
 succ:p.ring.succ.filter.length<=4000000
 pred:p.ring.pred.filter.length<=4000000
 sent:ck p.wait.sent
 table:p.table.length<=4000000
 heard:p.heard.length<=4000000
 rows:p.rows.length<=4000000
 reports:p.reports.length<=4000000/\ ∀l∈p.reports,l.length<=4000000
 evs:p.buf.evs.length<=4000000/\ ∀e∈p.buf.evs,e.vals.length<=4000000/\e.data.length<=4000000
 pulls:p.pulls.length<=4000000
structure aF where
 kind:UInt8
 frm:UInt8
 inc:UInt16
 to:UInt8
 list:List GDesc
 table:List aq
 ev:GEvt
 hops:UInt8
 origin:GMark
 marks:List GMark
 ids:List GID
deriving DecidableEq
def aO(x:GID):List DV:=[.v (.int .u8 x.node.toNat),.v (.int .u16 x.inc.toNat),.v (.int .u32 x.seq.toNat)]
def encMg(m:aF):List DV:=[.v (.int .u8 m.kind.toNat),.v (.int .u8 m.frm.toNat),.v (.int .u16 m.inc.toNat),.v (.int .u8 m.to.toNat),fzD m.list,.fz 3 (m.table.map aP),
 .v (.int .u8 m.ev.id.node.toNat),.v (.int .u16 m.ev.id.inc.toNat),.v (.int .u32 m.ev.id.seq.toNat),.fz 1 (m.ev.vals.map bP),.fz 1 (m.ev.data.map aC),.v (.int .u8 m.hops.toNat),
 .v (.int .u8 m.origin.node.toNat),.v (.int .u16 m.origin.inc.toNat),.v (.int .u32 m.origin.seq.toNat),.fz 3 (m.marks.map aN),.fz 3 (m.ids.map aO)]
def zEvt:GEvt:=⟨⟨0,0,0⟩,[],[]⟩
def pSelf(p:af):GDesc:=⟨p.node,p.inc,0,p.filter⟩
def pMsg(p:af)(kind to:UInt8):aF:=⟨kind,p.node,p.inc,to,[],[],zEvt,0,⟨0,0,0⟩,[],[]⟩
end Go.Eng
namespace Go.Proofs.YtmhmahcdanclnaaGreat.V
open Go.Eng
attribute [local go_sem] aQ ah fzD plR a_ aN aP aD aB ak aE aU z8 z16 z32 z64 List.set_cons_succ List.set_cons_zero
theorem bk(l:List GDesc)(hl:ck l):Con2 Tryz.prog 142 [fzD l] (· =plR (fzD l)):=iX (gW l hl)
theorem jO(e:GEvt)(h1:e.vals.length<=4000000)(h2:e.data.length<=4000000):Con2 Tryz.prog 87 [.agg (aE e)] (· =plR (.agg (aE e))):=by
 refine Con2.ofEmb ?_;refine en_ Tryz.func87 [.cell 2 56] (g2_ ?_);refine g2_ ?_;refine ae ?_ rfl;exact ws_
theorem rG(w:Nat)(R:List (List DV))(p:af)(hp:okP p):Con2 Tryz.prog 81 [.agg ((ak p).set 24 (.fz w R))] (· =plR (.agg (ah (pSelf p)))):=by
 refine Con2.ofEmb ?_;have hf:=hp.filter;refine en_ Tryz.func81 [.cell 2 34] (g2_ ?_);refine g2_ ?_;refine .inl ⟨[oF 0,oF 2,oF 4,oF 1,oF 3,oF 5,oT 6,oF 7,oF 8],by kernel_rfl,g2_ ?_⟩
 refine ce_ (jF p.filter (by omega)) (g2_ ?_)
 refine ae ?_ rfl;exact wf_ @pSelf.eq_1
theorem gU(p:af)(hp:okP p):Con2 Tryz.prog 81 [.agg (ak p)] (· =plR (.agg (ah (pSelf p)))):=rG 3 (p.rows.map aD) p hp
theorem gm(p:af)(kind to:UInt8):Con2 Tryz.prog 80 [.agg (ak p),.v (.int .u8 kind.toNat),.v (.int .u8 to.toNat)] (· =plR (.agg (encMg (pMsg p kind to)))):=by
 refine Con2.ofEmb ?_;refine en_ Tryz.func80 [.cell 6 60] (g2_ ?_);refine g2_ ?_;refine ae ?_ rfl;exact wf_ (c3_ @encMg.eq_1 @pMsg.eq_1 @zEvt.eq_1)
theorem zb{P:Program}{f:FuncId}{args:List DV}{Q Q':Res->Prop}(h:Con2 P f args Q)(k: ∀r,Q r->Q' r):Con2 P f args Q':=fun u vs hv=>
 ⟨(h u vs hv).1,fun w hu=>((h u vs hv).2 w hu).mono fun e w ⟨r,u',h1,h2,h3,r2,hq,hr⟩=>⟨r,u',h1,h2,h3,r2,k _ hq,hr⟩⟩
theorem tI(p:af)(hp:okP p):Con2 Tryz.prog 77 [.agg (ak p)] (fun r=>aks 57 3 (p.heard.map aN) ((ak p).set 22 (.rf 0 0 p.heard.length)) r/\aks 84 3 (p.rows.map aD) ((ak p).set 24 (.rf 0 0 p.rows.length)) r):=by
 have hfi:=hp.filter;have hsu:=hp.succ;have hpr:=hp.pred;have htb:=hp.table;have hhe:=hp.heard;have hrw:=hp.rows;have hpu:=hp.pulls;obtain⟨hre,hre2⟩:=hp.reports;obtain⟨hev,hev2⟩:=hp.evs;refine en_ Tryz.func77 [.cell 2 49] (g2_ ?_);refine g2_ ?_;refine ce_ (jF p.filter (by omega)) ?_
 refine g2_ ?_;refine ce_ (bk p.view hp.view) (g2_ ?_);refine ce_ (bk p.near hp.near) (g2_ ?_);refine ce_ (jF p.ring.succ.filter (by omega)) (g2_ ?_)
 refine ce_ (jF p.ring.pred.filter (by omega)) (g2_ ?_)
 refine ce_ (bk p.wait.sent hp.sent) (g2_ ?_);refine ce_ (dY (p.table.map aP) (by rw[List.length_map];omega)) (g2_ ?_)
 refine ce_ (lE (p.heard.map aN) (by rw[List.length_map];omega)) (g2_ ?_)
 refine ce_ (xw (p.rows.map aD) (by rw[List.length_map];omega)) (g2_ ?_)
 generalize hL:(p.reports.map fun l=>[DV.fz 3 (l.map aN)])=L
 have hLl:L.length=p.reports.length:=by subst hL;rw[List.length_map]
 refine aw p.reports.length (fun k=>[]) (fun _=>[]) (fun k=>[(2,.arr 40 1 (dA [.v (.slice none 0 0)] L k) false),(1,.arr 84 3 (p.rows.map aD) false),(0,.arr 57 3 (p.heard.map aN) false)]) 3 (fun _=>True) (aa [] ?_) trivial (fun g k=>ws_) (by omega) (fun g=>ws_) (fun k hk _=>?_) (fun _=>?_)
 ·refine gf_ (c2_ @ov hLl) ?_
  first|rfl|exact⟨rfl,rfl⟩
 ·have hk2:k<L.length:=by omega
  have hge:L[k]? =some [DV.fz 3 (p.reports[k].map aN)]:=by subst hL;rw[List.getElem?_map,List.getElem?_eq_getElem hk];rfl
  have hge2:L[k]=[DV.fz 3 (p.reports[k].map aN)]:=by rw[List.getElem?_eq_getElem hk2]at hge;exact Option.some.inj hge
  repeat first|simp-implicitDefEqProofs only[go_sem,ab,hge,cK hk2,cw (Nat.le_of_lt hk2),List.contains_nil]|with_reducible first|refine gl_ ?_|refine ga_ ?_|refine gn_ ?_
  refine ce_ (ij (p.reports[k].map aN) (by rw[List.length_map];have:=hre2 _ (List.getElem_mem hk);omega)) ?_
  repeat first|simp-implicitDefEqProofs only[go_sem,ab,cK hk2,cw (Nat.le_of_lt hk2),List.contains_nil]|with_reducible first|refine gl_ ?_|refine ga_ ?_|refine gn_ ?_
  refine⟨k+1,aa [] ?_,rfl⟩;refine g2_ ?_;rw[<-jE hk2,hge2]
 ·rw[<-hLl];refine u3_ @jB ?_;generalize hE:p.buf.evs.map aE=M;have hMl:M.length=p.buf.evs.length:=by subst hE;rw[List.length_map]
  refine aw p.buf.evs.length (fun k=>[]) (fun _=>[]) (fun k=>[(3,.arr 56 5 (dA [.v (.int .u8 0),.v (.int .u16 0),.v (.int .u32 0),.v (.slice none 0 0),.v (.slice none 0 0)] M k) false),(2,.arr 40 1 L false),(1,.arr 84 3 (p.rows.map aD) false),(0,.arr 57 3 (p.heard.map aN) false)]) 4 (fun _=>True) (aa [] ?_) trivial (fun g k=>ws_) (by omega) (fun g=>ws_) (fun k hk _=>?_) (fun _=>?_)
  ·refine u1_ (c2_ @ov hMl) ?_
   first|rfl|exact⟨rfl,rfl⟩
  ·have hk2:k<M.length:=by omega
   have hge:M[k]? =some (aE p.buf.evs[k]):=by subst hE;rw[List.getElem?_map,List.getElem?_eq_getElem hk];rfl
   have hge2:M[k]=aE p.buf.evs[k]:=by rw[List.getElem?_eq_getElem hk2]at hge;exact Option.some.inj hge
   repeat first|simp-implicitDefEqProofs only[go_sem,ab,hge,cK hk2,cw (Nat.le_of_lt hk2),List.contains_nil]|with_reducible first|refine gl_ ?_|refine ga_ ?_|refine gn_ ?_
   refine ce_ (jO p.buf.evs[k] (hev2 _ (List.getElem_mem hk)).1 (hev2 _ (List.getElem_mem hk)).2) ?_
   repeat first|simp-implicitDefEqProofs only[go_sem,ab,cK hk2,cw (Nat.le_of_lt hk2),List.contains_nil]|with_reducible first|refine gl_ ?_|refine ga_ ?_|refine gn_ ?_
   refine⟨k+1,aa [] ?_,rfl⟩;refine g2_ ?_;rw[<-jE hk2,hge2];rfl
  ·rw[<-hMl];refine u3_ @jB ?_;refine ce_ (acv (p.pulls.map aU) (by rw[List.length_map];omega)) (g2_ ?_)
   subst hL hE;refine⟨⟨_,_,_⟩,⟨⟨0,_,rfl,?_,?_⟩,1,_,rfl,?_,?_⟩,gx _⟩
   ·exact ws_
   ·repeat first|simp-implicitDefEqProofs only[go_sem,ab,List.take_of_length_le (Nat.le_refl _),List.set_cons_succ,List.set_cons_zero]|with_reducible refine gl_ ?_
   ·exact ws_
   ·repeat first|simp-implicitDefEqProofs only[go_sem,ab,List.take_of_length_le (Nat.le_refl _),List.set_cons_succ,List.set_cons_zero]|with_reducible refine gl_ ?_
theorem qm(p:af)(hp:okP p):Con2 Tryz.prog 77 [.agg (ak p)] (· =⟨.agg ((ak p).set 22 (.rf 0 0 p.heard.length)),[(0,.arr 57 3 (p.heard.map aN) false)],1⟩):=Con2.keep (zb (tI p hp) fun r h=>h.1)
theorem pN(p:af)(hp:okP p):Con2 Tryz.prog 77 [.agg (ak p)] (· =⟨.agg ((ak p).set 24 (.rf 0 0 p.rows.length)),[(0,.arr 84 3 (p.rows.map aD) false)],1⟩):=Con2.keep (zb (tI p hp) fun r h=>h.2)
theorem bE(p:af)(hp:okP p):Con2 Tryz.prog 77 [.agg (ak p)] (· =plR (.agg (ak p))):=(qm p hp).emb (by
 repeat first|simp-implicitDefEqProofs only[go_sem,ab,List.take_of_length_le (Nat.le_refl _),List.set_cons_succ,List.set_cons_zero]|with_reducible refine gl_ ?_) (by
 repeat first|simp-implicitDefEqProofs only[go_sem,ab,List.take_of_length_le (Nat.le_refl _),List.set_cons_succ,List.set_cons_zero]|with_reducible refine gl_ ?_)
theorem q1_{p a:Prop}(k:a)(e:a->p:=by intro k;refine .inl ⟨[oF 0,oF 1,oF 2,oF 3,oF 4,oF 5,oF 6,oF 7,oF 8,oF 9],by kernel_rfl,g2_ ?_⟩;refine cw_ k (g2_ ?_);refine .inr (.inr (.inl ⟨[oF 0,oF 4,oF 1,oF 5,oF 2,oF 6,oF 3,oF 7,oT 8,oF 9],[8],by kernel_rfl,g2_ ?_⟩));refine ae ?_ rfl;exact wx_):p:=e k
theorem q2_{p a:Prop}(k:a)(e:a->p:=by intro k;refine gx_ ?_;refine .inl ⟨[oF 0,oF 1,oF 2,oF 3,oF 4,oF 5,oF 6,oF 7,oF 8,oF 9],by kernel_rfl,gx_ ?_⟩;refine cw_ k (gx_ ?_);refine .inr (.inr (.inl ⟨[oF 0,oF 4,oF 8,oF 1,oF 5,oF 9,oF 2,oF 6,oF 10,oF 3,oF 7,oF 11,oT 12,oF 13,oF 14],[8],by kernel_rfl,gx_ ?_⟩));refine ae ?_ rfl;exact wf_ @ao):p:=e k
end Go.Proofs.YtmhmahcdanclnaaGreat.V
namespace Go.Eng
theorem jZ{P:Program}{Q:Exit->DS->Prop}{ds:DS}{a b:Code}{c:Bool}(h1:c=true->vc2 P a Q ds)(h2:c=false->vc2 P b Q ds):gA P (.d (.v (.bool c))) a b Q ds:=by
 cases c with
 |true=>rw[lr];exact h1 rfl
 |false=>rw[jU];exact h2 rfl
theorem amS{x:UInt16}:((x.toNat:Int)==65535)=decide (x=65535):=by
 have:=eV (x:=x) (y:=65535);exact this
def bc(c:an)(p:af):af×Int:=
 if p.up=true then (p,54)else if p.inc=65535 then (p,55)else
  let q:=aY c p.node
  ({ q with inc:=p.inc+1,up:=true,table:=q.table.set p.node.toNat ⟨p.inc+1,1,0⟩ },0)
end Go.Eng
namespace Go.Proofs.YtmhmahcdanclnaaGreat.V
open Go.Eng
attribute [local go_sem] aQ ah fzD plR a_ aN aP aD aB ak aE aU z8 z16 z32 z64 encMg
theorem aet(c:an)(p:af)(hp:okP p):Con2 Tryz.prog 47 [.agg (aB c),.agg (ak p)] (· =plR (.tup [.agg (ak (bc c p).1),.v (.int .i64 (bc c p).2)])):=by
 refine Con2.ofEmb ?_;refine en_ Tryz.func47 [.cell 4 49,.tmp 5] (g2_ ?_);refine g2_ ?_;refine jZ (fun hu=>?_) (fun hu=>?_)
 ·have e:bc c p=(p,54):=by unfold bc;rw[if_pos hu]
  rw[e];refine g2_ ?_;refine ce_ (bE p hp) (g2_ ?_);refine ae ?_ rfl;exact ws_
 ·refine g2_ ?_;rw[amS];refine bb (fun h2=>?_) (fun h2=>?_)
  ·have e:bc c p=(p,55):=by unfold bc;rw[if_neg (by simp[hu]),if_pos h2]
   rw[e];refine g2_ ?_;refine ce_ (bE p hp) (g2_ ?_);refine ae ?_ rfl;exact ws_
  ·refine g2_ ?_;have hC:=vh c p.node
   have e:bc c p=({ aY c p.node with inc:=p.inc+1,up:=true,table:=(aY c p.node).table.set p.node.toNat ⟨p.inc+1,1,0⟩ },0):=by
    unfold bc;rw[if_neg (by simp[hu]),if_neg h2]
   have hlen:(aY c p.node).table.length<=12:=by simp[aY];omega
   rw[e];generalize aY c p.node=q at hC hlen;refine ce_ hC (gx_ ?_)
   have hinc:p.inc.toNat<65535:=by
    have h3:=p.inc.toNat_lt;have:p.inc.toNat≠65535:=fun h=>h2 (by apply UInt16.toNat_inj.1;exact h)
    omega
   have hinc2:((p.inc+1:UInt16).toNat:Int)=(p.inc.toNat:Int)+1:=by
    rw[UInt16.toNat_add];have:(1:UInt16).toNat=1:=rfl;omega
   have hnode:=p.node.toNat_lt;refine sO (by omega) ?_
   refine gx_ ?_;refine bb (fun h3=>?_) (fun h3=>?_)
   ·have h4:p.node.toNat<q.table.length:=by omega
    refine gf_ (mE_ h4) ?_;refine ae ?_ rfl
    repeat first|simp-implicitDefEqProofs only[go_sem,ab,List.map_set,hinc2,List.length_set,List.length_map,List.take_of_length_le (Nat.le_refl _)]|with_reducible refine gl_ ?_
    rw[List.take_of_length_le (by simp)]
    rfl
   ·rw[List.set_eq_of_length_le (by omega)]
    refine gx_ ?_;refine ae ?_ rfl;exact wg_ hinc2 @ao
end Go.Proofs.YtmhmahcdanclnaaGreat.V
namespace Go.Eng
theorem asJ:((UInt8.toNat 1:Nat):Int)=1:=rfl
theorem as3:((UInt8.toNat 2:Nat):Int)=2:=rfl
theorem asU:((UInt8.toNat 3:Nat):Int)=3:=rfl
theorem asV:((UInt8.toNat 4:Nat):Int)=4:=rfl
theorem asG:((UInt8.toNat 5:Nat):Int)=5:=rfl
theorem as5:((UInt8.toNat 6:Nat):Int)=6:=rfl
theorem asI:((UInt8.toNat 7:Nat):Int)=7:=rfl
theorem asP:((UInt8.toNat 8:Nat):Int)=8:=rfl
theorem as4:((UInt8.toNat 9:Nat):Int)=9:=rfl
theorem asj:((UInt8.toNat 10:Nat):Int)=10:=rfl
theorem asq:((UInt8.toNat 11:Nat):Int)=11:=rfl
theorem arV:((UInt8.toNat 12:Nat):Int)=12:=rfl
attribute [go_sem] asJ as3 asU asV asG as5 asI asP as4 asj asq arV
theorem tP:ck []:=⟨by simp,by simp⟩
theorem aeV(c:an)(node:UInt8):okP (aY c node):=by
 refine⟨by simp[aY],tP,tP,by simp[aY,zDesc],by simp[aY,zDesc],tP,?_,?_,?_,?_,by simp[aY],by simp[aY]⟩
 ·simp[aY];omega
 ·simp[aY];omega
 ·simp[aY];omega
 ·refine⟨by simp[aY];omega,fun l hl=>?_⟩
  have:=List.eq_of_mem_replicate hl;rw[this,jX];omega
theorem iU{α:Type}(f:α->α)(l:List α){i:Nat}(h:i<l.length):l.modify i f=l.set i (f l[i]):=by
 apply List.ext_getElem?;intro j;rw[List.getElem?_modify,List.getElem?_set]
 by_cases e:i=j
 ·subst e;simp[h]
 ·simp[e]
def iB(c:an)(p:af)(to:UInt8):List aF×Int:=
 if p.up=false then ([],53)else if c.nodes<=to.toNat\/to=p.node then ([],2)else ([{ pMsg p 1 to with list:=[pSelf p] }],0)
def gE(inc:UInt16)(m:aq):aq:=if m.inc<inc\/(inc=m.inc/\0<inc/\m.state≠3)then ⟨inc,1,0⟩else m
def de(l:List aq)(i:UInt8)(inc:UInt16):List aq:=l.modify i.toNat (gE inc)
end Go.Eng
namespace Go.Proofs.YtmhmahcdanclnaaGreat.V
open Go.Eng
attribute [local go_sem] aQ ah fzD plR a_ aN aP aD aB ak aE aU z8 z16 z32 z64 encMg
theorem afV(c:an)(p:af)(to:UInt8)(hp:okP p):Con2 Tryz.prog 30 [.agg (aB c),.agg (ak p),.v (.int .u8 to.toNat)] (· =plR (.tup [.fz 17 ((iB c p to).1.map encMg),.v (.int .i64 (iB c p to).2)])):=by
 refine Con2.ofEmb ?_;have hn:=p.node.toNat_lt;have ht:=to.toNat_lt;refine en_ Tryz.func30 [.tmp 6,.tmp 7] (g2_ ?_);refine g2_ ?_;cases hu:p.up with
 |false=>
  have e:iB c p to=([],53):=by unfold iB;rw[if_pos hu]
  rw[e];refine g2_ ?_;refine ae ?_ rfl;exact ws_
 | true=>
  refine g2_ ?_;have hw:=gm p 1 to;have hs:=gU p hp
  by_cases h1:c.nodes<=(to.toNat:Int)
  ·have e:iB c p to=([],2):=by unfold iB;rw[if_neg (by simp[hu]),if_pos (.inl h1)]
   rw[e,decide_eq_true h1];refine g2_ ?_;refine ae ?_ rfl;exact ws_
  ·rw[decide_eq_false h1];refine g2_ ?_;rw[cE];refine bb (fun h2=>?_) (fun h2=>?_)
   ·have e:iB c p to=([],2):=by unfold iB;rw[if_neg (by simp[hu]),if_pos (.inr h2)]
    rw[e];refine g2_ ?_;refine ae ?_ rfl;exact ws_
   ·have e:iB c p to=([{ pMsg p 1 to with list:=[pSelf p] }],0):=by unfold iB;rw[if_neg (by simp[hu]),if_neg (by simp[h1,h2])]
    rw[e];refine g2_ ?_;refine CallS.eq hw (wf_ hu) (.inl ws_) ?_;refine g2_ ?_;refine CallS.eq hs (wf_ hu) (.inl ws_) ?_;refine g2_ ?_;refine ae ?_ rfl;exact wf_ (c2_ @pMsg.eq_1 @pSelf.eq_1)
theorem sB(l:List aq)(i:UInt8)(inc:UInt16)(hl:l.length<=4000000):Con2 Tryz.prog 258 [.fz 3 (l.map aP),.v (.int .u8 i.toNat),.v (.int .u16 inc.toNat)] (· =plR (.fz 3 ((de l i inc).map aP))):=by
 refine Con2.ofEmb ?_;have hi:=i.toNat_lt;refine en_ Tryz.func258 [.tmp 6] (g2_ ?_);refine g2_ ?_;refine im_ Tryz.func324 [.tmp 6] (g2_ ?_);refine g2_ ?_;refine ce_ (gu (l.map aP) (by rw[List.length_map];omega)) (gx_ ?_)
 by_cases h1:i.toNat<l.length
 ·have e1:decide ((i.toNat:Int)<(l.length:Int))=true:=decide_eq_true (by omega)
  rw[e1];refine gf_ (mE_ h1) ?_;refine im_ Tryz.func325 [.cell 3 127] (g2_ ?_);refine g2_ ?_;have e2:de l i inc=l.set i.toNat (gE inc l[i.toNat]):=by rw[de,iU _ _ h1]
  rw[e2];generalize l[i.toNat]=m;rw[eV]
  by_cases hA:inc=m.inc
  ·have hD:decide ((m.inc.toNat:Int)<(inc.toNat:Int))=false:=by rw[hA];exact decide_eq_false (by omega)
   rw[decide_eq_true hA];refine g2_ ?_
   by_cases hB:(0:Int)<(inc.toNat:Int)
   ·have hB2:0<inc:=by rw[UInt16.lt_iff_toNat_lt];have:(0:UInt16).toNat=0:=rfl;omega
    rw[decide_eq_true hB];refine g2_ ?_
    by_cases hC:m.state=3
    ·have hC2:((m.state.toNat:Int) !=3)=false:=by rw[hC];rfl
     rw[hC2];refine g2_ ?_;rw[hD];refine gf_ (mE_ h1) ?_;refine ae ?_ rfl;have e3:gE inc m=m:=if_neg (by rw[hA,hC];simp)
     repeat first|simp-implicitDefEqProofs only[go_sem,ab,e3,List.map_set,List.length_map,List.length_set,List.take_of_length_le (Nat.le_refl _)]|with_reducible refine gl_ ?_
     rw[List.take_of_length_le (by simp)]
    ·have hC2:((m.state.toNat:Int) !=3)=true:=by
      have:((m.state.toNat:Int) !=(3:UInt8).toNat)= !decide (m.state=3):=by rw[bne,cE]
      rw[show((3:UInt8).toNat:Int)=3 from rfl]at this
      rw[this,decide_eq_false hC];rfl
     rw[hC2];refine g2_ ?_;rw[hD];refine gf_ (mE_ h1) ?_;refine ae ?_ rfl;have e3:gE inc m=⟨inc,1,0⟩:=if_pos (.inr ⟨hA,hB2,hC⟩)
     repeat first|simp-implicitDefEqProofs only[go_sem,ab,e3,List.map_set,List.length_map,List.length_set,List.take_of_length_le (Nat.le_refl _)]|with_reducible refine gl_ ?_
     rw[List.take_of_length_le (by simp)]
   ·have hB2: ¬0<inc:=by rw[UInt16.lt_iff_toNat_lt];have:(0:UInt16).toNat=0:=rfl;omega
    rw[decide_eq_false hB];refine g2_ ?_;rw[hD];refine gf_ (mE_ h1) ?_;refine ae ?_ rfl;have e3:gE inc m=m:=if_neg (by rw[<-hA];simp[hB2])
    repeat first|simp-implicitDefEqProofs only[go_sem,ab,e3,List.map_set,List.length_map,List.length_set,List.take_of_length_le (Nat.le_refl _)]|with_reducible refine gl_ ?_
    rw[List.take_of_length_le (by simp)]
  ·rw[decide_eq_false hA];refine g2_ ?_
   by_cases hD:(m.inc.toNat:Int)<(inc.toNat:Int)
   ·rw[decide_eq_true hD];have hD2:m.inc<inc:=by rw[UInt16.lt_iff_toNat_lt];omega
    refine gf_ (mE_ h1) ?_;refine ae ?_ rfl;have e3:gE inc m=⟨inc,1,0⟩:=if_pos (.inl hD2)
    repeat first|simp-implicitDefEqProofs only[go_sem,ab,e3,List.map_set,List.length_map,List.length_set,List.take_of_length_le (Nat.le_refl _)]|with_reducible refine gl_ ?_
    rw[List.take_of_length_le (by simp)]
   ·rw[decide_eq_false hD];have hD2: ¬m.inc<inc:=by rw[UInt16.lt_iff_toNat_lt];omega
    refine gf_ (mE_ h1) ?_;refine ae ?_ rfl;have e3:gE inc m=m:=if_neg (by simp[hD2,hA])
    repeat first|simp-implicitDefEqProofs only[go_sem,ab,e3,List.map_set,List.length_map,List.length_set,List.take_of_length_le (Nat.le_refl _)]|with_reducible refine gl_ ?_
    rw[List.take_of_length_le (by simp)]
 ·have e1:decide ((i.toNat:Int)<(l.length:Int))=false:=decide_eq_false (by omega)
  have e2:de l i inc=l:=by rw[de,List.modify_eq_self (by omega)]
  rw[e1,e2];refine g2_ ?_;refine ae ?_ rfl
  repeat first|simp-implicitDefEqProofs only[go_sem,ab,List.length_map,List.take_of_length_le (Nat.le_refl _),ao]|with_reducible refine gl_ ?_
end Go.Proofs.YtmhmahcdanclnaaGreat.V
namespace Go.Eng
def fP(l:List (List GMark)):Prop:=l.length<=256/\ ∀r∈l,r.length<=4000000
def bt(l:List (List GMark)):List (List DV):=l.map fun r=>[.fz 3 (r.map aN)]
def dU(l:List (List GMark))(i:UInt8):List (List GMark):=l.set i.toNat (ek l.length)
def au(c:an)(p:af)(node:UInt8)(inc:UInt16):af×Bool:=
 if c.nodes<=node.toNat\/p.table.length<=node.toNat\/node=p.node\/inc=0 then (p,false)else
  match p.table[node.toNat]? with
  |none=>(p,false)
  |some m=>if inc<m.inc\/(inc=m.inc/\m.state=3)then (p,false)
   else ({ p with table:=de p.table node inc,reports:=if m.inc<inc then dU p.reports node else p.reports },true)
theorem vo(x:UInt16):((x.toNat:Int)==0)=decide (x=0):=eV x 0
theorem aba(x:UInt8):((x.toNat:Int)==3)=decide (x=3):=cE x 3
theorem ar(l:List (List GMark)):(l.map fun r=>[DV.fz 3 (r.map aN)])=bt l:=rfl
end Go.Eng
namespace Go.Proofs.YtmhmahcdanclnaaGreat.V
open Go.Eng
attribute [local go_sem] aQ ah fzD plR a_ aN aP aD aB ak aE aU z8 z16 z32 z64 encMg
theorem sH(l:List (List GMark))(hl:fP l):Con2 Tryz.prog 319 [.fz 1 (bt l)] (· =a_ 40 1 (bt l)):=by
 obtain⟨hl1,hl2⟩:=hl;have hLl:(bt l).length=l.length:=by rw[bt,List.length_map]
 have hge0: ∀k (hk:k<l.length),(bt l)[k]? =some [DV.fz 3 (l[k].map aN)]:=fun k hk=>by rw[bt,List.getElem?_map,List.getElem?_eq_getElem hk];rfl
 generalize bt l=L at hLl hge0;refine en_ Tryz.func319 [.tmp 2] (g2_ ?_);refine gf_ hLl ?_;refine aw l.length (fun k=>[]) (fun _=>[]) (fun k=>[(0,.arr 40 1 (dA [.v (.slice none 0 0)] L k) false)]) 1 (fun _=>True) (aa [] ?_) trivial (fun g k=>ws_) (by omega) (fun g=>ws_) (fun k hk _=>?_) (fun _=>?_)
 ·refine gf_ (c2_ @ov hLl) ?_
  first|rfl|exact⟨rfl,rfl⟩
 ·have hk2:k<L.length:=by omega
  have hge:=hge0 k hk;have hge2:L[k]=[DV.fz 3 (l[k].map aN)]:=by rw[List.getElem?_eq_getElem hk2]at hge;exact Option.some.inj hge
  repeat first|simp-implicitDefEqProofs only[go_sem,ab,hge,cK hk2,cw (Nat.le_of_lt hk2),List.contains_nil]|with_reducible first|refine gl_ ?_|refine ga_ ?_|refine gn_ ?_
  refine ce_ (ij (l[k].map aN) (by rw[List.length_map];have:=hl2 _ (List.getElem_mem hk);omega)) ?_
  repeat first|simp-implicitDefEqProofs only[go_sem,ab,cK hk2,cw (Nat.le_of_lt hk2),List.contains_nil]|with_reducible first|refine gl_ ?_|refine ga_ ?_|refine gn_ ?_
  refine⟨k+1,aa [] ?_,rfl⟩;refine g2_ ?_;rw[<-jE hk2,hge2]
 ·rw[<-hLl];refine gf_ @jB ?_;exact⟨_,rfl,aa [(0,.to 0)] ws_⟩
theorem jR(l:List (List GMark))(i:UInt8)(hl:fP l):Con2 Tryz.prog 259 [.fz 1 (bt l),.v (.int .u8 i.toNat)] (· =plR (.fz 1 (bt (dU l i)))):=by
 refine Con2.ofEmb ?_;have hl1:=hl.1;have hi:=i.toNat_lt;have hLl:(bt l).length=l.length:=by rw[bt,List.length_map]
 refine en_ Tryz.func259 [.tmp 4] (g2_ ?_);refine g2_ ?_;refine ce_ (sH l hl) (gf_ hLl ?_);refine bb (fun h=>?_) (fun h=>?_)
 ·have h1:i.toNat<l.length:=by omega
  have h2:i.toNat<(bt l).length:=by omega
  have hg:=List.getElem?_eq_getElem h2;have hm:(if (256:Int)<(l.length:Int)then (256:Int)else (l.length:Int))=l.length:=if_neg (by omega)
  refine gg_ hLl hm ?_;refine ce_ (uU l.length hl1) ?_;refine gg_ hLl hg ?_;refine ae ?_ rfl
  repeat first|simp-implicitDefEqProofs only[go_sem,ab,hLl,List.length_set,List.take_of_length_le (Nat.le_refl _)]|with_reducible refine gl_ ?_
  have e1:(bt l)[i.toNat]=[.fz 3 (l[i.toNat].map aN)]:=by simp[bt]
  rw[List.take_of_length_le (by simp[hLl]),e1,bt,dU,List.map_set]
  rfl
 ·have e:dU l i=l:=List.set_eq_of_length_le (by omega)
  rw[e];refine g2_ ?_;refine ae ?_ rfl;refine gf_ (c2_ hLl @ao) ?_;rw[List.take_of_length_le (by omega)]
theorem dN(c:an)(p:af)(node:UInt8)(inc:UInt16)(hp:okP p)(hr:fP p.reports):Con2 Tryz.prog 156 [.agg (aB c),.agg (ak p),.v (.int .u8 node.toNat),.v (.int .u16 inc.toNat)] (· =plR (.tup [.agg (ak (au c p node inc).1),.v (.bool (au c p node inc).2)])):=by
 refine Con2.ofEmb ?_;have hi:=node.toNat_lt;have hj:=p.node.toNat_lt;have htb:=hp.table;refine en_ Tryz.func156 [.cell 8 49,.tmp 9] (g2_ ?_);refine gf_ @ar ?_
 by_cases h1:c.nodes<=(node.toNat:Int)
 ·have e:au c p node inc=(p,false):=if_pos (.inl h1);rw[e,decide_eq_true h1];refine gf_ @ar ?_;refine ae ?_ rfl;exact ws_
 rw[decide_eq_false h1];refine gf_ @ar ?_
 by_cases h2:p.table.length<=node.toNat
 ·have e:au c p node inc=(p,false):=if_pos (.inr (.inl h2));rw[e,decide_eq_true (show(p.table.length:Int)<=(node.toNat:Int)by omega)]
  refine gf_ @ar ?_;refine ae ?_ rfl;exact ws_
 rw[decide_eq_false (show ¬(p.table.length:Int)<=(node.toNat:Int)by omega)]
 refine gf_ @ar ?_;rw[cE]
 by_cases h3:node=p.node
 ·have e:au c p node inc=(p,false):=if_pos (.inr (.inr (.inl h3)));rw[e,decide_eq_true h3];refine gf_ @ar ?_;refine ae ?_ rfl;exact ws_
 rw[decide_eq_false h3];refine gf_ @ar ?_;rw[vo];refine bb (fun h4=>?_) (fun h4=>?_)
 ·have e:au c p node inc=(p,false):=if_pos (.inr (.inr (.inr h4)));rw[e];refine gf_ @ar ?_;refine ae ?_ rfl;exact ws_
 have hk:node.toNat<p.table.length:=by omega
 refine gf_ (c2_ @ar (mE_ hk)) ?_
 have e0:au c p node inc=if inc<p.table[node.toNat].inc\/(inc=p.table[node.toNat].inc/\p.table[node.toNat].state=3)then (p,false)
   else ({ p with table:=de p.table node inc,reports:=if p.table[node.toNat].inc<inc then dU p.reports node else p.reports },true):=by
  unfold au;rw[if_neg (by simp[h1,h2,h3,h4]),List.getElem?_eq_getElem hk]
 rw[e0];have hth:=sB p.table node inc htb;generalize p.table[node.toNat]=m
 by_cases h5:(inc.toNat:Int)<(m.inc.toNat:Int)
 ·have h6:inc<m.inc:=by rw[UInt16.lt_iff_toNat_lt];omega
  rw[if_pos (.inl h6),decide_eq_true h5];refine gf_ @ar ?_;refine ae ?_ rfl;exact ws_
 have h6: ¬inc<m.inc:=by rw[UInt16.lt_iff_toNat_lt];omega
 rw[decide_eq_false h5];refine gf_ @ar ?_;rw[eV]
 by_cases h7:inc=m.inc/\m.state=3
 ·rw[if_pos (.inr h7),decide_eq_true h7.1];refine gf_ @ar ?_;rw[aba,decide_eq_true h7.2];refine gf_ @ar ?_;refine ae ?_ rfl;exact ws_
 rw[if_neg (by simp[h6];exact fun a b=>h7 ⟨a,b⟩)]
 by_cases hA:inc=m.inc
 ·have hs3: ¬m.state=3:=fun h=>h7 ⟨hA,h⟩
  have h8: ¬(m.inc.toNat:Int)<(inc.toNat:Int):=by rw[hA];omega
  have h9: ¬m.inc<inc:=by rw[UInt16.lt_iff_toNat_lt];omega
  rw[decide_eq_true hA,if_neg h9];refine gf_ @ar ?_;rw[aba,decide_eq_false hs3];refine gf_ @ar ?_;refine ce_ hth (gf_ @ar ?_);rw[decide_eq_false h8];refine gf_ @ar ?_;refine ae ?_ rfl;exact ws_
 ·have h8:(m.inc.toNat:Int)<(inc.toNat:Int):=by
   have:m.inc.toNat≠inc.toNat:=fun h=>hA (UInt16.toNat_inj.1 h.symm)
   omega
  have h9:m.inc<inc:=by rw[UInt16.lt_iff_toNat_lt];omega
  rw[decide_eq_false hA,if_pos h9];refine gf_ @ar ?_;refine ce_ hth (gf_ @ar ?_);rw[decide_eq_true h8];refine gf_ @ar ?_;refine ce_ (jR p.reports node hr) (gf_ @ar ?_);refine ae ?_ rfl;exact wf_ @ar
end Go.Proofs.YtmhmahcdanclnaaGreat.V
namespace Go.Eng
def ch(p:af)(d:GDesc):Bool:=
 if d.node=p.node then false else match p.table[d.node.toNat]? with
  |none=>false
  |some m=>decide (m.inc<d.inc)||(decide (d.inc=m.inc)&&decide (m.state=1))
def pCur(p:af)(l:List GDesc):List GDesc:=l.filter (ch p)
theorem asf(x:UInt8):((x.toNat:Int)==1)=decide (x=1):=cE x 1
theorem fo{α:Type}{f:α->Bool}{l:List α}{k:Nat}(h:k<l.length):(l.take (k+1)).filter f=(l.take k).filter f++(if f l[k]=true then [l[k]]else []):=by grind [List.take_add_one,List.getElem?_eq_getElem,Option.toList_some]
theorem gR{α:Type}{f:α->Bool}(l:List α)(k:Nat):((l.take k).filter f).length<=l.length:=by grind
theorem ft{f:GDesc->Bool}{l:List GDesc}(h:ck l):ck (l.filter f):=⟨Nat.le_trans (List.length_filter_le _ _) h.1,fun d hd=>h.2 d (List.mem_filter.1 hd).1⟩
end Go.Eng
namespace Go.Proofs.YtmhmahcdanclnaaGreat.V
open Go.Eng
attribute [local go_sem] aQ ah fzD plR a_ aN aP aD aB ak aE aU z8 z16 z32 z64 encMg List.set_cons_succ List.set_cons_zero
def eM(c:an)(d:GDesc):Bool:=decide ((d.node.toNat:Int)<c.nodes)&&decide ((1:Int)<=(d.inc.toNat:Int))&&fB c.schema d.filter
theorem zZ{c:an}{d:GDesc}(hc:c.schema.length<=4)(h:eM c d=true):d.filter.length<=8:=by grind [eM,fB]
def pFine(c:an)(l:List GDesc):List GDesc:=l.filter (eM c)
theorem ah6(c:an)(l:List GDesc)(hc:c.schema.length<=4000000)(hl:ck l):Con2 Tryz.prog 236 [.agg (aB c),fzD l] (· =a_ 34 4 ((pFine c l).map ah)):=by
 have hb:=hl.1;refine en_ Tryz.func236 [.tmp 4] (g2_ ?_);refine g2_ ?_;refine aw l.length (fun k=>[(5,.d (.rf 0 0 (pFine c (l.take k)).length))]) (fun _=>[]) (fun k=>[(0,.arr 34 4 ((pFine c (l.take k)).map ah) false)]) 1 (fun _=>True) (aa [(0,.nil 4)] ?_) trivial (fun g k=>ws_) (by omega) (fun g=>ws_) (fun k hk _=>?_) (fun _=>?_)
 ·refine x1_ @pFine.eq_1 ?_
  first|rfl|exact⟨rfl,rfl⟩
 ·have hdl:=gR (f:=eM c) l k;have hdl2:(pFine c (l.take k)).length<=l.length:=hdl;have hnd:=l[k].node.toNat_lt;have hsn:pFine c (l.take (k+1))=pFine c (l.take k)++(if eM c l[k]=true then [l[k]]else []):=fo hk
  have hfr:=aaD c.schema l[k].filter (by omega) (by have:=hl.2 _ (List.getElem_mem hk);omega)
  have hfc:=jF l[k].filter (by have:=hl.2 _ (List.getElem_mem hk);omega)
  refine gf_ (mE_ hk) ?_;generalize l[k]=d at hsn hfr hfc hnd
  by_cases h1:(d.node.toNat:Int)<c.nodes
  ·rw[decide_eq_true h1];refine g2_ ?_
   by_cases h2:(1:Int)<=(d.inc.toNat:Int)
   ·rw[decide_eq_true h2];refine g2_ ?_;refine ce_ hfr (g2_ ?_);cases h3:fB c.schema d.filter with
    |true=>
     have e:eM c d=true:=by simp[eM,h1,h2,h3]
     refine g2_ ?_;refine ce_ hfc (gx_ ?_);refine⟨k+1,aa [(0,.to 2)] ?_,rfl⟩;refine u1_ (c4_ hsn e @if_true.{0} @List.length_append.{0}) ?_
     first|rfl|exact⟨rfl,by simp[ah]⟩|simp[ah]
    |false=>
     have e:eM c d=false:=by simp[eM,h3]
     refine g2_ ?_;refine⟨k+1,aa [(0,.to 0)] ?_,rfl⟩;exact y1_ (c2_ hsn e)
   ·have e:eM c d=false:=by simp[eM,h2]
    rw[decide_eq_false h2];refine g2_ ?_;refine⟨k+1,aa [(0,.to 0)] ?_,rfl⟩;exact y1_ (c2_ hsn e)
  ·have e:eM c d=false:=by simp[eM,h1]
   rw[decide_eq_false h1];refine g2_ ?_;refine⟨k+1,aa [(0,.to 0)] ?_,rfl⟩;exact y1_ (c2_ hsn e)
 ·have he:l.take l.length=l:=List.take_of_length_le (by omega)
  refine g2_ ?_;exact⟨_,rfl,aa [] (wf_ he)⟩
theorem nt(w:Nat)(R:List (List DV))(p:af)(d:GDesc)(hp:okP p):Con2 Tryz.prog 148 [.agg ((ak p).set 24 (.fz w R)),.agg (ah d)] (· =plR (.v (.bool (ch p d)))):=by
 have hnd:=d.node.toNat_lt;have htb:=hp.table;refine en_ Tryz.func148 [.tmp 4] (g2_ ?_);refine g2_ ?_;rw[cE]
 by_cases h1:d.node=p.node
 ·have e:ch p d=false:=if_pos h1;rw[e,decide_eq_true h1];refine g2_ ?_;exact⟨_,rfl,aa [] ws_⟩
 rw[decide_eq_false h1];refine g2_ ?_
 by_cases h2:p.table.length<=d.node.toNat
 ·have e:ch p d=false:=by rw[ch,if_neg h1,List.getElem?_eq_none h2]
  rw[e,decide_eq_true (show(p.table.length:Int)<=(d.node.toNat:Int)by omega)]
  refine g2_ ?_;exact⟨_,rfl,aa [] ws_⟩
 have hk:d.node.toNat<p.table.length:=by omega
 rw[decide_eq_false (show ¬(p.table.length:Int)<=(d.node.toNat:Int)by omega)]
 refine gf_ (mE_ hk) ?_;have e:ch p d=(decide (p.table[d.node.toNat].inc<d.inc)||(decide (d.inc=p.table[d.node.toNat].inc)&&decide (p.table[d.node.toNat].state=1))):=by rw[ch,if_neg h1,List.getElem?_eq_getElem hk]
 rw[e];generalize p.table[d.node.toNat]=m
 by_cases h3:(m.inc.toNat:Int)<(d.inc.toNat:Int)
 ·have h4:m.inc<d.inc:=by rw[UInt16.lt_iff_toNat_lt];omega
  rw[decide_eq_true h3,decide_eq_true h4];refine g2_ ?_;exact⟨_,rfl,aa [] (wf_ @Bool.true_or)⟩
 have h4: ¬m.inc<d.inc:=by rw[UInt16.lt_iff_toNat_lt];omega
 rw[decide_eq_false h3,decide_eq_false h4];refine g2_ ?_;rw[eV]
 by_cases h5:d.inc=m.inc
 ·rw[decide_eq_true h5];refine g2_ ?_;exact⟨_,rfl,aa [] (wg_ @asf @Bool.false_or)⟩
 ·rw[decide_eq_false h5];refine g2_ ?_;exact⟨_,rfl,aa [] (wg_ @Bool.false_or @Bool.false_and)⟩
theorem vY(p:af)(d:GDesc)(hp:okP p):Con2 Tryz.prog 148 [.agg (ak p),.agg (ah d)] (· =plR (.v (.bool (ch p d)))):=nt 3 (p.rows.map aD) p d hp
theorem uN(w:Nat)(R:List (List DV))(p:af)(l:List GDesc)(hp:okP p)(hl:ck l):Con2 Tryz.prog 147 [.agg ((ak p).set 24 (.fz w R)),fzD l] (· =a_ 34 4 ((pCur p l).map ah)):=by
 have hb:=hl.1;have hcu:=fun d=>nt w R p d hp
 have hP1:onesD ((ak p).set 24 (.fz w R))=true:=ws_;have hP2:ldsD true 32 0 (some ((ak p).set 24 (.fz w R)))=some (.agg ((ak p).set 24 (.fz w R))):=ws_;have hP3: ∀r,wkDs r ((ak p).set 24 (.fz w R)) ((ak p).set 24 (.fz w R)):=fun r=>ws_
 have hP4: ∀H,embDs H ((ak p).set 24 (.fz w R))=some ((ak p).set 24 (.fz w R)):=fun H=>ws_
 have hP5:noPts ((ak p).set 24 (.fz w R))=true:=ws_;generalize (ak p).set 24 (.fz w R)=P at hcu hP1 hP2 hP3 hP4 hP5;refine en_ Tryz.func147 [.tmp 4] ?_;refine u0_ ?_;refine⟨hP1,?_⟩;refine aw l.length (fun k=>[(5,.d (.rf 0 0 (pCur p (l.take k)).length))]) (fun _=>[]) (fun k=>[(0,.arr 34 4 ((pCur p (l.take k)).map ah) false)]) 1 (fun _=>True) (aa [(0,.nil 4)] ?_) trivial (fun g k=>ws_) (by omega) (fun g=>ws_) (fun k hk _=>?_) (fun _=>?_)
 ·refine x1_ @pCur.eq_1 ?_
  repeat' (first|exact hP3 _|(with_reducible rfl)|(refine And.intro ?_ ?_)|rfl|(simp[ah];done))
 ·have hdl2:(pCur p (l.take k)).length<=l.length:=gR (f:=ch p) l k;have hsn:pCur p (l.take (k+1))=pCur p (l.take k)++(if ch p l[k]=true then [l[k]]else []):=fo hk
  refine gf_ (c2_ (mE_ hk) hP2) ?_;refine CallS.eq (hcu l[k]) (wf_ hP4) (.inl (wf_ hP5)) ?_;refine g2_ ?_;refine jZ (fun h=>?_) (fun h=>?_)
  ·refine gx_ ?_;refine⟨k+1,aa [(0,.to 2)] ?_,rfl⟩;refine x1_ (c2_ hsn h) ?_
   repeat' (first|exact hP3 _|(with_reducible rfl)|(refine And.intro ?_ ?_)|rfl|(simp[ah];done))
  ·refine g2_ ?_;refine⟨k+1,aa [(0,.to 0)] ?_,rfl⟩;refine x1_ (c2_ hsn h) ?_
   repeat' (first|exact hP3 _|(with_reducible rfl)|(refine And.intro ?_ ?_)|rfl|(simp[ah];done))
 ·have he:l.take l.length=l:=List.take_of_length_le (by omega)
  refine g2_ ?_;exact⟨_,rfl,aa [] (wf_ he)⟩
theorem wo(w:Nat)(R:List (List DV))(p:af)(l:List GDesc)(hp:okP p)(hl:ck l):Con2 Tryz.prog 147 [.agg ((ak p).set 24 (.fz w R)),fzD l] (· =plR (fzD (pCur p l))):=iX (uN w R p l hp hl)
theorem alB(p:af)(l:List GDesc)(hp:okP p)(hl:ck l):Con2 Tryz.prog 147 [.agg (ak p),fzD l] (· =a_ 34 4 ((pCur p l).map ah)):=uN 3 (p.rows.map aD) p l hp hl
theorem uD(c:an)(l:List GDesc)(hc:c.schema.length<=4000000)(hl:ck l):Con2 Tryz.prog 236 [.agg (aB c),fzD l] (· =plR (fzD (pFine c l))):=iX (ah6 c l hc hl)
theorem zD(p:af)(l:List GDesc)(hp:okP p)(hl:ck l):Con2 Tryz.prog 147 [.agg (ak p),fzD l] (· =plR (fzD (pCur p l))):=iX (alB p l hp hl)
def pUse(c:an)(p:af)(l:List GDesc):List GDesc:=pCur p (pFine c l)
theorem vW(w:Nat)(R:List (List DV))(c:an)(p:af)(l:List GDesc)(hc:c.schema.length<=4000000)(hp:okP p)(hl:ck l):Con2 Tryz.prog 150 [.agg (aB c),.agg ((ak p).set 24 (.fz w R)),fzD l] (· =plR (fzD (pUse c p l))):=by
 refine Con2.ofEmb ?_;have h1:=uD c l hc hl;have h2:=wo w R p (pFine c l) hp (ft hl);refine en_ Tryz.func150 [.tmp 6] (g2_ ?_);refine g2_ ?_;refine .inl ⟨[oF 0,oF 1,oF 2,oT 3,oF 4,oF 5],by kernel_rfl,g2_ ?_⟩
 refine ce_ h1 (g2_ ?_);refine ce_ h2 (g2_ ?_);refine ae ?_ rfl;exact wf_ @pUse.eq_1
theorem og(c:an)(p:af)(l:List GDesc)(hc:c.schema.length<=4000000)(hp:okP p)(hl:ck l):Con2 Tryz.prog 150 [.agg (aB c),.agg (ak p),fzD l] (· =plR (fzD (pUse c p l))):=vW 3 (p.rows.map aD) c p l hc hp hl
end Go.Proofs.YtmhmahcdanclnaaGreat.V
namespace Go.Eng
def jY(a b:aq):Bool:=if a.inc≠b.inc then decide (b.inc<a.inc)else decide (0<a.inc)&&decide (b.state<a.state)
def mMg(m:List aq)(self:UInt8)(i:Nat)(x:aq):aq:=
 match m[i]? with
 |some y=>if i≠self.toNat/\jY y x=true then ⟨y.inc,y.state,0⟩else x
 |none=>x
def dJ(l m:List aq)(self:UInt8):List aq:=l.mapIdx (mMg m self)
def fa(l m:List aq)(self:UInt8)(k:Nat):List aq:=l.mapIdx fun i x=>if i<k then mMg m self i x else x
theorem mP{l m:List aq}{self:UInt8}{k:Nat}:(fa l m self k).length=l.length:=by simp[fa]
theorem ajM{l m:List aq}{self:UInt8}:fa l m self 0=l:=by
 apply List.ext_getElem?;intro j;simp[fa]
theorem aeA{l m:List aq}{self:UInt8}{n:Nat}(h:n=min l.length m.length):fa l m self n=dJ l m self:=by
 apply List.ext_getElem?;intro j;simp only[fa,dJ,List.getElem?_mapIdx];cases hl:l[j]? with
 |none=>rfl
 | some x=>
  simp only[Option.map_some,Option.some.injEq];split
  ·rfl
  ·have:=(List.getElem?_eq_some_iff.1 hl).1;have:m[j]? =none:=List.getElem?_eq_none (by omega)
   rw[mMg,this]
theorem ab1{l m:List aq}{self:UInt8}{k:Nat}(h:k<l.length):fa l m self (k+1)=(fa l m self k).set k (mMg m self k l[k]):=by
 apply List.ext_getElem?;intro j;rw[List.getElem?_set,mP];simp only[fa,List.getElem?_mapIdx]
 by_cases e:k=j
 ·subst e;simp[h]
 ·rw[if_neg e]
  congr 1
  funext x
  have:(j<k+1)=(j<k):=by rw[eq_iff_iff];omega
  simp only[this]
theorem qR{l m:List aq}{self:UInt8}{k:Nat}(h:k<l.length):(fa l m self k)[k]? =some l[k]:=by
 simp[fa,h]
end Go.Eng
namespace Go.Proofs.YtmhmahcdanclnaaGreat.V
open Go.Eng
attribute [local go_sem] aQ ah fzD plR a_ aN aP aD aB ak aE aU z8 z16 z32 z64 encMg
theorem abG(a b:aq):Con2 Tryz.prog 372 [.agg (aP a),.agg (aP b)] (· =plR (.v (.bool (jY a b)))):=by
 refine en_ Tryz.func372 [.tmp 4] (g2_ ?_);refine g2_ ?_;rw[xR]
 by_cases h:a.inc=b.inc
 ·have e:jY a b=(decide ((0:Int)<(a.inc.toNat:Int))&&decide ((b.state.toNat:Int)<(a.state.toNat:Int))):=by
   rw[jY,if_neg (by simp[h])]
   have:=gB 0 a.inc;rw[show((0:UInt16).toNat:Int)=0 from rfl]at this
   simp only[iP,this]
  rw[e,decide_eq_true h];refine g2_ ?_;refine xC (fun h2=>?_) (fun h2=>?_)
  all_goals
   rw[h2];refine g2_ ?_;exact⟨_,rfl,aa [] (wf_ @Bool.false_and)⟩
 ·have e:jY a b=decide ((b.inc.toNat:Int)<(a.inc.toNat:Int)):=by rw[jY,if_pos h];simp only[gB]
  rw[e,decide_eq_false h];refine g2_ ?_;exact⟨_,rfl,aa [] ws_⟩
theorem rD(l m:List aq)(self:UInt8)(hl:l.length<=4000000)(hm:m.length<=4000000):Con2 Tryz.prog 318 [.fz 3 (l.map aP),.fz 3 (m.map aP),.v (.int .u8 self.toNat)] (· =plR (.fz 3 ((dJ l m self).map aP))):=by
 refine Con2.ofEmb ?_;have hself:=self.toNat_lt;have hne:=fun a b=>abG a b
 refine en_ Tryz.func318 [.tmp 6] (g2_ ?_);refine g2_ ?_;refine ce_ (gu (l.map aP) (by rw[List.length_map];omega)) (gx_ ?_)
 obtain⟨n,hn⟩: ∃n,n=min l.length m.length:=⟨_,rfl⟩;rw[show(if (m.length:Int)<(l.length:Int)then (m.length:Int)else (l.length:Int))=(n:Int)by split<;>omega]
 refine aw n (fun k=>[]) (fun _=>[]) (fun k=>[(0,.arr 127 3 ((fa l m self k).map aP) false)]) 1 (fun _=>True) (aa [] ?_) trivial (fun g k=>ws_) (by omega) (fun g=>ws_) (fun k hk _=>?_) (fun _=>?_)
 ·refine gf_ @ajM ?_
  first|rfl|exact⟨rfl,rfl⟩
 ·have hk1:k<l.length:=by omega
  have hk2:k<m.length:=by omega
  refine g2_ ?_;refine .inl ⟨[oF 0,oF 1,oF 2,oF 3,oF 4,oF 5,oF 6,oF 9,oF 10,oF 7,oF 11,oF 8,oF 12,oF 13,oF 14],by kernel_rfl,g2_ ?_⟩
  have hse:=ab1 (l:=l) (m:=m) (self:=self) hk1
  have hsame:(fa l m self k).set k l[k]=fa l m self k:=by
   apply List.ext_getElem?;intro j;rw[List.getElem?_set];split
   ·subst_vars;rw[qR hk1];simp[mP,hk1]
   ·rfl
  have hmg:mMg m self k l[k]=if k≠self.toNat/\jY m[k] l[k]=true then ⟨m[k].inc,m[k].state,0⟩else l[k]:=by rw[mMg,List.getElem?_eq_getElem hk2]
  by_cases hs:k=self.toNat
  ·rw[show((k:Int) !=(self.toNat:Int))=false by simp[hs]]
   rw[if_neg (by simp[hs])]at hmg
   rw[hmg,hsame]at hse;refine g2_ ?_;refine⟨k+1,aa [(0,.to 0)] ?_,rfl⟩;exact wf_ hse
  ·rw[show((k:Int) !=(self.toNat:Int))=true by simp;omega]
   refine gf_ (c2_ (mE_ hk1) (mE_ hk2)) ?_;refine ce_ (hne m[k] l[k]) (g2_ ?_);cases hnw:jY m[k] l[k]with
   |true=>
    rw[if_pos ⟨hs,hnw⟩]at hmg;rw[hmg]at hse;refine g2_ ?_;refine .inl ⟨[oF 0,oF 1,oF 2,oF 3,oF 7,oF 8,oF 4,oF 9,oF 5,oF 10,oF 6,oF 11,oF 12,oF 13,oF 14],by kernel_rfl,?_⟩
    have hgt:(List.map aP (fa l m self k))[k]? =some (aP l[k]):=by rw[List.getElem?_map,qR hk1];rfl
    refine gf_ (c3_ (mE_ hk2) hgt @mP) ?_;refine⟨k+1,aa [(0,.to 0)] ?_,rfl⟩;exact y1_ hse
   |false=>
    rw[if_neg (by simp[hnw])]at hmg
    rw[hmg,hsame]at hse;refine g2_ ?_;refine⟨k+1,aa [(0,.to 0)] ?_,rfl⟩;exact wf_ hse
 ·refine g2_ ?_;refine ae ?_ rfl;rw[aeA hn];have hlen:(dJ l m self).length=l.length:=by simp[dJ]
  refine gf_ hlen ?_;rw[List.take_of_length_le (by simp[hlen])]
def lrnK(a b:List aq)(r:List (List GMark))(k:Nat):List (List GMark):=(List.range k).foldl (fun r i=>match a[i]?,b[i]? with
  |some x,some y=>if x.inc<y.inc then dU r (UInt8.ofNat i)else r
  |_,_=>r) r
def bu(p:af)(t:List aq):af:={ p with table:=dJ p.table t p.node,reports:=lrnK p.table (dJ p.table t p.node) p.reports p.table.length }
theorem vU{a b:List aq}{r:List (List GMark)}{k:Nat}(h1:k<a.length)(h2:k<b.length):lrnK a b r (k+1)=if a[k].inc<b[k].inc then dU (lrnK a b r k) (UInt8.ofNat k)else lrnK a b r k:=by grind [lrnK,List.range_succ,List.getElem?_eq_getElem]
theorem kF{r:List (List GMark)}{i:UInt8}(h:fP r):fP (dU r i):=by
 refine⟨by simp[dU,h.1],fun x hx=>?_⟩
 rcases List.mem_or_eq_of_mem_set hx with h1|rfl
 ·exact h.2 x h1
 ·rw[jX];have:=h.1;omega
theorem jm{a b:List aq}{r:List (List GMark)}(h:fP r): ∀k,fP (lrnK a b r k)
 |0=>h
 | k+1=>by
  rw[lrnK,List.range_succ,List.foldl_append];have ih:=jm (a:=a) (b:=b) h k;simp only[List.foldl_cons,List.foldl_nil];split
  ·split
   ·exact kF ih
   ·exact ih
  ·exact ih
theorem s9(p:af)(t:List aq)(hp:okP p)(ht:p.table.length<=256)(htt:t.length<=4000000)(hr:fP p.reports):Con2 Tryz.prog 327 [.agg (ak p),.fz 3 (t.map aP)] (· =plR (.agg (ak (bu p t)))):=by
 refine Con2.ofEmb ?_;have hme:=rD p.table t p.node (by omega) htt
 have hlen:(dJ p.table t p.node).length=p.table.length:=by simp[dJ]
 unfold bu;generalize dJ p.table t p.node=T at hme hlen;refine en_ Tryz.func327 [.cell 4 49] (g2_ ?_);refine gf_ @ar ?_;refine ce_ hme ?_;refine gg_ @ar hlen ?_;rw[show(if (p.table.length:Int)<(p.table.length:Int)then (p.table.length:Int)else (p.table.length:Int))=(p.table.length:Int)by split<;>rfl]
 refine aw p.table.length (fun k=>[]) (fun k=>[(2,⟨ak { p with table:=T,reports:=lrnK p.table T p.reports k },49⟩)]) (fun k=>[]) 0 (fun _=>True) (aa [] ?_) trivial (fun g k=>ws_) (by omega) (fun g=>ws_) (fun k hk _=>?_) (fun _=>?_)
 ·refine gf_ (c4_ @lrnK.eq_1 @List.range_zero @List.foldl_nil.{0,0} @ar) ?_;rfl
 ·have hk2:k<T.length:=by omega
  have hok:=jm (a:=p.table) (b:=T) hr k;have hsu:=vU (r:=p.reports) hk hk2;refine gf_ @ar ?_;refine .inl ⟨[oF 0,oF 2,oF 6,oF 7,oF 1,oF 8,oF 3,oF 9,oF 4,oF 10,oF 5,oF 11],by kernel_rfl,gf_ (c3_ (mE_ hk) (mE_ hk2) @ar) ?_⟩
  have hku:((UInt8.ofNat k).toNat:Int)=k:=by rw[UInt8.toNat_ofNat'];omega
  have hfo:=jR (lrnK p.table T p.reports k) (UInt8.ofNat k) hok;rw[hku]at hfo
  by_cases h:p.table[k].inc<T[k].inc
  ·have h2:(p.table[k].inc.toNat:Int)<(T[k].inc.toNat:Int):=(gB _ _).2 h;rw[if_pos h]at hsu;rw[decide_eq_true h2];refine gf_ @ar ?_;refine iq (by omega) ?_
   refine gf_ @ar ?_;refine ce_ hfo (gf_ @ar ?_);refine⟨k+1,aa [] ?_,rfl⟩;exact wg_ hsu @ar
  ·have h2: ¬(p.table[k].inc.toNat:Int)<(T[k].inc.toNat:Int):=fun h3=>h ((gB _ _).1 h3)
   rw[if_neg h]at hsu;rw[decide_eq_false h2];refine gf_ @ar ?_;refine⟨k+1,aa [] ?_,rfl⟩;exact wg_ hsu @ar
 ·refine gf_ @ar ?_;refine ae ?_ rfl;exact wf_ @ar
