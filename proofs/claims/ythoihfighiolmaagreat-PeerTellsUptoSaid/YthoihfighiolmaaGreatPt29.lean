import Derived.Test.YthoihfighiolmaaGreatPt28
set_option linter.unusedSectionVars false
set_option linter.unusedSimpArgs false
set_option linter.unusedVariables false
set_option maxRecDepth 10000
set_option maxHeartbeats 4000000
namespace Go.Eng
structure okP(p:ah):Prop where
 filter:p.filter.length<=4000000
 view:aR p.view
 near:aR p.near
 succ:p.ring.succ.filter.length<=4000000
 pred:p.ring.pred.filter.length<=4000000
 sent:aR p.wait.sent
 table:p.table.length<=4000000
 heard:p.heard.length<=4000000
 rows:p.rows.length<=4000000
 reports:p.reports.length<=4000000/\ ∀l∈p.reports,l.length<=4000000
 evs:p.buf.evs.length<=4000000/\ ∀e∈p.buf.evs,e.vals.length<=4000000/\e.data.length<=4000000
 pulls:p.pulls.length<=4000000
structure bo where
 kind:UInt8
 frm:UInt8
 inc:UInt16
 to:UInt8
 list:List GDesc
 table:List an
 ev:aaA
 hops:UInt8
 origin:cO
 marks:List cO
 ids:List GID
deriving DecidableEq
def qY(x:GID):List DV:=[.v (.int .u8 x.node.toNat),.v (.int .u16 x.inc.toNat),.v (.int .u32 x.seq.toNat)]
def encMg(m:bo):List DV:=[.v (.int .u8 m.kind.toNat),.v (.int .u8 m.frm.toNat),.v (.int .u16 m.inc.toNat),.v (.int .u8 m.to.toNat),fzD m.list,.fz 3 (m.table.map aE),
 .v (.int .u8 m.ev.id.node.toNat),.v (.int .u16 m.ev.id.inc.toNat),.v (.int .u32 m.ev.id.seq.toNat),.fz 1 (m.ev.vals.map dE),.fz 1 (m.ev.data.map aQ),.v (.int .u8 m.hops.toNat),
 .v (.int .u8 m.origin.node.toNat),.v (.int .u16 m.origin.inc.toNat),.v (.int .u32 m.origin.seq.toNat),.fz 3 (m.marks.map a_),.fz 3 (m.ids.map qY)]
def zEvt:aaA:=⟨⟨0,0,0⟩,[],[]⟩
def pSelf(p:ah):GDesc:=⟨p.node,p.inc,0,p.filter⟩
def pMsg(p:ah)(kind to:UInt8):bo:=⟨kind,p.node,p.inc,to,[],[],zEvt,0,⟨0,0,0⟩,[],[]⟩
end Go.Eng
namespace Go.Proofs.YthoihfighiolmaaGreat.V
open Go.Eng
attribute [local go_sem] aP af fzD plR bb a_ aE bj aC ak bk cR z8 z16 z32 z64 List.set_cons_succ List.set_cons_zero
theorem bh(l:List GDesc)(hl:aR l):Con2 Tryz.prog 148 [fzD l] (· =plR (fzD l)):=ep (gy l hl)
theorem yZ(e:aaA)(h1:e.vals.length<=4000000)(h2:e.data.length<=4000000):Con2 Tryz.prog 98 [.agg (bk e)] (· =plR (.agg (bk e))):=by
 refine Con2.ofEmb ?_;refine en_ Tryz.func98 [.cell 2 56] (g2_ ?_);refine g2_ ?_;refine ae ?_ rfl;exact ws_
theorem aam(w:Nat)(R:List (List DV))(p:ah)(hp:okP p):Con2 Tryz.prog 20 [.agg ((ak p).set 24 (.fz w R))] (· =plR (.agg (af (pSelf p)))):=by
 refine Con2.ofEmb ?_;have hf:=hp.filter;refine en_ Tryz.func20 [.cell 2 34] (g2_ ?_);refine g2_ ?_;refine .inl ⟨[oF 0,oF 2,oF 4,oF 1,oF 3,oF 5,oT 6,oF 7,oF 8],by kernel_rfl,g2_ ?_⟩
 refine ce_ (iw p.filter (by omega)) (g2_ ?_)
 refine ae ?_ rfl;exact wf_ @pSelf.eq_1
theorem fD(p:ah)(hp:okP p):Con2 Tryz.prog 20 [.agg (ak p)] (· =plR (.agg (af (pSelf p)))):=aam 3 (p.rows.map bj) p hp
theorem fe(p:ah)(kind to:UInt8):Con2 Tryz.prog 94 [.agg (ak p),.v (.int .u8 kind.toNat),.v (.int .u8 to.toNat)] (· =plR (.agg (encMg (pMsg p kind to)))):=by
 refine Con2.ofEmb ?_;refine en_ Tryz.func94 [.cell 6 60] (g2_ ?_);refine g2_ ?_;refine ae ?_ rfl;exact wf_ (c3_ @encMg.eq_1 @pMsg.eq_1 @zEvt.eq_1)
theorem ag9{P:Program}{f:FuncId}{args:List DV}{Q Q':Res->Prop}(h:Con2 P f args Q)(k: ∀r,Q r->Q' r):Con2 P f args Q':=fun u vs hv=>
 ⟨(h u vs hv).1,fun w hu=>((h u vs hv).2 w hu).mono fun e w ⟨r,u',h1,h2,h3,r2,hq,hr⟩=>⟨r,u',h1,h2,h3,r2,k _ hq,hr⟩⟩
theorem zZ(p:ah)(hp:okP p):Con2 Tryz.prog 74 [.agg (ak p)] (fun r=>ae4 57 3 (p.heard.map a_) ((ak p).set 22 (.rf 0 0 p.heard.length)) r/\ae4 104 3 (p.rows.map bj) ((ak p).set 24 (.rf 0 0 p.rows.length)) r):=by
 have hfi:=hp.filter;have hsu:=hp.succ;have hpr:=hp.pred;have htb:=hp.table;have hhe:=hp.heard;have hrw:=hp.rows;have hpu:=hp.pulls;obtain⟨hre,hre2⟩:=hp.reports;obtain⟨hev,hev2⟩:=hp.evs;refine en_ Tryz.func74 [.cell 2 49] (g2_ ?_);refine g2_ ?_;refine ce_ (iw p.filter (by omega)) ?_
 refine g2_ ?_;refine ce_ (bh p.view hp.view) (g2_ ?_);refine ce_ (bh p.near hp.near) (g2_ ?_);refine ce_ (iw p.ring.succ.filter (by omega)) (g2_ ?_)
 refine ce_ (iw p.ring.pred.filter (by omega)) (g2_ ?_)
 refine ce_ (bh p.wait.sent hp.sent) (g2_ ?_);refine ce_ (fw (p.table.map aE) (by rw[List.length_map];omega)) (g2_ ?_)
 refine ce_ (nG (p.heard.map a_) (by rw[List.length_map];omega)) (g2_ ?_)
 refine ce_ (uC (p.rows.map bj) (by rw[List.length_map];omega)) (g2_ ?_)
 generalize hL:(p.reports.map fun l=>[DV.fz 3 (l.map a_)])=L
 have hLl:L.length=p.reports.length:=by subst hL;rw[List.length_map]
 refine ay p.reports.length (fun k=>[]) (fun _=>[]) (fun k=>[(2,.arr 40 1 (gB [.v (.slice none 0 0)] L k) false),(1,.arr 104 3 (p.rows.map bj) false),(0,.arr 57 3 (p.heard.map a_) false)]) 3 (fun _=>True) (aa [] ?_) trivial (fun g k=>ws_) (by omega) (fun g=>ws_) (fun k hk _=>?_) (fun _=>?_)
 ·refine gf_ (c2_ @n9 hLl) ?_
  first|rfl|exact⟨rfl,rfl⟩
 ·have hk2:k<L.length:=by omega
  have hge:L[k]? =some [DV.fz 3 (p.reports[k].map a_)]:=by subst hL;rw[List.getElem?_map,List.getElem?_eq_getElem hk];rfl
  have hge2:L[k]=[DV.fz 3 (p.reports[k].map a_)]:=by rw[List.getElem?_eq_getElem hk2]at hge;exact Option.some.inj hge
  repeat first|simp-implicitDefEqProofs only[go_sem,ab,hge,eS hk2,eQ (Nat.le_of_lt hk2),List.contains_nil]|with_reducible first|refine gl_ ?_|refine ga_ ?_|refine gn_ ?_
  refine ce_ (oB (p.reports[k].map a_) (by rw[List.length_map];have:=hre2 _ (List.getElem_mem hk);omega)) ?_
  repeat first|simp-implicitDefEqProofs only[go_sem,ab,eS hk2,eQ (Nat.le_of_lt hk2),List.contains_nil]|with_reducible first|refine gl_ ?_|refine ga_ ?_|refine gn_ ?_
  refine⟨k+1,aa [] ?_,rfl⟩;refine g2_ ?_;rw[<-j9 hk2,hge2]
 ·rw[<-hLl];refine u3_ @jK ?_;generalize hE:p.buf.evs.map bk=M;have hMl:M.length=p.buf.evs.length:=by subst hE;rw[List.length_map]
  refine ay p.buf.evs.length (fun k=>[]) (fun _=>[]) (fun k=>[(3,.arr 56 5 (gB [.v (.int .u8 0),.v (.int .u16 0),.v (.int .u32 0),.v (.slice none 0 0),.v (.slice none 0 0)] M k) false),(2,.arr 40 1 L false),(1,.arr 104 3 (p.rows.map bj) false),(0,.arr 57 3 (p.heard.map a_) false)]) 4 (fun _=>True) (aa [] ?_) trivial (fun g k=>ws_) (by omega) (fun g=>ws_) (fun k hk _=>?_) (fun _=>?_)
  ·refine u1_ (c2_ @n9 hMl) ?_
   first|rfl|exact⟨rfl,rfl⟩
  ·have hk2:k<M.length:=by omega
   have hge:M[k]? =some (bk p.buf.evs[k]):=by subst hE;rw[List.getElem?_map,List.getElem?_eq_getElem hk];rfl
   have hge2:M[k]=bk p.buf.evs[k]:=by rw[List.getElem?_eq_getElem hk2]at hge;exact Option.some.inj hge
   repeat first|simp-implicitDefEqProofs only[go_sem,ab,hge,eS hk2,eQ (Nat.le_of_lt hk2),List.contains_nil]|with_reducible first|refine gl_ ?_|refine ga_ ?_|refine gn_ ?_
   refine ce_ (yZ p.buf.evs[k] (hev2 _ (List.getElem_mem hk)).1 (hev2 _ (List.getElem_mem hk)).2) ?_
   repeat first|simp-implicitDefEqProofs only[go_sem,ab,eS hk2,eQ (Nat.le_of_lt hk2),List.contains_nil]|with_reducible first|refine gl_ ?_|refine ga_ ?_|refine gn_ ?_
   refine⟨k+1,aa [] ?_,rfl⟩;refine g2_ ?_;rw[<-j9 hk2,hge2];rfl
  ·rw[<-hMl];refine u3_ @jK ?_;refine ce_ (zo (p.pulls.map cR) (by rw[List.length_map];omega)) (g2_ ?_)
   subst hL hE;refine⟨⟨_,_,_⟩,⟨⟨0,_,rfl,?_,?_⟩,1,_,rfl,?_,?_⟩,fT _⟩
   ·exact ws_
   ·repeat first|simp-implicitDefEqProofs only[go_sem,ab,List.take_of_length_le (Nat.le_refl _),List.set_cons_succ,List.set_cons_zero]|with_reducible refine gl_ ?_
   ·exact ws_
   ·repeat first|simp-implicitDefEqProofs only[go_sem,ab,List.take_of_length_le (Nat.le_refl _),List.set_cons_succ,List.set_cons_zero]|with_reducible refine gl_ ?_
theorem xc(p:ah)(hp:okP p):Con2 Tryz.prog 74 [.agg (ak p)] (· =⟨.agg ((ak p).set 22 (.rf 0 0 p.heard.length)),[(0,.arr 57 3 (p.heard.map a_) false)],1⟩):=Con2.keep (ag9 (zZ p hp) fun r h=>h.1)
theorem bn(p:ah)(hp:okP p):Con2 Tryz.prog 74 [.agg (ak p)] (· =plR (.agg (ak p))):=(xc p hp).emb (by
 repeat first|simp-implicitDefEqProofs only[go_sem,ab,List.take_of_length_le (Nat.le_refl _),List.set_cons_succ,List.set_cons_zero]|with_reducible refine gl_ ?_) (by
 repeat first|simp-implicitDefEqProofs only[go_sem,ab,List.take_of_length_le (Nat.le_refl _),List.set_cons_succ,List.set_cons_zero]|with_reducible refine gl_ ?_)
theorem q1_{p a:Prop}(k:a)(e:a->p:=by intro k;refine .inl ⟨[oF 0,oF 1,oF 2,oF 3,oF 4,oF 5,oF 6,oF 7,oF 8,oF 9],by kernel_rfl,g2_ ?_⟩;refine cw_ k (g2_ ?_);refine .inr (.inr (.inl ⟨[oF 0,oF 4,oF 1,oF 5,oF 2,oF 6,oF 3,oF 7,oT 8,oF 9],[8],by kernel_rfl,g2_ ?_⟩));refine ae ?_ rfl;exact wx_):p:=e k
end Go.Proofs.YthoihfighiolmaaGreat.V
namespace Go.Eng
theorem iX{P:Program}{Q:Exit->DS->Prop}{ds:DS}{a b:Code}{c:Bool}(h1:c=true->vc2 P a Q ds)(h2:c=false->vc2 P b Q ds):fZ P (.d (.v (.bool c))) a b Q ds:=by
 cases c with
 |true=>rw[jH];exact h1 rfl
 |false=>rw[i7];exact h2 rfl
theorem wg{x:UInt16}:((x.toNat:Int)==65535)=decide (x=65535):=by
 have:=d4 (x:=x) (y:=65535);exact this
def bU(c:ar)(p:ah):ah×Int:=
 if p.up=true then (p,54)else if p.inc=65535 then (p,55)else
  let q:=bM c p.node
  ({ q with inc:=p.inc+1,up:=true,table:=q.table.set p.node.toNat ⟨p.inc+1,1,0⟩ },0)
end Go.Eng
namespace Go.Proofs.YthoihfighiolmaaGreat.V
open Go.Eng
attribute [local go_sem] aP af fzD plR bb a_ aE bj aC ak bk cR z8 z16 z32 z64 encMg
theorem pj(c:ar)(p:ah)(hp:okP p):Con2 Tryz.prog 54 [.agg (aC c),.agg (ak p)] (· =plR (.tup [.agg (ak (bU c p).1),.v (.int .i64 (bU c p).2)])):=by
 refine Con2.ofEmb ?_;refine en_ Tryz.func54 [.cell 4 49,.tmp 5] (g2_ ?_);refine g2_ ?_;refine iX (fun hu=>?_) (fun hu=>?_)
 ·have e:bU c p=(p,54):=by unfold bU;rw[if_pos hu]
  rw[e];refine g2_ ?_;refine ce_ (bn p hp) (g2_ ?_);refine ae ?_ rfl;exact ws_
 ·refine g2_ ?_;rw[wg];refine aq (fun h2=>?_) (fun h2=>?_)
  ·have e:bU c p=(p,55):=by unfold bU;rw[if_neg (by simp[hu]),if_pos h2]
   rw[e];refine g2_ ?_;refine ce_ (bn p hp) (g2_ ?_);refine ae ?_ rfl;exact ws_
  ·refine g2_ ?_;have hC:=s6 c p.node
   have e:bU c p=({ bM c p.node with inc:=p.inc+1,up:=true,table:=(bM c p.node).table.set p.node.toNat ⟨p.inc+1,1,0⟩ },0):=by
    unfold bU;rw[if_neg (by simp[hu]),if_neg h2]
   have hlen:(bM c p.node).table.length<=12:=by simp[bM];omega
   rw[e];generalize bM c p.node=q at hC hlen;refine ce_ hC (gx_ ?_)
   have hinc:p.inc.toNat<65535:=by
    have h3:=p.inc.toNat_lt;have:p.inc.toNat≠65535:=fun h=>h2 (by apply UInt16.toNat_inj.1;exact h)
    omega
   have hinc2:((p.inc+1:UInt16).toNat:Int)=(p.inc.toNat:Int)+1:=by
    rw[UInt16.toNat_add];have:(1:UInt16).toNat=1:=rfl;omega
   have hnode:=p.node.toNat_lt;refine iR (by omega) ?_
   refine gx_ ?_;refine aq (fun h3=>?_) (fun h3=>?_)
   ·have h4:p.node.toNat<q.table.length:=by omega
    refine gf_ (mE_ h4) ?_;refine ae ?_ rfl
    repeat first|simp-implicitDefEqProofs only[go_sem,ab,List.map_set,hinc2,List.length_set,List.length_map,List.take_of_length_le (Nat.le_refl _)]|with_reducible refine gl_ ?_
    rw[List.take_of_length_le (by simp)]
    rfl
   ·rw[List.set_eq_of_length_le (by omega)]
    refine gx_ ?_;refine ae ?_ rfl;exact wg_ hinc2 @aF
end Go.Proofs.YthoihfighiolmaaGreat.V
namespace Go.Eng
theorem anw:((UInt8.toNat 1:Nat):Int)=1:=rfl
theorem amy:((UInt8.toNat 2:Nat):Int)=2:=rfl
theorem ano:((UInt8.toNat 3:Nat):Int)=3:=rfl
theorem anP:((UInt8.toNat 4:Nat):Int)=4:=rfl
theorem amH:((UInt8.toNat 5:Nat):Int)=5:=rfl
theorem amL:((UInt8.toNat 6:Nat):Int)=6:=rfl
theorem anD:((UInt8.toNat 7:Nat):Int)=7:=rfl
theorem anp:((UInt8.toNat 8:Nat):Int)=8:=rfl
theorem anI:((UInt8.toNat 9:Nat):Int)=9:=rfl
theorem amR:((UInt8.toNat 10:Nat):Int)=10:=rfl
theorem am3:((UInt8.toNat 11:Nat):Int)=11:=rfl
theorem amI:((UInt8.toNat 12:Nat):Int)=12:=rfl
attribute [go_sem] anw amy ano anP amH amL anD anp anI amR am3 amI
theorem qd:aR []:=⟨by simp,by simp⟩
theorem abg(c:ar)(node:UInt8):okP (bM c node):=by
 refine⟨by simp[bM],qd,qd,by simp[bM,zDesc],by simp[bM,zDesc],qd,?_,?_,?_,?_,by simp[bM],by simp[bM]⟩
 ·simp[bM];omega
 ·simp[bM];omega
 ·simp[bM];omega
 ·refine⟨by simp[bM];omega,fun l hl=>?_⟩
  have:=List.eq_of_mem_replicate hl;rw[this,cT];omega
theorem gU{α:Type}(f:α->α)(l:List α){i:Nat}(h:i<l.length):l.modify i f=l.set i (f l[i]):=by
 apply List.ext_getElem?;intro j;rw[List.getElem?_modify,List.getElem?_set]
 by_cases e:i=j
 ·subst e;simp[h]
 ·simp[e]
def dF(c:ar)(p:ah)(to:UInt8):List bo×Int:=
 if p.up=false then ([],53)else if c.nodes<=to.toNat\/to=p.node then ([],2)else ([{ pMsg p 1 to with list:=[pSelf p] }],0)
def fA(inc:UInt16)(m:an):an:=if m.inc<inc\/(inc=m.inc/\0<inc/\m.state≠3)then ⟨inc,1,0⟩else m
def cl(l:List an)(i:UInt8)(inc:UInt16):List an:=l.modify i.toNat (fA inc)
end Go.Eng
namespace Go.Proofs.YthoihfighiolmaaGreat.V
open Go.Eng
attribute [local go_sem] aP af fzD plR bb a_ aE bj aC ak bk cR z8 z16 z32 z64 encMg
theorem sK(c:ar)(p:ah)(to:UInt8)(hp:okP p):Con2 Tryz.prog 35 [.agg (aC c),.agg (ak p),.v (.int .u8 to.toNat)] (· =plR (.tup [.fz 17 ((dF c p to).1.map encMg),.v (.int .i64 (dF c p to).2)])):=by
 refine Con2.ofEmb ?_;have hn:=p.node.toNat_lt;have ht:=to.toNat_lt;refine en_ Tryz.func35 [.tmp 6,.tmp 7] (g2_ ?_);refine g2_ ?_;cases hu:p.up with
 |false=>
  have e:dF c p to=([],53):=by unfold dF;rw[if_pos hu]
  rw[e];refine g2_ ?_;refine ae ?_ rfl;exact ws_
 | true=>
  refine g2_ ?_;have hw:=fe p 1 to;have hs:=fD p hp
  by_cases h1:c.nodes<=(to.toNat:Int)
  ·have e:dF c p to=([],2):=by unfold dF;rw[if_neg (by simp[hu]),if_pos (.inl h1)]
   rw[e,decide_eq_true h1];refine g2_ ?_;refine ae ?_ rfl;exact ws_
  ·rw[decide_eq_false h1];refine g2_ ?_;rw[bt];refine aq (fun h2=>?_) (fun h2=>?_)
   ·have e:dF c p to=([],2):=by unfold dF;rw[if_neg (by simp[hu]),if_pos (.inr h2)]
    rw[e];refine g2_ ?_;refine ae ?_ rfl;exact ws_
   ·have e:dF c p to=([{ pMsg p 1 to with list:=[pSelf p] }],0):=by unfold dF;rw[if_neg (by simp[hu]),if_neg (by simp[h1,h2])]
    rw[e];refine g2_ ?_;refine CallS.eq hw (wf_ hu) (.inl ws_) ?_;refine g2_ ?_;refine CallS.eq hs (wf_ hu) (.inl ws_) ?_;refine g2_ ?_;refine ae ?_ rfl;exact wf_ (c2_ @pMsg.eq_1 @pSelf.eq_1)
theorem zl(l:List an)(i:UInt8)(inc:UInt16)(hl:l.length<=4000000):Con2 Tryz.prog 146 [.fz 3 (l.map aE),.v (.int .u8 i.toNat),.v (.int .u16 inc.toNat)] (· =plR (.fz 3 ((cl l i inc).map aE))):=by
 refine Con2.ofEmb ?_;have hi:=i.toNat_lt;refine en_ Tryz.func146 [.tmp 6] (g2_ ?_);refine g2_ ?_;refine im_ Tryz.func231 [.tmp 6] (g2_ ?_);refine g2_ ?_;refine ce_ (fS (l.map aE) (by rw[List.length_map];omega)) (gx_ ?_)
 by_cases h1:i.toNat<l.length
 ·have e1:decide ((i.toNat:Int)<(l.length:Int))=true:=decide_eq_true (by omega)
  rw[e1];refine gf_ (mE_ h1) ?_;refine im_ Tryz.func232 [.cell 3 111] (g2_ ?_);refine g2_ ?_;have e2:cl l i inc=l.set i.toNat (fA inc l[i.toNat]):=by rw[cl,gU _ _ h1]
  rw[e2];generalize l[i.toNat]=m;rw[d4]
  by_cases hA:inc=m.inc
  ·have hD:decide ((m.inc.toNat:Int)<(inc.toNat:Int))=false:=by rw[hA];exact decide_eq_false (by omega)
   rw[decide_eq_true hA];refine g2_ ?_
   by_cases hB:(0:Int)<(inc.toNat:Int)
   ·have hB2:0<inc:=by rw[UInt16.lt_iff_toNat_lt];have:(0:UInt16).toNat=0:=rfl;omega
    rw[decide_eq_true hB];refine g2_ ?_
    by_cases hC:m.state=3
    ·have hC2:((m.state.toNat:Int) !=3)=false:=by rw[hC];rfl
     rw[hC2];refine g2_ ?_;rw[hD];refine gf_ (mE_ h1) ?_;refine ae ?_ rfl;have e3:fA inc m=m:=if_neg (by rw[hA,hC];simp)
     repeat first|simp-implicitDefEqProofs only[go_sem,ab,e3,List.map_set,List.length_map,List.length_set,List.take_of_length_le (Nat.le_refl _)]|with_reducible refine gl_ ?_
     rw[List.take_of_length_le (by simp)]
    ·have hC2:((m.state.toNat:Int) !=3)=true:=by
      have:((m.state.toNat:Int) !=(3:UInt8).toNat)= !decide (m.state=3):=by rw[bne,bt]
      rw[show((3:UInt8).toNat:Int)=3 from rfl]at this
      rw[this,decide_eq_false hC];rfl
     rw[hC2];refine g2_ ?_;rw[hD];refine gf_ (mE_ h1) ?_;refine ae ?_ rfl;have e3:fA inc m=⟨inc,1,0⟩:=if_pos (.inr ⟨hA,hB2,hC⟩)
     repeat first|simp-implicitDefEqProofs only[go_sem,ab,e3,List.map_set,List.length_map,List.length_set,List.take_of_length_le (Nat.le_refl _)]|with_reducible refine gl_ ?_
     rw[List.take_of_length_le (by simp)]
   ·have hB2: ¬0<inc:=by rw[UInt16.lt_iff_toNat_lt];have:(0:UInt16).toNat=0:=rfl;omega
    rw[decide_eq_false hB];refine g2_ ?_;rw[hD];refine gf_ (mE_ h1) ?_;refine ae ?_ rfl;have e3:fA inc m=m:=if_neg (by rw[<-hA];simp[hB2])
    repeat first|simp-implicitDefEqProofs only[go_sem,ab,e3,List.map_set,List.length_map,List.length_set,List.take_of_length_le (Nat.le_refl _)]|with_reducible refine gl_ ?_
    rw[List.take_of_length_le (by simp)]
  ·rw[decide_eq_false hA];refine g2_ ?_
   by_cases hD:(m.inc.toNat:Int)<(inc.toNat:Int)
   ·rw[decide_eq_true hD];have hD2:m.inc<inc:=by rw[UInt16.lt_iff_toNat_lt];omega
    refine gf_ (mE_ h1) ?_;refine ae ?_ rfl;have e3:fA inc m=⟨inc,1,0⟩:=if_pos (.inl hD2)
    repeat first|simp-implicitDefEqProofs only[go_sem,ab,e3,List.map_set,List.length_map,List.length_set,List.take_of_length_le (Nat.le_refl _)]|with_reducible refine gl_ ?_
    rw[List.take_of_length_le (by simp)]
   ·rw[decide_eq_false hD];have hD2: ¬m.inc<inc:=by rw[UInt16.lt_iff_toNat_lt];omega
    refine gf_ (mE_ h1) ?_;refine ae ?_ rfl;have e3:fA inc m=m:=if_neg (by simp[hD2,hA])
    repeat first|simp-implicitDefEqProofs only[go_sem,ab,e3,List.map_set,List.length_map,List.length_set,List.take_of_length_le (Nat.le_refl _)]|with_reducible refine gl_ ?_
    rw[List.take_of_length_le (by simp)]
 ·have e1:decide ((i.toNat:Int)<(l.length:Int))=false:=decide_eq_false (by omega)
  have e2:cl l i inc=l:=by rw[cl,List.modify_eq_self (by omega)]
  rw[e1,e2];refine g2_ ?_;refine ae ?_ rfl
  repeat first|simp-implicitDefEqProofs only[go_sem,ab,List.length_map,List.take_of_length_le (Nat.le_refl _),aF]|with_reducible refine gl_ ?_
end Go.Proofs.YthoihfighiolmaaGreat.V
namespace Go.Eng
def jc(l:List (List cO)):Prop:=l.length<=256/\ ∀r∈l,r.length<=4000000
def cp(l:List (List cO)):List (List DV):=l.map fun r=>[.fz 3 (r.map a_)]
def bI(l:List (List cO))(i:UInt8):List (List cO):=l.set i.toNat (cg l.length)
def aI(c:ar)(p:ah)(node:UInt8)(inc:UInt16):ah×Bool:=
 if c.nodes<=node.toNat\/p.table.length<=node.toNat\/node=p.node\/inc=0 then (p,false)else
  match p.table[node.toNat]? with
  |none=>(p,false)
  |some m=>if inc<m.inc\/(inc=m.inc/\m.state=3)then (p,false)
   else ({ p with table:=cl p.table node inc,reports:=if m.inc<inc then bI p.reports node else p.reports },true)
theorem sC(x:UInt16):((x.toNat:Int)==0)=decide (x=0):=d4 x 0
theorem agu(x:UInt8):((x.toNat:Int)==3)=decide (x=3):=bt x 3
theorem ao(l:List (List cO)):(l.map fun r=>[DV.fz 3 (r.map a_)])=cp l:=rfl
end Go.Eng
namespace Go.Proofs.YthoihfighiolmaaGreat.V
open Go.Eng
attribute [local go_sem] aP af fzD plR bb a_ aE bj aC ak bk cR z8 z16 z32 z64 encMg
theorem yX(l:List (List cO))(hl:jc l):Con2 Tryz.prog 233 [.fz 1 (cp l)] (· =bb 40 1 (cp l)):=by
 obtain⟨hl1,hl2⟩:=hl;have hLl:(cp l).length=l.length:=by rw[cp,List.length_map]
 have hge0: ∀k (hk:k<l.length),(cp l)[k]? =some [DV.fz 3 (l[k].map a_)]:=fun k hk=>by rw[cp,List.getElem?_map,List.getElem?_eq_getElem hk];rfl
 generalize cp l=L at hLl hge0;refine en_ Tryz.func233 [.tmp 2] (g2_ ?_);refine gf_ hLl ?_;refine ay l.length (fun k=>[]) (fun _=>[]) (fun k=>[(0,.arr 40 1 (gB [.v (.slice none 0 0)] L k) false)]) 1 (fun _=>True) (aa [] ?_) trivial (fun g k=>ws_) (by omega) (fun g=>ws_) (fun k hk _=>?_) (fun _=>?_)
 ·refine gf_ (c2_ @n9 hLl) ?_
  first|rfl|exact⟨rfl,rfl⟩
 ·have hk2:k<L.length:=by omega
  have hge:=hge0 k hk;have hge2:L[k]=[DV.fz 3 (l[k].map a_)]:=by rw[List.getElem?_eq_getElem hk2]at hge;exact Option.some.inj hge
  repeat first|simp-implicitDefEqProofs only[go_sem,ab,hge,eS hk2,eQ (Nat.le_of_lt hk2),List.contains_nil]|with_reducible first|refine gl_ ?_|refine ga_ ?_|refine gn_ ?_
  refine ce_ (oB (l[k].map a_) (by rw[List.length_map];have:=hl2 _ (List.getElem_mem hk);omega)) ?_
  repeat first|simp-implicitDefEqProofs only[go_sem,ab,eS hk2,eQ (Nat.le_of_lt hk2),List.contains_nil]|with_reducible first|refine gl_ ?_|refine ga_ ?_|refine gn_ ?_
  refine⟨k+1,aa [] ?_,rfl⟩;refine g2_ ?_;rw[<-j9 hk2,hge2]
 ·rw[<-hLl];refine gf_ @jK ?_;exact⟨_,rfl,aa [(0,.to 0)] ws_⟩
theorem qy(l:List (List cO))(i:UInt8)(hl:jc l):Con2 Tryz.prog 147 [.fz 1 (cp l),.v (.int .u8 i.toNat)] (· =plR (.fz 1 (cp (bI l i)))):=by
 refine Con2.ofEmb ?_;have hl1:=hl.1;have hi:=i.toNat_lt;have hLl:(cp l).length=l.length:=by rw[cp,List.length_map]
 refine en_ Tryz.func147 [.tmp 4] (g2_ ?_);refine g2_ ?_;refine ce_ (yX l hl) (gf_ hLl ?_);refine aq (fun h=>?_) (fun h=>?_)
 ·have h1:i.toNat<l.length:=by omega
  have h2:i.toNat<(cp l).length:=by omega
  have hg:=List.getElem?_eq_getElem h2;have hm:(if (256:Int)<(l.length:Int)then (256:Int)else (l.length:Int))=l.length:=if_neg (by omega)
  refine gg_ hLl hm ?_;refine ce_ (sI l.length hl1) ?_;refine gg_ hLl hg ?_;refine ae ?_ rfl
  repeat first|simp-implicitDefEqProofs only[go_sem,ab,hLl,List.length_set,List.take_of_length_le (Nat.le_refl _)]|with_reducible refine gl_ ?_
  have e1:(cp l)[i.toNat]=[.fz 3 (l[i.toNat].map a_)]:=by simp[cp]
  rw[List.take_of_length_le (by simp[hLl]),e1,cp,bI,List.map_set]
  rfl
 ·have e:bI l i=l:=List.set_eq_of_length_le (by omega)
  rw[e];refine g2_ ?_;refine ae ?_ rfl;refine gf_ (c2_ hLl @aF) ?_;rw[List.take_of_length_le (by omega)]
theorem dT(c:ar)(p:ah)(node:UInt8)(inc:UInt16)(hp:okP p)(hr:jc p.reports):Con2 Tryz.prog 73 [.agg (aC c),.agg (ak p),.v (.int .u8 node.toNat),.v (.int .u16 inc.toNat)] (· =plR (.tup [.agg (ak (aI c p node inc).1),.v (.bool (aI c p node inc).2)])):=by
 refine Con2.ofEmb ?_;have hi:=node.toNat_lt;have hj:=p.node.toNat_lt;have htb:=hp.table;refine en_ Tryz.func73 [.cell 8 49,.tmp 9] (g2_ ?_);refine gf_ @ao ?_
 by_cases h1:c.nodes<=(node.toNat:Int)
 ·have e:aI c p node inc=(p,false):=if_pos (.inl h1);rw[e,decide_eq_true h1];refine gf_ @ao ?_;refine ae ?_ rfl;exact ws_
 rw[decide_eq_false h1];refine gf_ @ao ?_
 by_cases h2:p.table.length<=node.toNat
 ·have e:aI c p node inc=(p,false):=if_pos (.inr (.inl h2));rw[e,decide_eq_true (show(p.table.length:Int)<=(node.toNat:Int)by omega)]
  refine gf_ @ao ?_;refine ae ?_ rfl;exact ws_
 rw[decide_eq_false (show ¬(p.table.length:Int)<=(node.toNat:Int)by omega)]
 refine gf_ @ao ?_;rw[bt]
 by_cases h3:node=p.node
 ·have e:aI c p node inc=(p,false):=if_pos (.inr (.inr (.inl h3)));rw[e,decide_eq_true h3];refine gf_ @ao ?_;refine ae ?_ rfl;exact ws_
 rw[decide_eq_false h3];refine gf_ @ao ?_;rw[sC];refine aq (fun h4=>?_) (fun h4=>?_)
 ·have e:aI c p node inc=(p,false):=if_pos (.inr (.inr (.inr h4)));rw[e];refine gf_ @ao ?_;refine ae ?_ rfl;exact ws_
 have hk:node.toNat<p.table.length:=by omega
 refine gf_ (c2_ @ao (mE_ hk)) ?_
 have e0:aI c p node inc=if inc<p.table[node.toNat].inc\/(inc=p.table[node.toNat].inc/\p.table[node.toNat].state=3)then (p,false)
   else ({ p with table:=cl p.table node inc,reports:=if p.table[node.toNat].inc<inc then bI p.reports node else p.reports },true):=by
  unfold aI;rw[if_neg (by simp[h1,h2,h3,h4]),List.getElem?_eq_getElem hk]
 rw[e0];have hth:=zl p.table node inc htb;generalize p.table[node.toNat]=m
 by_cases h5:(inc.toNat:Int)<(m.inc.toNat:Int)
 ·have h6:inc<m.inc:=by rw[UInt16.lt_iff_toNat_lt];omega
  rw[if_pos (.inl h6),decide_eq_true h5];refine gf_ @ao ?_;refine ae ?_ rfl;exact ws_
 have h6: ¬inc<m.inc:=by rw[UInt16.lt_iff_toNat_lt];omega
 rw[decide_eq_false h5];refine gf_ @ao ?_;rw[d4]
 by_cases h7:inc=m.inc/\m.state=3
 ·rw[if_pos (.inr h7),decide_eq_true h7.1];refine gf_ @ao ?_;rw[agu,decide_eq_true h7.2];refine gf_ @ao ?_;refine ae ?_ rfl;exact ws_
 rw[if_neg (by simp[h6];exact fun a b=>h7 ⟨a,b⟩)]
 by_cases hA:inc=m.inc
 ·have hs3: ¬m.state=3:=fun h=>h7 ⟨hA,h⟩
  have h8: ¬(m.inc.toNat:Int)<(inc.toNat:Int):=by rw[hA];omega
  have h9: ¬m.inc<inc:=by rw[UInt16.lt_iff_toNat_lt];omega
  rw[decide_eq_true hA,if_neg h9];refine gf_ @ao ?_;rw[agu,decide_eq_false hs3];refine gf_ @ao ?_;refine ce_ hth (gf_ @ao ?_);rw[decide_eq_false h8];refine gf_ @ao ?_;refine ae ?_ rfl;exact ws_
 ·have h8:(m.inc.toNat:Int)<(inc.toNat:Int):=by
   have:m.inc.toNat≠inc.toNat:=fun h=>hA (UInt16.toNat_inj.1 h.symm)
   omega
  have h9:m.inc<inc:=by rw[UInt16.lt_iff_toNat_lt];omega
  rw[decide_eq_false hA,if_pos h9];refine gf_ @ao ?_;refine ce_ hth (gf_ @ao ?_);rw[decide_eq_true h8];refine gf_ @ao ?_;refine ce_ (qy p.reports node hr) (gf_ @ao ?_);refine ae ?_ rfl;exact wf_ @ao
end Go.Proofs.YthoihfighiolmaaGreat.V
namespace Go.Eng
def ck(p:ah)(d:GDesc):Bool:=
 if d.node=p.node then false else match p.table[d.node.toNat]? with
  |none=>false
  |some m=>decide (m.inc<d.inc)||(decide (d.inc=m.inc)&&decide (m.state=1))
def pCur(p:ah)(l:List GDesc):List GDesc:=l.filter (ck p)
theorem akS(x:UInt8):((x.toNat:Int)==1)=decide (x=1):=bt x 1
theorem eY{α:Type}{f:α->Bool}{l:List α}{k:Nat}(h:k<l.length):(l.take (k+1)).filter f=(l.take k).filter f++(if f l[k]=true then [l[k]]else []):=by grind [List.take_add_one,List.getElem?_eq_getElem,Option.toList_some]
theorem gh{α:Type}{f:α->Bool}(l:List α)(k:Nat):((l.take k).filter f).length<=l.length:=by grind
theorem bu{f:GDesc->Bool}{l:List GDesc}(h:aR l):aR (l.filter f):=⟨Nat.le_trans (List.length_filter_le _ _) h.1,fun d hd=>h.2 d (List.mem_filter.1 hd).1⟩
end Go.Eng
namespace Go.Proofs.YthoihfighiolmaaGreat.V
open Go.Eng
attribute [local go_sem] aP af fzD plR bb a_ aE bj aC ak bk cR z8 z16 z32 z64 encMg List.set_cons_succ List.set_cons_zero
def bp(c:ar)(d:GDesc):Bool:=decide ((d.node.toNat:Int)<c.nodes)&&decide ((1:Int)<=(d.inc.toNat:Int))&&bB c.schema d.filter
theorem aeH{c:ar}{d:GDesc}(hc:c.schema.length<=4)(h:bp c d=true):d.filter.length<=8:=by grind [bp,bB]
def pFine(c:ar)(l:List GDesc):List GDesc:=l.filter (bp c)
theorem tf(c:ar)(l:List GDesc)(hc:c.schema.length<=4000000)(hl:aR l):Con2 Tryz.prog 26 [.agg (aC c),fzD l] (· =bb 34 4 ((pFine c l).map af)):=by
 have hb:=hl.1;refine en_ Tryz.func26 [.tmp 4] (g2_ ?_);refine g2_ ?_;refine ay l.length (fun k=>[(5,.d (.rf 0 0 (pFine c (l.take k)).length))]) (fun _=>[]) (fun k=>[(0,.arr 34 4 ((pFine c (l.take k)).map af) false)]) 1 (fun _=>True) (aa [(0,.nil 4)] ?_) trivial (fun g k=>ws_) (by omega) (fun g=>ws_) (fun k hk _=>?_) (fun _=>?_)
 ·refine x1_ @pFine.eq_1 ?_
  first|rfl|exact⟨rfl,rfl⟩
 ·have hdl:=gh (f:=bp c) l k;have hdl2:(pFine c (l.take k)).length<=l.length:=hdl;have hnd:=l[k].node.toNat_lt;have hsn:pFine c (l.take (k+1))=pFine c (l.take k)++(if bp c l[k]=true then [l[k]]else []):=eY hk
  have hfr:=vh c.schema l[k].filter (by omega) (by have:=hl.2 _ (List.getElem_mem hk);omega)
  have hfc:=iw l[k].filter (by have:=hl.2 _ (List.getElem_mem hk);omega)
  refine gf_ (mE_ hk) ?_;generalize l[k]=d at hsn hfr hfc hnd
  by_cases h1:(d.node.toNat:Int)<c.nodes
  ·rw[decide_eq_true h1];refine g2_ ?_
   by_cases h2:(1:Int)<=(d.inc.toNat:Int)
   ·rw[decide_eq_true h2];refine g2_ ?_;refine ce_ hfr (g2_ ?_);cases h3:bB c.schema d.filter with
    |true=>
     have e:bp c d=true:=by simp[bp,h1,h2,h3]
     refine g2_ ?_;refine ce_ hfc (gx_ ?_);refine⟨k+1,aa [(0,.to 2)] ?_,rfl⟩;refine u1_ (c4_ hsn e @if_true.{0} @List.length_append.{0}) ?_
     first|rfl|exact⟨rfl,by simp[af]⟩|simp[af]
    |false=>
     have e:bp c d=false:=by simp[bp,h3]
     refine g2_ ?_;refine⟨k+1,aa [(0,.to 0)] ?_,rfl⟩;exact y1_ (c2_ hsn e)
   ·have e:bp c d=false:=by simp[bp,h2]
    rw[decide_eq_false h2];refine g2_ ?_;refine⟨k+1,aa [(0,.to 0)] ?_,rfl⟩;exact y1_ (c2_ hsn e)
  ·have e:bp c d=false:=by simp[bp,h1]
   rw[decide_eq_false h1];refine g2_ ?_;refine⟨k+1,aa [(0,.to 0)] ?_,rfl⟩;exact y1_ (c2_ hsn e)
 ·have he:l.take l.length=l:=List.take_of_length_le (by omega)
  refine g2_ ?_;exact⟨_,rfl,aa [] (wf_ he)⟩
theorem qe(w:Nat)(R:List (List DV))(p:ah)(d:GDesc)(hp:okP p):Con2 Tryz.prog 180 [.agg ((ak p).set 24 (.fz w R)),.agg (af d)] (· =plR (.v (.bool (ck p d)))):=by
 have hnd:=d.node.toNat_lt;have htb:=hp.table;refine en_ Tryz.func180 [.tmp 4] (g2_ ?_);refine g2_ ?_;rw[bt]
 by_cases h1:d.node=p.node
 ·have e:ck p d=false:=if_pos h1;rw[e,decide_eq_true h1];refine g2_ ?_;exact⟨_,rfl,aa [] ws_⟩
 rw[decide_eq_false h1];refine g2_ ?_
 by_cases h2:p.table.length<=d.node.toNat
 ·have e:ck p d=false:=by rw[ck,if_neg h1,List.getElem?_eq_none h2]
  rw[e,decide_eq_true (show(p.table.length:Int)<=(d.node.toNat:Int)by omega)]
  refine g2_ ?_;exact⟨_,rfl,aa [] ws_⟩
 have hk:d.node.toNat<p.table.length:=by omega
 rw[decide_eq_false (show ¬(p.table.length:Int)<=(d.node.toNat:Int)by omega)]
 refine gf_ (mE_ hk) ?_;have e:ck p d=(decide (p.table[d.node.toNat].inc<d.inc)||(decide (d.inc=p.table[d.node.toNat].inc)&&decide (p.table[d.node.toNat].state=1))):=by rw[ck,if_neg h1,List.getElem?_eq_getElem hk]
 rw[e];generalize p.table[d.node.toNat]=m
 by_cases h3:(m.inc.toNat:Int)<(d.inc.toNat:Int)
 ·have h4:m.inc<d.inc:=by rw[UInt16.lt_iff_toNat_lt];omega
  rw[decide_eq_true h3,decide_eq_true h4];refine g2_ ?_;exact⟨_,rfl,aa [] (wf_ @Bool.true_or)⟩
 have h4: ¬m.inc<d.inc:=by rw[UInt16.lt_iff_toNat_lt];omega
 rw[decide_eq_false h3,decide_eq_false h4];refine g2_ ?_;rw[d4]
 by_cases h5:d.inc=m.inc
 ·rw[decide_eq_true h5];refine g2_ ?_;exact⟨_,rfl,aa [] (wg_ @akS @Bool.false_or)⟩
 ·rw[decide_eq_false h5];refine g2_ ?_;exact⟨_,rfl,aa [] (wg_ @Bool.false_or @Bool.false_and)⟩
theorem rn(p:ah)(d:GDesc)(hp:okP p):Con2 Tryz.prog 180 [.agg (ak p),.agg (af d)] (· =plR (.v (.bool (ck p d)))):=qe 3 (p.rows.map bj) p d hp
theorem s9(w:Nat)(R:List (List DV))(p:ah)(l:List GDesc)(hp:okP p)(hl:aR l):Con2 Tryz.prog 179 [.agg ((ak p).set 24 (.fz w R)),fzD l] (· =bb 34 4 ((pCur p l).map af)):=by
 have hb:=hl.1;have hcu:=fun d=>qe w R p d hp
 have hP1:onesD ((ak p).set 24 (.fz w R))=true:=ws_;have hP2:ldsD true 32 0 (some ((ak p).set 24 (.fz w R)))=some (.agg ((ak p).set 24 (.fz w R))):=ws_;have hP3: ∀r,wkDs r ((ak p).set 24 (.fz w R)) ((ak p).set 24 (.fz w R)):=fun r=>ws_
 have hP4: ∀H,embDs H ((ak p).set 24 (.fz w R))=some ((ak p).set 24 (.fz w R)):=fun H=>ws_
 have hP5:noPts ((ak p).set 24 (.fz w R))=true:=ws_;generalize (ak p).set 24 (.fz w R)=P at hcu hP1 hP2 hP3 hP4 hP5;refine en_ Tryz.func179 [.tmp 4] ?_;refine u0_ ?_;refine⟨hP1,?_⟩;refine ay l.length (fun k=>[(5,.d (.rf 0 0 (pCur p (l.take k)).length))]) (fun _=>[]) (fun k=>[(0,.arr 34 4 ((pCur p (l.take k)).map af) false)]) 1 (fun _=>True) (aa [(0,.nil 4)] ?_) trivial (fun g k=>ws_) (by omega) (fun g=>ws_) (fun k hk _=>?_) (fun _=>?_)
 ·refine x1_ @pCur.eq_1 ?_
  repeat' (first|exact hP3 _|(with_reducible rfl)|(refine And.intro ?_ ?_)|rfl|(simp[af];done))
 ·have hdl2:(pCur p (l.take k)).length<=l.length:=gh (f:=ck p) l k;have hsn:pCur p (l.take (k+1))=pCur p (l.take k)++(if ck p l[k]=true then [l[k]]else []):=eY hk
  refine gf_ (c2_ (mE_ hk) hP2) ?_;refine CallS.eq (hcu l[k]) (wf_ hP4) (.inl (wf_ hP5)) ?_;refine g2_ ?_;refine iX (fun h=>?_) (fun h=>?_)
  ·refine gx_ ?_;refine⟨k+1,aa [(0,.to 2)] ?_,rfl⟩;refine x1_ (c2_ hsn h) ?_
   repeat' (first|exact hP3 _|(with_reducible rfl)|(refine And.intro ?_ ?_)|rfl|(simp[af];done))
  ·refine g2_ ?_;refine⟨k+1,aa [(0,.to 0)] ?_,rfl⟩;refine x1_ (c2_ hsn h) ?_
   repeat' (first|exact hP3 _|(with_reducible rfl)|(refine And.intro ?_ ?_)|rfl|(simp[af];done))
 ·have he:l.take l.length=l:=List.take_of_length_le (by omega)
  refine g2_ ?_;exact⟨_,rfl,aa [] (wf_ he)⟩
theorem ab4(w:Nat)(R:List (List DV))(p:ah)(l:List GDesc)(hp:okP p)(hl:aR l):Con2 Tryz.prog 179 [.agg ((ak p).set 24 (.fz w R)),fzD l] (· =plR (fzD (pCur p l))):=ep (s9 w R p l hp hl)
theorem afh(p:ah)(l:List GDesc)(hp:okP p)(hl:aR l):Con2 Tryz.prog 179 [.agg (ak p),fzD l] (· =bb 34 4 ((pCur p l).map af)):=s9 3 (p.rows.map bj) p l hp hl
theorem sW(c:ar)(l:List GDesc)(hc:c.schema.length<=4000000)(hl:aR l):Con2 Tryz.prog 26 [.agg (aC c),fzD l] (· =plR (fzD (pFine c l))):=ep (tf c l hc hl)
theorem vA(p:ah)(l:List GDesc)(hp:okP p)(hl:aR l):Con2 Tryz.prog 179 [.agg (ak p),fzD l] (· =plR (fzD (pCur p l))):=ep (afh p l hp hl)
def pUse(c:ar)(p:ah)(l:List GDesc):List GDesc:=pCur p (pFine c l)
theorem ad2(w:Nat)(R:List (List DV))(c:ar)(p:ah)(l:List GDesc)(hc:c.schema.length<=4000000)(hp:okP p)(hl:aR l):Con2 Tryz.prog 181 [.agg (aC c),.agg ((ak p).set 24 (.fz w R)),fzD l] (· =plR (fzD (pUse c p l))):=by
 refine Con2.ofEmb ?_;have h1:=sW c l hc hl;have h2:=ab4 w R p (pFine c l) hp (bu hl);refine en_ Tryz.func181 [.tmp 6] (g2_ ?_);refine g2_ ?_;refine .inl ⟨[oF 0,oF 1,oF 2,oT 3,oF 4,oF 5],by kernel_rfl,g2_ ?_⟩
 refine ce_ h1 (g2_ ?_);refine ce_ h2 (g2_ ?_);refine ae ?_ rfl;exact wf_ @pUse.eq_1
theorem l8(c:ar)(p:ah)(l:List GDesc)(hc:c.schema.length<=4000000)(hp:okP p)(hl:aR l):Con2 Tryz.prog 181 [.agg (aC c),.agg (ak p),fzD l] (· =plR (fzD (pUse c p l))):=ad2 3 (p.rows.map bj) c p l hc hp hl
end Go.Proofs.YthoihfighiolmaaGreat.V
namespace Go.Eng
def eo(a b:an):Bool:=if a.inc≠b.inc then decide (b.inc<a.inc)else decide (0<a.inc)&&decide (b.state<a.state)
def mMg(m:List an)(self:UInt8)(i:Nat)(x:an):an:=
 match m[i]? with
 |some y=>if i≠self.toNat/\eo y x=true then ⟨y.inc,y.state,0⟩else x
 |none=>x
def ct(l m:List an)(self:UInt8):List an:=l.mapIdx (mMg m self)
def dI(l m:List an)(self:UInt8)(k:Nat):List an:=l.mapIdx fun i x=>if i<k then mMg m self i x else x
theorem gR{l m:List an}{self:UInt8}{k:Nat}:(dI l m self k).length=l.length:=by simp[dI]
theorem xi{l m:List an}{self:UInt8}:dI l m self 0=l:=by
 apply List.ext_getElem?;intro j;simp[dI]
theorem oV{l m:List an}{self:UInt8}{n:Nat}(h:n=min l.length m.length):dI l m self n=ct l m self:=by
 apply List.ext_getElem?;intro j;simp only[dI,ct,List.getElem?_mapIdx];cases hl:l[j]? with
 |none=>rfl
 | some x=>
  simp only[Option.map_some,Option.some.injEq];split
  ·rfl
  ·have:=(List.getElem?_eq_some_iff.1 hl).1;have:m[j]? =none:=List.getElem?_eq_none (by omega)
   rw[mMg,this]
theorem p6{l m:List an}{self:UInt8}{k:Nat}(h:k<l.length):dI l m self (k+1)=(dI l m self k).set k (mMg m self k l[k]):=by
 apply List.ext_getElem?;intro j;rw[List.getElem?_set,gR];simp only[dI,List.getElem?_mapIdx]
 by_cases e:k=j
 ·subst e;simp[h]
 ·rw[if_neg e]
  congr 1
  funext x
  have:(j<k+1)=(j<k):=by rw[eq_iff_iff];omega
  simp only[this]
theorem iQ{l m:List an}{self:UInt8}{k:Nat}(h:k<l.length):(dI l m self k)[k]? =some l[k]:=by
 simp[dI,h]
end Go.Eng
namespace Go.Proofs.YthoihfighiolmaaGreat.V
open Go.Eng
attribute [local go_sem] aP af fzD plR bb a_ aE bj aC ak bk cR z8 z16 z32 z64 encMg
theorem aaq(a b:an):Con2 Tryz.prog 381 [.agg (aE a),.agg (aE b)] (· =plR (.v (.bool (eo a b)))):=by
 refine en_ Tryz.func381 [.tmp 4] (g2_ ?_);refine g2_ ?_;rw[jL]
 by_cases h:a.inc=b.inc
 ·have e:eo a b=(decide ((0:Int)<(a.inc.toNat:Int))&&decide ((b.state.toNat:Int)<(a.state.toNat:Int))):=by
   rw[eo,if_neg (by simp[h])]
   have:=cZ 0 a.inc;rw[show((0:UInt16).toNat:Int)=0 from rfl]at this
   simp only[dH,this]
  rw[e,decide_eq_true h];refine g2_ ?_;refine ic (fun h2=>?_) (fun h2=>?_)
  all_goals
   rw[h2];refine g2_ ?_;exact⟨_,rfl,aa [] (wf_ @Bool.false_and)⟩
 ·have e:eo a b=decide ((b.inc.toNat:Int)<(a.inc.toNat:Int)):=by rw[eo,if_pos h];simp only[cZ]
  rw[e,decide_eq_false h];refine g2_ ?_;exact⟨_,rfl,aa [] ws_⟩
theorem yV(l m:List an)(self:UInt8)(hl:l.length<=4000000)(hm:m.length<=4000000):Con2 Tryz.prog 342 [.fz 3 (l.map aE),.fz 3 (m.map aE),.v (.int .u8 self.toNat)] (· =plR (.fz 3 ((ct l m self).map aE))):=by
 refine Con2.ofEmb ?_;have hself:=self.toNat_lt;have hne:=fun a b=>aaq a b
 refine en_ Tryz.func342 [.tmp 6] (g2_ ?_);refine g2_ ?_;refine ce_ (fS (l.map aE) (by rw[List.length_map];omega)) (gx_ ?_)
 obtain⟨n,hn⟩: ∃n,n=min l.length m.length:=⟨_,rfl⟩;rw[show(if (m.length:Int)<(l.length:Int)then (m.length:Int)else (l.length:Int))=(n:Int)by split<;>omega]
 refine ay n (fun k=>[]) (fun _=>[]) (fun k=>[(0,.arr 111 3 ((dI l m self k).map aE) false)]) 1 (fun _=>True) (aa [] ?_) trivial (fun g k=>ws_) (by omega) (fun g=>ws_) (fun k hk _=>?_) (fun _=>?_)
 ·refine gf_ @xi ?_
  first|rfl|exact⟨rfl,rfl⟩
 ·have hk1:k<l.length:=by omega
  have hk2:k<m.length:=by omega
  refine g2_ ?_;refine .inl ⟨[oF 0,oF 1,oF 2,oF 3,oF 4,oF 5,oF 6,oF 9,oF 10,oF 7,oF 11,oF 8,oF 12,oF 13,oF 14],by kernel_rfl,g2_ ?_⟩
  have hse:=p6 (l:=l) (m:=m) (self:=self) hk1
  have hsame:(dI l m self k).set k l[k]=dI l m self k:=by
   apply List.ext_getElem?;intro j;rw[List.getElem?_set];split
   ·subst_vars;rw[iQ hk1];simp[gR,hk1]
   ·rfl
  have hmg:mMg m self k l[k]=if k≠self.toNat/\eo m[k] l[k]=true then ⟨m[k].inc,m[k].state,0⟩else l[k]:=by rw[mMg,List.getElem?_eq_getElem hk2]
  by_cases hs:k=self.toNat
  ·rw[show((k:Int) !=(self.toNat:Int))=false by simp[hs]]
   rw[if_neg (by simp[hs])]at hmg
   rw[hmg,hsame]at hse;refine g2_ ?_;refine⟨k+1,aa [(0,.to 0)] ?_,rfl⟩;exact wf_ hse
  ·rw[show((k:Int) !=(self.toNat:Int))=true by simp;omega]
   refine gf_ (c2_ (mE_ hk1) (mE_ hk2)) ?_;refine ce_ (hne m[k] l[k]) (g2_ ?_);cases hnw:eo m[k] l[k]with
   |true=>
    rw[if_pos ⟨hs,hnw⟩]at hmg;rw[hmg]at hse;refine g2_ ?_;refine .inl ⟨[oF 0,oF 1,oF 2,oF 3,oF 7,oF 8,oF 4,oF 9,oF 5,oF 10,oF 6,oF 11,oF 12,oF 13,oF 14],by kernel_rfl,?_⟩
    have hgt:(List.map aE (dI l m self k))[k]? =some (aE l[k]):=by rw[List.getElem?_map,iQ hk1];rfl
    refine gf_ (c3_ (mE_ hk2) hgt @gR) ?_;refine⟨k+1,aa [(0,.to 0)] ?_,rfl⟩;exact y1_ hse
   |false=>
    rw[if_neg (by simp[hnw])]at hmg
    rw[hmg,hsame]at hse;refine g2_ ?_;refine⟨k+1,aa [(0,.to 0)] ?_,rfl⟩;exact wf_ hse
 ·refine g2_ ?_;refine ae ?_ rfl;rw[oV hn];have hlen:(ct l m self).length=l.length:=by simp[ct]
  refine gf_ hlen ?_;rw[List.take_of_length_le (by simp[hlen])]
def lrnK(a b:List an)(r:List (List cO))(k:Nat):List (List cO):=(List.range k).foldl (fun r i=>match a[i]?,b[i]? with
  |some x,some y=>if x.inc<y.inc then bI r (UInt8.ofNat i)else r
  |_,_=>r) r
def bD(p:ah)(t:List an):ah:={ p with table:=ct p.table t p.node,reports:=lrnK p.table (ct p.table t p.node) p.reports p.table.length }
theorem mA{a b:List an}{r:List (List cO)}{k:Nat}(h1:k<a.length)(h2:k<b.length):lrnK a b r (k+1)=if a[k].inc<b[k].inc then bI (lrnK a b r k) (UInt8.ofNat k)else lrnK a b r k:=by grind [lrnK,List.range_succ,List.getElem?_eq_getElem]
theorem jv{r:List (List cO)}{i:UInt8}(h:jc r):jc (bI r i):=by
 refine⟨by simp[bI,h.1],fun x hx=>?_⟩
 rcases List.mem_or_eq_of_mem_set hx with h1|rfl
 ·exact h.2 x h1
 ·rw[cT];have:=h.1;omega
theorem gw{a b:List an}{r:List (List cO)}(h:jc r): ∀k,jc (lrnK a b r k)
 |0=>h
 | k+1=>by
  rw[lrnK,List.range_succ,List.foldl_append];have ih:=gw (a:=a) (b:=b) h k;simp only[List.foldl_cons,List.foldl_nil];split
  ·split
   ·exact jv ih
   ·exact ih
  ·exact ih
theorem qu(p:ah)(t:List an)(hp:okP p)(ht:p.table.length<=256)(htt:t.length<=4000000)(hr:jc p.reports):Con2 Tryz.prog 306 [.agg (ak p),.fz 3 (t.map aE)] (· =plR (.agg (ak (bD p t)))):=by
 refine Con2.ofEmb ?_;have hme:=yV p.table t p.node (by omega) htt
 have hlen:(ct p.table t p.node).length=p.table.length:=by simp[ct]
 unfold bD;generalize ct p.table t p.node=T at hme hlen;refine en_ Tryz.func306 [.cell 4 49] (g2_ ?_);refine gf_ @ao ?_;refine ce_ hme ?_;refine gg_ @ao hlen ?_;rw[show(if (p.table.length:Int)<(p.table.length:Int)then (p.table.length:Int)else (p.table.length:Int))=(p.table.length:Int)by split<;>rfl]
 refine ay p.table.length (fun k=>[]) (fun k=>[(2,⟨ak { p with table:=T,reports:=lrnK p.table T p.reports k },49⟩)]) (fun k=>[]) 0 (fun _=>True) (aa [] ?_) trivial (fun g k=>ws_) (by omega) (fun g=>ws_) (fun k hk _=>?_) (fun _=>?_)
 ·refine gf_ (c4_ @lrnK.eq_1 @List.range_zero @List.foldl_nil.{0,0} @ao) ?_;rfl
 ·have hk2:k<T.length:=by omega
  have hok:=gw (a:=p.table) (b:=T) hr k;have hsu:=mA (r:=p.reports) hk hk2;refine gf_ @ao ?_;refine .inl ⟨[oF 0,oF 2,oF 6,oF 7,oF 1,oF 8,oF 3,oF 9,oF 4,oF 10,oF 5,oF 11],by kernel_rfl,gf_ (c3_ (mE_ hk) (mE_ hk2) @ao) ?_⟩
  have hku:((UInt8.ofNat k).toNat:Int)=k:=by rw[UInt8.toNat_ofNat'];omega
  have hfo:=qy (lrnK p.table T p.reports k) (UInt8.ofNat k) hok;rw[hku]at hfo
  by_cases h:p.table[k].inc<T[k].inc
  ·have h2:(p.table[k].inc.toNat:Int)<(T[k].inc.toNat:Int):=(cZ _ _).2 h;rw[if_pos h]at hsu;rw[decide_eq_true h2];refine gf_ @ao ?_;refine dx (by omega) ?_
   refine gf_ @ao ?_;refine ce_ hfo (gf_ @ao ?_);refine⟨k+1,aa [] ?_,rfl⟩;exact wg_ hsu @ao
  ·have h2: ¬(p.table[k].inc.toNat:Int)<(T[k].inc.toNat:Int):=fun h3=>h ((cZ _ _).1 h3)
   rw[if_neg h]at hsu;rw[decide_eq_false h2];refine gf_ @ao ?_;refine⟨k+1,aa [] ?_,rfl⟩;exact wg_ hsu @ao
 ·refine gf_ @ao ?_;refine ae ?_ rfl;exact wf_ @ao
end Go.Proofs.YthoihfighiolmaaGreat.V
namespace Go.Eng
theorem sH{l:List GDesc}{node:UInt8}{k:Nat}(h:k<l.length):aD (l.take (k+1)) node=aD (l.take k) node++(if l[k].node=node then []else [l[k]]):=by
 rw[List.take_add_one,List.getElem?_eq_getElem h];simp only[aD,List.filter_append,Option.toList_some]
 by_cases e:l[k].node=node<;>simp[e]
theorem ajJ(l:List GDesc)(node:UInt8)(k:Nat):(aD (l.take k) node).length<=k:=Nat.le_trans (fW _ _) (by simp;omega)
def pL(l:List GDesc)(d:GDesc)(i:Nat):List GDesc:=
 if i<=aU l d.node then l.take i else l.take (aU l d.node)++[d]++aD ((l.take i).drop (aU l d.node)) d.node
theorem amB{l:List GDesc}{d:GDesc}{i:Nat}(h:i<aU l d.node)(hi:i<l.length):pL l d (i+1)=pL l d i++[l[i]]:=by
 unfold pL;rw[if_pos (by omega),if_pos (by omega),List.take_add_one,List.getElem?_eq_getElem hi]
 rfl
theorem amu{l:List GDesc}{d:GDesc}(hi:aU l d.node<l.length):pL l d (aU l d.node+1)=pL l d (aU l d.node)++[d]++(if l[aU l d.node].node=d.node then []else [l[aU l d.node]]):=by
 unfold pL;rw[if_neg (by omega),if_pos (Nat.le_refl _),List.take_add_one,List.getElem?_eq_getElem hi,List.drop_append_of_le_length (by rw[List.length_take];omega),List.drop_of_length_le (by rw[List.length_take];omega)]
 by_cases e:l[aU l d.node].node=d.node<;>simp[aD,e]
theorem amW{l:List GDesc}{d:GDesc}{i:Nat}(h:aU l d.node<i)(hi:i<l.length):pL l d (i+1)=pL l d i++(if l[i].node=d.node then []else [l[i]]):=by
 unfold pL;rw[if_neg (by omega),if_neg (by omega),List.take_add_one,List.getElem?_eq_getElem hi,List.drop_append_of_le_length (by simp;omega)]
 by_cases e:l[i].node=d.node<;>simp[aD,e]
theorem alR{l:List GDesc}{d:GDesc}{i:Nat}:(pL l d i).length<=l.length+1:=by
 unfold pL;split
 ·simp;omega
 ·have:=fW ((l.take i).drop (aU l d.node)) d.node;simp at this ⊢; omega
theorem ak3{l:List GDesc}{d:GDesc}(hu:Up bS l):(if l.length<=aU l d.node then pL l d l.length++[d]else pL l d l.length)=l.take (aU l d.node)++[d]++aD (l.drop (aU l d.node)) d.node:=by
 have hp:=pZ l d.node;unfold pL;rw[List.take_of_length_le (Nat.le_refl _)]
 by_cases h:l.length<=aU l d.node
 ·rw[if_pos h,if_pos h,List.take_of_length_le h,List.drop_of_length_le h];simp[aD]
 ·rw[if_neg h,if_neg h]
theorem aiJ{l:List GDesc}{d:GDesc}(hu:Up bS l):l.take (aU l d.node)++[d]++aD (l.drop (aU l d.node)) d.node=(match cd l d.node with|some i=>l.set i d|none=>m9 bS l d):=by
 cases hi:cd l d.node with
 | none=>
  simp only
  have:aD (l.drop (aU l d.node)) d.node=l.drop (aU l d.node):=by
   unfold aD;rw[List.filter_eq_self];intro a ha;simpa using gn hi a (List.mem_of_mem_drop ha)
  rw[this,m9,sB hi]
 | some i=>
  simp only;obtain⟨o,ho,hn⟩:=dS hi;obtain⟨hil,rfl⟩:=List.getElem?_eq_some_iff.1 ho;rw[fC hu hi,List.drop_eq_getElem_cons hil]
  have:aD (l[i]::l.drop (i+1)) d.node=l.drop (i+1):=by
   unfold aD;rw[List.filter_cons_of_neg (by simpa using hn),List.filter_eq_self]
   intro a ha;obtain⟨j,hj,rfl⟩:=List.getElem_of_mem ha;rw[List.getElem_drop];have hj2:i+1+j<l.length:=by simp at hj;omega
   have:=List.pairwise_iff_getElem.1 hu i (i+1+j) hil hj2 (by omega)
   simp only[Bool.not_eq_true',decide_eq_false_iff_not];intro e;rw[<-hn]at e;unfold bS at this;rw[e]at this;omega
  rw[this,List.set_eq_take_append_cons_drop,if_pos hil];simp
theorem alG{l:List GDesc}{d:GDesc}{self:UInt8}{room:Int}(h:(bH l d self room).2=false):(bH l d self room).1=l:=by
 unfold bH at h ⊢;split
 ·rfl
 ·rename_i h1;rw[if_neg h1]at h;cases hi:cd l d.node with
  | some i=>
   simp only[hi]at h ⊢;cases ho:l[i]? with
   |none=>rfl
   |some o=>
    simp only[ho]at h ⊢;split at h
    ·cases h
    ·rename_i h2;rw[if_neg h2]
  |none=>
   simp only[hi]at h ⊢;split at h
   ·rename_i h2;rw[if_pos h2]
   ·cases h
theorem aiz{l:List GDesc}{d:GDesc}{self:UInt8}{room:Int}(h:(bH l d self room).2=true):(bH l d self room).1=(match cd l d.node with|some i=>l.set i d|none=>m9 bS l d):=by
 unfold bH at h ⊢;split
 ·rename_i h1;rw[if_pos h1]at h;cases h
 ·rename_i h1;rw[if_neg h1]at h;cases hi:cd l d.node with
  | some i=>
   simp only[hi]at h ⊢;cases ho:l[i]? with
   |none=>rw[ho]at h;cases h
   |some o=>
    simp only[ho]at h ⊢;split at h
    ·rename_i h2;rw[if_pos h2]
    ·cases h
  |none=>
   simp only[hi]at h ⊢;split at h
   ·cases h
   ·rename_i h2;rw[if_neg h2]
end Go.Eng
namespace Go.Proofs.YthoihfighiolmaaGreat.V
open Go.Eng
attribute [local go_sem] aP af fzD plR bb adJ
theorem uf(l:List GDesc)(node:UInt8)(hn:l.length<=9223372036854775807):Con2 Tryz.prog 229 [fzD l,.v (.int .u8 node.toNat)] (· =plR (.v (.int .i64 (fb l node)))):=by
 refine en_ Tryz.func229 [.tmp 4] (g2_ ?_);refine av (γ:=Nat) (fun i=>[(5,.d (.v (.int .i64 (i:Nat))))]) (fun _=>[]) (fun _=>[]) 0 (fun i=>i<=l.length/\ ∀j y,j<i->l[j]? =some y->y.node≠node) (fun i=>l.length-i) 0 (aa [] ?_) ⟨by omega,fun j y h=>by omega⟩ (fun i hi=>?_)
 ·refine g2_ ?_
  repeat' (first|rfl|refine And.intro ?_ ?_)
 ·obtain⟨hi,hF⟩:=hi;refine g2_ ?_;refine aq (fun h=>?_) (fun h=>?_)
  ·have hk:i<l.length:=by omega
   refine gf_ (mE_ hk) ?_;rw[bt]
   by_cases h1:l[i].node=node
   ·rw[decide_eq_true h1];refine g2_ ?_
    have e:fb l node=i:=by
     have:cd l node=some i:=by
      unfold cd;rw[List.findIdx?_eq_some_iff_getElem];exact⟨hk,by simpa using h1,fun j hj=>by simpa using hF j _ hj (List.getElem?_eq_getElem (by omega))⟩
     unfold fb;rw[this]
    exact⟨_,rfl,aa [] (wf_ e)⟩
   ·rw[decide_eq_false h1];refine g2_ ?_;refine⟨i+1,aa [] (by simp-implicitDefEqProofs only[go_sem,ab];rfl),⟨by omega,fun j y hj hy=>?_⟩,by omega⟩
    by_cases hji:j=i
    ·subst hji;obtain rfl:=Option.some.inj ((List.getElem?_eq_getElem hk).symm.trans hy);exact h1
    ·exact hF j y (by omega) hy
  ·refine g2_ ?_
   have e:fb l node= -1:=by
    have:cd l node=none:=by
     unfold cd;rw[List.findIdx?_eq_none_iff];intro x hx;obtain⟨j,hj,rfl⟩:=List.getElem_of_mem hx;simpa using hF j _ (by omega) (List.getElem?_eq_getElem hj)
    unfold fb;rw[this]
   exact⟨_,rfl,aa [] (wf_ e)⟩
theorem al_(l:List GDesc)(node:UInt8)(hl:aR l):Con2 Tryz.prog 128 [fzD l,.v (.int .u8 node.toNat)] (· =bb 34 4 ((aD l node).map af)):=by
 have hb:=hl.1;refine en_ Tryz.func128 [.tmp 4] (g2_ ?_);refine av (γ:=Nat) (fun i=>[(6,.d (.v (.int .i64 (i:Nat)))),(5,.d (.rf 0 0 (aD (l.take i) node).length))]) (fun _=>[]) (fun i=>[(0,.arr 34 4 ((aD (l.take i) node).map af) false)]) 1 (fun i=>i<=l.length) (fun i=>l.length-i) 0 (aa [(0,.nil 4)] ?_) (by omega) (fun i hi=>?_)
 ·repeat first|simp-implicitDefEqProofs only[go_sem,ab,List.take_zero,aD,List.filter_nil]|with_reducible refine gl_ ?_
  repeat' (first|rfl|refine And.intro ?_ ?_)
 ·have hdl:=ajJ l node i;refine g2_ ?_;refine aq (fun h=>?_) (fun h=>?_)
  ·have hk:i<l.length:=by omega
   refine gf_ (mE_ hk) ?_;rw[ql]
   by_cases h1:l[i].node=node
   ·rw[decide_eq_true h1];refine g2_ ?_;refine⟨i+1,aa [] ?_,by omega,by omega⟩
    repeat first|simp-implicitDefEqProofs only[go_sem,ab,sH hk,h1,if_true,List.append_nil]|with_reducible refine gl_ ?_
    rfl
   ·rw[decide_eq_false h1];refine gf_ (mE_ hk) ?_;refine⟨i+1,aa [(0,.to 2)] ?_,by omega,by omega⟩
    repeat first|simp-implicitDefEqProofs only[go_sem,ab,sH hk,h1,if_false,List.length_append]|with_reducible refine gl_ ?_
    exact⟨rfl,by simp[af]⟩
  ·have he:l.take i=l:=List.take_of_length_le (by omega)
   refine g2_ ?_;exact⟨_,rfl,aa [] (wf_ he)⟩
theorem ajn(l:List GDesc)(hl:aR l):Con2 Tryz.prog 124 [fzD l] (· =bb 34 4 ((bf l).map af)):=by
 have hb:=hl.1;refine en_ Tryz.func124 [.tmp 2] (g2_ ?_);refine av (γ:=Nat) (fun i=>[(4,.d (.v (.int .i64 (i:Nat)))),(3,.d (.rf 0 0 i))]) (fun _=>[]) (fun i=>[(0,.arr 34 4 ((bf (l.take i)).map af) false)]) 1 (fun i=>i<=l.length) (fun i=>l.length-i) 0 (aa [(0,.nil 4)] ?_) (by omega) (fun i hi=>?_)
 ·repeat first|simp-implicitDefEqProofs only[go_sem,ab,List.take_zero,bf,List.map_nil]|with_reducible refine gl_ ?_
  repeat' (first|rfl|refine And.intro ?_ ?_)
 ·have hlen:(bf (l.take i)).length=i:=by simp[bf];omega
  have hsn: ∀hk:i<l.length,(bf (l.take (i+1))).map af=(bf (l.take i)).map af++[af l[i].older]:=fun hk=>by
   rw[List.take_add_one,List.getElem?_eq_getElem hk,bf,List.map_append,List.map_append];rfl
  refine g2_ ?_;refine aq (fun h=>?_) (fun h=>?_)
  ·have hk:i<l.length:=by omega
   refine gf_ (mE_ hk) ?_
   by_cases h1:(l[i].age.toNat:Int)=255
   ·rw[show((l[i].age.toNat:Int) !=255)=false from by simp[h1]]
    refine gf_ hlen ?_;refine⟨i+1,aa [(0,.to 2)] ?_,by omega,by omega⟩
    refine g2_ ?_;exact⟨rfl,by rw[hsn hk,pS (by omega)];rfl⟩
   ·have hab:=l[i].age.toNat_lt;rw[show((l[i].age.toNat:Int) !=255)=true from by simpa using h1]
    refine g2_ ?_;refine dx (by omega) ?_
    refine gf_ hlen ?_;refine⟨i+1,aa [(0,.to 2)] ?_,by omega,by omega⟩
    refine g2_ ?_;exact⟨rfl,by rw[hsn hk,mo (by omega)]⟩
  ·have he:l.take i=l:=List.take_of_length_le (by omega)
   rw[he]at hlen;refine g2_ ?_;exact⟨_,rfl,aa [] (wg_ he hlen)⟩
theorem v_(l:List GDesc)(hn:l.length<=9223372036854775807):Con2 Tryz.prog 222 [fzD l] (· =plR (.v (.int .i64 (eb l)))):=by
 refine en_ Tryz.func222 [.tmp 2] (g2_ ?_);refine av (γ:=Nat) (fun a=>[(3,.d (.v (.int .i64 ((a:Nat)-1:Int)))),(4,.unk)]) (fun _=>[]) (fun _=>[]) 0 (fun a=>a<=256/\ ∀x∈l,x.age.toNat<a) (fun a=>a) 256 (aa [] ?_) ⟨by omega,fun x _=>x.age.toNat_lt⟩ (fun a ha=>?_)
 ·refine g2_ ?_
  repeat' (first|rfl|refine And.intro ?_ ?_)
 ·obtain⟨ha,hF⟩:=ha;refine g2_ ?_;refine aq (fun h=>?_) (fun h=>?_)
  ·refine g2_ ?_;refine av (γ:=Nat) (fun i=>[(4,.d (.v (.int .i64 (i:Nat))))]) (fun _=>[]) (fun _=>[]) 0 (fun i=>i<=l.length/\ ∀j y,j<i->l[j]? =some y->y.age.toNat+1<a) (fun i=>l.length-i) 0 (aa [] ?_) ⟨by omega,fun j y h=>by omega⟩ (fun i hi=>?_)
   ·refine g2_ ?_
    repeat' (first|rfl|refine And.intro ?_ ?_)
   ·obtain⟨hi,hG⟩:=hi;refine g2_ ?_;refine aq (fun h2=>?_) (fun h2=>?_)
    ·have hk:i<l.length:=by omega
     have hab:=l[i].age.toNat_lt;have hla:=hF _ (List.getElem_mem hk);refine gf_ (mE_ hk) ?_;refine fO (fun h3=>?_) (fun h3=>?_)
     ·refine g2_ ?_
      have e:eb l=i:=by
       unfold eb;rw[ahy (List.getElem?_eq_getElem hk) (fun e he=>?_) (fun j y hj hy=>?_)]
       ·have:=hF e he;rw[UInt8.le_iff_toNat_le];omega
       ·have:=hG j y hj hy;rw[UInt8.lt_iff_toNat_lt];omega
      exact⟨_,rfl,aa [] (wf_ e)⟩
     ·refine g2_ ?_;refine⟨i+1,aa [] (by simp-implicitDefEqProofs only[go_sem,ab];rfl),⟨by omega,fun j y hj hy=>?_⟩,by omega⟩
      by_cases hji:j=i
      ·subst hji;obtain rfl:=Option.some.inj ((List.getElem?_eq_getElem hk).symm.trans hy);omega
      ·exact hG j y (by omega) hy
    ·refine g2_ ?_;refine⟨a-1,aa [] ?_,⟨by omega,fun x hx=>?_⟩,by omega⟩
     ·refine g2_ ?_;rw[show((a-1:Nat):Int)=(a:Int)-1 by omega]
     ·obtain⟨j,hj,rfl⟩:=List.getElem_of_mem hx;have:=hG j _ (by omega) (List.getElem?_eq_getElem hj)
      omega
  ·refine g2_ ?_
   have e:eb l= -1:=by
    have:l=[]:=by
     cases l with
     |nil=>rfl
     |cons x r=>have:=hF x List.mem_cons_self;omega
    subst this;rfl
   exact⟨_,rfl,aa [] (wf_ e)⟩
theorem amQ(l:List GDesc)(hu:Up bS l)(d:GDesc)(self:UInt8)(room:Int)(hl:aR l)(hd:d.filter.length<=4000000):Con2 Tryz.prog 228 [fzD l,.agg (af d),.v (.int .u8 self.toNat),.v (.int .i64 room)] (· =adJ 34 (bH l d self room)):=by
 have hb:=hl.1;refine en_ Tryz.func228 [.tmp 8,.tmp 9] ?_;refine g2_ ?_;refine ce_ (uf l d.node (by omega)) ?_
 refine g2_ ?_;refine akV (.fl 0 (.fl 2 (.fl 1 (.fl 3 (.fl 4 (.fl 5 (.fl 6 (.fl 7 (.fl 8 (.fl 9 (.fl 10 (.fl 11 (.fl 12 (.fl 13 (.fl 14 (.fl 15 (.fl 16 (.fl 17 (.eff 18 false (.fl 19 (.fl 20 (.fl 21 (.fl 22 (.fl 23 (.fl 24 (.fl 25 (.fl 26 (.fl 28 (.fl 27 (.fl 29 (.fl 30 (.fl 31 .done))))))))))))) .no))))))))))))))))))) [(50,.d (.v (.bool (!(bH l d self room).2))))] ?_ ?_
 ·refine g2_ ?_;rw[bt]
  by_cases h1:d.node=self
  ·rw[decide_eq_true h1];have hB:(bH l d self room).2=false:=by rw[bH,if_pos (.inl h1)]
   refine g2_ ?_;exact aa [] (wf_ hB)
  rw[decide_eq_false h1];refine g2_ ?_;rw[ga]
  by_cases h2:d.inc=0
  ·rw[decide_eq_true h2];have hB:(bH l d self room).2=false:=by rw[bH,if_pos (.inr h2)]
   refine g2_ ?_;exact aa [] (wf_ hB)
  rw[decide_eq_false h2];have hP:bH l d self room=(match cd l d.node with|some i=>(match l[i]? with|some o=>if cK d o=true then (l.set i d,true)else (l,false)|none=>(l,false))|none=>if room<=(l.length:Int)then (l,false)else (m9 bS l d,true)):=by rw[bH,if_neg (not_or.2 ⟨h1,h2⟩)];rfl
  cases hi:cd l d.node with
  | some i=>
   have hfi:fb l d.node=(i:Int):=by unfold fb;rw[hi]
   obtain⟨o,ho,_⟩:=dS hi;obtain⟨hil,rfl⟩:=List.getElem?_eq_some_iff.1 ho;rw[hi]at hP;simp only[ho]at hP;have e0:decide ((0:Int)<=(i:Int))=true:=by simp
   have e1:decide ((i:Int)<0)=false:=by simp
   refine gg_ hfi e0 ?_;refine gf_ (mE_ hil) ?_;refine ce_ (lv d l[i]) ?_;cases hnw:cK d l[i]with
   |false=>
    have hB:(bH l d self room).2=false:=by rw[hP,hnw];rfl
    refine g2_ ?_;exact aa [] (wf_ hB)
   |true=>
    have hB:(bH l d self room).2=true:=by rw[hP,hnw];rfl
    refine gf_ e1 ?_;exact aa [] (wf_ hB)
  | none=>
   have hfi:fb l d.node= -1:=by unfold fb;rw[hi]
   rw[hi]at hP;simp only at hP;have e0:decide ((0:Int)<= -1)=false:=rfl;have e1:decide ((-1:Int)<0)=true:=rfl;refine gh_ hfi e0 e1 ?_
   by_cases h3:room<=(l.length:Int)
   ·rw[if_pos h3]at hP;have e3:decide (room<=(l.length:Int))=true:=decide_eq_true h3;have hB:(bH l d self room).2=false:=by rw[hP]
    exact aa [] (wg_ hB e3)
   ·rw[if_neg h3]at hP;have e3:decide (room<=(l.length:Int))=false:=decide_eq_false h3;have hB:(bH l d self room).2=true:=by rw[hP]
    exact aa [] (wg_ hB e3)
 ·cases hB:(bH l d self room).2 with
  |false=>
   have hP:=alG hB;refine gx_ ?_;refine⟨_,rfl,aa [] ?_⟩;exact wg_ hP hB
  | true=>
   have hP:=aiz hB;have hend:=(ak3 (d:=d) hu).trans ((aiJ hu).trans hP.symm);refine g2_ ?_;refine av (γ:=Nat) (fun i=>[(14,.d (.v (.int .i64 (i:Nat)))),(13,.d (.v (.bool (decide (aU l d.node<i))))),(12,.d (.rf 0 0 (pL l d i).length))]) (fun _=>[]) (fun i=>[(0,.arr 34 4 ((pL l d i).map af) false)]) 1 (fun i=>i<=l.length) (fun i=>l.length-i) 0 (aa [(0,.nil 4)] ?_) (by omega) (fun i hi=>?_)
   ·have e0:pL l d 0=[]:=by unfold pL;rw[if_pos (Nat.zero_le _)];rfl
    refine gf_ (c3_ e0 @Nat.not_lt_zero decide_false) ?_
    repeat' (first|rfl|refine And.intro ?_ ?_)
   ·have hpl:(pL l d i).length<=l.length+1:=alR;refine g2_ ?_;refine aq (fun h=>?_) (fun h=>?_)
    ·have hk:i<l.length:=by omega
     have hx:l[i]? =some l[i]:=List.getElem?_eq_getElem hk;have hiff:=jN (node:=d.node) hu hx;rw[UInt8.le_iff_toNat_le]at hiff;refine g2_ ?_;refine .inl ⟨[oF 0,oF 1,oF 2,oF 3,oF 4,oF 8,oF 5,oF 9,oF 6,oF 7,oF 10,oF 11],by kernel_rfl,?_⟩
     rcases Nat.lt_trichotomy i (aU l d.node)with hip|hip|hip
     ·have e1:decide (aU l d.node<i)=false:=decide_eq_false (by omega)
      have e2:decide ((d.node.toNat:Int)<=(l[i].node.toNat:Int))=false:=decide_eq_false (by omega)
      have e3:((l[i].node.toNat:Int) !=(d.node.toNat:Int))=true:=by simp;omega
      refine gf_ (c2_ e1 (mE_ hk)) ?_;rw[e2];refine g2_ ?_;refine .inl ⟨[oF 0,oF 1,oF 5,oF 2,oF 6,oF 3,oF 4,oF 7],by kernel_rfl,gf_ (mE_ hk) ?_⟩
      rw[e3];refine gf_ (mE_ hk) ?_;refine⟨i+1,aa [(0,.to 2)] ?_,by omega,by omega⟩
      have e4:decide (aU l d.node<i+1)=false:=decide_eq_false (by omega)
      repeat first|simp-implicitDefEqProofs only[go_sem,ab,amB hip hk,List.length_append,e4]|with_reducible refine gl_ ?_
      exact⟨rfl,by simp[af]⟩
     ·have e1:decide (aU l d.node<i)=false:=decide_eq_false (by omega)
      have e2:decide ((d.node.toNat:Int)<=(l[i].node.toNat:Int))=true:=decide_eq_true (by omega)
      have e4:decide (aU l d.node<i+1)=true:=decide_eq_true (by omega)
      have hpe:pL l d (i+1)=pL l d i++[d]++(if l[i].node=d.node then []else [l[i]]):=by subst hip;exact amu hk
      refine gf_ (c2_ e1 (mE_ hk)) ?_;rw[e2];refine gx_ ?_;refine .inl ⟨[oF 0,oF 1,oF 5,oF 2,oF 6,oF 3,oF 4,oF 7],by kernel_rfl,gf_ (mE_ hk) ?_⟩
      by_cases h5:l[i].node=d.node
      ·have e3:((l[i].node.toNat:Int) !=(d.node.toNat:Int))=false:=by simp[h5]
       have hpe':=hpe;rw[if_pos h5,List.append_nil]at hpe';rw[e3];refine g2_ ?_;refine⟨i+1,aa [(0,.to 2)] ?_,by omega,by omega⟩
       repeat first|simp-implicitDefEqProofs only[go_sem,ab,hpe',List.length_append,e4]|with_reducible refine gl_ ?_
       exact⟨rfl,by simp[af]⟩
      ·have e3:((l[i].node.toNat:Int) !=(d.node.toNat:Int))=true:=by
        simp;intro e;exact h5 (UInt8.toNat_inj.1 (by exact_mod_cast e))
       have hpe':=hpe;rw[if_neg h5]at hpe';rw[e3];refine x1_ (mE_ hk) ?_;refine⟨i+1,aa [(0,.to 4)] ?_,by omega,by omega⟩
       repeat first|simp-implicitDefEqProofs only[go_sem,ab,hpe',List.length_append,e4]|with_reducible refine gl_ ?_
       exact⟨rfl,by simp[af]⟩
     ·have e1:decide (aU l d.node<i)=true:=decide_eq_true (by omega)
      have e4:decide (aU l d.node<i+1)=true:=decide_eq_true (by omega)
      have hpe:=amW (d:=d) hip hk;refine gf_ e1 ?_;refine .inl ⟨[oF 0,oF 1,oF 5,oF 2,oF 6,oF 3,oF 4,oF 7],by kernel_rfl,gf_ (mE_ hk) ?_⟩
      by_cases h5:l[i].node=d.node
      ·have e3:((l[i].node.toNat:Int) !=(d.node.toNat:Int))=false:=by simp[h5]
       have hpe':=hpe;rw[if_pos h5,List.append_nil]at hpe';rw[e3];refine g2_ ?_;refine⟨i+1,aa [] ?_,by omega,by omega⟩
       repeat first|simp-implicitDefEqProofs only[go_sem,ab,hpe',List.length_append,e4]|with_reducible refine gl_ ?_
       rfl
      ·have e3:((l[i].node.toNat:Int) !=(d.node.toNat:Int))=true:=by
        simp;intro e;exact h5 (UInt8.toNat_inj.1 (by exact_mod_cast e))
       have hpe':=hpe;rw[if_neg h5]at hpe';rw[e3];refine x1_ (mE_ hk) ?_;refine⟨i+1,aa [(0,.to 2)] ?_,by omega,by omega⟩
       repeat first|simp-implicitDefEqProofs only[go_sem,ab,hpe',List.length_append,e4]|with_reducible refine gl_ ?_
       exact⟨rfl,by simp[af]⟩
    ·have he:i=l.length:=by omega
     subst he
     by_cases hp:l.length<=aU l d.node
     ·have e1:decide (aU l d.node<l.length)=false:=decide_eq_false (by omega)
      rw[if_pos hp]at hend;refine gf_ e1 ?_;refine⟨_,rfl,aa [(0,.to 2)] ?_⟩
      repeat first|simp-implicitDefEqProofs only[go_sem,ab, <-hend,hB,List.length_append]|with_reducible refine gl_ ?_
      simp[af]
     ·have e1:decide (aU l d.node<l.length)=true:=decide_eq_true (by omega)
      rw[if_neg hp]at hend;refine gf_ e1 ?_;exact⟨_,rfl,aa [] (by simp-implicitDefEqProofs only[go_sem,ab, <-hend,hB])⟩
theorem oE(l:List GDesc)(hu:Up bS l)(d:GDesc)(self:UInt8)(room:Int)(hl:aR l)(hd:d.filter.length<=4000000):Con2 Tryz.prog 228 [fzD l,.agg (af d),.v (.int .u8 self.toNat),.v (.int .i64 room)] (· =plR (.tup [fzD (bH l d self room).1,.v (.bool (bH l d self room).2)])):=by
 have k:=amQ l hu d self room hl hd;unfold adJ at k;generalize bH l d self room=x at k;refine k.emb ?_ rfl;simp[embD,embDs,embC,lk,rfD,fzD,List.take_of_length_le]
theorem lJ(l:List GDesc)(node:UInt8)(hl:aR l):Con2 Tryz.prog 128 [fzD l,.v (.int .u8 node.toNat)] (· =plR (fzD (aD l node))):=ep (al_ l node hl)
theorem vE(l:List GDesc)(hl:aR l):Con2 Tryz.prog 124 [fzD l] (· =plR (fzD (bf l))):=ep (ajn l hl)
