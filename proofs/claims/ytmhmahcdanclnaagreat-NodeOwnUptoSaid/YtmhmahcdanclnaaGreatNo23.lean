import Derived.Test.YtmhmahcdanclnaaGreatNo21
import Derived.Test.YtmhmahcdanclnaaGreatNo22
set_option linter.unusedSectionVars false
set_option linter.unusedSimpArgs false
set_option linter.unusedVariables false
set_option maxRecDepth 10000
namespace Go.Eng
structure okP(p:af):Prop where
 filter:p.filter.length<=4000000
 view:cg p.view
 near:cg p.near
 succ:p.ring.succ.filter.length<=4000000
 pred:p.ring.pred.filter.length<=4000000
 sent:cg p.wait.sent
 table:p.table.length<=4000000
 heard:p.heard.length<=4000000
 rows:p.rows.length<=4000000
 reports:p.reports.length<=4000000/\ ∀l∈p.reports,l.length<=4000000
 evs:p.buf.evs.length<=4000000/\ ∀e∈p.buf.evs,e.vals.length<=4000000/\e.data.length<=4000000
 pulls:p.pulls.length<=4000000
structure aK where
 kind:UInt8
 frm:UInt8
 inc:UInt16
 to:UInt8
 list:List GDesc
 table:List au
 ev:GEvt
 hops:UInt8
 origin:GMark
 marks:List GMark
 ids:List GID
deriving DecidableEq
def aN(x:GID):List DV:=[.v (.int .u8 x.node.toNat),.v (.int .u16 x.inc.toNat),.v (.int .u32 x.seq.toNat)]
def encMg(m:aK):List DV:=[.v (.int .u8 m.kind.toNat),.v (.int .u8 m.frm.toNat),.v (.int .u16 m.inc.toNat),.v (.int .u8 m.to.toNat),fzD m.list,.fz 3 (m.table.map aR),
 .v (.int .u8 m.ev.id.node.toNat),.v (.int .u16 m.ev.id.inc.toNat),.v (.int .u32 m.ev.id.seq.toNat),.fz 1 (m.ev.vals.map b_),.fz 1 (m.ev.data.map aA),.v (.int .u8 m.hops.toNat),
 .v (.int .u8 m.origin.node.toNat),.v (.int .u16 m.origin.inc.toNat),.v (.int .u32 m.origin.seq.toNat),.fz 3 (m.marks.map aL),.fz 3 (m.ids.map aN)]
def zEvt:GEvt:=⟨⟨0,0,0⟩,[],[]⟩
def pSelf(p:af):GDesc:=⟨p.node,p.inc,0,p.filter⟩
def pMsg(p:af)(kind to:UInt8):aK:=⟨kind,p.node,p.inc,to,[],[],zEvt,0,⟨0,0,0⟩,[],[]⟩
end Go.Eng
namespace Go.Proofs.YtmhmahcdanclnaaGreat.V
open Go.Eng
attribute [local go_sem] aS ah fzD plR ba aL aR aC aE ak az aU z8 z16 z32 z64 List.set_cons_succ List.set_cons_zero
theorem bh(l:List GDesc)(hl:cg l):Con2 Tryz.prog 142 [fzD l] (· =plR (fzD l)):=iV (ib l hl)
theorem jL(e:GEvt)(h1:e.vals.length<=4000000)(h2:e.data.length<=4000000):Con2 Tryz.prog 87 [.agg (az e)] (· =plR (.agg (az e))):=by
 refine Con2.ofEmb ?_;refine en_ Tryz.func87 [.cell 2 56] (g2_ ?_);refine g2_ ?_;refine ae ?_ rfl;exact ws_
theorem rh(w:Nat)(R:List (List DV))(p:af)(hp:okP p):Con2 Tryz.prog 81 [.agg ((ak p).set 24 (.fz w R))] (· =plR (.agg (ah (pSelf p)))):=by
 refine Con2.ofEmb ?_;have hf:=hp.filter;refine en_ Tryz.func81 [.cell 2 34] (g2_ ?_);refine g2_ ?_;refine .inl ⟨[oF 0,oF 2,oF 4,oF 1,oF 3,oF 5,oT 6,oF 7,oF 8],by kernel_rfl,g2_ ?_⟩
 refine ce_ (jg p.filter (by omega)) (g2_ ?_)
 refine ae ?_ rfl;exact wf_ @pSelf.eq_1
theorem ji(p:af)(hp:okP p):Con2 Tryz.prog 81 [.agg (ak p)] (· =plR (.agg (ah (pSelf p)))):=rh 3 (p.rows.map aC) p hp
theorem gp(p:af)(kind to:UInt8):Con2 Tryz.prog 80 [.agg (ak p),.v (.int .u8 kind.toNat),.v (.int .u8 to.toNat)] (· =plR (.agg (encMg (pMsg p kind to)))):=by
 refine Con2.ofEmb ?_;refine en_ Tryz.func80 [.cell 6 60] (g2_ ?_);refine g2_ ?_;refine ae ?_ rfl;exact wf_ (c3_ @encMg.eq_1 @pMsg.eq_1 @zEvt.eq_1)
theorem zo{P:Program}{f:FuncId}{args:List DV}{Q Q':Res->Prop}(h:Con2 P f args Q)(k: ∀r,Q r->Q' r):Con2 P f args Q':=fun u vs hv=>
 ⟨(h u vs hv).1,fun w hu=>((h u vs hv).2 w hu).mono fun e w ⟨r,u',h1,h2,h3,r2,hq,hr⟩=>⟨r,u',h1,h2,h3,r2,k _ hq,hr⟩⟩
theorem tM(p:af)(hp:okP p):Con2 Tryz.prog 77 [.agg (ak p)] (fun r=>ali 57 3 (p.heard.map aL) ((ak p).set 22 (.rf 0 0 p.heard.length)) r/\ali 84 3 (p.rows.map aC) ((ak p).set 24 (.rf 0 0 p.rows.length)) r):=by
 have hfi:=hp.filter;have hsu:=hp.succ;have hpr:=hp.pred;have htb:=hp.table;have hhe:=hp.heard;have hrw:=hp.rows;have hpu:=hp.pulls;obtain⟨hre,hre2⟩:=hp.reports;obtain⟨hev,hev2⟩:=hp.evs;refine en_ Tryz.func77 [.cell 2 49] (g2_ ?_);refine g2_ ?_;refine ce_ (jg p.filter (by omega)) ?_
 refine g2_ ?_;refine ce_ (bh p.view hp.view) (g2_ ?_);refine ce_ (bh p.near hp.near) (g2_ ?_);refine ce_ (jg p.ring.succ.filter (by omega)) (g2_ ?_)
 refine ce_ (jg p.ring.pred.filter (by omega)) (g2_ ?_)
 refine ce_ (bh p.wait.sent hp.sent) (g2_ ?_);refine ce_ (ec (p.table.map aR) (by rw[List.length_map];omega)) (g2_ ?_)
 refine ce_ (kF (p.heard.map aL) (by rw[List.length_map];omega)) (g2_ ?_)
 refine ce_ (xF (p.rows.map aC) (by rw[List.length_map];omega)) (g2_ ?_)
 generalize hL:(p.reports.map fun l=>[DV.fz 3 (l.map aL)])=L
 have hLl:L.length=p.reports.length:=by subst hL;rw[List.length_map]
 refine aq p.reports.length (fun k=>[]) (fun _=>[]) (fun k=>[(2,.arr 40 1 (dH [.v (.slice none 0 0)] L k) false),(1,.arr 84 3 (p.rows.map aC) false),(0,.arr 57 3 (p.heard.map aL) false)]) 3 (fun _=>True) (aa [] ?_) trivial (fun g k=>ws_) (by omega) (fun g=>ws_) (fun k hk _=>?_) (fun _=>?_)
 ·refine gf_ (c2_ @ox hLl) ?_
  first|rfl|exact⟨rfl,rfl⟩
 ·have hk2:k<L.length:=by omega
  have hge:L[k]? =some [DV.fz 3 (p.reports[k].map aL)]:=by subst hL;rw[List.getElem?_map,List.getElem?_eq_getElem hk];rfl
  have hge2:L[k]=[DV.fz 3 (p.reports[k].map aL)]:=by rw[List.getElem?_eq_getElem hk2]at hge;exact Option.some.inj hge
  repeat first|simp-implicitDefEqProofs only[go_sem,ab,hge,cT hk2,cE (Nat.le_of_lt hk2),List.contains_nil]|with_reducible first|refine gl_ ?_|refine ga_ ?_|refine gn_ ?_
  refine ce_ (ic (p.reports[k].map aL) (by rw[List.length_map];have:=hre2 _ (List.getElem_mem hk);omega)) ?_
  repeat first|simp-implicitDefEqProofs only[go_sem,ab,cT hk2,cE (Nat.le_of_lt hk2),List.contains_nil]|with_reducible first|refine gl_ ?_|refine ga_ ?_|refine gn_ ?_
  refine⟨k+1,aa [] ?_,rfl⟩;refine g2_ ?_;rw[<-js hk2,hge2]
 ·rw[<-hLl];refine u3_ @jw ?_;generalize hE:p.buf.evs.map az=M;have hMl:M.length=p.buf.evs.length:=by subst hE;rw[List.length_map]
  refine aq p.buf.evs.length (fun k=>[]) (fun _=>[]) (fun k=>[(3,.arr 56 5 (dH [.v (.int .u8 0),.v (.int .u16 0),.v (.int .u32 0),.v (.slice none 0 0),.v (.slice none 0 0)] M k) false),(2,.arr 40 1 L false),(1,.arr 84 3 (p.rows.map aC) false),(0,.arr 57 3 (p.heard.map aL) false)]) 4 (fun _=>True) (aa [] ?_) trivial (fun g k=>ws_) (by omega) (fun g=>ws_) (fun k hk _=>?_) (fun _=>?_)
  ·refine u1_ (c2_ @ox hMl) ?_
   first|rfl|exact⟨rfl,rfl⟩
  ·have hk2:k<M.length:=by omega
   have hge:M[k]? =some (az p.buf.evs[k]):=by subst hE;rw[List.getElem?_map,List.getElem?_eq_getElem hk];rfl
   have hge2:M[k]=az p.buf.evs[k]:=by rw[List.getElem?_eq_getElem hk2]at hge;exact Option.some.inj hge
   repeat first|simp-implicitDefEqProofs only[go_sem,ab,hge,cT hk2,cE (Nat.le_of_lt hk2),List.contains_nil]|with_reducible first|refine gl_ ?_|refine ga_ ?_|refine gn_ ?_
   refine ce_ (jL p.buf.evs[k] (hev2 _ (List.getElem_mem hk)).1 (hev2 _ (List.getElem_mem hk)).2) ?_
   repeat first|simp-implicitDefEqProofs only[go_sem,ab,cT hk2,cE (Nat.le_of_lt hk2),List.contains_nil]|with_reducible first|refine gl_ ?_|refine ga_ ?_|refine gn_ ?_
   refine⟨k+1,aa [] ?_,rfl⟩;refine g2_ ?_;rw[<-js hk2,hge2];rfl
  ·rw[<-hMl];refine u3_ @jw ?_;refine ce_ (adu (p.pulls.map aU) (by rw[List.length_map];omega)) (g2_ ?_)
   subst hL hE;refine⟨⟨_,_,_⟩,⟨⟨0,_,rfl,?_,?_⟩,1,_,rfl,?_,?_⟩,gy _⟩
   ·exact ws_
   ·repeat first|simp-implicitDefEqProofs only[go_sem,ab,List.take_of_length_le (Nat.le_refl _),List.set_cons_succ,List.set_cons_zero]|with_reducible refine gl_ ?_
   ·exact ws_
   ·repeat first|simp-implicitDefEqProofs only[go_sem,ab,List.take_of_length_le (Nat.le_refl _),List.set_cons_succ,List.set_cons_zero]|with_reducible refine gl_ ?_
theorem pW(p:af)(hp:okP p):Con2 Tryz.prog 77 [.agg (ak p)] (· =⟨.agg ((ak p).set 22 (.rf 0 0 p.heard.length)),[(0,.arr 57 3 (p.heard.map aL) false)],1⟩):=Con2.keep (zo (tM p hp) fun r h=>h.1)
theorem qe(p:af)(hp:okP p):Con2 Tryz.prog 77 [.agg (ak p)] (· =⟨.agg ((ak p).set 24 (.rf 0 0 p.rows.length)),[(0,.arr 84 3 (p.rows.map aC) false)],1⟩):=Con2.keep (zo (tM p hp) fun r h=>h.2)
theorem bp(p:af)(hp:okP p):Con2 Tryz.prog 77 [.agg (ak p)] (· =plR (.agg (ak p))):=(pW p hp).emb (by
 repeat first|simp-implicitDefEqProofs only[go_sem,ab,List.take_of_length_le (Nat.le_refl _),List.set_cons_succ,List.set_cons_zero]|with_reducible refine gl_ ?_) (by
 repeat first|simp-implicitDefEqProofs only[go_sem,ab,List.take_of_length_le (Nat.le_refl _),List.set_cons_succ,List.set_cons_zero]|with_reducible refine gl_ ?_)
theorem q1_{p a:Prop}(k:a)(e:a->p:=by intro k;refine .inl ⟨[oF 0,oF 1,oF 2,oF 3,oF 4,oF 5,oF 6,oF 7,oF 8,oF 9],by kernel_rfl,g2_ ?_⟩;refine cw_ k (g2_ ?_);refine .inr (.inr (.inl ⟨[oF 0,oF 4,oF 1,oF 5,oF 2,oF 6,oF 3,oF 7,oT 8,oF 9],[8],by kernel_rfl,g2_ ?_⟩));refine ae ?_ rfl;exact wx_):p:=e k
theorem q2_{p a:Prop}(k:a)(e:a->p:=by intro k;refine gx_ ?_;refine .inl ⟨[oF 0,oF 1,oF 2,oF 3,oF 4,oF 5,oF 6,oF 7,oF 8,oF 9],by kernel_rfl,gx_ ?_⟩;refine cw_ k (gx_ ?_);refine .inr (.inr (.inl ⟨[oF 0,oF 4,oF 8,oF 1,oF 5,oF 9,oF 2,oF 6,oF 10,oF 3,oF 7,oF 11,oT 12,oF 13,oF 14],[8],by kernel_rfl,gx_ ?_⟩));refine ae ?_ rfl;exact wf_ @an):p:=e k
end Go.Proofs.YtmhmahcdanclnaaGreat.V
namespace Go.Eng
def nt(x:GID)(nodes:Int)(last:UInt32):Bool:=
 decide ((x.node.toNat:Int)<nodes)&&(decide (1<=x.inc.toNat)&&(decide (1<=x.seq.toNat)&&decide (x.seq.toNat<=last.toNat)))
def rwBit(r:GRow)(s:UInt32):Nat:=s.toNat-r.pre.toNat-1
def dL(r:GRow)(s:UInt32):Bool:=
 if s=0 then false else if s.toNat<=r.pre.toNat then true else decide (rwBit r s<64)&&r.bits.toNat.testBit (rwBit r s)
def ak1(r:GRow)(s:UInt32)(w:Int):Bool:=decide ((s.toNat:Int)<=r.pre.toNat+w)
def oV(w:Int):Bool:=decide (1<=w)&&decide (w<=64)
def gI(r:GRow)(x:GID):GRow:=if r.inc.toNat<x.inc.toNat then ⟨x.inc,0,0⟩else r
def ap7(r:GRow)(x:GID):Bool:=decide (0<x.inc.toNat)&&(decide (x.inc=r.inc)&&dL r x.seq)
def iJ(r:GRow)(x:GID)(w:Int):Bool:=
 if oV w=false\/x.inc=0\/x.seq=0\/x.inc.toNat<r.inc.toNat then false else !dL (gI r x) x.seq&&ak1 (gI r x) x.seq w
def fM:Nat->GRow->GRow
 |0,r=>r
 |n+1,r=>if r.bits.toNat % 2=1 then fM n ⟨r.inc,r.pre+1,UInt64.ofNat (r.bits.toNat / 2)⟩else r
def mq(r:GRow)(s:UInt32):GRow:=⟨r.inc,r.pre,r.bits ||| UInt64.ofNat (2^rwBit r s)⟩
def cO(r:GRow)(x:GID)(w:Int):GRow×Bool:=if iJ r x w=true then (fM 64 (mq (gI r x) x.seq),true)else (r,false)
def rwMark(node:UInt8)(r:GRow):GMark:=⟨node,r.inc,r.pre⟩
def l6(r:GRow)(w:Int):Bool:=
 if oV w=false then false else if r.inc=0 then decide (r=⟨0,0,0⟩)
 else decide (r.bits.toNat % 2=0)&&decide (r.bits.toNat<2^(min w.toNat (4294967295-r.pre.toNat)))
def nn(a b:GMark):Bool:=if a.node≠b.node then false else if a.inc≠b.inc then decide (b.inc.toNat<a.inc.toNat)else decide (b.seq.toNat<a.seq.toNat)
def kU(l:List GRow):List GMark:=(l.mapIdx fun i r=>rwMark (UInt8.ofNat i) r).filter fun m=>decide (0<m.inc.toNat)
def kK(rows:List GRow)(w:Int)(acc:List GID)(x:GID):List GID:=
 match rows[x.node.toNat]? with
 |none=>acc
 |some r=>if iJ r x w=true/\x∉acc then acc++[x]else acc
def fE(l:List GID)(rows:List GRow)(w:Int):List GID:=l.foldl (kK rows w) []
def iz:Nat->List UInt8->List UInt32->List UInt8
 |0,_,_=>[]
 |n+1,l,dr=>
  match l[(dr.headD 0).toNat % l.length]? with
  |none=>[]
  |some x=>x::iz n (l.eraseIdx ((dr.headD 0).toNat % l.length)) dr.tail
def lh(l:List GEvt)(q:GID->Bool):Option Nat:=l.findIdx? fun e=>q e.id
def cG(l:List GEvt)(x:GID):Bool:=l.any fun e=>decide (e.id=x)
def eAt(l:List GEvt)(x:GID):Nat:=(lh l fun a=>x.less a).getD l.length
def aek(l:List GEvt)(e:GEvt):List GEvt:=l.take (eAt l e.id)++e::l.drop (eAt l e.id)
def dk(b:d7)(e:GEvt):d7×Int:=
 if cG b.evs e.id=true then (b,150)else if b.room<=(b.evs.length:Int)then (b,52)else (⟨b.room,aek b.evs e⟩,0)
def zG(node:UInt8)(inc:UInt16)(x:GID):Bool:= !decide (x.node=node)|| !decide (x.inc=inc)
def bK(b:d7)(node:UInt8)(inc:UInt16):d7×GID×Int:=
 match lh b.evs (zG node inc)with
 |none=>(b,⟨0,0,0⟩,52)
 |some i=>match b.evs[i]? with
  |none=>(b,⟨0,0,0⟩,52)
  |some e=>(⟨b.room,b.evs.eraseIdx i⟩,e.id,0)
def bY(b:d7)(x:GID):d7×Int:=
 match lh b.evs (fun a=>decide (a=x))with
 |none=>(b,151)
 |some i=>(⟨b.room,b.evs.eraseIdx i⟩,0)
def eIds(l:List GEvt):List GID:=l.map GEvt.id
def aph(t:List (List GMark))(m n:UInt8):GMark:=match t[m.toNat]? with
 |none=>⟨n,0,0⟩
 |some r=>match r[n.toNat]? with
  |none=>⟨n,0,0⟩
  |some k=>k
def qR(m:GMark)(x:GID):Bool:=decide (x.inc.toNat<m.inc.toNat)||(decide (m.inc=x.inc)&&decide (x.seq.toNat<=m.seq.toNat))
def nT(t:List (List GMark))(self:UInt8)(rows:List GRow)(x:GID)(k:Nat)(m:au):Bool:=
 if m.inc=0\/m.state=3 then false
 else if k=self.toNat then !qR (match rows[x.node.toNat]? with|none=>⟨x.node,0,0⟩|some r=>rwMark x.node r) x
 else if k<256 then !qR (aph t (UInt8.ofNat k) x.node) x
 else !qR ⟨x.node,0,0⟩ x
def cm(t:List (List GMark))(ms:List au)(self:UInt8)(rows:List GRow)(x:GID):Bool:=
 if rows.length<=x.node.toNat then false else !(ms.mapIdx fun k m=>nT t self rows x k m).any id
def iW(row:List GMark)(m:GMark):List GMark:=match row[m.node.toNat]? with
 |none=>row
 |some k=>if nn m k=true then row.set m.node.toNat m else row
def cl(t:List (List GMark))(m:UInt8)(ks:List GMark):List (List GMark):=t.modify m.toNat fun row=>ks.foldl iW row
