import Derived.Test.YtmhmahcdanclnaaGreatNb21
import Derived.Test.YtmhmahcdanclnaaGreatNb22
set_option linter.unusedSectionVars false
set_option linter.unusedSimpArgs false
set_option linter.unusedVariables false
set_option maxRecDepth 10000
namespace Go.Eng
structure okP(p:af):Prop where
 filter:p.filter.length<=4000000
 view:cf p.view
 near:cf p.near
 succ:p.ring.succ.filter.length<=4000000
 pred:p.ring.pred.filter.length<=4000000
 sent:cf p.wait.sent
 table:p.table.length<=4000000
 heard:p.heard.length<=4000000
 rows:p.rows.length<=4000000
 reports:p.reports.length<=4000000/\ ∀l∈p.reports,l.length<=4000000
 evs:p.buf.evs.length<=4000000/\ ∀e∈p.buf.evs,e.vals.length<=4000000/\e.data.length<=4000000
 pulls:p.pulls.length<=4000000
structure aJ where
 kind:UInt8
 frm:UInt8
 inc:UInt16
 to:UInt8
 list:List GDesc
 table:List ar
 ev:GEvt
 hops:UInt8
 origin:GMark
 marks:List GMark
 ids:List GID
deriving DecidableEq
def aL(x:GID):List DV:=[.v (.int .u8 x.node.toNat),.v (.int .u16 x.inc.toNat),.v (.int .u32 x.seq.toNat)]
def encMg(m:aJ):List DV:=[.v (.int .u8 m.kind.toNat),.v (.int .u8 m.frm.toNat),.v (.int .u16 m.inc.toNat),.v (.int .u8 m.to.toNat),fzD m.list,.fz 3 (m.table.map aQ),
 .v (.int .u8 m.ev.id.node.toNat),.v (.int .u16 m.ev.id.inc.toNat),.v (.int .u32 m.ev.id.seq.toNat),.fz 1 (m.ev.vals.map bP),.fz 1 (m.ev.data.map az),.v (.int .u8 m.hops.toNat),
 .v (.int .u8 m.origin.node.toNat),.v (.int .u16 m.origin.inc.toNat),.v (.int .u32 m.origin.seq.toNat),.fz 3 (m.marks.map aO),.fz 3 (m.ids.map aL)]
def zEvt:GEvt:=⟨⟨0,0,0⟩,[],[]⟩
def pSelf(p:af):GDesc:=⟨p.node,p.inc,0,p.filter⟩
def pMsg(p:af)(kind to:UInt8):aJ:=⟨kind,p.node,p.inc,to,[],[],zEvt,0,⟨0,0,0⟩,[],[]⟩
end Go.Eng
namespace Go.Proofs.YtmhmahcdanclnaaGreat.V
open Go.Eng
attribute [local go_sem] aS ah fzD plR a_ aO aQ aA aC ak aB aT z8 z16 z32 z64 List.set_cons_succ List.set_cons_zero
theorem bg(l:List GDesc)(hl:cf l):Con2 Tryz.prog 142 [fzD l] (· =plR (fzD l)):=i3 (ij l hl)
theorem jF(e:GEvt)(h1:e.vals.length<=4000000)(h2:e.data.length<=4000000):Con2 Tryz.prog 87 [.agg (aB e)] (· =plR (.agg (aB e))):=by
 refine Con2.ofEmb ?_;refine en_ Tryz.func87 [.cell 2 56] (g2_ ?_);refine g2_ ?_;refine ae ?_ rfl;exact ws_
theorem sI(w:Nat)(R:List (List DV))(p:af)(hp:okP p):Con2 Tryz.prog 81 [.agg ((ak p).set 24 (.fz w R))] (· =plR (.agg (ah (pSelf p)))):=by
 refine Con2.ofEmb ?_;have hf:=hp.filter;refine en_ Tryz.func81 [.cell 2 34] (g2_ ?_);refine g2_ ?_;refine .inl ⟨[oF 0,oF 2,oF 4,oF 1,oF 3,oF 5,oT 6,oF 7,oF 8],by kernel_rfl,g2_ ?_⟩
 refine ce_ (je p.filter (by omega)) (g2_ ?_)
 refine ae ?_ rfl;exact wf_ @pSelf.eq_1
theorem i7(p:af)(hp:okP p):Con2 Tryz.prog 81 [.agg (ak p)] (· =plR (.agg (ah (pSelf p)))):=sI 3 (p.rows.map aA) p hp
theorem gh(p:af)(kind to:UInt8):Con2 Tryz.prog 80 [.agg (ak p),.v (.int .u8 kind.toNat),.v (.int .u8 to.toNat)] (· =plR (.agg (encMg (pMsg p kind to)))):=by
 refine Con2.ofEmb ?_;refine en_ Tryz.func80 [.cell 6 60] (g2_ ?_);refine g2_ ?_;refine ae ?_ rfl;exact wf_ (c3_ @encMg.eq_1 @pMsg.eq_1 @zEvt.eq_1)
theorem ze{P:Program}{f:FuncId}{args:List DV}{Q Q':Res->Prop}(h:Con2 P f args Q)(k: ∀r,Q r->Q' r):Con2 P f args Q':=fun u vs hv=>
 ⟨(h u vs hv).1,fun w hu=>((h u vs hv).2 w hu).mono fun e w ⟨r,u',h1,h2,h3,r2,hq,hr⟩=>⟨r,u',h1,h2,h3,r2,k _ hq,hr⟩⟩
theorem sh(p:af)(hp:okP p):Con2 Tryz.prog 77 [.agg (ak p)] (fun r=>aix 57 3 (p.heard.map aO) ((ak p).set 22 (.rf 0 0 p.heard.length)) r/\aix 84 3 (p.rows.map aA) ((ak p).set 24 (.rf 0 0 p.rows.length)) r):=by
 have hfi:=hp.filter;have hsu:=hp.succ;have hpr:=hp.pred;have htb:=hp.table;have hhe:=hp.heard;have hrw:=hp.rows;have hpu:=hp.pulls;obtain⟨hre,hre2⟩:=hp.reports;obtain⟨hev,hev2⟩:=hp.evs;refine en_ Tryz.func77 [.cell 2 49] (g2_ ?_);refine g2_ ?_;refine ce_ (je p.filter (by omega)) ?_
 refine g2_ ?_;refine ce_ (bg p.view hp.view) (g2_ ?_);refine ce_ (bg p.near hp.near) (g2_ ?_);refine ce_ (je p.ring.succ.filter (by omega)) (g2_ ?_)
 refine ce_ (je p.ring.pred.filter (by omega)) (g2_ ?_)
 refine ce_ (bg p.wait.sent hp.sent) (g2_ ?_);refine ce_ (dY (p.table.map aQ) (by rw[List.length_map];omega)) (g2_ ?_)
 refine ce_ (j_ (p.heard.map aO) (by rw[List.length_map];omega)) (g2_ ?_)
 refine ce_ (xz (p.rows.map aA) (by rw[List.length_map];omega)) (g2_ ?_)
 generalize hL:(p.reports.map fun l=>[DV.fz 3 (l.map aO)])=L
 have hLl:L.length=p.reports.length:=by subst hL;rw[List.length_map]
 refine aq p.reports.length (fun k=>[]) (fun _=>[]) (fun k=>[(2,.arr 40 1 (dz [.v (.slice none 0 0)] L k) false),(1,.arr 84 3 (p.rows.map aA) false),(0,.arr 57 3 (p.heard.map aO) false)]) 3 (fun _=>True) (aa [] ?_) trivial (fun g k=>ws_) (by omega) (fun g=>ws_) (fun k hk _=>?_) (fun _=>?_)
 ·refine gf_ (c2_ @nA hLl) ?_
  first|rfl|exact⟨rfl,rfl⟩
 ·have hk2:k<L.length:=by omega
  have hge:L[k]? =some [DV.fz 3 (p.reports[k].map aO)]:=by subst hL;rw[List.getElem?_map,List.getElem?_eq_getElem hk];rfl
  have hge2:L[k]=[DV.fz 3 (p.reports[k].map aO)]:=by rw[List.getElem?_eq_getElem hk2]at hge;exact Option.some.inj hge
  repeat first|simp-implicitDefEqProofs only[go_sem,ab,hge,cK hk2,cr (Nat.le_of_lt hk2),List.contains_nil]|with_reducible first|refine gl_ ?_|refine ga_ ?_|refine gn_ ?_
  refine ce_ (ia (p.reports[k].map aO) (by rw[List.length_map];have:=hre2 _ (List.getElem_mem hk);omega)) ?_
  repeat first|simp-implicitDefEqProofs only[go_sem,ab,cK hk2,cr (Nat.le_of_lt hk2),List.contains_nil]|with_reducible first|refine gl_ ?_|refine ga_ ?_|refine gn_ ?_
  refine⟨k+1,aa [] ?_,rfl⟩;refine g2_ ?_;rw[<-ji hk2,hge2]
 ·rw[<-hLl];refine u3_ @jq ?_;generalize hE:p.buf.evs.map aB=M;have hMl:M.length=p.buf.evs.length:=by subst hE;rw[List.length_map]
  refine aq p.buf.evs.length (fun k=>[]) (fun _=>[]) (fun k=>[(3,.arr 56 5 (dz [.v (.int .u8 0),.v (.int .u16 0),.v (.int .u32 0),.v (.slice none 0 0),.v (.slice none 0 0)] M k) false),(2,.arr 40 1 L false),(1,.arr 84 3 (p.rows.map aA) false),(0,.arr 57 3 (p.heard.map aO) false)]) 4 (fun _=>True) (aa [] ?_) trivial (fun g k=>ws_) (by omega) (fun g=>ws_) (fun k hk _=>?_) (fun _=>?_)
  ·refine u1_ (c2_ @nA hMl) ?_
   first|rfl|exact⟨rfl,rfl⟩
  ·have hk2:k<M.length:=by omega
   have hge:M[k]? =some (aB p.buf.evs[k]):=by subst hE;rw[List.getElem?_map,List.getElem?_eq_getElem hk];rfl
   have hge2:M[k]=aB p.buf.evs[k]:=by rw[List.getElem?_eq_getElem hk2]at hge;exact Option.some.inj hge
   repeat first|simp-implicitDefEqProofs only[go_sem,ab,hge,cK hk2,cr (Nat.le_of_lt hk2),List.contains_nil]|with_reducible first|refine gl_ ?_|refine ga_ ?_|refine gn_ ?_
   refine ce_ (jF p.buf.evs[k] (hev2 _ (List.getElem_mem hk)).1 (hev2 _ (List.getElem_mem hk)).2) ?_
   repeat first|simp-implicitDefEqProofs only[go_sem,ab,cK hk2,cr (Nat.le_of_lt hk2),List.contains_nil]|with_reducible first|refine gl_ ?_|refine ga_ ?_|refine gn_ ?_
   refine⟨k+1,aa [] ?_,rfl⟩;refine g2_ ?_;rw[<-ji hk2,hge2];rfl
  ·rw[<-hMl];refine u3_ @jq ?_;refine ce_ (abH (p.pulls.map aT) (by rw[List.length_map];omega)) (g2_ ?_)
   subst hL hE;refine⟨⟨_,_,_⟩,⟨⟨0,_,rfl,?_,?_⟩,1,_,rfl,?_,?_⟩,gu _⟩
   ·exact ws_
   ·repeat first|simp-implicitDefEqProofs only[go_sem,ab,List.take_of_length_le (Nat.le_refl _),List.set_cons_succ,List.set_cons_zero]|with_reducible refine gl_ ?_
   ·exact ws_
   ·repeat first|simp-implicitDefEqProofs only[go_sem,ab,List.take_of_length_le (Nat.le_refl _),List.set_cons_succ,List.set_cons_zero]|with_reducible refine gl_ ?_
theorem pJ(p:af)(hp:okP p):Con2 Tryz.prog 77 [.agg (ak p)] (· =⟨.agg ((ak p).set 22 (.rf 0 0 p.heard.length)),[(0,.arr 57 3 (p.heard.map aO) false)],1⟩):=Con2.keep (ze (sh p hp) fun r h=>h.1)
theorem pF(p:af)(hp:okP p):Con2 Tryz.prog 77 [.agg (ak p)] (· =⟨.agg ((ak p).set 24 (.rf 0 0 p.rows.length)),[(0,.arr 84 3 (p.rows.map aA) false)],1⟩):=Con2.keep (ze (sh p hp) fun r h=>h.2)
theorem bo(p:af)(hp:okP p):Con2 Tryz.prog 77 [.agg (ak p)] (· =plR (.agg (ak p))):=(pJ p hp).emb (by
 repeat first|simp-implicitDefEqProofs only[go_sem,ab,List.take_of_length_le (Nat.le_refl _),List.set_cons_succ,List.set_cons_zero]|with_reducible refine gl_ ?_) (by
 repeat first|simp-implicitDefEqProofs only[go_sem,ab,List.take_of_length_le (Nat.le_refl _),List.set_cons_succ,List.set_cons_zero]|with_reducible refine gl_ ?_)
theorem q1_{p a:Prop}(k:a)(e:a->p:=by intro k;refine .inl ⟨[oF 0,oF 1,oF 2,oF 3,oF 4,oF 5,oF 6,oF 7,oF 8,oF 9],by kernel_rfl,g2_ ?_⟩;refine cw_ k (g2_ ?_);refine .inr (.inr (.inl ⟨[oF 0,oF 4,oF 1,oF 5,oF 2,oF 6,oF 3,oF 7,oT 8,oF 9],[8],by kernel_rfl,g2_ ?_⟩));refine ae ?_ rfl;exact wx_):p:=e k
theorem q2_{p a:Prop}(k:a)(e:a->p:=by intro k;refine gx_ ?_;refine .inl ⟨[oF 0,oF 1,oF 2,oF 3,oF 4,oF 5,oF 6,oF 7,oF 8,oF 9],by kernel_rfl,gx_ ?_⟩;refine cw_ k (gx_ ?_);refine .inr (.inr (.inl ⟨[oF 0,oF 4,oF 8,oF 1,oF 5,oF 9,oF 2,oF 6,oF 10,oF 3,oF 7,oF 11,oT 12,oF 13,oF 14],[8],by kernel_rfl,gx_ ?_⟩));refine ae ?_ rfl;exact wf_ @an):p:=e k
end Go.Proofs.YtmhmahcdanclnaaGreat.V
namespace Go.Eng
def n_(x:GID)(nodes:Int)(last:UInt32):Bool:=
 decide ((x.node.toNat:Int)<nodes)&&(decide (1<=x.inc.toNat)&&(decide (1<=x.seq.toNat)&&decide (x.seq.toNat<=last.toNat)))
def rwBit(r:GRow)(s:UInt32):Nat:=s.toNat-r.pre.toNat-1
def dE(r:GRow)(s:UInt32):Bool:=
 if s=0 then false else if s.toNat<=r.pre.toNat then true else decide (rwBit r s<64)&&r.bits.toNat.testBit (rwBit r s)
def ami(r:GRow)(s:UInt32)(w:Int):Bool:=decide ((s.toNat:Int)<=r.pre.toNat+w)
def m8(w:Int):Bool:=decide (1<=w)&&decide (w<=64)
def gJ(r:GRow)(x:GID):GRow:=if r.inc.toNat<x.inc.toNat then ⟨x.inc,0,0⟩else r
def apd(r:GRow)(x:GID):Bool:=decide (0<x.inc.toNat)&&(decide (x.inc=r.inc)&&dE r x.seq)
def iM(r:GRow)(x:GID)(w:Int):Bool:=
 if m8 w=false\/x.inc=0\/x.seq=0\/x.inc.toNat<r.inc.toNat then false else !dE (gJ r x) x.seq&&ami (gJ r x) x.seq w
def fY:Nat->GRow->GRow
 |0,r=>r
 |n+1,r=>if r.bits.toNat % 2=1 then fY n ⟨r.inc,r.pre+1,UInt64.ofNat (r.bits.toNat / 2)⟩else r
def l5(r:GRow)(s:UInt32):GRow:=⟨r.inc,r.pre,r.bits ||| UInt64.ofNat (2^rwBit r s)⟩
def cH(r:GRow)(x:GID)(w:Int):GRow×Bool:=if iM r x w=true then (fY 64 (l5 (gJ r x) x.seq),true)else (r,false)
def rwMark(node:UInt8)(r:GRow):GMark:=⟨node,r.inc,r.pre⟩
def gH(r:GRow)(w:Int):Bool:=
 if m8 w=false then false else if r.inc=0 then decide (r=⟨0,0,0⟩)
 else decide (r.bits.toNat % 2=0)&&decide (r.bits.toNat<2^(min w.toNat (4294967295-r.pre.toNat)))
def mU(a b:GMark):Bool:=if a.node≠b.node then false else if a.inc≠b.inc then decide (b.inc.toNat<a.inc.toNat)else decide (b.seq.toNat<a.seq.toNat)
def kD(l:List GRow):List GMark:=(l.mapIdx fun i r=>rwMark (UInt8.ofNat i) r).filter fun m=>decide (0<m.inc.toNat)
def kV(rows:List GRow)(w:Int)(acc:List GID)(x:GID):List GID:=
 match rows[x.node.toNat]? with
 |none=>acc
 |some r=>if iM r x w=true/\x∉acc then acc++[x]else acc
def fC(l:List GID)(rows:List GRow)(w:Int):List GID:=l.foldl (kV rows w) []
def il:Nat->List UInt8->List UInt32->List UInt8
 |0,_,_=>[]
 |n+1,l,dr=>
  match l[(dr.headD 0).toNat % l.length]? with
  |none=>[]
  |some x=>x::il n (l.eraseIdx ((dr.headD 0).toNat % l.length)) dr.tail
def nX(l:List GEvt)(q:GID->Bool):Option Nat:=l.findIdx? fun e=>q e.id
def tM(l:List GEvt)(x:GID):Bool:=l.any fun e=>decide (e.id=x)
def eAt(l:List GEvt)(x:GID):Nat:=(nX l fun a=>x.less a).getD l.length
def aba(l:List GEvt)(e:GEvt):List GEvt:=l.take (eAt l e.id)++e::l.drop (eAt l e.id)
def dT(b:ee)(e:GEvt):ee×Int:=
 if tM b.evs e.id=true then (b,150)else if b.room<=(b.evs.length:Int)then (b,52)else (⟨b.room,aba b.evs e⟩,0)
def akX(node:UInt8)(inc:UInt16)(x:GID):Bool:= !decide (x.node=node)|| !decide (x.inc=inc)
def cy(b:ee)(node:UInt8)(inc:UInt16):ee×GID×Int:=
 match nX b.evs (akX node inc)with
 |none=>(b,⟨0,0,0⟩,52)
 |some i=>match b.evs[i]? with
  |none=>(b,⟨0,0,0⟩,52)
  |some e=>(⟨b.room,b.evs.eraseIdx i⟩,e.id,0)
def cS(b:ee)(x:GID):ee×Int:=
 match nX b.evs (fun a=>decide (a=x))with
 |none=>(b,151)
 |some i=>(⟨b.room,b.evs.eraseIdx i⟩,0)
def eIds(l:List GEvt):List GID:=l.map GEvt.id
def aoS(t:List (List GMark))(m n:UInt8):GMark:=match t[m.toNat]? with
 |none=>⟨n,0,0⟩
 |some r=>match r[n.toNat]? with
  |none=>⟨n,0,0⟩
  |some k=>k
def rS(m:GMark)(x:GID):Bool:=decide (x.inc.toNat<m.inc.toNat)||(decide (m.inc=x.inc)&&decide (x.seq.toNat<=m.seq.toNat))
def nK(t:List (List GMark))(self:UInt8)(rows:List GRow)(x:GID)(k:Nat)(m:ar):Bool:=
 if m.inc=0\/m.state=3 then false
 else if k=self.toNat then !rS (match rows[x.node.toNat]? with|none=>⟨x.node,0,0⟩|some r=>rwMark x.node r) x
 else if k<256 then !rS (aoS t (UInt8.ofNat k) x.node) x
 else !rS ⟨x.node,0,0⟩ x
def di(t:List (List GMark))(ms:List ar)(self:UInt8)(rows:List GRow)(x:GID):Bool:=
 if rows.length<=x.node.toNat then false else !(ms.mapIdx fun k m=>nK t self rows x k m).any id
def i4(row:List GMark)(m:GMark):List GMark:=match row[m.node.toNat]? with
 |none=>row
 |some k=>if mU m k=true then row.set m.node.toNat m else row
def cg(t:List (List GMark))(m:UInt8)(ks:List GMark):List (List GMark):=t.modify m.toNat fun row=>ks.foldl i4 row
