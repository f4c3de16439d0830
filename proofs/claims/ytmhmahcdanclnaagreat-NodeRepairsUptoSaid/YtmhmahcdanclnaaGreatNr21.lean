import Derived.Test.YtmhmahcdanclnaaGreatNr20
set_option linter.unusedSectionVars false
set_option linter.unusedSimpArgs false
set_option linter.unusedVariables false
set_option maxRecDepth 10000
namespace Go.Eng
structure aq where
 inc:UInt16
 state:UInt8
 quiet:UInt8
deriving DecidableEq
structure GMark where
 node:UInt8
 inc:UInt16
 seq:UInt32
deriving DecidableEq
structure GRow where
 inc:UInt16
 pre:UInt32
 bits:UInt64
deriving DecidableEq
structure GEvt where
 id:GID
 vals:List Int
 data:List UInt8
deriving DecidableEq
structure eJ where
 hs:Bool
 hp:Bool
 succ:GDesc
 pred:GDesc
deriving DecidableEq
structure eo where
 room:Int
 evs:List GEvt
deriving DecidableEq
structure af where
 node:UInt8
 inc:UInt16
 up:Bool
 filter:List GSpan
 view:List GDesc
 near:List GDesc
 ring:eJ
 wait:GW
 table:List aq
 count:UInt32
 heard:List GMark
 seq:UInt32
 rows:List GRow
 reports:List (List GMark)
 buf:eo
 pulls:List GAsk
 passed:Int
 evicted:Int
 collected:Int
deriving DecidableEq
structure an where
 nodes:Int
 schema:List GSpan
 view:Int
 swap:Int
 near:Int
 fanout:Int
 hops:Int
 window:Int
 buffer:Int
 pulls:Int
 patience:Int
 suspect:Int
 out:Int
 pool:Int
 last:UInt32
deriving DecidableEq
def aP(m:aq):List DV:=[.v (.int .u16 m.inc.toNat),.v (.int .u8 m.state.toNat),.v (.int .u8 m.quiet.toNat)]
def aN(m:GMark):List DV:=[.v (.int .u8 m.node.toNat),.v (.int .u16 m.inc.toNat),.v (.int .u32 m.seq.toNat)]
def aD(m:GRow):List DV:=[.v (.int .u16 m.inc.toNat),.v (.int .u32 m.pre.toNat),.v (.int .u64 m.bits.toNat)]
def bP(x:Int):List DV:=[.v (.int .i32 x)]
def aE(e:GEvt):List DV:=[.v (.int .u8 e.id.node.toNat),.v (.int .u16 e.id.inc.toNat),.v (.int .u32 e.id.seq.toNat),.fz 1 (e.vals.map bP),.fz 1 (e.data.map aC)]
def aU(a:GAsk):List DV:=[.v (.int .u8 a.id.node.toNat),.v (.int .u16 a.id.inc.toNat),.v (.int .u32 a.id.seq.toNat),.v (.int .u8 a.frm.toNat),.v (.int .u8 a.left.toNat)]
def ba(r:eJ):List DV:=[.v (.bool r.hs),.v (.bool r.hp),.v (.int .u8 r.succ.node.toNat),.v (.int .u16 r.succ.inc.toNat),.v (.int .u8 r.succ.age.toNat),.fz 2 (r.succ.filter.map aQ),
 .v (.int .u8 r.pred.node.toNat),.v (.int .u16 r.pred.inc.toNat),.v (.int .u8 r.pred.age.toNat),.fz 2 (r.pred.filter.map aQ)]
def iD(w:GW):List DV:=[.v (.bool w.some),.v (.int .u8 w.node.toNat),.v (.int .u8 w.left.toNat),fzD w.sent]
def ak(p:af):List DV:=[.v (.int .u8 p.node.toNat),.v (.int .u16 p.inc.toNat),.v (.bool p.up),.fz 2 (p.filter.map aQ),fzD p.view,fzD p.near,
 .v (.bool p.ring.hs),.v (.bool p.ring.hp),.v (.int .u8 p.ring.succ.node.toNat),.v (.int .u16 p.ring.succ.inc.toNat),.v (.int .u8 p.ring.succ.age.toNat),.fz 2 (p.ring.succ.filter.map aQ),
 .v (.int .u8 p.ring.pred.node.toNat),.v (.int .u16 p.ring.pred.inc.toNat),.v (.int .u8 p.ring.pred.age.toNat),.fz 2 (p.ring.pred.filter.map aQ),
 .v (.bool p.wait.some),.v (.int .u8 p.wait.node.toNat),.v (.int .u8 p.wait.left.toNat),fzD p.wait.sent,
 .fz 3 (p.table.map aP),.v (.int .u32 p.count.toNat),.fz 3 (p.heard.map aN),.v (.int .u32 p.seq.toNat),.fz 3 (p.rows.map aD),.fz 1 (p.reports.map fun l=>[.fz 3 (l.map aN)]),
 .v (.int .i64 p.buf.room),.fz 5 (p.buf.evs.map aE),.fz 5 (p.pulls.map aU),.v (.int .i64 p.passed),.v (.int .i64 p.evicted),.v (.int .i64 p.collected)]
def aB(c:an):List DV:=[.v (.int .i64 c.nodes),.fz 2 (c.schema.map aQ),.v (.int .i64 c.view),.v (.int .i64 c.swap),.v (.int .i64 c.near),.v (.int .i64 c.fanout),.v (.int .i64 c.hops),.v (.int .i64 c.window),
 .v (.int .i64 c.buffer),.v (.int .i64 c.pulls),.v (.int .i64 c.patience),.v (.int .i64 c.suspect),.v (.int .i64 c.out),.v (.int .i64 c.pool),.v (.int .u32 c.last.toNat)]
def dA(z:List DV)(L:List (List DV))(k:Nat):List (List DV):=L.take k++List.replicate (L.length-k) z
section
variable {z:List DV} {L:List (List DV)} {k:Nat}
theorem cw(h:k<=L.length):(dA z L k).length=L.length:=by grind [dA]
theorem ov:dA z L 0=List.replicate L.length z:=by simp[dA]
theorem jB:dA z L L.length=L:=by simp[dA]
theorem cK(h:k<L.length):(dA z L k)[k]? =some z:=by grind [dA]
theorem jE(h:k<L.length):(dA z L k).set k L[k]=dA z L (k+1):=by
 have hl:(L.take k).length=k:=by rw[List.length_take];omega
 unfold dA;rw[List.set_append_right _ _ (by omega),hl,Nat.sub_self,show L.length-k=(L.length-(k+1))+1 from by omega,List.replicate_succ,List.set_cons_zero,List.take_add_one,List.getElem?_eq_getElem h,List.append_assoc]
 rfl
end
def ek(n:Nat):List GMark:=(List.range n).map fun i=>⟨UInt8.ofNat i,0,0⟩
theorem jX(n:Nat):(ek n).length=n:=by simp[ek]
def j4(x:GID)(nodes:Int)(last:UInt32):Bool:=
 decide ((x.node.toNat:Int)<nodes)&&(decide (1<=x.inc.toNat)&&(decide (1<=x.seq.toNat)&&decide (x.seq.toNat<=last.toNat)))
def rwBit(r:GRow)(s:UInt32):Nat:=s.toNat-r.pre.toNat-1
def dt(r:GRow)(s:UInt32):Bool:=
 if s=0 then false else if s.toNat<=r.pre.toNat then true else decide (rwBit r s<64)&&r.bits.toNat.testBit (rwBit r s)
def akC(r:GRow)(s:UInt32)(w:Int):Bool:=decide ((s.toNat:Int)<=r.pre.toNat+w)
def oJ(w:Int):Bool:=decide (1<=w)&&decide (w<=64)
def gl(r:GRow)(x:GID):GRow:=if r.inc.toNat<x.inc.toNat then ⟨x.inc,0,0⟩else r
def apD(r:GRow)(x:GID):Bool:=decide (0<x.inc.toNat)&&(decide (x.inc=r.inc)&&dt r x.seq)
def gH(r:GRow)(x:GID)(w:Int):Bool:=
 if oJ w=false\/x.inc=0\/x.seq=0\/x.inc.toNat<r.inc.toNat then false else !dt (gl r x) x.seq&&akC (gl r x) x.seq w
def dG:Nat->GRow->GRow
 |0,r=>r
 |n+1,r=>if r.bits.toNat % 2=1 then dG n ⟨r.inc,r.pre+1,UInt64.ofNat (r.bits.toNat / 2)⟩else r
def ko(r:GRow)(s:UInt32):GRow:=⟨r.inc,r.pre,r.bits ||| UInt64.ofNat (2^rwBit r s)⟩
def cS(r:GRow)(x:GID)(w:Int):GRow×Bool:=if gH r x w=true then (dG 64 (ko (gl r x) x.seq),true)else (r,false)
def rwMark(node:UInt8)(r:GRow):GMark:=⟨node,r.inc,r.pre⟩
def l_(r:GRow)(w:Int):Bool:=
 if oJ w=false then false else if r.inc=0 then decide (r=⟨0,0,0⟩)
 else decide (r.bits.toNat % 2=0)&&decide (r.bits.toNat<2^(min w.toNat (4294967295-r.pre.toNat)))
def jV(a b:GMark):Bool:=if a.node≠b.node then false else if a.inc≠b.inc then decide (b.inc.toNat<a.inc.toNat)else decide (b.seq.toNat<a.seq.toNat)
def iY(l:List GRow):List GMark:=(l.mapIdx fun i r=>rwMark (UInt8.ofNat i) r).filter fun m=>decide (0<m.inc.toNat)
def je(rows:List GRow)(w:Int)(acc:List GID)(x:GID):List GID:=
 match rows[x.node.toNat]? with
 |none=>acc
 |some r=>if gH r x w=true/\x∉acc then acc++[x]else acc
def dE(l:List GID)(rows:List GRow)(w:Int):List GID:=l.foldl (je rows w) []
def iJ:Nat->List UInt8->List UInt32->List UInt8
 |0,_,_=>[]
 |n+1,l,dr=>
  match l[(dr.headD 0).toNat % l.length]? with
  |none=>[]
  |some x=>x::iJ n (l.eraseIdx ((dr.headD 0).toNat % l.length)) dr.tail
def nI(l:List GEvt)(q:GID->Bool):Option Nat:=l.findIdx? fun e=>q e.id
def ui(l:List GEvt)(x:GID):Bool:=l.any fun e=>decide (e.id=x)
def eAt(l:List GEvt)(x:GID):Nat:=(nI l fun a=>x.less a).getD l.length
def acH(l:List GEvt)(e:GEvt):List GEvt:=l.take (eAt l e.id)++e::l.drop (eAt l e.id)
def dX(b:eo)(e:GEvt):eo×Int:=
 if ui b.evs e.id=true then (b,150)else if b.room<=(b.evs.length:Int)then (b,52)else (⟨b.room,acH b.evs e⟩,0)
def amB(node:UInt8)(inc:UInt16)(x:GID):Bool:= !decide (x.node=node)|| !decide (x.inc=inc)
def cF(b:eo)(node:UInt8)(inc:UInt16):eo×GID×Int:=
 match nI b.evs (amB node inc)with
 |none=>(b,⟨0,0,0⟩,52)
 |some i=>match b.evs[i]? with
  |none=>(b,⟨0,0,0⟩,52)
  |some e=>(⟨b.room,b.evs.eraseIdx i⟩,e.id,0)
def cT(b:eo)(x:GID):eo×Int:=
 match nI b.evs (fun a=>decide (a=x))with
 |none=>(b,151)
 |some i=>(⟨b.room,b.evs.eraseIdx i⟩,0)
def eIds(l:List GEvt):List GID:=l.map GEvt.id
def xF(t:List (List GMark))(m n:UInt8):GMark:=match t[m.toNat]? with
 |none=>⟨n,0,0⟩
 |some r=>match r[n.toNat]? with
  |none=>⟨n,0,0⟩
  |some k=>k
def np(m:GMark)(x:GID):Bool:=decide (x.inc.toNat<m.inc.toNat)||(decide (m.inc=x.inc)&&decide (x.seq.toNat<=m.seq.toNat))
def j_(t:List (List GMark))(self:UInt8)(rows:List GRow)(x:GID)(k:Nat)(m:aq):Bool:=
 if m.inc=0\/m.state=3 then false
 else if k=self.toNat then !np (match rows[x.node.toNat]? with|none=>⟨x.node,0,0⟩|some r=>rwMark x.node r) x
 else if k<256 then !np (xF t (UInt8.ofNat k) x.node) x
 else !np ⟨x.node,0,0⟩ x
def cG(t:List (List GMark))(ms:List aq)(self:UInt8)(rows:List GRow)(x:GID):Bool:=
 if rows.length<=x.node.toNat then false else !(ms.mapIdx fun k m=>j_ t self rows x k m).any id
def jd(row:List GMark)(m:GMark):List GMark:=match row[m.node.toNat]? with
 |none=>row
 |some k=>if jV m k=true then row.set m.node.toNat m else row
def bZ(t:List (List GMark))(m:UInt8)(ks:List GMark):List (List GMark):=t.modify m.toNat fun row=>ks.foldl jd row
def fC(r:GRow)(w:Int):Prop:=r.bits.toNat<2^(min w.toNat (4294967295-r.pre.toNat))
section
variable {r:GRow} {s:UInt32} {x y:GID} {w:Int}
theorem fc:dt r s=true↔s.toNat≠0/\(s.toNat<=r.pre.toNat\/(rwBit r s<64/\r.bits.toNat.testBit (rwBit r s)=true)):=by
 have e:s=0↔s.toNat=0:=by rw[<-UInt32.toNat_inj];rfl
 unfold dt
 by_cases h:s=0
 ·simp[h]
 ·rw[if_neg h];have:=mt e.2 h
  by_cases h2:s.toNat<=r.pre.toNat
  ·simp[h2,this]
  ·simp[h2,this]
theorem kD(h:fC r w)(hb:r.bits.toNat % 2=1):(r.pre+1).toNat=r.pre.toNat+1/\(UInt64.ofNat (r.bits.toNat / 2)).toNat=r.bits.toNat / 2/\r.pre.toNat<4294967295/\0<w.toNat:=by
 unfold fC at h
 have hp:0<min w.toNat (4294967295-r.pre.toNat):=by
  refine Nat.pos_of_ne_zero fun e=>?_
  rw[e]at h;simp at h;omega
 have h1:=r.pre.toNat_lt;have h2:=r.bits.toNat_lt;refine⟨?_,UInt64.toNat_ofNat_of_lt' (Nat.lt_of_le_of_lt (Nat.div_le_self _ _) h2),by omega,by omega⟩
 rw[UInt32.toNat_add];show(r.pre.toNat+1) % _=_;omega
theorem adh(h:fC r w)(hb:r.bits.toNat % 2=1):fC ⟨r.inc,r.pre+1,UInt64.ofNat (r.bits.toNat / 2)⟩ w:=by
 obtain⟨h1,h2,h3,h4⟩:=kD h hb;unfold fC at h ⊢;simp only[h1,h2];have e:min w.toNat (4294967295-r.pre.toNat)=(min w.toNat (4294967295-r.pre.toNat)-1)+1:=by omega
 rw[e,Nat.pow_succ]at h;refine Nat.lt_of_lt_of_le (show r.bits.toNat / 2<2^(min w.toNat (4294967295-r.pre.toNat)-1)by omega) (Nat.pow_le_pow_right (by omega) (by omega))
theorem yg(h:fC r w)(hb:r.bits.toNat % 2=1):dt ⟨r.inc,r.pre+1,UInt64.ofNat (r.bits.toNat / 2)⟩ s=dt r s:=by
 obtain⟨h1,h2,h3,h4⟩:=kD h hb;rw[Bool.eq_iff_iff,fc,fc];simp only[rwBit,h1,h2];refine and_congr_right fun hs=>?_
 by_cases c1:s.toNat<=r.pre.toNat
 ·simp only[c1,true_or,iff_true];exact .inl (by omega)
 ·by_cases c2:s.toNat=r.pre.toNat+1
  ·have e:s.toNat-r.pre.toNat-1=0:=by omega
   rw[e,Nat.testBit_zero];simp[c2,hb]
  ·have e:s.toNat-r.pre.toNat-1=(s.toNat-(r.pre.toNat+1)-1)+1:=by omega
   rw[e,Nat.testBit_succ];have hl:=r.bits.toNat_lt;constructor
   ·rintro(h|⟨h5,h6⟩)
    ·omega
    ·refine .inr ⟨?_,h6⟩;refine Classical.byContradiction fun hc=>?_
     have h7:=Nat.ge_two_pow_of_testBit h6;have:2^63<=2^(s.toNat-(r.pre.toNat+1)-1):=Nat.pow_le_pow_right (by omega) (by omega)
     omega
   ·rintro(h|⟨h5,h6⟩)
    ·omega
    ·exact .inr ⟨by omega,h6⟩
theorem vj: ∀(n:Nat) (r:GRow),fC r w->(dG n r).inc=r.inc/\fC (dG n r) w/\(∀s,dt (dG n r) s=dt r s)/\(r.bits.toNat<2^n->(dG n r).bits.toNat % 2=0)
 |0,r,h=>⟨rfl,h,fun _=>rfl,fun h=>by simp[dG]at h ⊢; omega⟩
 | n+1,r,h=>by
  rw[dG]
  by_cases hb:r.bits.toNat % 2=1
  ·rw[if_pos hb];obtain⟨g1,g2,g3,g4⟩:=vj n _ (adh h hb);refine⟨g1,g2,fun s=>(g3 s).trans (yg h hb),fun hl=>g4 ?_⟩
   rw[(kD h hb).2.1];rw[Nat.pow_succ]at hl;omega
  ·rw[if_neg hb];exact⟨rfl,h,fun _=>rfl,fun _=>by omega⟩
theorem ajy:oJ w=true↔1<=w/\w<=64:=by simp[oJ]
theorem iW(hw:1<=w/\w<=64):l_ r w=true↔(r.inc=0/\r=⟨0,0,0⟩)\/(r.inc≠0/\r.bits.toNat % 2=0/\fC r w):=by grind [l_,ajy,fC]
theorem aan(hw:1<=w/\w<=64)(h:l_ r w=true):fC r w:=by
 rcases(iW hw).1 h with ⟨_,rfl⟩|⟨_,_,h⟩
 ·exact Nat.two_pow_pos _
 ·exact h
theorem ai8(h:fC r w):fC (gl r x) w:=by
 unfold gl;split
 ·exact Nat.two_pow_pos _
 ·exact h
theorem oB:gH r x w=true↔(1<=w/\w<=64)/\x.inc≠0/\x.seq≠0/\r.inc.toNat<=x.inc.toNat/\dt (gl r x) x.seq=false/\(x.seq.toNat:Int)<=(gl r x).pre.toNat+w:=by grind [gH,oJ,akC]
theorem ajZ(h:fC r w)(hw:w<=64)(h0:s≠0)(hs:dt r s=false)(hi:(s.toNat:Int)<=r.pre.toNat+w):
  fC (ko r s) w/\ ∀t,dt (ko r s) t=(dt r t||decide (t=s)):=by
 have e0:s.toNat≠0:=fun e=>h0 (UInt32.toNat_inj.1 e)
 have hgt:r.pre.toNat<s.toNat:=by
  refine Classical.byContradiction fun hc=>?_
  rw[fc.2 ⟨e0,.inl (by omega)⟩]at hs
  cases hs
 have hsl:=s.toNat_lt;have hk:rwBit r s<min w.toNat (4294967295-r.pre.toNat):=by unfold rwBit;omega
 have hk64:rwBit r s<64:=by unfold rwBit;omega
 have hp:2^rwBit r s<2^64:=Nat.pow_lt_pow_right (by omega) hk64
 have eb:(ko r s).bits.toNat=r.bits.toNat ||| 2^rwBit r s:=by
  show(r.bits ||| UInt64.ofNat (2^rwBit r s)).toNat=_;rw[UInt64.toNat_or,UInt64.toNat_ofNat_of_lt' hp]
 refine⟨?_,fun t=>?_⟩
 ·unfold fC at h ⊢;rw[eb];exact Nat.or_lt_two_pow h (Nat.pow_lt_pow_right (by omega) hk)
 ·rw [Bool.eq_iff_iff,fc,Bool.or_eq_true,fc,eb,Nat.testBit_or,Nat.testBit_two_pow];have e1:rwBit (ko r s) t=rwBit r t:=rfl;have e2:(ko r s).pre=r.pre:=rfl;rw[e1,e2,decide_eq_true_eq];constructor
  ·rintro⟨g1,g2|⟨g3,g4⟩⟩
   ·exact .inl ⟨g1,.inl g2⟩
   ·rw[Bool.or_eq_true]at g4;rcases g4 with g5|g5
    ·exact .inl ⟨g1,.inr ⟨g3,g5⟩⟩
    ·by_cases g6:t.toNat<=r.pre.toNat
     ·exact .inl ⟨g1,.inl g6⟩
     ·refine .inr (UInt32.toNat_inj.1 ?_);have g7:=of_decide_eq_true g5;unfold rwBit at g7;omega
  ·rintro(⟨g1,g2|⟨g3,g4⟩⟩|rfl)
   ·exact⟨g1,.inl g2⟩
   ·exact⟨g1,.inr ⟨g3,by rw[g4];rfl⟩⟩
   ·exact⟨e0,.inr ⟨hk64,by simp⟩⟩
theorem ajS(h:r.inc.toNat<=x.inc.toNat):(gl r x).inc=x.inc:=by grind [gl,UInt16.toNat_inj]
theorem aiz(h:fC r w)(hm:gH r x w=true):(cS r x w).2=true/\(cS r x w).1.inc=x.inc/\fC (cS r x w).1 w/\(cS r x w).1.bits.toNat % 2=0/\
  ∀s,dt (cS r x w).1 s=(dt (gl r x) s||decide (s=x.seq)):=by
 obtain⟨h1,h2,h3,h4,h5,h6⟩:=oB.1 hm;obtain⟨g1,g2⟩:=ajZ (ai8 (x:=x) h) h1.2 h3 h5 h6;obtain⟨k1,k2,k3,k4⟩:=vj 64 _ g1;unfold cS;rw[if_pos hm];refine⟨rfl,?_,k2,k4 (UInt64.toNat_lt _),fun s=>(k3 s).trans (g2 s)⟩
 rw[k1];exact ajS h4
theorem xg(hw:1<=w/\w<=64)(h:l_ r w=true):l_ (cS r x w).1 w=true:=by grind [gH,cS,aiz,aan,iW,oB]
end
def pHas(l:List GAsk)(x:GID):Bool:=l.any fun a=>decide (a.id=x)
def pAt(l:List GAsk)(x:GAsk):Nat:=(l.findIdx? fun a=>x.id.less a.id).getD l.length
def pIns(l:List GAsk)(x:GAsk):List GAsk:=l.take (pAt l x)++[x]++l.drop (pAt l x)
def pErr(l:List GAsk)(x:GAsk)(most:Int):Int:=
 if x.left=0 then 2 else if pHas l x.id=true then 150 else if most<=(l.length:Int)then 52 else 0
def pAdd(l:List GAsk)(x:GAsk)(most:Int):List GAsk:=if pErr l x most=0 then pIns l x else l
def pDrop(l:List GAsk)(x:GID):List GAsk:=l.filter fun a=> !decide (a.id=x)
def GAsk.less1(a:GAsk):GAsk:=⟨a.id,a.frm,a.left-1⟩
def pTick(l:List GAsk):List GAsk:=(l.filter fun a=> !decide (a.left.toNat<=1)).map GAsk.less1
def pGone(l:List GAsk):List GID:=(l.filter fun a=>decide (a.left.toNat<=1)).map GAsk.id
theorem arx(l:List GAsk)(x:GAsk):pAt l x<=l.length:=by
 unfold pAt;cases h:l.findIdx? fun a=>x.id.less a.id with
 |none=>simp
 |some i=>
  obtain⟨hi,_⟩:=List.findIdx?_eq_some_iff_getElem.1 h;simp;omega
