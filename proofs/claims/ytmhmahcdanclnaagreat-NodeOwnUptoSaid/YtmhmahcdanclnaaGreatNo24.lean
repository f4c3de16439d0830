import Derived.Test.YtmhmahcdanclnaaGreatNo23
set_option linter.unusedSectionVars false
set_option linter.unusedSimpArgs false
set_option linter.unusedVariables false
set_option maxRecDepth 10000
namespace Go.Eng
def ft(r:GRow)(w:Int):Prop:=r.bits.toNat<2^(min w.toNat (4294967295-r.pre.toNat))
section
variable {r:GRow} {s:UInt32} {x y:GID} {w:Int}
theorem fX:dL r s=true↔s.toNat≠0/\(s.toNat<=r.pre.toNat\/(rwBit r s<64/\r.bits.toNat.testBit (rwBit r s)=true)):=by
 have e:s=0↔s.toNat=0:=by rw[<-UInt32.toNat_inj];rfl
 unfold dL
 by_cases h:s=0
 ·simp[h]
 ·rw[if_neg h];have:=mt e.2 h
  by_cases h2:s.toNat<=r.pre.toNat
  ·simp[h2,this]
  ·simp[h2,this]
theorem kB(h:ft r w)(hb:r.bits.toNat % 2=1):(r.pre+1).toNat=r.pre.toNat+1/\(UInt64.ofNat (r.bits.toNat / 2)).toNat=r.bits.toNat / 2/\r.pre.toNat<4294967295/\0<w.toNat:=by
 unfold ft at h
 have hp:0<min w.toNat (4294967295-r.pre.toNat):=by
  refine Nat.pos_of_ne_zero fun e=>?_
  rw[e]at h;simp at h;omega
 have h1:=r.pre.toNat_lt;have h2:=r.bits.toNat_lt;refine⟨?_,UInt64.toNat_ofNat_of_lt' (Nat.lt_of_le_of_lt (Nat.div_le_self _ _) h2),by omega,by omega⟩
 rw[UInt32.toNat_add];show(r.pre.toNat+1) % _=_;omega
theorem acp(h:ft r w)(hb:r.bits.toNat % 2=1):ft ⟨r.inc,r.pre+1,UInt64.ofNat (r.bits.toNat / 2)⟩ w:=by
 obtain⟨h1,h2,h3,h4⟩:=kB h hb;unfold ft at h ⊢;simp only[h1,h2];have e:min w.toNat (4294967295-r.pre.toNat)=(min w.toNat (4294967295-r.pre.toNat)-1)+1:=by omega
 rw[e,Nat.pow_succ]at h;refine Nat.lt_of_lt_of_le (show r.bits.toNat / 2<2^(min w.toNat (4294967295-r.pre.toNat)-1)by omega) (Nat.pow_le_pow_right (by omega) (by omega))
theorem yo(h:ft r w)(hb:r.bits.toNat % 2=1):dL ⟨r.inc,r.pre+1,UInt64.ofNat (r.bits.toNat / 2)⟩ s=dL r s:=by
 obtain⟨h1,h2,h3,h4⟩:=kB h hb;rw[Bool.eq_iff_iff,fX,fX];simp only[rwBit,h1,h2];refine and_congr_right fun hs=>?_
 by_cases c1:s.toNat<=r.pre.toNat
 ·simp only[c1,true_or,iff_true];exact .inl (by omega)
 ·by_cases c2:s.toNat=r.pre.toNat+1
  ·have e:s.toNat-r.pre.toNat-1=0:=by omega
   rw[e,Nat.testBit_zero];simp[c2,hb]
  ·have e:s.toNat-r.pre.toNat-1=(s.toNat-(r.pre.toNat+1)-1)+1:=by omega
   rw[e,Nat.testBit_succ];have hl:=r.bits.toNat_lt;constructor
   ·rintro(h|⟨h5,h6⟩)
    ·omega
    ·refine .inr ⟨?_,h6⟩;refine Classical.byContradiction fun hc=>?_
     have h7:=Nat.ge_two_pow_of_testBit h6;have:2^63<=2^(s.toNat-(r.pre.toNat+1)-1):=Nat.pow_le_pow_right (by omega) (by omega)
     omega
   ·rintro(h|⟨h5,h6⟩)
    ·omega
    ·exact .inr ⟨by omega,h6⟩
theorem wE: ∀(n:Nat) (r:GRow),ft r w->(fM n r).inc=r.inc/\ft (fM n r) w/\(∀s,dL (fM n r) s=dL r s)/\(r.bits.toNat<2^n->(fM n r).bits.toNat % 2=0)
 |0,r,h=>⟨rfl,h,fun _=>rfl,fun h=>by simp[fM]at h ⊢; omega⟩
 | n+1,r,h=>by
  rw[fM]
  by_cases hb:r.bits.toNat % 2=1
  ·rw[if_pos hb];obtain⟨g1,g2,g3,g4⟩:=wE n _ (acp h hb);refine⟨g1,g2,fun s=>(g3 s).trans (yo h hb),fun hl=>g4 ?_⟩
   rw[(kB h hb).2.1];rw[Nat.pow_succ]at hl;omega
  ·rw[if_neg hb];exact⟨rfl,h,fun _=>rfl,fun _=>by omega⟩
theorem ama:oV w=true↔1<=w/\w<=64:=by simp[oV]
theorem iI(hw:1<=w/\w<=64):l6 r w=true↔(r.inc=0/\r=⟨0,0,0⟩)\/(r.inc≠0/\r.bits.toNat % 2=0/\ft r w):=by grind [l6,ama,ft]
theorem zC(hw:1<=w/\w<=64)(h:l6 r w=true):ft r w:=by
 rcases(iI hw).1 h with ⟨_,rfl⟩|⟨_,_,h⟩
 ·exact Nat.two_pow_pos _
 ·exact h
theorem amM(h:ft r w):ft (gI r x) w:=by
 unfold gI;split
 ·exact Nat.two_pow_pos _
 ·exact h
theorem vI:iJ r x w=true↔(1<=w/\w<=64)/\x.inc≠0/\x.seq≠0/\r.inc.toNat<=x.inc.toNat/\dL (gI r x) x.seq=false/\(x.seq.toNat:Int)<=(gI r x).pre.toNat+w:=by grind [iJ,oV,ak1]
theorem aiY(h:ft r w)(hw:w<=64)(h0:s≠0)(hs:dL r s=false)(hi:(s.toNat:Int)<=r.pre.toNat+w):
  ft (mq r s) w/\ ∀t,dL (mq r s) t=(dL r t||decide (t=s)):=by
 have e0:s.toNat≠0:=fun e=>h0 (UInt32.toNat_inj.1 e)
 have hgt:r.pre.toNat<s.toNat:=by
  refine Classical.byContradiction fun hc=>?_
  rw[fX.2 ⟨e0,.inl (by omega)⟩]at hs
  cases hs
 have hsl:=s.toNat_lt;have hk:rwBit r s<min w.toNat (4294967295-r.pre.toNat):=by unfold rwBit;omega
 have hk64:rwBit r s<64:=by unfold rwBit;omega
 have hp:2^rwBit r s<2^64:=Nat.pow_lt_pow_right (by omega) hk64
 have eb:(mq r s).bits.toNat=r.bits.toNat ||| 2^rwBit r s:=by
  show(r.bits ||| UInt64.ofNat (2^rwBit r s)).toNat=_;rw[UInt64.toNat_or,UInt64.toNat_ofNat_of_lt' hp]
 refine⟨?_,fun t=>?_⟩
 ·unfold ft at h ⊢;rw[eb];exact Nat.or_lt_two_pow h (Nat.pow_lt_pow_right (by omega) hk)
 ·rw [Bool.eq_iff_iff,fX,Bool.or_eq_true,fX,eb,Nat.testBit_or,Nat.testBit_two_pow];have e1:rwBit (mq r s) t=rwBit r t:=rfl;have e2:(mq r s).pre=r.pre:=rfl;rw[e1,e2,decide_eq_true_eq];constructor
  ·rintro⟨g1,g2|⟨g3,g4⟩⟩
   ·exact .inl ⟨g1,.inl g2⟩
   ·rw[Bool.or_eq_true]at g4;rcases g4 with g5|g5
    ·exact .inl ⟨g1,.inr ⟨g3,g5⟩⟩
    ·by_cases g6:t.toNat<=r.pre.toNat
     ·exact .inl ⟨g1,.inl g6⟩
     ·refine .inr (UInt32.toNat_inj.1 ?_);have g7:=of_decide_eq_true g5;unfold rwBit at g7;omega
  ·rintro(⟨g1,g2|⟨g3,g4⟩⟩|rfl)
   ·exact⟨g1,.inl g2⟩
   ·exact⟨g1,.inr ⟨g3,by rw[g4];rfl⟩⟩
   ·exact⟨e0,.inr ⟨hk64,by simp⟩⟩
theorem amh(h:r.inc.toNat<=x.inc.toNat):(gI r x).inc=x.inc:=by grind [gI,UInt16.toNat_inj]
theorem ahP(h:ft r w)(hm:iJ r x w=true):(cO r x w).2=true/\(cO r x w).1.inc=x.inc/\ft (cO r x w).1 w/\(cO r x w).1.bits.toNat % 2=0/\
  ∀s,dL (cO r x w).1 s=(dL (gI r x) s||decide (s=x.seq)):=by
 obtain⟨h1,h2,h3,h4,h5,h6⟩:=vI.1 hm;obtain⟨g1,g2⟩:=aiY (amM (x:=x) h) h1.2 h3 h5 h6;obtain⟨k1,k2,k3,k4⟩:=wE 64 _ g1;unfold cO;rw[if_pos hm];refine⟨rfl,?_,k2,k4 (UInt64.toNat_lt _),fun s=>(k3 s).trans (g2 s)⟩
 rw[k1];exact amh h4
theorem x8(hw:1<=w/\w<=64)(h:l6 r w=true):l6 (cO r x w).1 w=true:=by grind [iJ,cO,ahP,zC,iI,vI]
end
theorem jK{P:Program}{Q:Exit->DS->Prop}{ds:DS}{a b:Code}{c:Bool}(h1:c=true->vc2 P a Q ds)(h2:c=false->vc2 P b Q ds):gE P (.d (.v (.bool c))) a b Q ds:=by
 cases c with
 |true=>rw[kj];exact h1 rfl
 |false=>rw[jJ];exact h2 rfl
theorem alm{x:UInt16}:((x.toNat:Int)==65535)=decide (x=65535):=by
 have:=dW (x:=x) (y:=65535);exact this
def bE(c:ar)(p:af):af×Int:=
 if p.up=true then (p,54)else if p.inc=65535 then (p,55)else
  let q:=bF c p.node
  ({ q with inc:=p.inc+1,up:=true,table:=q.table.set p.node.toNat ⟨p.inc+1,1,0⟩ },0)
end Go.Eng
namespace Go.Proofs.YtmhmahcdanclnaaGreat.V
open Go.Eng
attribute [local go_sem] aS ah fzD plR ba aL aR aC aE ak az aU z8 z16 z32 z64 encMg
theorem rQ(c:ar)(p:af)(hp:okP p):Con2 Tryz.prog 47 [.agg (aE c),.agg (ak p)] (· =plR (.tup [.agg (ak (bE c p).1),.v (.int .i64 (bE c p).2)])):=by
 refine Con2.ofEmb ?_;refine en_ Tryz.func47 [.cell 4 49,.tmp 5] (g2_ ?_);refine g2_ ?_;refine jK (fun hu=>?_) (fun hu=>?_)
 ·have e:bE c p=(p,54):=by unfold bE;rw[if_pos hu]
  rw[e];refine g2_ ?_;refine ce_ (bp p hp) (g2_ ?_);refine ae ?_ rfl;exact ws_
 ·refine g2_ ?_;rw[alm];refine aZ (fun h2=>?_) (fun h2=>?_)
  ·have e:bE c p=(p,55):=by unfold bE;rw[if_neg (by simp[hu]),if_pos h2]
   rw[e];refine g2_ ?_;refine ce_ (bp p hp) (g2_ ?_);refine ae ?_ rfl;exact ws_
  ·refine g2_ ?_;have hC:=vE c p.node
   have e:bE c p=({ bF c p.node with inc:=p.inc+1,up:=true,table:=(bF c p.node).table.set p.node.toNat ⟨p.inc+1,1,0⟩ },0):=by
    unfold bE;rw[if_neg (by simp[hu]),if_neg h2]
   have hlen:(bF c p.node).table.length<=12:=by simp[bF];omega
   rw[e];generalize bF c p.node=q at hC hlen;refine ce_ hC (gx_ ?_)
   have hinc:p.inc.toNat<65535:=by
    have h3:=p.inc.toNat_lt;have:p.inc.toNat≠65535:=fun h=>h2 (by apply UInt16.toNat_inj.1;exact h)
    omega
   have hinc2:((p.inc+1:UInt16).toNat:Int)=(p.inc.toNat:Int)+1:=by
    rw[UInt16.toNat_add];have:(1:UInt16).toNat=1:=rfl;omega
   have hnode:=p.node.toNat_lt;refine rO (by omega) ?_
   refine gx_ ?_;refine aZ (fun h3=>?_) (fun h3=>?_)
   ·have h4:p.node.toNat<q.table.length:=by omega
    refine gf_ (mE_ h4) ?_;refine ae ?_ rfl
    repeat first|simp-implicitDefEqProofs only[go_sem,ab,List.map_set,hinc2,List.length_set,List.length_map,List.take_of_length_le (Nat.le_refl _)]|with_reducible refine gl_ ?_
    rw[List.take_of_length_le (by simp)]
    rfl
   ·rw[List.set_eq_of_length_le (by omega)]
    refine gx_ ?_;refine ae ?_ rfl;exact wg_ hinc2 @an
