import Derived.Test.YtmhmahcdanclnaaGreatNb23
set_option linter.unusedSectionVars false
set_option linter.unusedSimpArgs false
set_option linter.unusedVariables false
set_option maxRecDepth 10000
namespace Go.Eng
def fw(r:GRow)(w:Int):Prop:=r.bits.toNat<2^(min w.toNat (4294967295-r.pre.toNat))
section
variable {r:GRow} {s:UInt32} {x y:GID} {w:Int}
theorem f9:dE r s=true↔s.toNat≠0/\(s.toNat<=r.pre.toNat\/(rwBit r s<64/\r.bits.toNat.testBit (rwBit r s)=true)):=by
 have e:s=0↔s.toNat=0:=by rw[<-UInt32.toNat_inj];rfl
 unfold dE
 by_cases h:s=0
 ·simp[h]
 ·rw[if_neg h];have:=mt e.2 h
  by_cases h2:s.toNat<=r.pre.toNat
  ·simp[h2,this]
  ·simp[h2,this]
theorem lq(h:fw r w)(hb:r.bits.toNat % 2=1):(r.pre+1).toNat=r.pre.toNat+1/\(UInt64.ofNat (r.bits.toNat / 2)).toNat=r.bits.toNat / 2/\r.pre.toNat<4294967295/\0<w.toNat:=by
 unfold fw at h
 have hp:0<min w.toNat (4294967295-r.pre.toNat):=by
  refine Nat.pos_of_ne_zero fun e=>?_
  rw[e]at h;simp at h;omega
 have h1:=r.pre.toNat_lt;have h2:=r.bits.toNat_lt;refine⟨?_,UInt64.toNat_ofNat_of_lt' (Nat.lt_of_le_of_lt (Nat.div_le_self _ _) h2),by omega,by omega⟩
 rw[UInt32.toNat_add];show(r.pre.toNat+1) % _=_;omega
theorem adC(h:fw r w)(hb:r.bits.toNat % 2=1):fw ⟨r.inc,r.pre+1,UInt64.ofNat (r.bits.toNat / 2)⟩ w:=by
 obtain⟨h1,h2,h3,h4⟩:=lq h hb;unfold fw at h ⊢;simp only[h1,h2];have e:min w.toNat (4294967295-r.pre.toNat)=(min w.toNat (4294967295-r.pre.toNat)-1)+1:=by omega
 rw[e,Nat.pow_succ]at h;refine Nat.lt_of_lt_of_le (show r.bits.toNat / 2<2^(min w.toNat (4294967295-r.pre.toNat)-1)by omega) (Nat.pow_le_pow_right (by omega) (by omega))
theorem xR(h:fw r w)(hb:r.bits.toNat % 2=1):dE ⟨r.inc,r.pre+1,UInt64.ofNat (r.bits.toNat / 2)⟩ s=dE r s:=by
 obtain⟨h1,h2,h3,h4⟩:=lq h hb;rw[Bool.eq_iff_iff,f9,f9];simp only[rwBit,h1,h2];refine and_congr_right fun hs=>?_
 by_cases c1:s.toNat<=r.pre.toNat
 ·simp only[c1,true_or,iff_true];exact .inl (by omega)
 ·by_cases c2:s.toNat=r.pre.toNat+1
  ·have e:s.toNat-r.pre.toNat-1=0:=by omega
   rw[e,Nat.testBit_zero];simp[c2,hb]
  ·have e:s.toNat-r.pre.toNat-1=(s.toNat-(r.pre.toNat+1)-1)+1:=by omega
   rw[e,Nat.testBit_succ];have hl:=r.bits.toNat_lt;constructor
   ·rintro(h|⟨h5,h6⟩)
    ·omega
    ·refine .inr ⟨?_,h6⟩;refine Classical.byContradiction fun hc=>?_
     have h7:=Nat.ge_two_pow_of_testBit h6;have:2^63<=2^(s.toNat-(r.pre.toNat+1)-1):=Nat.pow_le_pow_right (by omega) (by omega)
     omega
   ·rintro(h|⟨h5,h6⟩)
    ·omega
    ·exact .inr ⟨by omega,h6⟩
theorem vE: ∀(n:Nat) (r:GRow),fw r w->(fY n r).inc=r.inc/\fw (fY n r) w/\(∀s,dE (fY n r) s=dE r s)/\(r.bits.toNat<2^n->(fY n r).bits.toNat % 2=0)
 |0,r,h=>⟨rfl,h,fun _=>rfl,fun h=>by simp[fY]at h ⊢; omega⟩
 | n+1,r,h=>by
  rw[fY]
  by_cases hb:r.bits.toNat % 2=1
  ·rw[if_pos hb];obtain⟨g1,g2,g3,g4⟩:=vE n _ (adC h hb);refine⟨g1,g2,fun s=>(g3 s).trans (xR h hb),fun hl=>g4 ?_⟩
   rw[(lq h hb).2.1];rw[Nat.pow_succ]at hl;omega
  ·rw[if_neg hb];exact⟨rfl,h,fun _=>rfl,fun _=>by omega⟩
theorem akv:m8 w=true↔1<=w/\w<=64:=by simp[m8]
theorem dW(hw:1<=w/\w<=64):gH r w=true↔(r.inc=0/\r=⟨0,0,0⟩)\/(r.inc≠0/\r.bits.toNat % 2=0/\fw r w):=by grind [gH,akv,fw]
theorem aaj(hw:1<=w/\w<=64)(h:gH r w=true):fw r w:=by
 rcases(dW hw).1 h with ⟨_,rfl⟩|⟨_,_,h⟩
 ·exact Nat.two_pow_pos _
 ·exact h
theorem ak0(h:fw r w):fw (gJ r x) w:=by
 unfold gJ;split
 ·exact Nat.two_pow_pos _
 ·exact h
theorem vi:iM r x w=true↔(1<=w/\w<=64)/\x.inc≠0/\x.seq≠0/\r.inc.toNat<=x.inc.toNat/\dE (gJ r x) x.seq=false/\(x.seq.toNat:Int)<=(gJ r x).pre.toNat+w:=by grind [iM,m8,ami]
theorem aj1(h:fw r w)(hw:w<=64)(h0:s≠0)(hs:dE r s=false)(hi:(s.toNat:Int)<=r.pre.toNat+w):
  fw (l5 r s) w/\ ∀t,dE (l5 r s) t=(dE r t||decide (t=s)):=by
 have e0:s.toNat≠0:=fun e=>h0 (UInt32.toNat_inj.1 e)
 have hgt:r.pre.toNat<s.toNat:=by
  refine Classical.byContradiction fun hc=>?_
  rw[f9.2 ⟨e0,.inl (by omega)⟩]at hs
  cases hs
 have hsl:=s.toNat_lt;have hk:rwBit r s<min w.toNat (4294967295-r.pre.toNat):=by unfold rwBit;omega
 have hk64:rwBit r s<64:=by unfold rwBit;omega
 have hp:2^rwBit r s<2^64:=Nat.pow_lt_pow_right (by omega) hk64
 have eb:(l5 r s).bits.toNat=r.bits.toNat ||| 2^rwBit r s:=by
  show(r.bits ||| UInt64.ofNat (2^rwBit r s)).toNat=_;rw[UInt64.toNat_or,UInt64.toNat_ofNat_of_lt' hp]
 refine⟨?_,fun t=>?_⟩
 ·unfold fw at h ⊢;rw[eb];exact Nat.or_lt_two_pow h (Nat.pow_lt_pow_right (by omega) hk)
 ·rw [Bool.eq_iff_iff,f9,Bool.or_eq_true,f9,eb,Nat.testBit_or,Nat.testBit_two_pow];have e1:rwBit (l5 r s) t=rwBit r t:=rfl;have e2:(l5 r s).pre=r.pre:=rfl;rw[e1,e2,decide_eq_true_eq];constructor
  ·rintro⟨g1,g2|⟨g3,g4⟩⟩
   ·exact .inl ⟨g1,.inl g2⟩
   ·rw[Bool.or_eq_true]at g4;rcases g4 with g5|g5
    ·exact .inl ⟨g1,.inr ⟨g3,g5⟩⟩
    ·by_cases g6:t.toNat<=r.pre.toNat
     ·exact .inl ⟨g1,.inl g6⟩
     ·refine .inr (UInt32.toNat_inj.1 ?_);have g7:=of_decide_eq_true g5;unfold rwBit at g7;omega
  ·rintro(⟨g1,g2|⟨g3,g4⟩⟩|rfl)
   ·exact⟨g1,.inl g2⟩
   ·exact⟨g1,.inr ⟨g3,by rw[g4];rfl⟩⟩
   ·exact⟨e0,.inr ⟨hk64,by simp⟩⟩
theorem alb(h:r.inc.toNat<=x.inc.toNat):(gJ r x).inc=x.inc:=by grind [gJ,UInt16.toNat_inj]
theorem ain(h:fw r w)(hm:iM r x w=true):(cH r x w).2=true/\(cH r x w).1.inc=x.inc/\fw (cH r x w).1 w/\(cH r x w).1.bits.toNat % 2=0/\
  ∀s,dE (cH r x w).1 s=(dE (gJ r x) s||decide (s=x.seq)):=by
 obtain⟨h1,h2,h3,h4,h5,h6⟩:=vi.1 hm;obtain⟨g1,g2⟩:=aj1 (ak0 (x:=x) h) h1.2 h3 h5 h6;obtain⟨k1,k2,k3,k4⟩:=vE 64 _ g1;unfold cH;rw[if_pos hm];refine⟨rfl,?_,k2,k4 (UInt64.toNat_lt _),fun s=>(k3 s).trans (g2 s)⟩
 rw[k1];exact alb h4
theorem xu(hw:1<=w/\w<=64)(h:gH r w=true):gH (cH r x w).1 w=true:=by grind [iM,cH,ain,aaj,dW,vi]
theorem wy(hw:1<=w/\w<=64)(h:gH r w=true):gH r 64=true:=by
 refine(dW (by omega)).2 ?_
 rcases(dW hw).1 h with h|⟨h1,h2,h3⟩
 ·exact .inl h
 ·refine .inr ⟨h1,h2,Nat.lt_of_lt_of_le h3 (Nat.pow_le_pow_right (by omega) ?_)⟩
  have:(64:Int).toNat=64:=rfl;omega
end
theorem jz{P:Program}{Q:Exit->DS->Prop}{ds:DS}{a b:Code}{c:Bool}(h1:c=true->vc2 P a Q ds)(h2:c=false->vc2 P b Q ds):gz P (.d (.v (.bool c))) a b Q ds:=by
 cases c with
 |true=>rw[kP];exact h1 rfl
 |false=>rw[jG];exact h2 rfl
theorem aiR{x:UInt16}:((x.toNat:Int)==65535)=decide (x=65535):=by
 have:=dQ (x:=x) (y:=65535);exact this
def bE(c:ao)(p:af):af×Int:=
 if p.up=true then (p,54)else if p.inc=65535 then (p,55)else
  let q:=bI c p.node
  ({ q with inc:=p.inc+1,up:=true,table:=q.table.set p.node.toNat ⟨p.inc+1,1,0⟩ },0)
end Go.Eng
namespace Go.Proofs.YtmhmahcdanclnaaGreat.V
open Go.Eng
attribute [local go_sem] aS ah fzD plR a_ aO aQ aA aC ak aB aT z8 z16 z32 z64 encMg
theorem qW(c:ao)(p:af)(hp:okP p):Con2 Tryz.prog 47 [.agg (aC c),.agg (ak p)] (· =plR (.tup [.agg (ak (bE c p).1),.v (.int .i64 (bE c p).2)])):=by
 refine Con2.ofEmb ?_;refine en_ Tryz.func47 [.cell 4 49,.tmp 5] (g2_ ?_);refine g2_ ?_;refine jz (fun hu=>?_) (fun hu=>?_)
 ·have e:bE c p=(p,54):=by unfold bE;rw[if_pos hu]
  rw[e];refine g2_ ?_;refine ce_ (bo p hp) (g2_ ?_);refine ae ?_ rfl;exact ws_
 ·refine g2_ ?_;rw[aiR];refine aV (fun h2=>?_) (fun h2=>?_)
  ·have e:bE c p=(p,55):=by unfold bE;rw[if_neg (by simp[hu]),if_pos h2]
   rw[e];refine g2_ ?_;refine ce_ (bo p hp) (g2_ ?_);refine ae ?_ rfl;exact ws_
  ·refine g2_ ?_;have hC:=uw c p.node
   have e:bE c p=({ bI c p.node with inc:=p.inc+1,up:=true,table:=(bI c p.node).table.set p.node.toNat ⟨p.inc+1,1,0⟩ },0):=by
    unfold bE;rw[if_neg (by simp[hu]),if_neg h2]
   have hlen:(bI c p.node).table.length<=12:=by simp[bI];omega
   rw[e];generalize bI c p.node=q at hC hlen;refine ce_ hC (gx_ ?_)
   have hinc:p.inc.toNat<65535:=by
    have h3:=p.inc.toNat_lt;have:p.inc.toNat≠65535:=fun h=>h2 (by apply UInt16.toNat_inj.1;exact h)
    omega
   have hinc2:((p.inc+1:UInt16).toNat:Int)=(p.inc.toNat:Int)+1:=by
    rw[UInt16.toNat_add];have:(1:UInt16).toNat=1:=rfl;omega
   have hnode:=p.node.toNat_lt;refine sx (by omega) ?_
   refine gx_ ?_;refine aV (fun h3=>?_) (fun h3=>?_)
   ·have h4:p.node.toNat<q.table.length:=by omega
    refine gf_ (mE_ h4) ?_;refine ae ?_ rfl
    repeat first|simp-implicitDefEqProofs only[go_sem,ab,List.map_set,hinc2,List.length_set,List.length_map,List.take_of_length_le (Nat.le_refl _)]|with_reducible refine gl_ ?_
    rw[List.take_of_length_le (by simp)]
    rfl
   ·rw[List.set_eq_of_length_le (by omega)]
    refine gx_ ?_;refine ae ?_ rfl;exact wg_ hinc2 @an
