import Derived.Test.YtmhmahcdanclnaaGreatNb43
set_option linter.unusedSectionVars false
set_option linter.unusedSimpArgs false
set_option linter.unusedVariables false
set_option maxRecDepth 10000
set_option maxHeartbeats 4000000
namespace Go.Eng
theorem aj2{P:Program}{T:TypeId}{y z:Operand}{Kv:Value->Prop}{k2:IntKind}{a n:Nat}{m:Int}(hm:m=n)(hn:n<=64):AtPure P (bp .shr T y z (.int .u64 a) (.int k2 m)) Kv=Kv (.int .u64 (a / 2^n:Nat)):=by
 subst hm;rw[nT (by omega),show min (Int.toNat (n:Int)) IntKind.u64.bits=n from by show min (Int.toNat (n:Int)) 64=n;simp;omega]
 congr 2
 have h2:(2:Int)^n=((2^n:Nat):Int):=by simp
 rw[h2,Int.fdiv_eq_ediv_of_nonneg _ (Int.natCast_nonneg _)];rfl
end Go.Eng
namespace Go.Proofs.YtmhmahcdanclnaaGreat.V
open Go.Eng
attribute [local go_sem] aS ah fzD plR a_ aO aQ aA aC ak aB aT z8 z16 z32 z64 encMg aL bP az dx SeqW2.eq_1
theorem adN(l:List GID)(hl:l.length<=4000000)(hu:Up GID.key l):Con2 Tryz.prog 181 [.fz 3 (l.map aL)] (· =plR (.v (.bool true))):=by
 have hp:=List.pairwise_iff_getElem.1 hu;refine en_ Tryz.func181 [.tmp 2] (g2_ ?_);refine g2_ ?_;refine bm (γ:=Nat) (fun j=>[(3,.d (.v (.int .i64 (j:Nat))))]) (fun _=>[]) (fun _=>[]) 0 (fun j=>1<=j) (fun j=>l.length+1-j) 1 (aa [] ?_) (Nat.le_refl _) (fun j hj=>?_)
 ·refine g2_ ?_
  first|done|rfl|exact⟨rfl,rfl⟩
 ·refine gx_ ?_;refine aV (fun h=>?_) (fun h=>?_)
  ·have h1:j<l.length:=by omega
   have h2:j-1<l.length:=by omega
   have hj1:((j:Nat):Int)-1=((j-1:Nat):Int):=by omega
   have hk:=nP l[j-1] l[j];have hlt:(l[j-1]).less l[j]=true:=decide_eq_true (hp (j-1) j h2 h1 (by omega))
   rw[hlt]at hk;refine g2_ ?_;refine .inl ⟨[oF 0,oF 1,oF 5,oF 6,oF 2,oF 7,oF 3,oF 8,oF 4,oF 9,oF 10],by kernel_rfl,gf_ (c3_ hj1 (mE_ h1) (mE_ h2)) ?_⟩
   refine ce_ hk (g2_ ?_);refine⟨j+1,aa [] ?_,by omega,by omega⟩
   refine g2_ ?_
   first|done|rfl|exact⟨rfl,rfl⟩
  ·refine g2_ ?_;exact⟨_,rfl,aa [] ws_⟩
theorem acO(b:ee)(hb:okB b)(h0:0<=b.room)(hl:(b.evs.length:Int)<=b.room)(hu:Up ahC b.evs):Con2 Tryz.prog 101 [.agg (dx b)] (· =plR (.v (.bool true))):=by
 have ki:=rG b hb;have kr:=adN (eIds b.evs) (by simp[eIds];exact hb.1) (List.pairwise_map.2 hu)
 refine en_ Tryz.func101 [.tmp 2] (g2_ ?_);refine g2_ ?_;rw[decide_eq_true h0];refine gx_ ?_;rw[decide_eq_true hl];refine g2_ ?_;refine cw_ ki (g2_ ?_);refine cw_ kr (g2_ ?_);exact⟨_,rfl,aa [] ws_⟩
theorem xY(l:List GAsk)(most:Int)(hl4:l.length<=4000000)(hl:(l.length:Int)<=most)(hu:Up ajY l)(h0: ∀a∈l,a.left≠0):Con2 Tryz.prog 102 [.fz 5 (l.map aT),.v (.int .i64 most)] (· =plR (.v (.bool true))):=by
 have hp:=List.pairwise_iff_getElem.1 hu;refine en_ Tryz.func102 [.tmp 4] (g2_ ?_);refine gx_ ?_;rw[decide_eq_false (show ¬most<(l.length:Int)by omega)]
 refine gx_ ?_;refine aq l.length (fun k=>[]) (fun _=>[]) (fun _=>[]) 0 (fun _=>True) (aa [] ?_) trivial (fun g k=>ws_) (by omega) (fun g=>ws_) (fun k hk _=>?_) (fun _=>?_)
 ·refine g2_ ?_
  first|done|rfl|exact⟨rfl,rfl⟩
 ·have hleft:=h0 _ (List.getElem_mem hk);have hne:((l[k].left.toNat:Int)==0)=false:=beq_eq_false_iff_ne.2 (fun h=>hleft (UInt8.toNat_inj.1 (by rw[show(0:UInt8).toNat=0 from rfl];omega)))
  refine gf_ (mE_ hk) ?_;refine .inl ⟨[oF 0,oF 1,oF 2,oF 3,oF 4,oF 5,oF 6,oF 7,oF 8,oF 13,oF 9,oF 14,oF 10,oF 11,oF 12,oF 15,oF 16,oF 17,oF 18],by kernel_rfl,gf_ (c2_ hne (mE_ hk)) ?_⟩
  by_cases h:(0:Int)<(k:Int)
  ·have h2:k-1<l.length:=by omega
   have hj1:((k:Nat):Int)-1=((k-1:Nat):Int):=by omega
   have hk1:=nP l[k-1].id l[k].id;have hlt:(l[k-1].id).less l[k].id=true:=decide_eq_true (hp (k-1) k h2 hk (by omega))
   rw[hlt]at hk1;rw[decide_eq_true h];refine gf_ (c2_ hj1 (mE_ h2)) ?_;refine ce_ hk1 (g2_ ?_);refine⟨k+1,aa [] ?_,rfl⟩;exact ws_
  ·rw[decide_eq_false h];refine g2_ ?_;refine⟨k+1,aa [] ?_,rfl⟩;exact ws_
 ·refine g2_ ?_;exact⟨_,rfl,aa [] ws_⟩
theorem pS(r:GRow)(w:Int)(hw:1<=w/\w<=64)(h:gH r w=true):Con2 Tryz.prog 103 [.agg (aA r),.v (.int .i64 w)] (· =plR (.v (.bool true))):=by
 have hv:=vz w;have hok:m8 w=true:=by unfold m8;simp[hw.1,hw.2]
 rw[hok]at hv;have hb:=r.bits.toNat_lt;have hpre:=r.pre.toNat_lt;refine en_ Tryz.func103 [.tmp 4] (g2_ ?_);refine g2_ ?_;refine cw_ hv (g2_ ?_);rcases(dW hw).1 h with ⟨h1,rfl⟩|⟨h1,h2,h3⟩
 ·refine g2_ ?_;exact⟨_,rfl,aa [] ws_⟩
 ·rw[show((r.inc.toNat:Int)==0)=false from beq_eq_false_iff_ne.2 (fun h=>h1 (UInt16.toNat_inj.1 (by rw[show(0:UInt16).toNat=0 from rfl];omega)))]
  obtain⟨U,hU⟩: ∃U,U=min w.toNat (4294967295-r.pre.toNat):=⟨_,rfl⟩;have hU64:U<=64:=by omega
  have h3:r.bits.toNat<2^U:=by rw[hU];exact h3
  refine g2_ ?_;refine gM (by omega) ?_
  refine g2_ ?_;refine gM (by omega) ?_
  refine g2_ ?_;refine gM (by omega) ?_
  refine g2_ ?_;rw[show(if 4294967295-(r.pre.toNat:Int)<w then 4294967295-(r.pre.toNat:Int)else w)=(U:Int)by split<;>omega]
  refine g2_ ?_;rw[sY hb];refine g2_ ?_;rw[show(((r.bits.toNat % 2:Nat):Int)==0)=true by rw[h2];rfl]
  refine g2_ ?_;rw[aj2 (n:=U) rfl hU64,Nat.div_eq_of_lt h3];refine g2_ ?_;refine⟨_,rfl,aa [] ?_⟩;refine g2_ ?_
  first|done|rfl
theorem xX(c:ao)(nd:UInt8)(p:af)(k:Int)(hc:aE c=true)(hB:Bd c nd p)(hE:Ew c p k):Con2 Tryz.prog 36 [.agg (aC c),.agg (ak p)] (· =plR (.v (.bool true))):=by
 have hr:=bZ hc;have hb:=gm hc;have hw:1<=c.window/\c.window<=64:=⟨hb.2.2.2.2.1,hb.2.2.2.2.2⟩;have k1:=ac_ c p hB.h.g hB.win;have k2:=acO p.buf hB.h.ok.evs (by rw[hE.bf.room];omega) (by rw[hE.bf.room];exact hE.bf.len) hE.bf.up
 have k3:=xY p.pulls c.pulls hB.h.ok.pulls hE.pk.len hE.pk.up hE.pk.left;have hrow:=hE.bf.room;have hroom:(p.buf.room !=c.buffer)=false:=by rw[hrow];exact bne_self_eq_false _
 have hrl:=hB.h.ok.rows;have hel:=hB.h.ok.evs.1;have hs:=hE.seq;refine en_ Tryz.func36 [.tmp 4] (g2_ ?_);refine g2_ ?_;refine cw_ k1 (g2_ ?_);refine cw_ k2 (gf_ hroom ?_);refine cw_ k3 (gx_ ?_);refine aq p.rows.length (fun j=>[]) (fun _=>[]) (fun _=>[]) 0 (fun _=>True) (aa [] ?_) trivial (fun g k=>ws_) (by omega) (fun g=>ws_) (fun j hj _=>?_) (fun _=>?_)
 ·refine g2_ ?_
  first|done|rfl|exact⟨rfl,rfl⟩
 ·have hrr:=hE.rows _ (List.getElem_mem hj);have q1:=pS p.rows[j] 64 (by decide) (wy hw hrr)
  have q2:=pS p.rows[j] c.window hw hrr;have hn:=p.node.toNat_lt;refine gf_ (mE_ hj) ?_;generalize p.rows[j]=r at q1 q2;refine cw_ q1 (g2_ ?_);cases h:((j:Int) !=(p.node.toNat:Int))with
  |false=>
   refine g2_ ?_;refine⟨j+1,aa [] ?_,rfl⟩;exact ws_
  |true=>
   refine g2_ ?_;refine cw_ q2 (g2_ ?_);refine⟨j+1,aa [] ?_,rfl⟩;exact ws_
 ·refine gx_ ?_;refine aq p.buf.evs.length (fun j=>[]) (fun _=>[]) (fun _=>[]) 0 (fun _=>True) (aa [] ?_) trivial (fun g k=>ws_) (by omega) (fun g=>ws_) (fun j hj _=>?_) (fun _=>?_)
  ·refine g2_ ?_
   first|done|rfl|exact⟨rfl,rfl⟩
  ·have he:=hE.bf.evs _ (List.getElem_mem hj);have hvl:=jK he.ok;have q1:=jH c.schema p.buf.evs[j] (by omega) (by omega) (by omega)
   rw[he.ok]at q1;have h2:=he.node;have h3:=he.seq;have hn:=p.buf.evs[j].id.bd;refine gf_ (mE_ hj) ?_;generalize p.buf.evs[j]=e at q1 h2 h3 hn;refine cw_ q1 (g2_ ?_);rw[decide_eq_false (show ¬c.nodes<=(e.id.node.toNat:Int)by omega)]
   refine g2_ ?_;rw[decide_eq_false (show ¬(c.last.toNat:Int)<(e.id.seq.toNat:Int)by omega)]
   refine g2_ ?_;refine⟨j+1,aa [] ?_,rfl⟩;exact ws_
  ·refine g2_ ?_;rw[decide_eq_true (show(p.seq.toNat:Int)<=(c.last.toNat:Int)by omega)]
   exact⟨_,rfl,aa [] ws_⟩
