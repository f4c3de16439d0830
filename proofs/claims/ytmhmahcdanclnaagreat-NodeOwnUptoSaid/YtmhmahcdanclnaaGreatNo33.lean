import Derived.Test.YtmhmahcdanclnaaGreatNo29
set_option linter.unusedSectionVars false
set_option linter.unusedSimpArgs false
set_option linter.unusedVariables false
set_option maxRecDepth 10000
set_option maxHeartbeats 4000000
namespace Go.Eng
def mUp(m:au):Bool:=decide (m.state=1)||decide (m.state=2)
def mQ(m:au):au:=if m.quiet<255 then { m with quiet:=m.quiet+1 }else m
def pn(after:Int)(m:au):Bool:=decide (m.state=1)&&decide (after<=(m.quiet.toNat:Int))
def mTk(self:UInt8)(after:Int)(i:Nat)(m:au):au:=if i=self.toNat\/mUp m=false then m else if pn after (mQ m)=true then { mQ m with state:=2 }else mQ m
def jz(l:List au)(self:UInt8)(after:Int):List au:=l.mapIdx (mTk self after)
def vW(l:List au)(self:UInt8)(after:Int)(i:Nat):List UInt8:=match l[i]? with
 |some m=>if i=self.toNat\/mUp m=false then []else if pn after (mQ m)=true then [UInt8.ofNat i]else []
 |none=>[]
def gTick(l:List au)(self:UInt8)(after:Int):Nat->List UInt8
 |0=>[]
 |k+1=>gTick l self after k++vW l self after k
def fx(l:List au)(self:UInt8)(after:Int)(k:Nat):List au:=l.mapIdx fun i x=>if i<k then mTk self after i x else x
theorem ani{l:List au}{self:UInt8}{after:Int}:fx l self after 0=l:=by
 apply List.ext_getElem?;intro i;rw[fx,List.getElem?_mapIdx];cases l[i]? <;>rfl
theorem ag7{l:List au}{self:UInt8}{after:Int}:fx l self after l.length=jz l self after:=by
 apply List.ext_getElem?;intro i;rw[fx,jz,List.getElem?_mapIdx,List.getElem?_mapIdx];cases h:l[i]? with
 |none=>rfl
 |some x=>simp[(List.getElem?_eq_some_iff.1 h).1]
theorem vP{l:List au}{self:UInt8}{after:Int}{k:Nat}:(fx l self after k).length=l.length:=by simp[fx]
theorem agP{l:List au}{self:UInt8}{after:Int}{k:Nat}(h:k<l.length):(fx l self after k)[k]? =some l[k]:=by grind [fx]
theorem ah8{l:List au}{self:UInt8}{after:Int}{k:Nat}(h:k<l.length):(fx l self after k).set k (mTk self after k l[k])=fx l self after (k+1):=by
 apply List.ext_getElem?;intro i;rw[List.getElem?_set]
 by_cases e:k=i
 ·subst e;rw[if_pos rfl,if_pos (by rw[vP];exact h),fx,List.getElem?_mapIdx,List.getElem?_eq_getElem h];simp
 ·rw[if_neg e,fx,fx,List.getElem?_mapIdx,List.getElem?_mapIdx];cases l[i]? with
  |none=>rfl
  |some x=>
   simp only[Option.map_some]
   by_cases h2:i<k
   ·rw[if_pos h2,if_pos (by omega)]
   ·rw[if_neg h2,if_neg (by omega)]
theorem pg{α:Type}{l:List α}{k:Nat}{x:α}(h:l[k]? =some x):l.set k x=l:=by grind [List.getElem?_eq_some_iff,List.set_getElem_self]
theorem uJ(l:List au)(self:UInt8)(after:Int): ∀k,(gTick l self after k).length<=k
 |0=>Nat.le_refl _
 | k+1=>by
  have ih:=uJ l self after k
  have:(vW l self after k).length<=1:=by
   unfold vW;split
   ·split
    ·simp
    ·split<;>simp
   ·simp
  rw[gTick,List.length_append];omega
def jQ(r:ep):ep:=⟨r.hs,r.hp,if r.hs=true then r.succ.older else zDesc,if r.hp=true then r.pred.older else zDesc⟩
end Go.Eng
namespace Go.Proofs.YtmhmahcdanclnaaGreat.V
open Go.Eng
attribute [local go_sem] zDesc aS ah fzD plR ba aL aR aC aE ak az aU z8 z16 z32 z64 encMg a_ b_ List.map_cons List.map_nil
theorem abu(m:au):Con2 Tryz.prog 277 [.agg (aR m)] (· =plR (.v (.bool (mUp m)))):=by
 have e1:((m.state.toNat:Int)==1)=decide (m.state=1):=ch m.state 1;have e2:((m.state.toNat:Int)==2)=decide (m.state=2):=ch m.state 2;refine en_ Tryz.func277 [.tmp 2] (g2_ ?_);refine gg_ e1 e2 ?_
 by_cases h:m.state=1
 ·have e:mUp m=true:=by simp[mUp,h]
  rw[decide_eq_true h,e];refine g2_ ?_;exact⟨_,rfl,aa [] ws_⟩
 ·have e:mUp m=decide (m.state=2):=by simp[mUp,h]
  rw[decide_eq_false h,e];refine gf_ e2 ?_;exact⟨_,rfl,aa [] (wf_ e2)⟩
theorem qh(d:GDesc)(hd:d.filter.length<=4000000):Con2 Tryz.prog 276 [.agg (ah d)] (· =plR (.agg (ah d.older))):=by
 refine Con2.ofEmb ?_;have hc:Con2 Tryz.prog 170 [fzD [d]] (· =plR (fzD [d.older])):=iV (o3 [d] ⟨by simp,by simp[hd]⟩)
 generalize d.older=e at hc;refine en_ Tryz.func276 [.cell 2 34] (g2_ ?_);refine g2_ ?_;refine cw_ hc (gx_ ?_);rw[show(((1:Nat):Int)==1)=true from rfl]
 refine gf_ @List.getElem?_cons_zero.{0} ?_;refine ae ?_ rfl;exact ws_
theorem aed(r:ep)(h1:r.succ.filter.length<=4000000)(h2:r.pred.filter.length<=4000000):Con2 Tryz.prog 171 [.agg (a_ r)] (· =plR (.agg (a_ (jQ r)))):=by
 refine Con2.ofEmb ?_;have k1:=qh r.succ h1;have k2:=qh r.pred h2;obtain⟨a,b,s,p⟩:=r;unfold jQ;simp only at k1 k2 ⊢;generalize s.older=s' at k1;generalize p.older=p' at k2;refine en_ Tryz.func171 [.cell 2 36] (g2_ ?_);refine g2_ ?_;cases a with
 | true=>
  refine g2_ ?_;refine cw_ k1 (g2_ ?_);cases b with
  |true=>
   refine g2_ ?_;refine cw_ k2 (g2_ ?_);refine ae ?_ rfl;exact wx_
  |false=>
   refine g2_ ?_;refine ae ?_ rfl;exact wx_
 | false=>
  refine g2_ ?_;cases b with
  |true=>
   refine g2_ ?_;refine cw_ k2 (g2_ ?_);refine ae ?_ rfl;exact wx_
  |false=>
   refine g2_ ?_;refine ae ?_ rfl;exact wx_
theorem aih(l:List au)(self:UInt8)(after:Int)(hl:l.length<=256):Con2 Tryz.prog 172 [.fz 3 (l.map aR),.v (.int .u8 self.toNat),.v (.int .i64 after)] (· =plR (.tup [.fz 3 ((jz l self after).map aR),.fz 1 ((gTick l self after l.length).map aA)])):=by
 refine Con2.ofEmb ?_;have hcl:=gx (l.map aR) (by rw[List.length_map];omega)
 refine en_ Tryz.func172 [.tmp 6,.tmp 7] (g2_ ?_);refine g2_ ?_;refine cw_ hcl (gx_ ?_);refine aq l.length (fun k=>[(9,.d (.rf 1 0 (gTick l self after k).length))]) (fun _=>[]) (fun k=>[(1,.arr 5 1 ((gTick l self after k).map aA) false),(0,.arr 127 3 ((fx l self after k).map aR) false)]) 2 (fun _=>True) (aa [(1,.nil 1),(0,.to 0)] ?_) trivial (fun g k=>ws_) (by omega) (fun g=>ws_) (fun k hk _=>?_) (fun _=>?_)
 ·refine gf_ (c2_ @ani @gTick.eq_1) ?_
  first|done|rfl|exact⟨rfl,rfl⟩
 ·have hgl:=uJ l self after k;have hself:=self.toNat_lt;have hk8:(UInt8.ofNat k).toNat=k:=by rw[UInt8.toNat_ofNat'];omega
  have hg2:gTick l self after (k+1)=gTick l self after k++vW l self after k:=rfl;have hmg:vW l self after k=if k=self.toNat\/mUp l[k]=false then []else if pn after (mQ l[k])=true then [UInt8.ofNat k]else []:=by rw[vW,List.getElem?_eq_getElem hk]
  have hmt:mTk self after k l[k]=if k=self.toNat\/mUp l[k]=false then l[k]else if pn after (mQ l[k])=true then { mQ l[k]with state:=2 }else mQ l[k]:=rfl
  have hho:=abu l[k];have q1:((fx l self after k).map aR)[k]? =some (aR l[k]):=by rw[List.getElem?_map,agP hk];rfl
  have q3:((fx l self after k).map aR).length=l.length:=by rw[List.length_map,vP]
  have q4: ∀m',mTk self after k l[k]=m'->((fx l self after k).map aR).set k (aR m')=(fx l self after (k+1)).map aR:=fun m' h=>by
   rw[<-ah8 hk,List.map_set,h]
  generalize (fx l self after k).map aR=R at q1 q3 q4;have q5: ∀v,(R.set k v)[k]? =some v:=fun v=>by rw[List.getElem?_set_self (by omega)]
  have q7:R.set k (aR l[k])=R:=pg q1;rw[hmg]at hg2;rw[hmt]at q4;generalize l[k]=m at hho q1 q4 q7 hg2;generalize gTick l self after k=G at hg2 hgl;have hqq:=m.quiet.toNat_lt;have es:((m.state.toNat:Int)==1)=decide (m.state=1):=ch m.state 1;simp only[aR]at q1;refine gg_ q1 q3 ?_
  by_cases e1:k=self.toNat
  ·have e:m=(if k=self.toNat\/mUp m=false then m else if pn after (mQ m)=true then { mQ m with state:=2 }else mQ m):=(if_pos (.inl e1)).symm
   have hR2:=(q4 m e.symm).symm.trans q7;rw[if_pos (.inl e1),List.append_nil]at hg2;rw[show((k:Int)==(self.toNat:Int))=true by rw[e1];exact beq_self_eq_true _]
   refine g2_ ?_;refine⟨k+1,aa [(1,.to 1),(0,.to 0)] ?_,rfl⟩;exact wg_ hg2 hR2
  ·rw [show((k:Int)==(self.toNat:Int))=false from beq_eq_false_iff_ne.2 (by omega)]
   refine gg_ q1 q3 ?_;refine cw_ hho ?_;cases e2:mUp m with
   |false=>
    have e:m=(if k=self.toNat\/mUp m=false then m else if pn after (mQ m)=true then { mQ m with state:=2 }else mQ m):=(if_pos (.inr e2)).symm
    have hR2:=(q4 m e.symm).symm.trans q7;rw[if_pos (.inr e2),List.append_nil]at hg2;refine g2_ ?_;refine⟨k+1,aa [(1,.to 1),(0,.to 0)] ?_,rfl⟩;exact wg_ hg2 hR2
   | true=>
    have en: ¬(k=self.toNat\/mUp m=false):=by simp[e1,e2]
    rw[if_neg en]at hg2;rw[if_neg en]at q4;refine gg_ q1 q3 ?_
    by_cases e3:(m.quiet.toNat:Int)<255
    ·have eq3:m.quiet<255:=(iN _ _).1 e3
     have eqq:((m.quiet+1).toNat:Int)=(m.quiet.toNat:Int)+1:=by
      rw[UInt8.toNat_add];have:(1:UInt8).toNat=1:=rfl;omega
     have em:mQ m={ m with quiet:=m.quiet+1 }:=if_pos eq3;rw[em]at hg2 q4;simp only[pn,eqq]at hg2 q4;rw[decide_eq_true e3];refine gg_ q1 q3 ?_;refine gF (by omega) ?_
     refine gf_ (c4_ q1 q3 q5 es) ?_
     by_cases s1:m.state=1
     ·rw[decide_eq_true s1];refine gf_ (c4_ q1 q3 q5 es) ?_
      by_cases s2:after<=(m.quiet.toNat:Int)+1
      ·have e9:(decide (m.state=1)&&decide (after<=(m.quiet.toNat:Int)+1))=true:=by rw[decide_eq_true s1,decide_eq_true s2];rfl
       rw[if_pos e9]at hg2;rw[if_pos e9]at q4;have hR2:=(q4 _ rfl).symm;simp only[aR,eqq,show((UInt8.toNat 2:Nat):Int)=2 from rfl]at hR2
       rw[decide_eq_true s2];refine gf_ (c4_ q1 q3 q5 (c2_ es @List.set_set.{0})) ?_;rw[show decide ((k:Int)<256)=true from decide_eq_true (by omega)]
       refine g2_ ?_;refine gF (by omega) ?_
       refine gx_ ?_;refine⟨k+1,aa [(1,.to 3),(0,.to 0)] ?_,rfl⟩;refine x1_ (c3_ hg2 hR2 hk8) ?_;rw[show aA (UInt8.ofNat k)=[.v (.int .u8 (k:Int))]by rw[aA,hk8]]
      ·have e9: ¬(decide (m.state=1)&&decide (after<=(m.quiet.toNat:Int)+1))=true:=by rw[decide_eq_false s2];simp
       rw[if_neg e9,List.append_nil]at hg2;rw[if_neg e9]at q4;have hR2:=(q4 _ rfl).symm;simp only[aR,eqq]at hR2
       skip
       rw[decide_eq_false s2];refine g2_ ?_;refine⟨k+1,aa [(1,.to 1),(0,.to 0)] ?_,rfl⟩;exact wg_ hg2 hR2
     ·have e9: ¬(decide (m.state=1)&&decide (after<=(m.quiet.toNat:Int)+1))=true:=by rw[decide_eq_false s1];simp
      rw[if_neg e9,List.append_nil]at hg2;rw[if_neg e9]at q4;have hR2:=(q4 _ rfl).symm;simp only[aR,eqq]at hR2
      skip
      rw[decide_eq_false s1];refine g2_ ?_;refine⟨k+1,aa [(1,.to 1),(0,.to 0)] ?_,rfl⟩;exact wg_ hg2 hR2
    ·have em:mQ m=m:=if_neg (fun h=>e3 ((iN _ _).2 h))
     rw[em]at hg2 q4;rw[decide_eq_false e3];refine gf_ (c4_ q1 q3 q5 es) ?_;have eqq:True:=trivial
     by_cases s1:m.state=1
     ·rw[decide_eq_true s1];refine gf_ (c4_ q1 q3 q5 es) ?_
      by_cases s2:after<=(m.quiet.toNat:Int)
      ·have e9:pn after m=true:=by simp[pn,s1,s2]
       rw[if_pos e9]at hg2;rw[if_pos e9]at q4;have hR2:=(q4 _ rfl).symm;simp only[aR,eqq,show((UInt8.toNat 2:Nat):Int)=2 from rfl]at hR2
       rw[decide_eq_true s2];refine gf_ (c4_ q1 q3 q5 (c2_ es @List.set_set.{0})) ?_;rw[show decide ((k:Int)<256)=true from decide_eq_true (by omega)]
       refine g2_ ?_;refine gF (by omega) ?_
       refine gx_ ?_;refine⟨k+1,aa [(1,.to 3),(0,.to 0)] ?_,rfl⟩;refine x1_ (c3_ hg2 hR2 hk8) ?_;rw[show aA (UInt8.ofNat k)=[.v (.int .u8 (k:Int))]by rw[aA,hk8]]
      ·have e9: ¬pn after m=true:=by simp[pn];omega
       rw[if_neg e9,List.append_nil]at hg2;rw[if_neg e9]at q4;have hR2:=(q4 _ rfl).symm;simp only[aR,eqq]at hR2;rw[show R.set k [.v (.int .u16 m.inc.toNat),.v (.int .u8 m.state.toNat),.v (.int .u8 m.quiet.toNat)]=R from pg q1]at hR2
       rw[decide_eq_false s2];refine g2_ ?_;refine⟨k+1,aa [(1,.to 1),(0,.to 0)] ?_,rfl⟩;exact wg_ hg2 hR2
     ·have e9: ¬pn after m=true:=by simp[pn,s1]
      rw[if_neg e9,List.append_nil]at hg2;rw[if_neg e9]at q4;have hR2:=(q4 _ rfl).symm;simp only[aR,eqq]at hR2;rw[show R.set k [.v (.int .u16 m.inc.toNat),.v (.int .u8 m.state.toNat),.v (.int .u8 m.quiet.toNat)]=R from pg q1]at hR2
      rw[decide_eq_false s1];refine g2_ ?_;refine⟨k+1,aa [(1,.to 1),(0,.to 0)] ?_,rfl⟩;exact wg_ hg2 hR2
 ·rw[ag7];have ht:(jz l self after).length=l.length:=by simp[jz]
  refine g2_ ?_;refine ae ?_ rfl;refine gf_ ht ?_;rw[List.take_of_length_le (by rw[List.length_map,ht];exact Nat.le_refl _)]
