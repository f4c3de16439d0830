import Derived.Test.YthoihfighiolmaaGreatPt33
set_option linter.unusedSectionVars false
set_option linter.unusedSimpArgs false
set_option linter.unusedVariables false
set_option maxRecDepth 10000
set_option maxHeartbeats 4000000
namespace Go.Eng
def mUp(m:an):Bool:=decide (m.state=1)||decide (m.state=2)
def mQ(m:an):an:=if m.quiet<255 then { m with quiet:=m.quiet+1 }else m
def gT(after:Int)(m:an):Bool:=decide (m.state=1)&&decide (after<=(m.quiet.toNat:Int))
def mTk(self:UInt8)(after:Int)(i:Nat)(m:an):an:=if i=self.toNat\/mUp m=false then m else if gT after (mQ m)=true then { mQ m with state:=2 }else mQ m
def fg(l:List an)(self:UInt8)(after:Int):List an:=l.mapIdx (mTk self after)
def lS(l:List an)(self:UInt8)(after:Int)(i:Nat):List UInt8:=match l[i]? with
 |some m=>if i=self.toNat\/mUp m=false then []else if gT after (mQ m)=true then [UInt8.ofNat i]else []
 |none=>[]
def gTick(l:List an)(self:UInt8)(after:Int):Nat->List UInt8
 |0=>[]
 |k+1=>gTick l self after k++lS l self after k
def dG(l:List an)(self:UInt8)(after:Int)(k:Nat):List an:=l.mapIdx fun i x=>if i<k then mTk self after i x else x
theorem abk{l:List an}{self:UInt8}{after:Int}:dG l self after 0=l:=by
 apply List.ext_getElem?;intro i;rw[dG,List.getElem?_mapIdx];cases l[i]? <;>rfl
theorem r8{l:List an}{self:UInt8}{after:Int}:dG l self after l.length=fg l self after:=by
 apply List.ext_getElem?;intro i;rw[dG,fg,List.getElem?_mapIdx,List.getElem?_mapIdx];cases h:l[i]? with
 |none=>rfl
 |some x=>simp[(List.getElem?_eq_some_iff.1 h).1]
theorem mU{l:List an}{self:UInt8}{after:Int}{k:Nat}:(dG l self after k).length=l.length:=by simp[dG]
theorem q_{l:List an}{self:UInt8}{after:Int}{k:Nat}(h:k<l.length):(dG l self after k)[k]? =some l[k]:=by grind [dG]
theorem rY{l:List an}{self:UInt8}{after:Int}{k:Nat}(h:k<l.length):(dG l self after k).set k (mTk self after k l[k])=dG l self after (k+1):=by
 apply List.ext_getElem?;intro i;rw[List.getElem?_set]
 by_cases e:k=i
 ·subst e;rw[if_pos rfl,if_pos (by rw[mU];exact h),dG,List.getElem?_mapIdx,List.getElem?_eq_getElem h];simp
 ·rw[if_neg e,dG,dG,List.getElem?_mapIdx,List.getElem?_mapIdx];cases l[i]? with
  |none=>rfl
  |some x=>
   simp only[Option.map_some]
   by_cases h2:i<k
   ·rw[if_pos h2,if_pos (by omega)]
   ·rw[if_neg h2,if_neg (by omega)]
theorem jW{α:Type}{l:List α}{k:Nat}{x:α}(h:l[k]? =some x):l.set k x=l:=by grind [List.getElem?_eq_some_iff,List.set_getElem_self]
theorem mK(l:List an)(self:UInt8)(after:Int): ∀k,(gTick l self after k).length<=k
 |0=>Nat.le_refl _
 | k+1=>by
  have ih:=mK l self after k
  have:(lS l self after k).length<=1:=by
   unfold lS;split
   ·split
    ·simp
    ·split<;>simp
   ·simp
  rw[gTick,List.length_append];omega
def c_(r:b9):b9:=⟨r.hs,r.hp,if r.hs=true then r.succ.older else zDesc,if r.hp=true then r.pred.older else zDesc⟩
end Go.Eng
namespace Go.Proofs.YthoihfighiolmaaGreat.V
open Go.Eng
attribute [local go_sem] zDesc aP af fzD plR bb a_ aE bj aC ak bk cR z8 z16 z32 z64 encMg aH dE List.map_cons List.map_nil
theorem xf(m:an):Con2 Tryz.prog 215 [.agg (aE m)] (· =plR (.v (.bool (mUp m)))):=by
 have e1:((m.state.toNat:Int)==1)=decide (m.state=1):=bt m.state 1;have e2:((m.state.toNat:Int)==2)=decide (m.state=2):=bt m.state 2;refine en_ Tryz.func215 [.tmp 2] (g2_ ?_);refine gg_ e1 e2 ?_
 by_cases h:m.state=1
 ·have e:mUp m=true:=by simp[mUp,h]
  rw[decide_eq_true h,e];refine g2_ ?_;exact⟨_,rfl,aa [] ws_⟩
 ·have e:mUp m=decide (m.state=2):=by simp[mUp,h]
  rw[decide_eq_false h,e];refine gf_ e2 ?_;exact⟨_,rfl,aa [] (wf_ e2)⟩
theorem nj(d:GDesc)(hd:d.filter.length<=4000000):Con2 Tryz.prog 214 [.agg (af d)] (· =plR (.agg (af d.older))):=by
 refine Con2.ofEmb ?_;have hc:Con2 Tryz.prog 113 [fzD [d]] (· =plR (fzD [d.older])):=ep (mW [d] ⟨by simp,by simp[hd]⟩)
 generalize d.older=e at hc;refine en_ Tryz.func214 [.cell 2 34] (g2_ ?_);refine g2_ ?_;refine cw_ hc (gx_ ?_);rw[show(((1:Nat):Int)==1)=true from rfl]
 refine gf_ @List.getElem?_cons_zero.{0} ?_;refine ae ?_ rfl;exact ws_
theorem aaO(r:b9)(h1:r.succ.filter.length<=4000000)(h2:r.pred.filter.length<=4000000):Con2 Tryz.prog 114 [.agg (aH r)] (· =plR (.agg (aH (c_ r)))):=by
 refine Con2.ofEmb ?_;have k1:=nj r.succ h1;have k2:=nj r.pred h2;obtain⟨a,b,s,p⟩:=r;unfold c_;simp only at k1 k2 ⊢;generalize s.older=s' at k1;generalize p.older=p' at k2;refine en_ Tryz.func114 [.cell 2 36] (g2_ ?_);refine g2_ ?_;cases a with
 | true=>
  refine g2_ ?_;refine cw_ k1 (g2_ ?_);cases b with
  |true=>
   refine g2_ ?_;refine cw_ k2 (g2_ ?_);refine ae ?_ rfl;exact wx_
  |false=>
   refine g2_ ?_;refine ae ?_ rfl;exact wx_
 | false=>
  refine g2_ ?_;cases b with
  |true=>
   refine g2_ ?_;refine cw_ k2 (g2_ ?_);refine ae ?_ rfl;exact wx_
  |false=>
   refine g2_ ?_;refine ae ?_ rfl;exact wx_
theorem ac8(l:List an)(self:UInt8)(after:Int)(hl:l.length<=256):Con2 Tryz.prog 115 [.fz 3 (l.map aE),.v (.int .u8 self.toNat),.v (.int .i64 after)] (· =plR (.tup [.fz 3 ((fg l self after).map aE),.fz 1 ((gTick l self after l.length).map aQ)])):=by
 refine Con2.ofEmb ?_;have hcl:=fS (l.map aE) (by rw[List.length_map];omega)
 refine en_ Tryz.func115 [.tmp 6,.tmp 7] (g2_ ?_);refine g2_ ?_;refine cw_ hcl (gx_ ?_);refine ay l.length (fun k=>[(9,.d (.rf 1 0 (gTick l self after k).length))]) (fun _=>[]) (fun k=>[(1,.arr 5 1 ((gTick l self after k).map aQ) false),(0,.arr 111 3 ((dG l self after k).map aE) false)]) 2 (fun _=>True) (aa [(1,.nil 1),(0,.to 0)] ?_) trivial (fun g k=>ws_) (by omega) (fun g=>ws_) (fun k hk _=>?_) (fun _=>?_)
 ·refine gf_ (c2_ @abk @gTick.eq_1) ?_
  first|done|rfl|exact⟨rfl,rfl⟩
 ·have hgl:=mK l self after k;have hself:=self.toNat_lt;have hk8:(UInt8.ofNat k).toNat=k:=by rw[UInt8.toNat_ofNat'];omega
  have hg2:gTick l self after (k+1)=gTick l self after k++lS l self after k:=rfl;have hmg:lS l self after k=if k=self.toNat\/mUp l[k]=false then []else if gT after (mQ l[k])=true then [UInt8.ofNat k]else []:=by rw[lS,List.getElem?_eq_getElem hk]
  have hmt:mTk self after k l[k]=if k=self.toNat\/mUp l[k]=false then l[k]else if gT after (mQ l[k])=true then { mQ l[k]with state:=2 }else mQ l[k]:=rfl
  have hho:=xf l[k];have q1:((dG l self after k).map aE)[k]? =some (aE l[k]):=by rw[List.getElem?_map,q_ hk];rfl
  have q3:((dG l self after k).map aE).length=l.length:=by rw[List.length_map,mU]
  have q4: ∀m',mTk self after k l[k]=m'->((dG l self after k).map aE).set k (aE m')=(dG l self after (k+1)).map aE:=fun m' h=>by
   rw[<-rY hk,List.map_set,h]
  generalize (dG l self after k).map aE=R at q1 q3 q4;have q5: ∀v,(R.set k v)[k]? =some v:=fun v=>by rw[List.getElem?_set_self (by omega)]
  have q7:R.set k (aE l[k])=R:=jW q1;rw[hmg]at hg2;rw[hmt]at q4;generalize l[k]=m at hho q1 q4 q7 hg2;generalize gTick l self after k=G at hg2 hgl;have hqq:=m.quiet.toNat_lt;have es:((m.state.toNat:Int)==1)=decide (m.state=1):=bt m.state 1;simp only[aE]at q1;refine gg_ q1 q3 ?_
  by_cases e1:k=self.toNat
  ·have e:m=(if k=self.toNat\/mUp m=false then m else if gT after (mQ m)=true then { mQ m with state:=2 }else mQ m):=(if_pos (.inl e1)).symm
   have hR2:=(q4 m e.symm).symm.trans q7;rw[if_pos (.inl e1),List.append_nil]at hg2;rw[show((k:Int)==(self.toNat:Int))=true by rw[e1];exact beq_self_eq_true _]
   refine g2_ ?_;refine⟨k+1,aa [(1,.to 1),(0,.to 0)] ?_,rfl⟩;exact wg_ hg2 hR2
  ·rw [show((k:Int)==(self.toNat:Int))=false from beq_eq_false_iff_ne.2 (by omega)]
   refine gg_ q1 q3 ?_;refine cw_ hho ?_;cases e2:mUp m with
   |false=>
    have e:m=(if k=self.toNat\/mUp m=false then m else if gT after (mQ m)=true then { mQ m with state:=2 }else mQ m):=(if_pos (.inr e2)).symm
    have hR2:=(q4 m e.symm).symm.trans q7;rw[if_pos (.inr e2),List.append_nil]at hg2;refine g2_ ?_;refine⟨k+1,aa [(1,.to 1),(0,.to 0)] ?_,rfl⟩;exact wg_ hg2 hR2
   | true=>
    have en: ¬(k=self.toNat\/mUp m=false):=by simp[e1,e2]
    rw[if_neg en]at hg2;rw[if_neg en]at q4;refine gg_ q1 q3 ?_
    by_cases e3:(m.quiet.toNat:Int)<255
    ·have eq3:m.quiet<255:=(dH _ _).1 e3
     have eqq:((m.quiet+1).toNat:Int)=(m.quiet.toNat:Int)+1:=by
      rw[UInt8.toNat_add];have:(1:UInt8).toNat=1:=rfl;omega
     have em:mQ m={ m with quiet:=m.quiet+1 }:=if_pos eq3;rw[em]at hg2 q4;simp only[gT,eqq]at hg2 q4;rw[decide_eq_true e3];refine gg_ q1 q3 ?_;refine dx (by omega) ?_
     refine gf_ (c4_ q1 q3 q5 es) ?_
     by_cases s1:m.state=1
     ·rw[decide_eq_true s1];refine gf_ (c4_ q1 q3 q5 es) ?_
      by_cases s2:after<=(m.quiet.toNat:Int)+1
      ·have e9:(decide (m.state=1)&&decide (after<=(m.quiet.toNat:Int)+1))=true:=by rw[decide_eq_true s1,decide_eq_true s2];rfl
       rw[if_pos e9]at hg2;rw[if_pos e9]at q4;have hR2:=(q4 _ rfl).symm;simp only[aE,eqq,show((UInt8.toNat 2:Nat):Int)=2 from rfl]at hR2
       rw[decide_eq_true s2];refine gf_ (c4_ q1 q3 q5 (c2_ es @List.set_set.{0})) ?_;rw[show decide ((k:Int)<256)=true from decide_eq_true (by omega)]
       refine g2_ ?_;refine dx (by omega) ?_
       refine gx_ ?_;refine⟨k+1,aa [(1,.to 3),(0,.to 0)] ?_,rfl⟩;refine x1_ (c3_ hg2 hR2 hk8) ?_;rw[show aQ (UInt8.ofNat k)=[.v (.int .u8 (k:Int))]by rw[aQ,hk8]]
      ·have e9: ¬(decide (m.state=1)&&decide (after<=(m.quiet.toNat:Int)+1))=true:=by rw[decide_eq_false s2];simp
       rw[if_neg e9,List.append_nil]at hg2;rw[if_neg e9]at q4;have hR2:=(q4 _ rfl).symm;simp only[aE,eqq]at hR2
       skip
       rw[decide_eq_false s2];refine g2_ ?_;refine⟨k+1,aa [(1,.to 1),(0,.to 0)] ?_,rfl⟩;exact wg_ hg2 hR2
     ·have e9: ¬(decide (m.state=1)&&decide (after<=(m.quiet.toNat:Int)+1))=true:=by rw[decide_eq_false s1];simp
      rw[if_neg e9,List.append_nil]at hg2;rw[if_neg e9]at q4;have hR2:=(q4 _ rfl).symm;simp only[aE,eqq]at hR2
      skip
      rw[decide_eq_false s1];refine g2_ ?_;refine⟨k+1,aa [(1,.to 1),(0,.to 0)] ?_,rfl⟩;exact wg_ hg2 hR2
    ·have em:mQ m=m:=if_neg (fun h=>e3 ((dH _ _).2 h))
     rw[em]at hg2 q4;rw[decide_eq_false e3];refine gf_ (c4_ q1 q3 q5 es) ?_;have eqq:True:=trivial
     by_cases s1:m.state=1
     ·rw[decide_eq_true s1];refine gf_ (c4_ q1 q3 q5 es) ?_
      by_cases s2:after<=(m.quiet.toNat:Int)
      ·have e9:gT after m=true:=by simp[gT,s1,s2]
       rw[if_pos e9]at hg2;rw[if_pos e9]at q4;have hR2:=(q4 _ rfl).symm;simp only[aE,eqq,show((UInt8.toNat 2:Nat):Int)=2 from rfl]at hR2
       rw[decide_eq_true s2];refine gf_ (c4_ q1 q3 q5 (c2_ es @List.set_set.{0})) ?_;rw[show decide ((k:Int)<256)=true from decide_eq_true (by omega)]
       refine g2_ ?_;refine dx (by omega) ?_
       refine gx_ ?_;refine⟨k+1,aa [(1,.to 3),(0,.to 0)] ?_,rfl⟩;refine x1_ (c3_ hg2 hR2 hk8) ?_;rw[show aQ (UInt8.ofNat k)=[.v (.int .u8 (k:Int))]by rw[aQ,hk8]]
      ·have e9: ¬gT after m=true:=by simp[gT];omega
       rw[if_neg e9,List.append_nil]at hg2;rw[if_neg e9]at q4;have hR2:=(q4 _ rfl).symm;simp only[aE,eqq]at hR2;rw[show R.set k [.v (.int .u16 m.inc.toNat),.v (.int .u8 m.state.toNat),.v (.int .u8 m.quiet.toNat)]=R from jW q1]at hR2
       rw[decide_eq_false s2];refine g2_ ?_;refine⟨k+1,aa [(1,.to 1),(0,.to 0)] ?_,rfl⟩;exact wg_ hg2 hR2
     ·have e9: ¬gT after m=true:=by simp[gT,s1]
      rw[if_neg e9,List.append_nil]at hg2;rw[if_neg e9]at q4;have hR2:=(q4 _ rfl).symm;simp only[aE,eqq]at hR2;rw[show R.set k [.v (.int .u16 m.inc.toNat),.v (.int .u8 m.state.toNat),.v (.int .u8 m.quiet.toNat)]=R from jW q1]at hR2
      rw[decide_eq_false s1];refine g2_ ?_;refine⟨k+1,aa [(1,.to 1),(0,.to 0)] ?_,rfl⟩;exact wg_ hg2 hR2
 ·rw[r8];have ht:(fg l self after).length=l.length:=by simp[fg]
  refine g2_ ?_;refine ae ?_ rfl;refine gf_ ht ?_;rw[List.take_of_length_le (by rw[List.length_map,ht];exact Nat.le_refl _)]
end Go.Proofs.YthoihfighiolmaaGreat.V
namespace Go.Eng
theorem af6(x:UInt16):((x.toNat:Int) !=0)= !decide (x=0):=jL x 0
theorem adm{m:an}{inc:UInt16}:fA inc m=if m.inc<inc\/(0<inc/\inc=m.inc/\m.state≠3)then ⟨inc,1,0⟩else m:=by
 unfold fA;congr 1;simp only[eq_iff_iff];grind
end Go.Eng
namespace Go.Proofs.YthoihfighiolmaaGreat.V
open Go.Eng
attribute [local go_sem] zDesc aP af fzD plR bb a_ aE bj aC ak bk cR z8 z16 z32 z64 encMg aH dE List.map_cons List.map_nil
theorem iK(l:List an)(hl:l.length<=4000000):Con2 Tryz.prog 153 [.fz 3 (l.map aE)] (· =bb 111 3 (l.map aE)):=by
 refine en_ Tryz.func153 [.tmp 2] (g2_ ?_);refine gx_ ?_;exact⟨_,rfl,aa [] wx_⟩
theorem uh(a b:an):Con2 Tryz.prog 230 [.agg (aE a),.agg (aE b)] (· =plR (.v (.bool (eo a b)))):=by
 refine en_ Tryz.func230 [.tmp 4] (g2_ ?_);refine g2_ ?_;rw[jL]
 by_cases h:a.inc=b.inc
 ·have e:eo a b=(!decide (a.inc=0)&&decide ((b.state.toNat:Int)<(a.state.toNat:Int))):=by
   rw[eo,if_neg (by simp[h])]
   have e1:decide (0<a.inc)= !decide (a.inc=0):=by
    rw[<-decide_not,decide_eq_decide,UInt16.lt_iff_toNat_lt, <-UInt16.toNat_inj];simp;omega
   rw[e1];simp only[dH]
  rw[e,decide_eq_true h];refine g2_ ?_;rw[af6]
  by_cases h2:a.inc=0
  ·rw[decide_eq_true h2];refine g2_ ?_;exact⟨_,rfl,aa [] (wf_ @Bool.false_and)⟩
  ·rw[decide_eq_false h2];refine g2_ ?_;exact⟨_,rfl,aa [] (wf_ @Bool.false_and)⟩
 ·have e:eo a b=decide ((b.inc.toNat:Int)<(a.inc.toNat:Int)):=by rw[eo,if_pos h];simp only[cZ]
  rw[e,decide_eq_false h];refine g2_ ?_;exact⟨_,rfl,aa [] ws_⟩
theorem yJ(n:Nat)(hn:n<=4000000):Con2 Tryz.prog 51 [.v (.int .i64 n)] (· =bb 111 3 ((List.replicate n (⟨0,0,0⟩:an)).map aE)):=by
 refine en_ Tryz.func51 [.tmp 2] (g2_ ?_);refine g2_ ?_;refine av (γ:=Nat) (fun i=>[(4,.d (.v (.int .i64 (i:Nat)))),(3,.d (.rf 0 0 i))]) (fun _=>[]) (fun i=>[(0,.arr 111 3 ((List.replicate i (⟨0,0,0⟩:an)).map aE) false)]) 1 (fun i=>i<=n) (fun i=>n-i) 0 (aa [(0,.nil 3)] ?_) (by omega) (fun i hi=>?_)
 ·repeat first|simp-implicitDefEqProofs only[go_sem,ab,List.replicate_zero]|with_reducible refine gl_ ?_
  repeat' (first|rfl|refine And.intro ?_ ?_)
 ·refine g2_ ?_;refine aq (fun h=>?_) (fun h=>?_)
  ·refine gx_ ?_;refine⟨i+1,aa [(0,.to 2)] ?_,by omega,by omega⟩
   repeat first|simp-implicitDefEqProofs only[go_sem,ab,List.replicate_succ',List.map_append,List.length_append]|with_reducible refine gl_ ?_
   try (repeat' (first|rfl|refine And.intro ?_ ?_))
  ·obtain rfl:i=n:=by omega
   refine g2_ ?_;exact⟨_,rfl,aa [] wx_⟩
theorem tJ(l:List an)(i:UInt8)(inc:UInt16)(hl:l.length<=4000000):Con2 Tryz.prog 76 [.fz 3 (l.map aE),.v (.int .u8 i.toNat),.v (.int .u16 inc.toNat)] (· =plR (.fz 3 ((cl l i inc).map aE))):=by
 refine Con2.ofEmb ?_;have hi:=i.toNat_lt;refine en_ Tryz.func76 [.tmp 6] (g2_ ?_);refine g2_ ?_;refine ce_ (iK l hl) (gx_ ?_);refine aq (fun h1=>?_) (fun h1=>?_)
 ·have e2:cl l i inc=l:=by rw[cl,List.modify_eq_self (by omega)]
  rw[e2];refine g2_ ?_;refine ae ?_ rfl
  repeat first|simp-implicitDefEqProofs only[go_sem,ab,List.length_map,aF]|with_reducible refine gl_ ?_
 ·have hk:i.toNat<l.length:=by omega
  have e2:cl l i inc=l.set i.toNat (fA inc l[i.toNat]):=by rw[cl,gU _ _ hk]
  rw[e2];have hsame:l.set i.toNat l[i.toNat]=l:=List.set_getElem_self hk;refine gf_ (mE_ hk) ?_;generalize l[i.toNat]=m at hsame;rw[adm];have put:(m.inc<inc\/(0<inc/\inc=m.inc/\m.state≠3))->(if m.inc<inc\/(0<inc/\inc=m.inc/\m.state≠3)then (⟨inc,1,0⟩:an)else m)=⟨inc,1,0⟩:=fun h=>if_pos h
  have no: ¬(m.inc<inc\/(0<inc/\inc=m.inc/\m.state≠3))->(if m.inc<inc\/(0<inc/\inc=m.inc/\m.state≠3)then (⟨inc,1,0⟩:an)else m)=m:=fun h=>if_neg h
  by_cases hD:m.inc<inc
  ·have hD2:(m.inc.toNat:Int)<(inc.toNat:Int):=(cZ _ _).2 hD;rw[put (.inl hD),decide_eq_true hD2];refine gf_ (mE_ hk) ?_;refine ae ?_ rfl;refine x0_ ?_;rw[List.take_of_length_le (by simp)]
  have hD2: ¬(m.inc.toNat:Int)<(inc.toNat:Int):=fun h=>hD ((cZ _ _).1 h)
  rw[decide_eq_false hD2];refine g2_ ?_;have same: ∀{K:an},K=m->l.set i.toNat K=l:=fun e=>by rw[e];exact hsame
  by_cases hB:(0:Int)<(inc.toNat:Int)
  ·have hB2:0<inc:=(cZ 0 inc).1 hB;rw[decide_eq_true hB];refine g2_ ?_;rw[d4]
   by_cases hA:inc=m.inc
   ·rw[decide_eq_true hA];refine g2_ ?_;rw[show((m.state.toNat:Int) !=3)= !decide (m.state=3)from ql m.state 3]
    by_cases hC:m.state=3
    ·rw[decide_eq_true hC,same (no (by simp[hD,hC]))]
     refine g2_ ?_;refine ae ?_ rfl
     repeat first|simp-implicitDefEqProofs only[go_sem,ab,List.length_map,aF]|with_reducible refine gl_ ?_
    ·rw[decide_eq_false hC,put (.inr ⟨hB2,hA,hC⟩)];refine gf_ (mE_ hk) ?_;refine ae ?_ rfl;refine x0_ ?_;rw[List.take_of_length_le (by simp)]
   ·rw[decide_eq_false hA,same (no (by simp[hD,hA]))]
    refine g2_ ?_;refine ae ?_ rfl
    repeat first|simp-implicitDefEqProofs only[go_sem,ab,List.length_map,aF]|with_reducible refine gl_ ?_
  ·have hB2: ¬0<inc:=fun h=>hB ((cZ 0 inc).2 h)
   rw[decide_eq_false hB,same (no (by simp[hD,hB2]))]
   refine g2_ ?_;refine ae ?_ rfl
   repeat first|simp-implicitDefEqProofs only[go_sem,ab,List.length_map,aF]|with_reducible refine gl_ ?_
theorem wc(l:List an)(i:UInt8)(inc:UInt16)(hl:l.length<=4000000):Con2 Tryz.prog 142 [.fz 3 (l.map aE),.v (.int .u8 i.toNat),.v (.int .u16 inc.toNat)] (· =plR (.fz 3 ((eA l i inc).map aE))):=by
 refine Con2.ofEmb ?_;have hi:=i.toNat_lt;refine en_ Tryz.func142 [.tmp 6] (g2_ ?_);refine g2_ ?_;refine ce_ (iK l hl) (gx_ ?_)
 by_cases h1:(l.length:Int)<=(i.toNat:Int)
 ·have e2:eA l i inc=l:=by rw[eA,List.modify_eq_self (by omega)]
  rw[e2,decide_eq_true h1];refine g2_ ?_;refine ae ?_ rfl
  repeat first|simp-implicitDefEqProofs only[go_sem,ab,List.length_map,aF]|with_reducible refine gl_ ?_
 ·have hk:i.toNat<l.length:=by omega
  have e2:eA l i inc=l.set i.toNat (fq inc l[i.toNat]):=by rw[eA,gU _ _ hk]
  have hsame:l.set i.toNat l[i.toNat]=l:=List.set_getElem_self hk;rw[e2,decide_eq_false h1];refine g2_ ?_;rw[ga];have hgk:=aX (f:=aE) hk;have q5: ∀v,((l.map aE).set i.toNat v)[i.toNat]? =some v:=fun v=>by rw[List.getElem?_set_self (by rw[List.length_map];exact hk)]
  generalize l[i.toNat]=m at hsame hgk;have same: ∀{K:an},K=m->l.set i.toNat K=l:=fun e=>by rw[e];exact hsame
  by_cases h0:inc=0
  ·have e3:fq inc m=m:=by
    subst h0;rw[fq,if_neg (by rw[UInt16.lt_iff_toNat_lt];simp),if_neg (by simp)]
   rw[decide_eq_true h0,same e3];refine g2_ ?_;refine ae ?_ rfl
   repeat first|simp-implicitDefEqProofs only[go_sem,ab,List.length_map,aF]|with_reducible refine gl_ ?_
  rw[decide_eq_false h0];refine gf_ hgk ?_;have hp:0<inc:=by rw[UInt16.lt_iff_toNat_lt];have:inc.toNat≠0:=fun e=>h0 (UInt16.toNat_inj.1 (by simpa using e));simpa using Nat.pos_of_ne_zero this
  by_cases hA:(inc.toNat:Int)<(m.inc.toNat:Int)
  ·have e3:fq inc m=m:=by
    rw[fq,if_neg (fun h=>by have:=(cZ _ _).2 h;omega),if_neg (fun h=>by have:=h.1;subst this;omega)]
   rw[decide_eq_true hA,same e3];refine g2_ ?_;refine ae ?_ rfl
   repeat first|simp-implicitDefEqProofs only[go_sem,ab,List.length_map,aF]|with_reducible refine gl_ ?_
  rw[decide_eq_false hA];refine gf_ hgk ?_
  by_cases hB:(m.inc.toNat:Int)<(inc.toNat:Int)
  ·have e3:fq inc m=⟨inc,3,0⟩:=if_pos ((cZ _ _).1 hB);rw[decide_eq_true hB,e3];refine gf_ (c3_ hgk @List.set_set.{0} q5) ?_;refine ae ?_ rfl;refine x0_ ?_;rw[List.take_of_length_le (by simp)]
  ·have hE:inc=m.inc:=UInt16.toNat_inj.1 (by omega)
   have e3:fq inc m={ m with state:=3 }:=by rw[fq,if_neg (fun h=>hB ((cZ _ _).2 h)),if_pos ⟨hE,hp⟩]
   rw[decide_eq_false hB,e3]
   repeat first|simp-implicitDefEqProofs only[go_sem,ab,hgk,List.length_map,List.contains_nil,List.length_set,List.set_set,q5]|with_reducible first|refine gl_ ?_|refine ga_ ?_|refine gn_ ?_
   refine ae ?_ rfl;refine x1_ hE.symm ?_;rw[List.take_of_length_le (by simp)]
theorem l7(l m:List an)(self:UInt8)(hl:l.length<=4000000)(hm:m.length<=4000000):Con2 Tryz.prog 137 [.fz 3 (l.map aE),.fz 3 (m.map aE),.v (.int .u8 self.toNat)] (· =plR (.fz 3 ((ct l m self).map aE))):=by
 refine Con2.ofEmb ?_;have hself:=self.toNat_lt;have hne:=fun a b=>uh a b
 refine en_ Tryz.func137 [.tmp 6] (g2_ ?_);refine g2_ ?_;refine ce_ (iK l hl) (gx_ ?_);obtain⟨n,hn⟩: ∃n,n=min l.length m.length:=⟨_,rfl⟩;refine av (γ:=Nat) (fun i=>[(7,.d (.v (.int .i64 (i:Nat))))]) (fun _=>[]) (fun k=>[(0,.arr 111 3 ((dI l m self k).map aE) false)]) 1 (fun i=>i<=n) (fun i=>n-i) 0 (aa [] ?_) (by omega) (fun k hi=>?_)
 ·repeat first|simp-implicitDefEqProofs only[go_sem,ab,xi]|with_reducible refine gl_ ?_
  repeat' (first|rfl|refine And.intro ?_ ?_)
 ·refine g2_ ?_
  by_cases hk:k<n
  ·have hk1:k<l.length:=by omega
   have hk2:k<m.length:=by omega
   rw[show decide ((k:Int)<(l.length:Int))=true from decide_eq_true (by omega)]
   refine g2_ ?_;rw[show decide ((k:Int)<(m.length:Int))=true from decide_eq_true (by omega)]
   refine g2_ ?_;refine .inl ⟨[oF 0,oF 1,oF 2,oF 3,oF 4,oF 5,oF 6,oF 9,oF 10,oF 7,oF 11,oF 8,oF 12,oF 13,oF 14],by kernel_rfl,g2_ ?_⟩
   have hse:=p6 (l:=l) (m:=m) (self:=self) hk1;have hgt:(List.map aE (dI l m self k))[k]? =some (aE l[k]):=by rw[List.getElem?_map,iQ hk1];rfl
   have hsame:(dI l m self k).set k l[k]=dI l m self k:=by
    apply List.ext_getElem?;intro j;rw[List.getElem?_set];split
    ·subst_vars;rw[iQ hk1];simp[gR,hk1]
    ·rfl
   have hmg:mMg m self k l[k]=if k≠self.toNat/\eo m[k] l[k]=true then ⟨m[k].inc,m[k].state,0⟩else l[k]:=by rw[mMg,List.getElem?_eq_getElem hk2]
   by_cases hs:k=self.toNat
   ·rw[show((k:Int) !=(self.toNat:Int))=false by simp[hs]]
    rw[if_neg (by simp[hs])]at hmg
    rw[hmg,hsame]at hse;refine g2_ ?_;refine⟨k+1,aa [(0,.to 0)] ?_,by omega,by omega⟩
    refine gf_ hse ?_
    try (repeat' (first|rfl|refine And.intro ?_ ?_))
   ·rw[show((k:Int) !=(self.toNat:Int))=true by simp;omega]
    refine u3_ (c2_ hgt (mE_ hk2)) ?_;refine ce_ (hne m[k] l[k]) (g2_ ?_);cases hnw:eo m[k] l[k]with
    |true=>
     rw[if_pos ⟨hs,hnw⟩]at hmg;rw[hmg]at hse;refine g2_ ?_;refine .inl ⟨[oF 0,oF 1,oF 2,oF 3,oF 7,oF 8,oF 4,oF 9,oF 5,oF 10,oF 6,oF 11,oF 12,oF 13,oF 14],by kernel_rfl,?_⟩
     repeat first|simp-implicitDefEqProofs only[go_sem,ab,aX hk2,hgt,List.length_map,gR,List.contains_nil]|with_reducible first|refine gl_ ?_|refine ga_ ?_|refine gn_ ?_
     refine⟨k+1,aa [(0,.to 0)] ?_,by omega,by omega⟩
     refine u1_ (c2_ hse @List.map_set.{0,0}) ?_
     try (repeat' (first|rfl|refine And.intro ?_ ?_))
    |false=>
     rw[if_neg (by simp[hnw])]at hmg
     rw[hmg,hsame]at hse;refine g2_ ?_;refine⟨k+1,aa [(0,.to 0)] ?_,by omega,by omega⟩
     refine gf_ hse ?_
     try (repeat' (first|rfl|refine And.intro ?_ ?_))
  ·have hkn:k=n:=by omega
   have hlen:(ct l m self).length=l.length:=by simp[ct]
   rw[oV (by omega)]
   by_cases hk1:(k:Int)<(l.length:Int)
   ·rw[decide_eq_true hk1];refine g2_ ?_;rw[show decide ((k:Int)<(m.length:Int))=false from decide_eq_false (by omega)]
    refine g2_ ?_;refine ae ?_ rfl;refine gf_ hlen ?_;rw[List.take_of_length_le (by simp[hlen])]
   ·rw[decide_eq_false hk1];refine g2_ ?_;refine ae ?_ rfl;refine gf_ hlen ?_;rw[List.take_of_length_le (by simp[hlen])]
end Go.Proofs.YthoihfighiolmaaGreat.V
namespace Go.Eng
def sqR(l:List (List cO)):Prop:= ∀x∈l,x.length=l.length
theorem ade(n:Nat):sqR (List.replicate n (cg n)):=fun x hx=>by
 rw[List.mem_replicate]at hx;rw[hx.2,cT,List.length_replicate]
theorem oM{l:List (List cO)}{i:UInt8}(h:sqR l):sqR (bI l i):=fun x hx=>by
 rw[bI,List.length_set];rcases List.mem_or_eq_of_mem_set hx with h1|rfl
 ·exact h x h1
 ·exact cT _
theorem aaY{l:List (List cO)}{i:UInt8}{k:Nat}(h:k<l.length):(bI l i)[k]? =some (if i.toNat=k then cg l.length else l[k]):=by
 rw[bI,List.getElem?_set];split
 ·simp[*]
 ·rw[List.getElem?_eq_getElem h]
theorem aaD{n j:Nat}(h:j<n):(cg n).take (j+1)=(cg n).take j++[⟨UInt8.ofNat j,0,0⟩]:=by
 have hl:j<(cg n).length:=by rw[cT];exact h
 rw[List.take_add_one,List.getElem?_eq_getElem hl];simp[cg]
end Go.Eng
namespace Go.Proofs.YthoihfighiolmaaGreat.V
open Go.Eng
attribute [local go_sem] zDesc aP af fzD plR bb a_ aE bj aC ak bk cR z8 z16 z32 z64 encMg aH dE List.map_cons List.map_nil
theorem wh(l:List an)(self:UInt8)(after:Int)(hl:l.length<=256):Con2 Tryz.prog 126 [.fz 3 (l.map aE),.v (.int .u8 self.toNat),.v (.int .i64 after)] (· =plR (.tup [.fz 3 ((fg l self after).map aE),.fz 1 ((gTick l self after l.length).map aQ)])):=by
 refine Con2.ofEmb ?_;have hcl:=iK l (by omega)
 refine en_ Tryz.func126 [.tmp 6,.tmp 7] (g2_ ?_);refine g2_ ?_;refine cw_ hcl (gx_ ?_);refine av (γ:=Nat) (fun k=>[(9,.d (.v (.int .i64 (k:Nat)))),(8,.d (.rf 1 0 (gTick l self after k).length))]) (fun _=>[]) (fun k=>[(1,.arr 5 1 ((gTick l self after k).map aQ) false),(0,.arr 111 3 ((dG l self after k).map aE) false)]) 2 (fun k=>k<=l.length) (fun k=>l.length-k) 0 (aa [(1,.nil 1),(0,.to 0)] ?_) (by omega) (fun k hk0=>?_)
 ·repeat first|simp-implicitDefEqProofs only[go_sem,ab,abk,gTick,List.map_nil]|with_reducible refine gl_ ?_
  first|done|rfl|exact⟨rfl,rfl⟩
 ·have hgl:=mK l self after k;have hself:=self.toNat_lt;have hg2:gTick l self after (k+1)=gTick l self after k++lS l self after k:=rfl;refine g2_ ?_;refine aq (fun h=>?_) (fun h=>?_)
  ·have hk:k<l.length:=by omega
   have hk8:(UInt8.ofNat k).toNat=k:=by rw[UInt8.toNat_ofNat'];omega
   have hmg:lS l self after k=if k=self.toNat\/mUp l[k]=false then []else if gT after (mQ l[k])=true then [UInt8.ofNat k]else []:=by rw[lS,List.getElem?_eq_getElem hk]
   have hmt:mTk self after k l[k]=if k=self.toNat\/mUp l[k]=false then l[k]else if gT after (mQ l[k])=true then { mQ l[k]with state:=2 }else mQ l[k]:=rfl
   have q1:((dG l self after k).map aE)[k]? =some (aE l[k]):=by rw[List.getElem?_map,q_ hk];rfl
   have q3:((dG l self after k).map aE).length=l.length:=by rw[List.length_map,mU]
   have q4: ∀m',mTk self after k l[k]=m'->((dG l self after k).map aE).set k (aE m')=(dG l self after (k+1)).map aE:=fun m' h=>by
    rw[<-rY hk,List.map_set,h]
   generalize (dG l self after k).map aE=R at q1 q3 q4;have q5: ∀v,(R.set k v)[k]? =some v:=fun v=>by rw[List.getElem?_set_self (by omega)]
   have q7:R.set k (aE l[k])=R:=jW q1;rw[hmg]at hg2;rw[hmt]at q4;generalize l[k]=m at q1 q4 q7 hg2;generalize gTick l self after k=G at hg2 hgl;have hqq:=m.quiet.toNat_lt;have es:((m.state.toNat:Int)==1)=decide (m.state=1):=bt m.state 1;have en1:((m.state.toNat:Int) !=1)= !decide (m.state=1):=by rw[<-es];rfl
   have en2:((m.state.toNat:Int) !=2)= !decide (m.state=2):=ql m.state 2
   have skipped:(k=self.toNat\/mUp m=false)->R=(dG l self after (k+1)).map aE/\gTick l self after (k+1)=G:=fun h=>by
    rw[if_pos h,List.append_nil]at hg2;exact⟨(q4 m (if_pos h)).symm.trans q7 |>.symm,hg2⟩
   simp only[aE]at q1;refine gg_ @q1 @q3 ?_
   by_cases e1:k=self.toNat
   ·obtain⟨hR2,hg3⟩:=skipped (.inl e1);rw[show((k:Int)==(self.toNat:Int))=true by rw[e1];exact beq_self_eq_true _]
    refine g2_ ?_;refine⟨k+1,aa [(1,.to 1),(0,.to 0)] ?_,by omega,by omega⟩
    refine gf_ (c2_ hg3 hR2.symm) ?_
    try (repeat' (first|rfl|refine And.intro ?_ ?_))
   rw[show((k:Int)==(self.toNat:Int))=false from beq_eq_false_iff_ne.2 (by omega)]
   refine gh_ @q1 @q3 en1 ?_
   by_cases hup:mUp m=false
   ·obtain⟨hR2,hg3⟩:=skipped (.inr hup);have s1: ¬m.state=1:=fun e=>by simp[mUp,e]at hup
    have s2: ¬m.state=2:=fun e=>by simp[mUp,e]at hup
    rw[decide_eq_false s1];refine gh_ @q1 @q3 en2 ?_;rw[decide_eq_false s2];refine g2_ ?_;refine⟨k+1,aa [(1,.to 1),(0,.to 0)] ?_,by omega,by omega⟩
    refine gf_ (c2_ hg3 hR2.symm) ?_
    try (repeat' (first|rfl|refine And.intro ?_ ?_))
   have en: ¬(k=self.toNat\/mUp m=false):=by simp[e1];simpa using hup
   rw[if_neg en]at hg2;rw[if_neg en]at q4;have hS: ∀(b:Bool),b=true->b=true:=fun _ h=>h
   by_cases s1:m.state=1
   ·rw[decide_eq_true s1];refine gg_ @q1 @q3 ?_
    by_cases e3:(m.quiet.toNat:Int)=255
    ·have em:mQ m=m:=if_neg (fun h=>by have:=(dH m.quiet 255).2 h;rw[show((UInt8.toNat 255:Nat):Int)=255 from rfl]at this;omega)
     rw[em]at hg2 q4;rw[show((m.quiet.toNat:Int) !=255)=false from by simp[e3]]
     refine gh_ @q1 @q3 es ?_;rw[decide_eq_true s1];refine gg_ @q1 @q3 ?_
     by_cases s2:after<=(m.quiet.toNat:Int)
     ·have e9:gT after m=true:=by simp[gT,s1,s2]
      rw[if_pos e9]at hg2;rw[if_pos e9]at q4;have hR2:=(q4 _ rfl).symm;simp only[aE,show((UInt8.toNat 2:Nat):Int)=2 from rfl]at hR2
      rw[decide_eq_true s2];refine gf_ (c4_ q1 q3 q5 @List.set_set.{0}) ?_;refine dx (by omega) ?_
      refine gx_ ?_;refine⟨k+1,aa [(1,.to 3),(0,.to 0)] ?_,by omega,by omega⟩
      refine x1_ (c3_ hg2 hR2 hk8) ?_;rw[show aQ (UInt8.ofNat k)=[.v (.int .u8 (k:Int))]by rw[aQ,hk8]]
      try (repeat' (first|rfl|refine And.intro ?_ ?_))
     ·have e9: ¬gT after m=true:=by simp[gT];omega
      rw[if_neg e9,List.append_nil]at hg2;rw[if_neg e9]at q4;have hR2:=(q4 _ rfl).symm.trans q7;rw[decide_eq_false s2];refine g2_ ?_;refine⟨k+1,aa [(1,.to 1),(0,.to 0)] ?_,by omega,by omega⟩
      refine gf_ (c2_ hg2 hR2) ?_
      try (repeat' (first|rfl|refine And.intro ?_ ?_))
    ·have eq3:m.quiet<255:=(dH m.quiet 255).1 (by rw[show((UInt8.toNat 255:Nat):Int)=255 from rfl];omega)
     have eqq:((m.quiet+1).toNat:Int)=(m.quiet.toNat:Int)+1:=by
      rw[UInt8.toNat_add];have:(1:UInt8).toNat=1:=rfl;omega
     have em:mQ m={ m with quiet:=m.quiet+1 }:=if_pos eq3;rw[em]at hg2 q4;simp only[gT,eqq]at hg2 q4;rw[show((m.quiet.toNat:Int) !=255)=true by simpa using e3]
     refine gg_ @q1 @q3 ?_;refine dx (by omega) ?_
     refine gi_ @q1 @q3 q5 es ?_;rw[decide_eq_true s1];refine gh_ @q1 @q3 q5 ?_
     by_cases s2:after<=(m.quiet.toNat:Int)+1
     ·have e9:(decide (m.state=1)&&decide (after<=(m.quiet.toNat:Int)+1))=true:=by rw[decide_eq_true s1,decide_eq_true s2];rfl
      rw[if_pos e9]at hg2;rw[if_pos e9]at q4;have hR2:=(q4 _ rfl).symm;simp only[aE,eqq,show((UInt8.toNat 2:Nat):Int)=2 from rfl]at hR2
      rw[decide_eq_true s2];refine gf_ (c4_ q1 q3 q5 @List.set_set.{0}) ?_;refine dx (by omega) ?_
      refine gx_ ?_;refine⟨k+1,aa [(1,.to 3),(0,.to 0)] ?_,by omega,by omega⟩
      refine x1_ (c3_ hg2 hR2 hk8) ?_;rw[show aQ (UInt8.ofNat k)=[.v (.int .u8 (k:Int))]by rw[aQ,hk8]]
      try (repeat' (first|rfl|refine And.intro ?_ ?_))
     ·have e9: ¬(decide (m.state=1)&&decide (after<=(m.quiet.toNat:Int)+1))=true:=by rw[decide_eq_false s2];simp
      rw[if_neg e9,List.append_nil]at hg2;rw[if_neg e9]at q4;have hR2:=(q4 _ rfl).symm;simp only[aE,eqq]at hR2;rw[decide_eq_false s2];refine g2_ ?_;refine⟨k+1,aa [(1,.to 1),(0,.to 0)] ?_,by omega,by omega⟩
      refine gf_ (c2_ hg2 hR2) ?_
      try (repeat' (first|rfl|refine And.intro ?_ ?_))
   ·have s2:m.state=2:=by simpa[mUp,s1]using hup
    rw[decide_eq_false s1];refine gh_ @q1 @q3 en2 ?_;rw[decide_eq_true s2];refine gg_ @q1 @q3 ?_;have hno: ∀m':an,m'.state=m.state-> ¬gT after m'=true:=fun m' h=>by simp[gT,h,s1]
    by_cases e3:(m.quiet.toNat:Int)=255
    ·have em:mQ m=m:=if_neg (fun h=>by have:=(dH m.quiet 255).2 h;rw[show((UInt8.toNat 255:Nat):Int)=255 from rfl]at this;omega)
     rw[em]at hg2 q4;rw[if_neg (hno m rfl),List.append_nil]at hg2;rw[if_neg (hno m rfl)]at q4;have hR2:=(q4 _ rfl).symm.trans q7;rw[show((m.quiet.toNat:Int) !=255)=false from by simp[e3]]
     refine gh_ @q1 @q3 es ?_;rw[decide_eq_false s1];refine g2_ ?_;refine⟨k+1,aa [(1,.to 1),(0,.to 0)] ?_,by omega,by omega⟩
     refine gf_ (c2_ hg2 hR2) ?_
     try (repeat' (first|rfl|refine And.intro ?_ ?_))
    ·have eq3:m.quiet<255:=(dH m.quiet 255).1 (by rw[show((UInt8.toNat 255:Nat):Int)=255 from rfl];omega)
     have eqq:((m.quiet+1).toNat:Int)=(m.quiet.toNat:Int)+1:=by
      rw[UInt8.toNat_add];have:(1:UInt8).toNat=1:=rfl;omega
     have em:mQ m={ m with quiet:=m.quiet+1 }:=if_pos eq3;rw[em]at hg2 q4;rw[if_neg (hno { m with quiet:=m.quiet+1 } rfl),List.append_nil]at hg2;rw[if_neg (hno { m with quiet:=m.quiet+1 } rfl)]at q4;have hR2:=(q4 _ rfl).symm;simp only[aE,eqq]at hR2;rw[show((m.quiet.toNat:Int) !=255)=true by simpa using e3]
     refine gg_ @q1 @q3 ?_;refine dx (by omega) ?_
     refine gi_ @q1 @q3 q5 es ?_;rw[decide_eq_false s1];refine g2_ ?_;refine⟨k+1,aa [(1,.to 1),(0,.to 0)] ?_,by omega,by omega⟩
     refine gf_ (c2_ hg2 hR2) ?_
     try (repeat' (first|rfl|refine And.intro ?_ ?_))
  ·have he:k=l.length:=by omega
   subst he;rw[r8];have ht:(fg l self after).length=l.length:=by simp[fg]
   refine g2_ ?_;refine ae ?_ rfl;refine gf_ ht ?_;rw[List.take_of_length_le (by rw[List.length_map,ht];exact Nat.le_refl _)]
theorem yP(n:Nat)(hn:n<=256):Con2 Tryz.prog 52 [.v (.int .i64 n)] (· =plR (.fz 1 ((List.replicate n (cg n)).map fun l=>[.fz 3 (l.map a_)]))):=by
 have h:Con2 Tryz.prog 52 [.v (.int .i64 n)] (· =bb 40 1 (List.replicate n [.fz 3 ((cg n).map a_)])):=by
  refine en_ Tryz.func52 [.tmp 2] (g2_ ?_);refine g2_ ?_;rw[decide_eq_false (show ¬(256:Int)<(n:Int)by omega)]
  refine g2_ ?_;refine av (γ:=Nat) (fun i=>[(4,.d (.v (.int .i64 (i:Nat)))),(3,.d (.rf 0 0 i))]) (fun _=>[]) (fun i=>[(0,.arr 40 1 (List.replicate i [.fz 3 ((cg n).map a_)]) false)]) 1 (fun i=>i<=n) (fun i=>n-i) 0 (aa [(0,.nil 1)] ?_) (by omega) (fun i hi=>?_)
  ·repeat first|simp-implicitDefEqProofs only[go_sem,ab,List.replicate]|with_reducible refine gl_ ?_
   repeat' (first|rfl|refine And.intro ?_ ?_)
  ·refine gx_ ?_;refine aq (fun h=>?_) (fun h=>?_)
   ·refine gx_ ?_;refine av (γ:=Nat) (fun j=>[(6,.d (.v (.int .i64 (j:Nat)))),(5,.d (.rf 1 0 j))]) (fun _=>[]) (fun j=>[(1,.arr 57 3 (((cg n).take j).map a_) false),(0,.arr 40 1 (List.replicate i [.fz 3 ((cg n).map a_)]) false)]) 2 (fun j=>j<=n) (fun j=>n-j) 0 (aa [(1,.nil 3),(0,.to 0)] ?_) (by omega) (fun j hj=>?_)
    ·refine u1_ (c2_ @List.take_zero.{0} @List.length_replicate.{0}) ?_
     first|done|rfl|exact⟨rfl,rfl⟩
    ·have hjl:((cg n).take j).length=j:=by rw[List.length_take,cT];omega
     refine gx_ ?_;refine aq (fun h2=>?_) (fun h2=>?_)
     ·have hb:=aaD (n:=n) (j:=j) (by omega)
      have hj8:(UInt8.ofNat j).toNat=j:=by rw[UInt8.toNat_ofNat'];omega
      refine g2_ ?_;refine dx (by omega) ?_
      refine gf_ hjl ?_;refine⟨j+1,aa [(1,.to 3),(0,.to 0)] ?_,by omega,by omega⟩
      refine u1_ (c4_ hb @List.map_append.{0,0} @List.length_replicate.{0} hj8) ?_
      try (repeat' (first|rfl|refine And.intro ?_ ?_))
     ·obtain rfl:j=n:=by omega
      rw[List.take_of_length_le (by rw[cT];exact Nat.le_refl _)]
      have hbl:=cT j;refine gf_ hbl ?_;refine⟨i+1,aa [(0,.to 3)] ?_,by omega,by omega⟩
      repeat first|simp-implicitDefEqProofs only[go_sem,ab,List.replicate_succ',List.length_append,List.length_map,hbl,List.take_of_length_le (Nat.le_refl _)]|with_reducible refine gl_ ?_
      try rw[List.take_of_length_le (by rw[List.length_map,hbl];exact Nat.le_refl _)]
      try (repeat' (first|rfl|refine And.intro ?_ ?_))
   ·obtain rfl:i=n:=by omega
    refine gx_ ?_;exact⟨_,rfl,aa [(0,.to 0)] wx_⟩
 refine h.emb ?_ rfl;simp[embD,lk,rfD]
theorem qL(l:List (List cO))(i:UInt8)(hl:jc l)(hs:sqR l):Con2 Tryz.prog 152 [.fz 1 (cp l),.v (.int .u8 i.toNat)] (· =plR (.fz 1 (cp (bI l i)))):=by
 refine Con2.ofEmb ?_;have hl1:=hl.1;have hi:=i.toNat_lt;have hLl:(cp l).length=l.length:=by rw[cp,List.length_map]
 have hFl:(cp (bI l i)).length=l.length:=by rw[cp,List.length_map,bI,List.length_set]
 refine en_ Tryz.func152 [.tmp 4] (g2_ ?_);refine g2_ ?_;refine av (γ:=Nat) (fun k=>[(6,.d (.v (.int .i64 (k:Nat)))),(5,.d (.rf 0 0 k))]) (fun _=>[]) (fun k=>[(0,.arr 40 1 ((cp (bI l i)).take k) false)]) 1 (fun k=>k<=l.length) (fun k=>l.length-k) 0 (aa [(0,.nil 1)] ?_) (by omega) (fun k hk=>?_)
 ·refine x0_ ?_
  repeat' (first|rfl|refine And.intro ?_ ?_)
 ·have htk:((cp (bI l i)).take k).length=k:=by rw[List.length_take];omega
  refine gf_ hLl ?_;refine aq (fun h=>?_) (fun h=>?_)
  ·have hk1:k<l.length:=by omega
   have hg:(cp l)[k]? =some [.fz 3 (l[k].map a_)]:=by simp[cp,hk1]
   have hlk:l[k].length=l.length:=hs _ (List.getElem_mem hk1);obtain⟨R,hR⟩: ∃R:List cO,R=if i.toNat=k then cg l.length else l[k]:=⟨_,rfl⟩
   have hRl:R.length=l.length:=by rw[hR];split;exact cT _;exact hlk
   have hsn:(cp (bI l i)).take (k+1)=(cp (bI l i)).take k++[[.fz 3 (R.map a_)]]:=by
    rw[List.take_add_one,cp,List.getElem?_map,aaY hk1, <-hR];rfl
   refine gf_ hLl ?_;refine av (γ:=Nat) (fun j=>[(8,.d (.v (.int .i64 (j:Nat)))),(7,.d (.rf 1 0 j))]) (fun _=>[]) (fun j=>[(1,.arr 57 3 ((R.take j).map a_) false),(0,.arr 40 1 ((cp (bI l i)).take k) false)]) 2 (fun j=>j<=l.length) (fun j=>l.length-j) 0 (aa [(1,.nil 3),(0,.to 0)] ?_) (by omega) (fun j hj=>?_)
   ·refine x1_ htk ?_
    first|done|rfl|exact⟨rfl,rfl⟩
   ·have hjl:(R.take j).length=j:=by rw[List.length_take];omega
    refine gh_ hLl hg hlk ?_;refine aq (fun h2=>?_) (fun h2=>?_)
    ·have hj1:j<l[k].length:=by omega
     have hj2:j<R.length:=by omega
     have hRs:R.take (j+1)=R.take j++[R[j]]:=by rw[List.take_add_one,List.getElem?_eq_getElem hj2];rfl
     have hRj:R[j]=if i.toNat=k then ⟨UInt8.ofNat j,0,0⟩else l[k][j]:=by
      subst hR;split<;>simp_all [cg]
     have hj8:(UInt8.ofNat j).toNat=j:=by rw[UInt8.toNat_ofNat'];omega
     refine u3_ (c3_ hLl hg (mE_ hj1)) ?_
     by_cases e:i.toNat=k
     ·rw[if_pos e]at hRj;rw[show((k:Int)==(i.toNat:Int))=true by rw[e];exact beq_self_eq_true _]
      refine g2_ ?_;refine dx (by omega) ?_
      refine gf_ hjl ?_;refine⟨j+1,aa [(1,.to 3),(0,.to 0)] ?_,by omega,by omega⟩
      refine u1_ (c4_ hRs hRj @List.map_append.{0,0} (c2_ htk hj8)) ?_
      try (repeat' (first|rfl|refine And.intro ?_ ?_))
     ·rw[if_neg e]at hRj;rw[show((k:Int)==(i.toNat:Int))=false from beq_eq_false_iff_ne.2 (by omega)]
      refine gf_ hjl ?_;refine⟨j+1,aa [(1,.to 3),(0,.to 0)] ?_,by omega,by omega⟩
      repeat first|simp-implicitDefEqProofs only[go_sem,ab,hRs,hRj,List.map_append,htk]|with_reducible refine gl_ ?_
      try (repeat' (first|rfl|refine And.intro ?_ ?_))
    ·have hjn:j=l.length:=by omega
     rw[show R.take j=R from List.take_of_length_le (by omega)]
     have eR:decide (j<=R.length)=true:=decide_eq_true (by omega)
     have eT:(R.map a_).take j=R.map a_:=List.take_of_length_le (by rw[List.length_map];omega)
     refine gf_ (c4_ htk eR eT @cond_true.{0}) ?_;refine⟨k+1,aa [(0,.to 3)] ?_,by omega,by omega⟩
     refine gf_ (c2_ hsn htk) ?_
     try rw[List.take_of_length_le (by rw[List.length_map];omega)]
     try (repeat' (first|rfl|refine And.intro ?_ ?_))
  ·obtain rfl:k=l.length:=by omega
   have hT:(cp (bI l i)).take l.length=cp (bI l i):=List.take_of_length_le (by omega)
   rw[hT];refine g2_ ?_;refine ae ?_ rfl;exact wf_ (c4_ hFl @Nat.le_refl decide_true (c2_ hT @cond_true.{0}))
