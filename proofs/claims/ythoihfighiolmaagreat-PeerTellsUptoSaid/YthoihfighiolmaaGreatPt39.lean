import Derived.Test.YthoihfighiolmaaGreatPt37
import Derived.Test.YthoihfighiolmaaGreatPt38
set_option linter.unusedSectionVars false
set_option linter.unusedSimpArgs false
set_option linter.unusedVariables false
set_option maxRecDepth 10000
set_option maxHeartbeats 4000000
namespace Go.Eng
def zR(r:b9):Prop:=(r.hs=false->r.succ=zDesc)/\(r.hp=false->r.pred=zDesc)
theorem aaH{r:b9}(h:zR r):c_ r=⟨r.hs,r.hp,if r.hs=true then r.succ.older else r.succ,if r.hp=true then r.pred.older else r.pred⟩:=by
 obtain⟨a,b,s,p⟩:=r;unfold c_;cases a<;>cases b<;>simp_all [zR]
theorem aeg{self:UInt8}{i:Nat}{b:GDesc}{l:List GDesc}{k:Nat}(h:k<l.length):(l.take (k+1)).foldl (eU self i) b=eU self i ((l.take k).foldl (eU self i) b) l[k]:=by
 rw[List.take_add_one,List.getElem?_eq_getElem h,List.foldl_append];rfl
theorem acV{α:Type}{L:List (List α)}{k:Nat}(h:k<L.length):(L.take (k+1)).flatten=(L.take k).flatten++L[k]:=by
 rw[List.take_add_one,List.getElem?_eq_getElem h,List.flatten_append];simp
def nY(self:UInt8)(n:Nat)(L:List (List GDesc))(k:Nat):GDesc:=(L.take k).flatten.foldl (eU self n) zDesc
theorem alT{self:UInt8}{n:Nat}{L:List (List GDesc)}:nY self n L 0=zDesc:=rfl
theorem ads{self:UInt8}{n:Nat}{L:List (List GDesc)}{k:Nat}(h:k<L.length):nY self n L (k+1)=L[k].foldl (eU self n) (nY self n L k):=by
 rw[nY,acV h,List.foldl_append];rfl
theorem ag7{self:UInt8}{n:Nat}{L:List (List GDesc)}{k:Nat}(h:L.length<=k):nY self n L k=qH self L.flatten n:=by
 rw[nY,List.take_of_length_le h];rfl
def unK(self:UInt8)(L:List (List GDesc))(n:Nat):List GDesc:=((List.range n).map (qH self L.flatten)).filter fun d=>decide ((0:Int)<(d.inc.toNat:Int))
theorem aek(self:UInt8)(L:List (List GDesc)):aV self L=unK self L 256:=r7 self L
theorem agS{self:UInt8}{L:List (List GDesc)}{n:Nat}:unK self L (n+1)=unK self L n++(if (0:Int)<((qH self L.flatten n).inc.toNat:Int)then [qH self L.flatten n]else []):=by
 rw[unK,unK,List.range_succ,List.map_append,List.filter_append]
 by_cases h:(0:Int)<((qH self L.flatten n).inc.toNat:Int)
 ·rw[if_pos h];simp only[List.map_cons,List.map_nil,List.filter_cons,decide_eq_true h,if_true,List.filter_nil]
 ·rw[if_neg h];simp only[List.map_cons,List.map_nil,List.filter_cons,decide_eq_false h,Bool.false_eq_true,if_false,List.filter_nil]
theorem aiu{self:UInt8}{L:List (List GDesc)}{n:Nat}:(unK self L n).length<=n:=by
 rw[unK];refine Nat.le_trans (List.length_filter_le _ _) ?_;simp
theorem z0{α:Type}{f:α->Bool}{l:List α}{k:Nat}(h:k<l.length):(l.take (k+1)).countP f=(l.take k).countP f+(if f l[k]=true then 1 else 0):=by
 rw[List.take_add_one,List.getElem?_eq_getElem h,List.countP_append];simp[List.countP_cons]
end Go.Eng
namespace Go.Proofs.YthoihfighiolmaaGreat.V
open Go.Eng
attribute [local go_sem] zDesc aP af fzD plR bb a_ aE bj aC ak bk cR z8 z16 z32 z64 encMg aH dE List.map_cons List.map_nil List.set_cons_succ List.set_cons_zero
theorem fU(r:b9):Con2 Tryz.prog 82 [.agg (aH r)] (· =plR (fzD (aw r))):=by
 refine Con2.ofEmb ?_;obtain⟨a,b,s,p⟩:=r;have hn:=lv p s;refine en_ Tryz.func82 [.tmp 2] ?_;refine g2_ ?_;refine .inr (.inl ⟨(.fl 0 (.fl 2 (.fl 1 (.eff 3 false (.eff 4 true (.eff 5 true (.eff 6 false (.eff 7 false .done .no) .no) .no) (.eff 5 true (.eff 4 true (.eff 6 false (.eff 7 false .done .no) .no) .no) .no)) (.eff 4 true (.eff 3 false (.eff 5 true (.eff 6 false (.eff 7 false .done .no) .no) .no) (.eff 5 true (.eff 3 false (.eff 6 false (.eff 7 false .done .no) .no) (.eff 6 false (.fl 3 (.eff 7 false .done .no)) .no)) .no)) (.eff 5 true (.eff 3 false (.eff 4 true (.eff 6 false (.eff 7 false .done .no) .no) .no) (.eff 4 true (.eff 3 false (.eff 6 false (.eff 7 false .done .no) .no) (.eff 6 false (.fl 3 (.eff 7 false .done .no)) .no)) .no)) .no)))))),by kernel_rfl,?_⟩)
 refine g2_ ?_;cases a<;>cases b
 ·refine g2_ ?_
  repeat' (first|(with_reducible refine And.intro ?_ ?_)|(with_reducible refine aK ?_;refine g2_ ?_)|(refine ae ?_ rfl;repeat first|simp-implicitDefEqProofs only[go_sem,ab,aw,Bool.false_eq_true,false_and,if_false,List.map_nil]|with_reducible refine gl_ ?_))
 ·refine g2_ ?_
  repeat' (first|(with_reducible refine And.intro ?_ ?_)|(with_reducible refine aK ?_;refine g2_ ?_)|(refine ae ?_ rfl;repeat first|simp-implicitDefEqProofs only[go_sem,ab,aw,Bool.false_eq_true,false_and,if_false,if_true,List.map_nil]|with_reducible refine gl_ ?_))
 ·refine g2_ ?_
  repeat' (first|(with_reducible refine And.intro ?_ ?_)|(with_reducible refine aK ?_;refine g2_ ?_)|(refine ae ?_ rfl;repeat first|simp-implicitDefEqProofs only[go_sem,ab,aw,Bool.false_eq_true,and_false,if_false,if_true,List.map_nil]|with_reducible refine gl_ ?_))
 ·have e0:aw ⟨true,true,s,p⟩=dd s p:=by simp[aw]
  rw[e0]
  by_cases h1:s.node<p.node
  ·have e:dd s p=[s,p]:=by rw[dd,if_pos h1]
   have h2:(s.node.toNat:Int)<(p.node.toNat:Int):=(dH _ _).2 h1;rw[e];refine gf_ (decide_eq_true h2) ?_
   repeat' (first|(with_reducible refine And.intro ?_ ?_)|(with_reducible refine aK ?_;repeat first|simp-implicitDefEqProofs only[go_sem,ab,decide_eq_true h2]|with_reducible first|refine gl_ ?_|refine ga_ ?_|refine gn_ ?_)|(refine ae ?_ rfl;(repeat first|simp-implicitDefEqProofs only[go_sem,ab]|with_reducible refine gl_ ?_)))
  have h2: ¬(s.node.toNat:Int)<(p.node.toNat:Int):=fun h=>h1 ((dH _ _).1 h)
  by_cases h3:p.node<s.node
  ·have e:dd s p=[p,s]:=by rw[dd,if_neg h1,if_pos h3]
   have h4:(p.node.toNat:Int)<(s.node.toNat:Int):=(dH _ _).2 h3;rw[e];refine gg_ (decide_eq_false h2) (decide_eq_true h4) ?_
   repeat' (first|(with_reducible refine And.intro ?_ ?_)|(with_reducible refine aK ?_;repeat first|simp-implicitDefEqProofs only[go_sem,ab,decide_eq_false h2,decide_eq_true h4]|with_reducible first|refine gl_ ?_|refine ga_ ?_|refine gn_ ?_)|(refine ae ?_ rfl;(repeat first|simp-implicitDefEqProofs only[go_sem,ab]|with_reducible refine gl_ ?_)))
  have h4: ¬(p.node.toNat:Int)<(s.node.toNat:Int):=fun h=>h3 ((dH _ _).1 h)
  have e:dd s p=if cK p s=true then [p]else [s]:=by
   rw[dd,if_neg h1,if_neg h3,cK]
   by_cases hh:p.inc=s.inc
   ·simp[hh,UInt16.lt_irrefl]
   ·simp[hh]
  rw[e];cases hnw:cK p s
  all_goals
   refine gg_ (decide_eq_false h2) (decide_eq_false h4) ?_
   repeat' (first|(with_reducible refine And.intro ?_ ?_)|(with_reducible refine aK ?_;repeat first|simp-implicitDefEqProofs only[go_sem,ab,decide_eq_false h2,decide_eq_false h4]|with_reducible first|refine gl_ ?_|refine ga_ ?_|refine gn_ ?_)|(refine CallS.eq hn ?_ (.inl ?_) ?_;(focus (simp-implicitDefEqProofs only[go_sem,ab];done));(focus (simp-implicitDefEqProofs only[go_sem,ab];done));repeat first|simp-implicitDefEqProofs only[go_sem,ab,hnw]|with_reducible first|refine gl_ ?_|refine ga_ ?_|refine gn_ ?_)|(refine ae ?_ rfl;repeat first|simp-implicitDefEqProofs only[go_sem,ab,if_true,if_false,Bool.false_eq_true]|with_reducible refine gl_ ?_))
theorem xO(r:b9)(n:UInt8):Con2 Tryz.prog 133 [.agg (aH r),.v (.int .u8 n.toNat)] (· =plR (.agg (aH (eB r n)))):=by
 obtain⟨a,b,s,p⟩:=r;refine en_ Tryz.func133 [.cell 4 36] (g2_ ?_);cases a<;>cases b
 ·refine g2_ ?_;exact⟨_,rfl,aa [] (by simp-implicitDefEqProofs only[go_sem,ab,eB,Bool.false_and,Bool.false_eq_true,if_false])⟩
 ·refine g2_ ?_;rw[bt]
  by_cases h1:p.node=n
  ·rw[decide_eq_true h1];refine g2_ ?_;exact⟨_,rfl,aa [] (by simp-implicitDefEqProofs only[go_sem,ab,eB,h1,Bool.false_and,Bool.true_and,decide_true,Bool.not_true,Bool.false_eq_true,if_false,if_true])⟩
  ·rw[decide_eq_false h1];refine g2_ ?_;exact⟨_,rfl,aa [] (by simp-implicitDefEqProofs only[go_sem,ab,eB,decide_eq_false h1,Bool.false_and,Bool.true_and,Bool.not_false,Bool.false_eq_true,if_false,if_true])⟩
 ·refine g2_ ?_;rw[bt]
  by_cases h1:s.node=n
  ·rw[decide_eq_true h1];refine g2_ ?_;exact⟨_,rfl,aa [] (by simp-implicitDefEqProofs only[go_sem,ab,eB,h1,Bool.false_and,Bool.true_and,decide_true,Bool.not_true,Bool.false_eq_true,if_false,if_true])⟩
  ·rw[decide_eq_false h1];refine g2_ ?_;exact⟨_,rfl,aa [] (by simp-implicitDefEqProofs only[go_sem,ab,eB,decide_eq_false h1,Bool.false_and,Bool.true_and,Bool.not_false,Bool.false_eq_true,if_false,if_true])⟩
 ·refine g2_ ?_;rw[bt]
  by_cases h1:s.node=n
  all_goals
   first|rw[decide_eq_true h1]|rw[decide_eq_false h1]
   refine g2_ ?_;rw[bt]
   by_cases h2:p.node=n
   all_goals
    first|rw[decide_eq_true h2]|rw[decide_eq_false h2]
    refine g2_ ?_;exact⟨_,rfl,aa [] (by simp-implicitDefEqProofs only[go_sem,ab,eB,h1,h2,decide_true,decide_false,Bool.true_and,Bool.not_true,Bool.not_false,Bool.false_eq_true,if_false,if_true])⟩
theorem uP(r:b9)(hz:zR r):Con2 Tryz.prog 125 [.agg (aH r)] (· =plR (.agg (aH (c_ r)))):=by
 rw[aaH hz];obtain⟨a,b,s,p⟩:=r
 have old: ∀d:GDesc,(d.age.toNat:Int)<255->((d.older.age.toNat:Nat):Int)=(d.age.toNat:Int)+1/\d.older.node=d.node/\d.older.inc=d.inc/\d.older.filter=d.filter:=fun d h=>by
  have h2:=mo (d:=d) (by omega)
  simp only[af]at h2
  grind [GDesc.older,UInt8.toNat_add]
 have same: ∀d:GDesc, ¬(d.age.toNat:Int)<255->d.older=d:=fun d h=>pS (by have:=d.age.toNat_lt;omega)
 refine en_ Tryz.func125 [.cell 2 36] (g2_ ?_);cases a<;>cases b
 ·refine g2_ ?_;exact⟨_,rfl,aa [] wx_⟩
 ·refine g2_ ?_
  by_cases h1:(p.age.toNat:Int)<255
  ·obtain⟨o1,o2,o3,o4⟩:=old p h1;rw[decide_eq_true h1];refine g2_ ?_;refine dx (by omega) ?_
   refine g2_ ?_;exact⟨_,rfl,aa [] (wi_ o1 o2 o3 o4)⟩
  ·rw[decide_eq_false h1];refine g2_ ?_;exact⟨_,rfl,aa [] (wf_ (same p h1))⟩
 ·refine g2_ ?_
  by_cases h1:(s.age.toNat:Int)<255
  ·obtain⟨o1,o2,o3,o4⟩:=old s h1;rw[decide_eq_true h1];refine g2_ ?_;refine dx (by omega) ?_
   refine g2_ ?_;exact⟨_,rfl,aa [] (wi_ o1 o2 o3 o4)⟩
  ·rw[decide_eq_false h1];refine g2_ ?_;exact⟨_,rfl,aa [] (wf_ (same s h1))⟩
 ·refine g2_ ?_
  by_cases h1:(s.age.toNat:Int)<255
  ·obtain⟨o1,o2,o3,o4⟩:=old s h1;rw[decide_eq_true h1];refine g2_ ?_;refine dx (by omega) ?_
   refine g2_ ?_
   by_cases h2:(p.age.toNat:Int)<255
   ·obtain⟨q1,q2,q3,q4⟩:=old p h2;rw[decide_eq_true h2];refine g2_ ?_;refine dx (by omega) ?_
    refine g2_ ?_;exact⟨_,rfl,aa [] (by simp-implicitDefEqProofs only[go_sem,ab,o1,o2,o3,o4,q1,q2,q3,q4,if_true])⟩
   ·rw[decide_eq_false h2];refine g2_ ?_;exact⟨_,rfl,aa [] (by simp-implicitDefEqProofs only[go_sem,ab,o1,o2,o3,o4,same p h2,if_true])⟩
  ·rw[decide_eq_false h1];refine g2_ ?_
   by_cases h2:(p.age.toNat:Int)<255
   ·obtain⟨q1,q2,q3,q4⟩:=old p h2;rw[decide_eq_true h2];refine g2_ ?_;refine dx (by omega) ?_
    refine g2_ ?_;exact⟨_,rfl,aa [] (by simp-implicitDefEqProofs only[go_sem,ab,q1,q2,q3,q4,same s h1,if_true])⟩
   ·rw[decide_eq_false h2];refine g2_ ?_;exact⟨_,rfl,aa [] (wg_ (same s h1) (same p h2))⟩
theorem iY(a b:UInt16):Con2 Tryz.prog 227 [.v (.int .u16 a.toNat),.v (.int .u16 b.toNat)] (· =plR (.v (.int .u16 (b-a).toNat))):=by
 have ha:=a.toNat_lt;have hb:=b.toNat_lt
 have e:((b-a).toNat:Int)=if (b.toNat:Int)-(a.toNat:Int)<0 then (b.toNat:Int)-(a.toNat:Int)+65536 else (b.toNat:Int)-(a.toNat:Int):=by
  rw[UInt16.toNat_sub];split<;>omega
 refine en_ Tryz.func227 [.tmp 4] (g2_ ?_);refine g2_ ?_;refine aq (fun h=>?_) (fun h=>?_)
 ·rw[if_pos h]at e;refine g2_ ?_;refine iR (by omega) ?_
  refine g2_ ?_;exact⟨_,rfl,aa [] (wf_ e)⟩
 ·rw[if_neg h]at e;refine g2_ ?_;refine iR (by omega) ?_
  refine g2_ ?_;exact⟨_,rfl,aa [] (wf_ e)⟩
theorem qF(own:List GSpan)(a b:GDesc)(n0:own.length<=1000000000)(n1:a.filter.length<=1000000000)(n2:b.filter.length<=1000000000)(h0: ∀s∈own,okS s)(h1: ∀s∈a.filter,okS s)(h2: ∀s∈b.filter,okS s):Con2 Tryz.prog 224 [fzS own,.agg (af a),.agg (af b)] (· =plR (.v (.bool (Btr (dP own a.filter) (dP own b.filter) a b)))):=by
 have k1:=nc own a.filter n0 n1 h0 h1;have k2:=nc own b.filter n0 n2 h0 h2;generalize dP own a.filter=x at k1;generalize dP own b.filter=y at k2;have hag:a.age=b.age↔(a.age.toNat:Int)=(b.age.toNat:Int):=(afs _ _).symm;refine en_ Tryz.func224 [.tmp 6] ?_;refine g2_ ?_;refine .inl ⟨[oF 0,oF 1,oF 4,oF 5,oF 2,oF 6,oT 3,oF 7,oF 8,oF 9],by kernel_rfl,?_⟩
 refine g2_ ?_;refine ce_ k1 ?_;refine g2_ ?_;refine ce_ k2 (g2_ ?_);refine cu (fun h=>?_) (fun h=>?_)
 ·have e:Btr x y a b=decide ((y:Int)<(x:Int)):=by rw[Btr,if_pos (by omega),decide_eq_decide];omega
  rw[e];refine g2_ ?_;exact⟨_,rfl,aa [] ws_⟩
 ·refine g2_ ?_;refine cu (fun h3=>?_) (fun h3=>?_)
  ·have e:Btr x y a b=decide ((a.age.toNat:Int)<(b.age.toNat:Int)):=by rw[Btr,if_neg (by omega),if_pos (fun g=>h3 (hag.1 g)),decide_eq_decide,UInt8.lt_iff_toNat_lt];omega
   rw[e];refine g2_ ?_;exact⟨_,rfl,aa [] ws_⟩
  ·have e:Btr x y a b=decide ((a.node.toNat:Int)<(b.node.toNat:Int)):=by rw[Btr,if_neg (by omega),if_neg (fun g=>g (hag.2 (by omega))),decide_eq_decide,UInt8.lt_iff_toNat_lt];omega
   rw[e];refine g2_ ?_;exact⟨_,rfl,aa [] ws_⟩
theorem lN(self:UInt8)(L:List (List GDesc))(hL:L.length<=4000000)(hl: ∀l∈L,aR l):Con2 Tryz.prog 223 [.v (.int .u8 self.toNat),.fz 1 (fk L)] (· =plR (fzD (aV self L))):=by
 refine Con2.ofEmb ?_;rw[aek];have hLl:(fk L).length=L.length:=by rw[fk,List.length_map]
 have hge0: ∀k (hk:k<L.length),(fk L)[k]? =some [fzD L[k]]:=fun k hk=>by rw[fk,List.getElem?_map,List.getElem?_eq_getElem hk];rfl
 generalize fk L=E at hLl hge0;have hself:=self.toNat_lt;refine en_ Tryz.func223 [.tmp 4] (g2_ ?_);refine g2_ ?_;refine av (γ:=Nat) (fun n=>[(6,.d (.v (.int .i64 (n:Nat)))),(5,.d (.rf 0 0 (unK self L n).length))]) (fun _=>[]) (fun n=>[(0,.arr 34 4 ((unK self L n).map af) false)]) 1 (fun n=>n<=256) (fun n=>256-n) 0 (aa [(0,.nil 4)] ?_) (by omega) (fun n hn=>?_)
 ·refine x1_ (c2_ @unK.eq_1 @List.range_zero) ?_
  repeat' (first|rfl|refine And.intro ?_ ?_)
 ·have hul :(unK self L n).length<=n:=aiu;have husc:=agS (self:=self) (L:=L) (n:=n);refine g2_ ?_;refine aq (fun h=>?_) (fun h=>?_)
  ·refine g2_ ?_;refine av (γ:=Nat) (fun k=>[(8,.d (.v (.int .i64 (k:Nat))))]) (fun k=>[(7,⟨af (nY self n L k),34⟩)]) (fun _=>[(0,.arr 34 4 ((unK self L n).map af) false)]) 1 (fun k=>k<=L.length) (fun k=>L.length-k) 0 (aa [(0,.to 0)] ?_) (by omega) (fun k hk0=>?_)
   ·refine gf_ @alT ?_
    first|done|rfl|exact⟨rfl,rfl⟩
   ·refine gf_ hLl ?_;refine aq (fun h1=>?_) (fun h1=>?_)
    ·have hk:k<L.length:=by omega
     have hge:=hge0 k hk;obtain⟨hb,hb2⟩:=hl _ (List.getElem_mem hk);have hfs:=ads (self:=self) (n:=n) hk;refine gf_ hge ?_;generalize L[k]=lk at hb hb2 hge hfs;refine av (γ:=Nat) (fun j=>[(9,.d (.v (.int .i64 (j:Nat))))]) (fun j=>[(7,⟨af ((lk.take j).foldl (eU self n) (nY self n L k)),34⟩)]) (fun _=>[(0,.arr 34 4 ((unK self L n).map af) false)]) 1 (fun j=>j<=lk.length) (fun j=>lk.length-j) 0 (aa [(0,.to 0)] ?_) (by omega) (fun j hj0=>?_)
     ·refine x1_ @List.foldl_nil.{0,0} ?_
      first|done|rfl|exact⟨rfl,rfl⟩
     ·refine gf_ hge ?_;refine aq (fun h2=>?_) (fun h2=>?_)
      ·have hj:j<lk.length:=by omega
       have hsn:=aeg (self:=self) (i:=n) (b:=nY self n L k) hj;have hgj:=aX (f:=af) hj;have hnd:=lk[j].node.toNat_lt;refine gg_ hge hgj ?_;generalize (lk.take j).foldl (eU self n) (nY self n L k)=B at hsn;generalize lk[j]=d at hsn hgj hnd;have hnw:=lv d B;have no: ¬(d.node.toNat=n/\d.node≠self/\d.inc≠0/\(B.inc=0\/cK d B=true))->(lk.take (j+1)).foldl (eU self n) (nY self n L k)=B:=fun g=>by rw[hsn,eU,if_neg g]
       have yes:(d.node.toNat=n/\d.node≠self/\d.inc≠0/\(B.inc=0\/cK d B=true))->(lk.take (j+1)).foldl (eU self n) (nY self n L k)=d:=fun g=>by rw[hsn,eU,if_pos g]
       by_cases c1:d.node.toNat=n
       ·rw [show((d.node.toNat:Int)==(n:Int))=true by simp[c1]]
        refine g2_ ?_;rw[ql]
        by_cases c2:d.node=self
        ·rw[decide_eq_true c2];refine g2_ ?_;refine⟨j+1,aa [(0,.to 0)] ?_,by omega,by omega⟩
         refine gf_ (no (fun g=>g.2.1 c2)) ?_
         try (repeat' (first|rfl|refine And.intro ?_ ?_))
        rw[decide_eq_false c2];refine g2_ ?_
        by_cases c3:(0:Int)<(d.inc.toNat:Int)
        ·have c3':d.inc≠0:=fun g=>by rw[g]at c3;exact absurd c3 (by decide)
         rw[decide_eq_true c3];refine g2_ ?_;rw[ga]
         by_cases c4:B.inc=0
         ·rw[decide_eq_true c4];refine g2_ ?_;refine⟨j+1,aa [(0,.to 0)] ?_,by omega,by omega⟩
          refine gf_ (yes ⟨c1,c2,c3',.inl c4⟩) ?_
          try (repeat' (first|rfl|refine And.intro ?_ ?_))
         ·rw[decide_eq_false c4];refine g2_ ?_;refine ce_ hnw ?_;cases c5:cK d B with
          |true=>
           refine g2_ ?_;refine⟨j+1,aa [(0,.to 0)] ?_,by omega,by omega⟩
           refine gf_ (yes ⟨c1,c2,c3',.inr c5⟩) ?_
           try (repeat' (first|rfl|refine And.intro ?_ ?_))
          |false=>
           refine g2_ ?_;refine⟨j+1,aa [(0,.to 0)] ?_,by omega,by omega⟩
           have hno:=no (fun g=>g.2.2.2.elim c4 (fun e=>absurd (c5.symm.trans e) (by decide)))
           refine gf_ hno ?_
           try (repeat' (first|rfl|refine And.intro ?_ ?_))
        ·have c3':d.inc=0:=UInt16.toNat_inj.1 (by simpa using c3)
         rw[decide_eq_false c3];refine g2_ ?_;refine⟨j+1,aa [(0,.to 0)] ?_,by omega,by omega⟩
         refine gf_ (no (fun g=>g.2.2.1 c3')) ?_
         try (repeat' (first|rfl|refine And.intro ?_ ?_))
       ·rw[show((d.node.toNat:Int)==(n:Int))=false from beq_eq_false_iff_ne.2 (by omega)]
        refine g2_ ?_;refine⟨j+1,aa [(0,.to 0)] ?_,by omega,by omega⟩
        refine gf_ (no (fun g=>c1 g.1)) ?_
        try (repeat' (first|rfl|refine And.intro ?_ ?_))
      ·have he:lk.take j=lk:=List.take_of_length_le (by omega)
       rw[he];refine g2_ ?_;refine⟨k+1,aa [(0,.to 0)] ?_,by omega,by omega⟩
       repeat first|simp-implicitDefEqProofs only[go_sem,ab,hfs]|with_reducible refine gl_ ?_
       try (repeat' (first|rfl|refine And.intro ?_ ?_))
    ·rw[ag7 (self:=self) (n:=n) (show L.length<=k by omega)]
     generalize qH self L.flatten n=B at husc;refine g2_ ?_;refine aq (fun h3=>?_) (fun h3=>?_)
     ·rw[if_pos h3]at husc;refine gx_ ?_;refine⟨n+1,aa [(0,.to 2)] ?_,by omega,by omega⟩
      repeat first|simp-implicitDefEqProofs only[go_sem,ab,husc,List.map_append,List.length_append]|with_reducible refine gl_ ?_
      try first|rfl|exact⟨rfl,by simp[af]⟩
     ·rw[if_neg h3,List.append_nil]at husc;refine g2_ ?_;refine⟨n+1,aa [(0,.to 0)] ?_,by omega,by omega⟩
      refine gf_ husc ?_
      try (repeat' (first|rfl|refine And.intro ?_ ?_))
  ·obtain rfl:n=256:=by omega
   refine g2_ ?_;refine ae ?_ rfl
   repeat first|simp-implicitDefEqProofs only[go_sem,ab,List.length_map,aF]|with_reducible refine gl_ ?_
theorem qV(own:List GSpan)(self:UInt8)(room:Int)(L:List (List GDesc))(hL:L.length<=4000000)(hl: ∀l∈L,aR l)(n0:own.length<=4000000)(h0: ∀s∈own,okS s)(hu:(aV self L).length<=4000000)(hm: ∀d∈aV self L,d.filter.length<=4000000/\ ∀s∈d.filter,okS s):Con2 Tryz.prog 134 [fzS own,.v (.int .u8 self.toNat),.v (.int .i64 room),.fz 1 (fk L)] (· =plR (fzD (cG own self room L))):=by
 refine Con2.ofEmb ?_;have k1:=lN self L hL hl;rw[ab6];generalize aV self L=U at k1 hu hm
 have kb: ∀i j (hi:i<U.length) (hj:j<U.length),Con2 Tryz.prog 224 [fzS own,.agg (af U[i]),.agg (af U[j])] (· =plR (.v (.bool (Btr (dP own U[i].filter) (dP own U[j].filter) U[i] U[j])))):=fun i j hi hj=>
  qF own U[i] U[j] (by omega) (by have:=(hm _ (List.getElem_mem hi)).1;omega) (by have:=(hm _ (List.getElem_mem hj)).1;omega) h0 (hm _ (List.getElem_mem hi)).2 (hm _ (List.getElem_mem hj)).2
 obtain⟨q,hq⟩: ∃q:GDesc->Bool,q=fun d=>decide (0<dP own d.filter)&&decide (((U.countP fun e=>Btr (dP own e.filter) (dP own d.filter) e d):Nat)<room):=⟨_,rfl⟩
 rw[<-hq];refine en_ Tryz.func134 [.tmp 8] (g2_ ?_);refine g2_ ?_;refine ce_ k1 (g2_ ?_);refine av (γ:=Nat) (fun i=>[(11,.d (.v (.int .i64 (i:Nat)))),(10,.d (.rf 0 0 ((U.take i).filter q).length))]) (fun _=>[]) (fun i=>[(0,.arr 34 4 (((U.take i).filter q).map af) false)]) 1 (fun i=>i<=U.length) (fun i=>U.length-i) 0 (aa [(0,.nil 4)] ?_) (by omega) (fun i hi=>?_)
 ·refine x0_ ?_
  repeat' (first|rfl|refine And.intro ?_ ?_)
 ·have hfl:=gh (f:=q) U i;refine gx_ ?_;refine aq (fun h=>?_) (fun h=>?_)
  ·have hk:i<U.length:=by omega
   have hsn:=eY (f:=q) hk;have hgi:=aX (f:=af) hk;refine g2_ ?_;refine av (γ:=Nat) (fun j=>[(13,.d (.v (.int .i64 (j:Nat)))),(12,.d (.v (.int .i64 (((U.take j).countP fun e=>Btr (dP own e.filter) (dP own U[i].filter) e U[i]):Nat))))]) (fun _=>[]) (fun _=>[(0,.arr 34 4 (((U.take i).filter q).map af) false)]) 1 (fun j=>j<=U.length) (fun j=>U.length-j) 0 (aa [(0,.to 0)] ?_) (by omega) (fun j hj0=>?_)
   ·repeat first|simp-implicitDefEqProofs only[go_sem,ab,List.take_zero,List.countP_nil]|with_reducible refine gl_ ?_
    first|done|rfl|exact⟨rfl,rfl⟩
   ·have hcl:(U.take j).countP (fun e=>Btr (dP own e.filter) (dP own U[i].filter) e U[i])<=j:=Nat.le_trans List.countP_le_length (by simp;omega)
    refine gx_ ?_;refine aq (fun h1=>?_) (fun h1=>?_)
    ·have hj:j<U.length:=by omega
     have hcs:=z0 (f:=fun e=>Btr (dP own e.filter) (dP own U[i].filter) e U[i]) hj
     have kbb:=kb j i hj hk;have hgj:=aX (f:=af) hj;refine g2_ ?_;refine .inl ⟨[oF 0,oF 1,oF 2,oF 5,oF 6,oF 3,oF 7,oF 4,oF 8,oF 9],by kernel_rfl,?_⟩
     refine gg_ hgi hgj ?_;refine ce_ kbb ?_;cases hb:Btr (dP own U[j].filter) (dP own U[i].filter) U[j] U[i]with
     |true=>
      simp only[hb,if_true]at hcs;refine g2_ ?_;refine⟨j+1,aa [(0,.to 0)] ?_,by omega,by omega⟩
      refine gf_ hcs ?_
      try (repeat' (first|rfl|refine And.intro ?_ ?_))
     |false=>
      simp only[hb,Bool.false_eq_true,if_false,Nat.add_zero]at hcs;refine g2_ ?_;refine⟨j+1,aa [(0,.to 0)] ?_,by omega,by omega⟩
      repeat first|simp-implicitDefEqProofs only[go_sem,ab,hcs]|with_reducible refine gl_ ?_
      try (repeat' (first|rfl|refine And.intro ?_ ?_))
    ·have he:U.take j=U:=List.take_of_length_le (by omega)
     rw[he];have ko:=nc own U[i].filter (by omega) (by have:=(hm _ (List.getElem_mem hk)).1;omega) h0 (hm _ (List.getElem_mem hk)).2
     have hqi:q U[i]=(decide (0<dP own U[i].filter)&&decide (((U.countP fun e=>Btr (dP own e.filter) (dP own U[i].filter) e U[i]):Nat)<room)):=by rw[hq]
     generalize (U.countP fun e=>Btr (dP own e.filter) (dP own U[i].filter) e U[i])=C at hqi
     refine gf_ hgi ?_;refine ce_ ko ?_;generalize dP own U[i].filter=O at hqi;refine g2_ ?_
     by_cases c1:0<O
     ·rw[show decide ((0:Int)<(O:Int))=true from decide_eq_true (by omega)]
      refine g2_ ?_
      by_cases c2:(C:Int)<room
      ·have e:q U[i]=true:=by rw[hqi,decide_eq_true c1,decide_eq_true c2];rfl
       rw[if_pos e]at hsn;rw[decide_eq_true c2];refine gf_ hgi ?_;refine⟨i+1,aa [(0,.to 2)] ?_,by omega,by omega⟩
       repeat first|simp-implicitDefEqProofs only[go_sem,ab,hsn,List.map_append,List.length_append]|with_reducible refine gl_ ?_
       try first|rfl|exact⟨rfl,by simp[af]⟩
      ·have e:q U[i]=false:=by rw[hqi,decide_eq_false c2,Bool.and_false]
       rw[e,if_neg (by simp),List.append_nil]at hsn
       rw[decide_eq_false c2];refine g2_ ?_;refine⟨i+1,aa [(0,.to 0)] ?_,by omega,by omega⟩
       refine gf_ hsn ?_
       try (repeat' (first|rfl|refine And.intro ?_ ?_))
     ·have e:q U[i]=false:=by rw[hqi,decide_eq_false c1,Bool.false_and]
      rw[e,if_neg (by simp),List.append_nil]at hsn
      rw[show decide ((0:Int)<(O:Int))=false from decide_eq_false (by omega)]
      refine g2_ ?_;refine⟨i+1,aa [(0,.to 0)] ?_,by omega,by omega⟩
      refine gf_ hsn ?_
      try (repeat' (first|rfl|refine And.intro ?_ ?_))
  ·have he:U.take i=U:=List.take_of_length_le (by omega)
   rw[he];refine g2_ ?_;refine ae ?_ rfl
   repeat first|simp-implicitDefEqProofs only[go_sem,ab,List.length_map,aF]|with_reducible refine gl_ ?_
end Go.Proofs.YthoihfighiolmaaGreat.V
namespace Go.Eng
theorem ahb{s:Int}(h:s<0):s.tdiv 2= -((-s) / 2)/\s.tmod 2= -((-s) % 2):=by
 obtain⟨n,rfl⟩: ∃n:Nat,s= -(n:Int):=⟨(-s).toNat,by omega⟩
 rw[Int.neg_tdiv,Int.neg_tmod,Int.neg_neg];exact⟨rfl,rfl⟩
theorem agx{s:Int}(h:0<=s):s.tdiv 2=s / 2:=Int.tdiv_eq_ediv_of_nonneg h
theorem ana{d s:GSpan}(h1:d.a<=s.a)(h2:s.a<=s.b)(h3:s.b<=d.b):0<=sQ d s/\sQ d s<=3/\ ∀q:Int,((q+1)*(d.b-d.a+1)<=4*((s.a+s.b) / 2-d.a))↔q<sQ d s:=by
 have hm:d.a<=(s.a+s.b) / 2/\(s.a+s.b) / 2<=d.b:=by omega
 have e:sQ d s=4*((s.a+s.b) / 2-d.a) / (d.b-d.a+1):=by
  rw[sQ,if_neg (by omega),Int.fdiv_eq_ediv_of_nonneg _ (by decide),Int.tdiv_eq_ediv_of_nonneg (by omega)]
 have hp:(0:Int)<d.b-d.a+1:=by omega
 rw[e];refine⟨Int.ediv_nonneg (by omega) (by omega),?_,fun q=>?_⟩
 ·have:=(Int.ediv_lt_iff_lt_mul hp (a:=4*((s.a+s.b) / 2-d.a)) (b:=4)).2 (by omega)
  omega
 ·rw[<-Int.add_one_le_iff,Int.le_ediv_iff_mul_le hp]
theorem ab3{a b:UInt16}:decide ((a.toNat:Int)<(b.toNat:Int))=decide (a<b):=by rw[decide_eq_decide];exact cZ a b
end Go.Eng
namespace Go.Proofs.YthoihfighiolmaaGreat.V
open Go.Eng
attribute [local go_sem] zDesc aP af fzD plR bb a_ aE bj aC ak bk cR z8 z16 z32 z64 encMg aH dE List.map_cons List.map_nil List.set_cons_succ List.set_cons_zero
theorem o8{dom f:List GSpan}{i:Nat}(h:bB dom f=true)(hi:i<f.length):f.length=dom.length/\ ∀hd:i<dom.length,dom[i].a<=f[i].a/\f[i].a<=f[i].b/\f[i].b<=dom[i].b:=by
 have hne:f.isEmpty=false:=by cases f;simp at hi;rfl
 rw[bB,hne,Bool.false_or,Bool.and_eq_true,decide_eq_true_eq]at h;refine⟨h.1,fun hd=>?_⟩
 have hz:i<(dom.zip f).length:=by rw[List.length_zip];omega
 have h2:=List.all_eq_true.1 h.2 _ (List.getElem_mem hz);rw[List.getElem_zip]at h2;simp only[kT,tG,cY,Bool.and_eq_true,Bool.or_eq_true,decide_eq_true_eq]at h2;omega
def chK(dom:List GSpan)(here:UInt16)(l:List GDesc)(i:Nat):b9:=if i=0 then ⟨false,false,zDesc,zDesc⟩else ⟨true,true,l.getD (cS (fun h t=>t-h) here dom l i).1 zDesc,l.getD (cS (fun h t=>h-t) here dom l i).1 zDesc⟩
theorem jq{far:UInt16->UInt16->UInt16}{here:UInt16}{dom:List GSpan}{l:List GDesc}: ∀i,(cS far here dom l i).2=far here (bw dom (l.getD (cS far here dom l i).1 zDesc))
 |0=>by cases l<;>rfl
 | i+1=>by
  rw[cS];cases h:l[i]? with
  |none=>exact jq i
  |some d=>
   simp only;split
   ·simp[List.getD_eq_getElem?_getD,h]
   ·exact jq i
theorem te{far:UInt16->UInt16->UInt16}{here:UInt16}{dom:List GSpan}{l:List GDesc}{i:Nat}(h:i<l.length):l.getD (cS far here dom l (i+1)).1 zDesc=if i=0\/far here (bw dom l[i])<far here (bw dom (l.getD (cS far here dom l i).1 zDesc))then l[i]else l.getD (cS far here dom l i).1 zDesc:=by
 rw[cS,List.getElem?_eq_getElem h];simp only;rw[jq]
 by_cases h0:i=0
 ·subst h0;have e0:(cS far here dom l 0).1=0:=rfl;rw[e0];simp only[true_or,if_true];split<;>simp[List.getD_eq_getElem?_getD,h,e0]
 ·by_cases h1:far here (bw dom l[i])<far here (bw dom (l.getD (cS far here dom l i).1 zDesc))
  ·rw[if_pos h1,if_pos (.inr h1)];simp[List.getD_eq_getElem?_getD,h]
  ·rw[if_neg h1,if_neg (not_or.2 ⟨h0,h1⟩)]
theorem afB{dom:List GSpan}{here:UInt16}{l:List GDesc}{i:Nat}(h:i<l.length):chK dom here l (i+1)=⟨true,true,if i=0\/bw dom l[i]-here<bw dom (chK dom here l i).succ-here then l[i]else (chK dom here l i).succ,if i=0\/here-bw dom l[i]<here-bw dom (chK dom here l i).pred then l[i]else (chK dom here l i).pred⟩:=by
 rw[chK,if_neg (Nat.succ_ne_zero i),te h,te h]
 by_cases h0:i=0
 ·simp[h0]
 ·simp[chK,h0]
theorem ai5{dom:List GSpan}{here:UInt16}{l:List GDesc}{i:Nat}(h0:i≠0)(hl:l≠[]):(chK dom here l i).hs=true/\(chK dom here l i).hp=true/\(chK dom here l i).succ∈l/\(chK dom here l i).pred∈l:=by
 have m: ∀far:UInt16->UInt16->UInt16,l.getD (cS far here dom l i).1 zDesc∈l:=fun far=>by
  have hlt: ∀k,(cS far here dom l k).1<l.length:=by
   intro k
   induction k with
   |zero=>exact List.length_pos_iff.2 hl
   | succ k ih=>
    rw[cS];split
    ·rename_i d hd;split
     ·exact(List.getElem?_eq_some_iff.1 hd).1
     ·exact ih
    ·exact ih
  rw[List.getD_eq_getElem?_getD,List.getElem?_eq_getElem (hlt i)];exact List.getElem_mem _
 rw[chK,if_neg h0];exact⟨rfl,rfl,m _,m _⟩
theorem adq(dom f:List GSpan)(h4:dom.length<=4)(hd: ∀s∈dom,okS s)(hf: ∀s∈f,okS s)(hr:bB dom f=true):Con2 Tryz.prog 318 [fzS dom,fzS f] (· =plR (.v (.int .u8 (mN dom f).toNat))):=by
 have hf4:f.length<=4:=by
  cases f with
  |nil=>simp
  |cons x r=>have:=(o8 (i:=0) hr (by simp)).1;omega
 refine en_ Tryz.func318 [.tmp 4] (g2_ ?_)
 repeat first|simp-implicitDefEqProofs only[go_sem,ab,fzS]|with_reducible first|refine gl_ ?_|refine ga_ ?_|refine gn_ ?_
 refine fO (fun h0=>?_) (fun h0=>?_)
 ·have e:f=[]:=List.eq_nil_of_length_eq_zero (by omega)
  have e2:mN dom f=0:=by subst e;simp[mN,jI]
  rw[e2];refine g2_ ?_;exact⟨_,rfl,aa [] ws_⟩
 ·have hlen:f.length=dom.length:=(o8 (i:=0) hr (by omega)).1
  have hn:(dom.zip f).length=f.length:=by rw[List.length_zip];omega
  repeat first|simp-implicitDefEqProofs only[go_sem,ab,fzS]|with_reducible first|refine gl_ ?_|refine ga_ ?_|refine gn_ ?_
  refine av (γ:=Nat) (fun i=>[(6,.d (.v (.int .i64 (i:Nat)))),(5,.d (.v (.int .i64 (jI dom f i))))]) (fun _=>[]) (fun _=>[]) 0 (fun i=>i<=f.length) (fun i=>f.length-i) 0 (aa [] ?_) (by omega) (fun i hi=>?_)
  ·have hk0:jI dom f 0=0:=rfl;refine gf_ hk0 ?_
   repeat' (first|rfl|refine And.intro ?_ ?_)
  ·repeat first|simp-implicitDefEqProofs only[go_sem,ab,fzS]|with_reducible first|refine gl_ ?_|refine ga_ ?_|refine gn_ ?_
   refine aq (fun h=>?_) (fun h=>?_)
   ·have hk2:i<f.length:=by omega
    have hk1:i<dom.length:=by omega
    have hsu:=mn hk1 hk2;have hb:=uM hd hf i (by omega)
    have hb2:(jI dom f i).natAbs<=34359738368*85:=Nat.le_trans hb (by split;omega;split;omega;split;omega;split<;>omega)
    obtain⟨i1,i2,i3⟩:=(o8 hr hk2).2 hk1;obtain⟨q1,q2,q3⟩:=ana i1 i2 i3;obtain⟨a1,a2,a3,a4⟩:=hd _ (List.getElem_mem hk1);obtain⟨b1,b2,b3,b4⟩:=hf _ (List.getElem_mem hk2);have hgd:=aX (f:=aP) hk1;have hgf:=aX (f:=aP) hk2
    repeat first|simp-implicitDefEqProofs only[go_sem,ab,fzS]|with_reducible first|refine gl_ ?_|refine ga_ ?_|refine gn_ ?_
    refine .inl ⟨[oF 0,oF 1,oF 6,oF 7,oF 2,oF 8,oF 3,oF 9,oF 4,oF 10,oF 5,oF 11,oF 12,oF 13],by kernel_rfl,gf_ hgf ?_⟩
    generalize dom[i]=d at hsu i1 i3 q1 q2 q3 a1 a2 a3 a4 hgd;generalize f[i]=s at hsu i1 i2 i3 q1 q2 q3 b1 b2 b3 b4 hgf;rw[ud (by decide)]
    obtain⟨M,hM⟩: ∃M,M=(s.a+s.b) / 2:=⟨_,rfl⟩;rw[<-hM]at q3
    by_cases hneg:s.a+s.b<0
    ·obtain⟨t1,t2⟩:=ahb hneg;generalize (s.a+s.b).tdiv 2=m at t1 ⊢;refine f6 (by omega) ?_
     refine g2_ ?_;rw[decide_eq_true hneg];refine g2_ ?_;rw[abQ (by decide)]
     generalize (s.a+s.b).tmod 2=r at t2 ⊢;refine g2_ ?_
     by_cases hr0:r=0
     ·obtain rfl:m=M:=by omega
      rw[show(r !=0)=false by rw[hr0];rfl]
      refine g2_ ?_;refine .inl ⟨[oF 0,oF 1,oF 6,oF 7,oF 2,oF 8,oF 3,oF 9,oF 4,oF 10,oF 5,oF 11,oF 12,oF 13,oF 14],by kernel_rfl,gf_ hgd ?_⟩
      refine av (γ:=Nat) (fun q=>[(10,.d (.v (.int .i64 (q:Nat))))]) (fun _=>[]) (fun _=>[]) 0 (fun q=>(q:Int)<=sQ d s) (fun q=>3-q) 0 (aa [] ?_) (by omega) (fun q hq=>?_)
      ·refine g2_ ?_
       repeat' (first|rfl|refine And.intro ?_ ?_)
      ·have hkq:=q3 q
       have hmul:0<=((q:Int)+1)*(d.b-d.a+1)/\((q:Int)+1)*(d.b-d.a+1)<=17179869184:=by
        rcases(show q=0\/q=1\/q=2\/q=3 by omega)with rfl|rfl|rfl|rfl<;>simp<;>omega
       refine gf_ hgd ?_;refine aq (fun h5=>?_) (fun h5=>?_)
       ·have h6:=hkq.1 h5;refine g2_ ?_;refine⟨q+1,aa [] (by simp-implicitDefEqProofs only[go_sem,ab];repeat' (first|rfl|refine And.intro ?_ ?_)),by omega,by omega⟩
       ·have h6:(q:Int)=sQ d s:=by
         have:=fun g=>h5 (hkq.2 g)
         have: ¬(q:Int)<sQ d s:=this;omega
        refine g2_ ?_;refine⟨i+1,aa [] ?_,by omega,by omega⟩
        refine gf_ (c2_ hsu h6) ?_
        try (repeat' (first|rfl|refine And.intro ?_ ?_))
     ·rw [show(r !=0)=true by simpa using hr0]
      refine g2_ ?_;rw[show m-1=M by omega]
      refine .inl ⟨[oF 0,oF 1,oF 6,oF 7,oF 2,oF 8,oF 3,oF 9,oF 4,oF 10,oF 5,oF 11,oF 12,oF 13,oF 14],by kernel_rfl,gf_ hgd ?_⟩
      refine av (γ:=Nat) (fun q=>[(10,.d (.v (.int .i64 (q:Nat))))]) (fun _=>[]) (fun _=>[]) 0 (fun q=>(q:Int)<=sQ d s) (fun q=>3-q) 0 (aa [] ?_) (by omega) (fun q hq=>?_)
      ·refine g2_ ?_
       repeat' (first|rfl|refine And.intro ?_ ?_)
      ·have hkq:=q3 q
       have hmul:0<=((q:Int)+1)*(d.b-d.a+1)/\((q:Int)+1)*(d.b-d.a+1)<=17179869184:=by
        rcases(show q=0\/q=1\/q=2\/q=3 by omega)with rfl|rfl|rfl|rfl<;>simp<;>omega
       refine gf_ hgd ?_;refine aq (fun h5=>?_) (fun h5=>?_)
       ·have h6:=hkq.1 h5;refine g2_ ?_;refine⟨q+1,aa [] (by simp-implicitDefEqProofs only[go_sem,ab];repeat' (first|rfl|refine And.intro ?_ ?_)),by omega,by omega⟩
       ·have h6:(q:Int)=sQ d s:=by
         have:=fun g=>h5 (hkq.2 g)
         have: ¬(q:Int)<sQ d s:=this;omega
        refine g2_ ?_;refine⟨i+1,aa [] ?_,by omega,by omega⟩
        refine gf_ (c2_ hsu h6) ?_
        try (repeat' (first|rfl|refine And.intro ?_ ?_))
    ·have t1:=agx (s:=s.a+s.b) (by omega)
     rw[t1, <-hM];refine f6 (by omega) ?_
     refine g2_ ?_;rw[decide_eq_false hneg];refine g2_ ?_;refine .inl ⟨[oF 0,oF 1,oF 6,oF 7,oF 2,oF 8,oF 3,oF 9,oF 4,oF 10,oF 5,oF 11,oF 12,oF 13,oF 14],by kernel_rfl,gf_ hgd ?_⟩
     refine av (γ:=Nat) (fun q=>[(10,.d (.v (.int .i64 (q:Nat))))]) (fun _=>[]) (fun _=>[]) 0 (fun q=>(q:Int)<=sQ d s) (fun q=>3-q) 0 (aa [] ?_) (by omega) (fun q hq=>?_)
     ·refine g2_ ?_
      repeat' (first|rfl|refine And.intro ?_ ?_)
     ·have hkq:=q3 q
      have hmul:0<=((q:Int)+1)*(d.b-d.a+1)/\((q:Int)+1)*(d.b-d.a+1)<=17179869184:=by
       rcases(show q=0\/q=1\/q=2\/q=3 by omega)with rfl|rfl|rfl|rfl<;>simp<;>omega
      refine gf_ hgd ?_;refine aq (fun h5=>?_) (fun h5=>?_)
      ·have h6:=hkq.1 h5;refine g2_ ?_;refine⟨q+1,aa [] (by simp-implicitDefEqProofs only[go_sem,ab];repeat' (first|rfl|refine And.intro ?_ ?_)),by omega,by omega⟩
      ·have h6:(q:Int)=sQ d s:=by
        have:=fun g=>h5 (hkq.2 g)
        have: ¬(q:Int)<sQ d s:=this;omega
       refine g2_ ?_;refine⟨i+1,aa [] ?_,by omega,by omega⟩
       refine gf_ (c2_ hsu h6) ?_
       try (repeat' (first|rfl|refine And.intro ?_ ?_))
   ·obtain rfl:i=f.length:=by omega
    refine g2_ ?_;rw[ae8];refine g2_ ?_;exact⟨_,rfl,aa [] (by simp-implicitDefEqProofs only[go_sem,ab,mN,hn])⟩
theorem l_(dom:List GSpan)(d:GDesc)(h4:dom.length<=4)(hd: ∀s∈dom,okS s)(hf: ∀s∈d.filter,okS s)(hr:bB dom d.filter=true):Con2 Tryz.prog 226 [fzS dom,.agg (af d)] (· =plR (.v (.int .u16 (bw dom d).toNat))):=by
 have hk:=adq dom d.filter h4 hd hf hr;have k1:=(mN dom d.filter).toNat_lt;have k2:=d.node.toNat_lt
 have e:((bw dom d).toNat:Int)=((mN dom d.filter).toNat:Int)*256+(d.node.toNat:Int):=by
  rw[bw,UInt16.toNat_ofNat'];omega
 rw[e];generalize mN dom d.filter=key at hk k1;refine en_ Tryz.func226 [.tmp 4] (g2_ ?_);refine g2_ ?_;refine .inl ⟨[oF 0,oF 1,oF 6,oF 2,oF 7,oF 8,oT 3,oF 4,oF 5,oF 9,oF 10,oF 11],by kernel_rfl,g2_ ?_⟩
 refine ce_ hk (g2_ ?_);refine iR (by omega) ?_
 refine g2_ ?_;exact⟨_,rfl,aa [] ws_⟩
theorem qW(dom:List GSpan)(self:GDesc)(L:List (List GDesc))(hL:L.length<=4000000)(hl: ∀l∈L,aR l)(h4:dom.length<=4)(hd: ∀s∈dom,okS s)(hs:bB dom self.filter=true/\ ∀s∈self.filter,okS s)(hu:(aV self.node L).length<=4000000)(hm: ∀d∈aV self.node L,bB dom d.filter=true/\ ∀s∈d.filter,okS s):Con2 Tryz.prog 135 [fzS dom,.agg (af self),.fz 1 (fk L)] (· =plR (.agg (aH (bN dom self L)))):=by
 refine Con2.ofEmb ?_;have k1:=lN self.node L hL hl;have k2:=l_ dom self h4 hd hs.2 hs.1
 have e0:bN dom self L=chK dom (bw dom self) (aV self.node L) (aV self.node L).length:=by
  rw[bN,chK]
  by_cases h:aV self.node L=[]
  ·rw[if_pos h,if_pos (by rw[h];rfl)]
  ·rw[if_neg h,if_neg (fun g=>h (List.eq_nil_of_length_eq_zero g))];rfl
 rw[e0];generalize aV self.node L=U at k1 hu hm;generalize bw dom self=here at k2;have kp: ∀d∈U,Con2 Tryz.prog 226 [fzS dom,.agg (af d)] (· =plR (.v (.int .u16 (bw dom d).toNat))):=fun d h=>l_ dom d h4 hd (hm d h).2 (hm d h).1
 refine en_ Tryz.func135 [.cell 6 36] (g2_ ?_);refine g2_ ?_;refine ce_ k1 (g2_ ?_);refine ce_ k2 (g2_ ?_);refine av (γ:=Nat) (fun i=>[(10,.d (.v (.int .i64 (i:Nat))))]) (fun i=>[(9,⟨aH (chK dom here U i),36⟩)]) (fun _=>[]) 0 (fun i=>i<=U.length) (fun i=>U.length-i) 0 (aa [] ?_) (by omega) (fun i hi=>?_)
 ·refine gf_ @chK.eq_1 ?_
  first|done|rfl|exact⟨rfl,rfl⟩
 ·refine gx_ ?_;refine aq (fun h=>?_) (fun h=>?_)
  ·have hk:i<U.length:=by omega
   have hst:=afB (dom:=dom) (here:=here) hk;have hgi:=aX (f:=af) hk;have hme:i≠0->_:=fun h=>ai5 (dom:=dom) (here:=here) (l:=U) h (fun e=>by rw[e]at hk;simp at hk)
   have hz:i=0->(chK dom here U i).hs=false/\(chK dom here U i).hp=false:=fun h=>by rw[chK,if_pos h];exact⟨rfl,rfl⟩
   have kpi:=kp _ (List.getElem_mem hk);refine gf_ hgi ?_;generalize chK dom here U i=R at hst hme hz;generalize U[i]=d at hst hgi kpi;obtain⟨ra,rb,s,p⟩:=R;refine ce_ kpi ?_;have f1:=iY here (bw dom d);have f2:=iY (bw dom d) here;refine g2_ ?_;refine .inl ⟨[oF 0,oF 1,oF 2,oF 3,oF 4,oF 5,oF 7,oF 8,oF 9,oF 10,oT 6,oF 11,oF 12,oF 13,oF 14],by kernel_rfl,g2_ ?_⟩
   by_cases h0:i=0
   ·obtain⟨z1,z2⟩:=hz h0;simp only at z1 z2;subst z1 z2;rw[if_pos (.inl h0),if_pos (.inl h0)]at hst;refine gf_ hgi ?_;refine .inl ⟨[oF 0,oF 1,oF 2,oF 3,oF 4,oF 5,oF 7,oF 8,oF 11,oF 9,oT 6,oF 10,oF 12,oF 13,oF 14],by kernel_rfl,gf_ hgi ?_⟩
    refine⟨i+1,aa [] ?_,by omega,by omega⟩
    refine gf_ hst ?_
    try (repeat' (first|rfl|refine And.intro ?_ ?_))
   ·obtain⟨z1,z2,z3,z4⟩:=hme h0;simp only at z1 z2 z3 z4;subst z1 z2;have ks:=kp s z3;have kq:=kp p z4;have f3:=iY here (bw dom s);have f4:=iY (bw dom p) here;simp only[h0,false_or]at hst;refine g2_ ?_;refine ce_ f1 (g2_ ?_);refine ce_ ks (g2_ ?_);refine ce_ f3 (g2_ ?_);rw[ab3]
    by_cases c1:bw dom d-here<bw dom s-here
    all_goals
     first|rw[decide_eq_true c1]|rw[decide_eq_false c1]
     refine gf_ hgi ?_;refine .inl ⟨[oF 0,oF 1,oF 2,oF 3,oF 4,oF 5,oF 7,oF 8,oF 11,oF 9,oT 6,oF 10,oF 12,oF 13,oF 14],by kernel_rfl,gf_ hgi ?_⟩
     refine ce_ f2 (g2_ ?_);refine ce_ kq (g2_ ?_);refine ce_ f4 (g2_ ?_);rw[ab3]
     by_cases c2:here-bw dom d<here-bw dom p
     all_goals
      first|rw[decide_eq_true c2]|rw[decide_eq_false c2]
      refine gf_ hgi ?_;refine⟨i+1,aa [] ?_,by omega,by omega⟩
      refine gf_ (c3_ hst c1 c2) ?_
      try (repeat' (first|rfl|refine And.intro ?_ ?_))
  ·obtain rfl:i=U.length:=by omega
   refine g2_ ?_;refine ae ?_ rfl;exact ws_
