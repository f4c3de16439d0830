import Derived.Test.YtmhmahcdanclnaaGreatNr36
set_option linter.unusedSectionVars false
set_option linter.unusedSimpArgs false
set_option linter.unusedVariables false
set_option maxRecDepth 10000
namespace Go.Eng
def dfN{α:Type}(q:α->Bool)(l:List α)(j:Nat):Nat:=((l.take j).filter fun x=> !q x).length
def dfR{α:Type}(q:α->Bool)(l:List α)(j:Nat):List α:=(l.take j).filter (fun x=> !q x)++l.drop (dfN q l j)
section
variable {α:Type} {q:α->Bool} {l:List α} {j:Nat}
theorem yv:dfN q l j<=j:=by grind [dfN]
theorem xV(hj:j<=l.length):(dfR q l j).length=l.length:=by grind [dfR,dfN]
theorem wZ(hj:j<l.length):(dfR q l j)[j]? =some l[j]:=by grind [dfR,dfN]
theorem oy(hj:j<l.length):(l.take (j+1)).filter (fun x=> !q x)=(l.take j).filter (fun x=> !q x)++(if q l[j]=false then [l[j]]else []):=by grind [List.take_add_one,List.getElem?_eq_getElem,Option.toList_some]
theorem iI(hj:j<l.length)(hb:q l[j]=false):dfN q l (j+1)=dfN q l j+1:=by
 unfold dfN;rw[oy hj,if_pos hb,List.length_append];rfl
theorem gX(hj:j<l.length)(hb:q l[j]=true):dfN q l (j+1)=dfN q l j:=by
 unfold dfN;rw[oy hj,if_neg (by rw[hb];decide),List.append_nil]
theorem tG(hj:j<l.length)(hb:q l[j]=true):dfR q l (j+1)=dfR q l j:=by
 unfold dfR;rw[gX hj hb,oy hj,if_neg (by rw[hb];decide),List.append_nil]
theorem rC(hj:j<l.length)(hb:q l[j]=false):(dfR q l j).set (dfN q l j) l[j]=dfR q l (j+1):=by
 have h:=yv (q:=q) (l:=l) (j:=j);unfold dfR;rw[iI hj hb,oy hj,if_pos hb];have h2:((l.take j).filter fun x=> !q x).length=dfN q l j:=rfl
 rw[List.set_append_right _ _ (by omega),h2,Nat.sub_self,List.drop_eq_getElem_cons (show dfN q l j<l.length by omega),List.set_cons_zero,List.append_assoc]
 rfl
theorem sE{i:Nat}(hi:i<l.length)(hb:q l[i]=true)(hF: ∀x∈l.take i,q x=false):dfN q l (i+1)=i/\dfR q l (i+1)=l:=by
 have h1:(l.take i).filter (fun x=> !q x)=l.take i:=List.filter_eq_self.2 fun x hx=>by simp[hF x hx]
 have h2:(l.take (i+1)).filter (fun x=> !q x)=l.take i:=by rw[oy hi,if_neg (by rw[hb];decide),List.append_nil,h1]
 have h3:dfN q l (i+1)=i:=by unfold dfN;rw[h2,List.length_take];omega
 exact⟨h3,by unfold dfR;rw[h2,h3,List.take_append_drop]⟩
theorem adt:(dfR q l l.length).take (dfN q l l.length)=l.filter fun x=> !q x:=by grind [dfR,dfN]
theorem x9:dfN q l l.length=(l.filter fun x=> !q x).length:=by unfold dfN;rw[List.take_length]
end
end Go.Eng
namespace Go.Proofs.YtmhmahcdanclnaaGreat.V
open Go.Eng
attribute [local go_sem] aQ ah fzD plR a_ aN aP aD aB ak aE aU z8 z16 z32 z64 encMg aO bP aC List.set_cons_succ List.set_cons_zero
theorem pJ(c:an)(p:af)(hp:okP p):Con2 Tryz.prog 76 [.agg (aB c),.agg (ak p)] (· =⟨.agg ((ak p).set 24 (.rf 0 0 p.rows.length)),[(0,.arr 84 3 (p.rows.map aD) false)],1⟩):=by
 have kf:=pN p hp;have hn:=p.node.toNat_lt;have htb:=hp.table;refine en_ Tryz.func76 [.cell 4 49] (g2_ ?_);refine g2_ ?_;refine im_ Tryz.func84 [.cell 8 49,.tmp 9] (g2_ ?_);refine g2_ ?_;refine .inr (.inr (.inl ⟨[oF 0,oF 1,oF 3,oF 4,oT 2,oF 5,oF 6,oF 7,oF 8,oF 9],[],by kernel_rfl,g2_ ?_⟩))
 refine cw_ kf (g2_ ?_);refine im_ Tryz.func156 [.cell 8 49,.tmp 9] (g2_ ?_);refine gx_ ?_
 by_cases h1:c.nodes<=(p.node.toNat:Int)
 ·rw[decide_eq_true h1];refine g2_ ?_;exact⟨_,rfl,aa [(0,.to 0)] ws_⟩
 rw[decide_eq_false h1];refine gx_ ?_
 by_cases h2:(p.table.length:Int)<=(p.node.toNat:Int)
 ·rw[decide_eq_true h2];refine g2_ ?_;exact⟨_,rfl,aa [(0,.to 0)] ws_⟩
 rw[decide_eq_false h2];refine g2_ ?_;exact⟨_,rfl,aa [(0,.to 0)] ws_⟩
theorem ix(c:an)(p:af)(hp:okP p):Con2 Tryz.prog 76 [.agg (aB c),.agg (ak p)] (· =plR (.agg (ak p))):=by
 refine(pJ c p hp).emb ?_ rfl;exact wf_ @ao
theorem tO(c:an)(p:af)(e:GEvt)(hs:c.schema.length<=4000000)(hv:e.vals.length<=4000000)(hd:e.data.length<=4000000)(hr:p.rows.length<=4000000):
  Con2 Tryz.prog 136 [.agg (aB c),.agg (ak p),.agg (aE e)] (· =plR (.v (.bool (jN c p e)))):=by
 refine Con2.ofEmb ?_;have hx:=e.id.bd;have k1:=rM c.schema e hs hv hd;obtain⟨R,hR⟩: ∃R,jN c p e=R:=⟨_,rfl⟩;rw[hR];unfold jN at hR;refine en_ Tryz.func136 [.tmp 6] (g2_ ?_);refine g2_ ?_;refine cw_ k1 (g2_ ?_);cases h1:cO c.schema e with
 |false=>
  rw[if_pos (.inl h1)]at hR;subst hR;refine g2_ ?_;refine ae ?_ rfl;exact ws_
 |true=>
 refine g2_ ?_
 by_cases h2:c.nodes<=(e.id.node.toNat:Int)
 ·rw[if_pos (.inr (.inl h2))]at hR;subst hR;rw[decide_eq_true h2];refine g2_ ?_;refine ae ?_ rfl;exact ws_
 rw[decide_eq_false h2];refine g2_ ?_
 by_cases h3:c.last.toNat<e.id.seq.toNat
 ·rw[if_pos (.inr (.inr h3))]at hR;subst hR;rw[decide_eq_true (show(c.last.toNat:Int)<e.id.seq.toNat by omega)]
  refine g2_ ?_;refine ae ?_ rfl;exact ws_
 rw[decide_eq_false (show ¬(c.last.toNat:Int)<e.id.seq.toNat by omega)]
 rw[if_neg (by rw[h1];simp only[h2,h3];decide)]at hR
 refine g2_ ?_;rw[cE]
 by_cases h4:e.id.node=p.node/\p.inc.toNat<=e.id.inc.toNat
 ·rw[if_pos h4]at hR;subst hR;rw[decide_eq_true h4.1];refine g2_ ?_;rw[decide_eq_true (show(p.inc.toNat:Int)<=e.id.inc.toNat by have:=h4.2;omega)]
  refine g2_ ?_;refine ae ?_ rfl;exact ws_
 rw[if_neg h4]at hR
 by_cases h5:e.id.node=p.node
 ·have h7: ¬p.inc.toNat<=e.id.inc.toNat:=fun g=>h4 ⟨h5,g⟩
  rw[decide_eq_true h5];refine g2_ ?_;rw[decide_eq_false (show ¬(p.inc.toNat:Int)<=e.id.inc.toNat by omega)]
  refine g2_ ?_;refine .inl ⟨[oF 0,oF 3,oF 1,oF 4,oF 2,oF 5,oF 6,oF 7,oF 8,oF 10,oF 14,oF 15,oF 9,oF 11,oF 16,oF 12,oF 13,oF 17,oF 18,oF 19],by kernel_rfl,gx_ ?_⟩
  by_cases h6:e.id.node.toNat<p.rows.length
  ·rw[List.getElem?_eq_getElem h6]at hR;simp only at hR;have km:=qK p.rows[e.id.node.toNat] e.id c.window;rw[decide_eq_true (show(e.id.node.toNat:Int)<(p.rows.length:Int)by omega)]
   refine gf_ (mE_ h6) ?_;refine cw_ km (g2_ ?_);rw[hR];refine ae ?_ rfl;exact ws_
  ·rw[List.getElem?_eq_none (by omega)]at hR
   simp only at hR;subst hR;rw[decide_eq_false (show ¬(e.id.node.toNat:Int)<(p.rows.length:Int)by omega)]
   refine g2_ ?_;refine ae ?_ rfl;exact ws_
 ·rw[decide_eq_false h5];refine g2_ ?_;refine .inl ⟨[oF 0,oF 3,oF 1,oF 4,oF 2,oF 5,oF 6,oF 7,oF 8,oF 10,oF 14,oF 15,oF 9,oF 11,oF 16,oF 12,oF 13,oF 17,oF 18,oF 19],by kernel_rfl,gx_ ?_⟩
  by_cases h6:e.id.node.toNat<p.rows.length
  ·rw[List.getElem?_eq_getElem h6]at hR;simp only at hR;have km:=qK p.rows[e.id.node.toNat] e.id c.window;rw[decide_eq_true (show(e.id.node.toNat:Int)<(p.rows.length:Int)by omega)]
   refine gf_ (mE_ h6) ?_;refine cw_ km (g2_ ?_);rw[hR];refine ae ?_ rfl;exact ws_
  ·rw[List.getElem?_eq_none (by omega)]at hR
   simp only at hR;subst hR;rw[decide_eq_false (show ¬(e.id.node.toNat:Int)<(p.rows.length:Int)by omega)]
   refine g2_ ?_;refine ae ?_ rfl;exact ws_
theorem wS(x:GID)(a:GAsk):Con2 Tryz.prog 140 [.agg (aU a),.fp (aO x)] (· =plR (.v (.bool (fG x a)))):=by
 refine Con2.ofEmb ?_;have hx:=x.bd;have ha:=a.id.bd;unfold fG;refine en_ Tryz.func140 [.tmp 3] (g2_ ?_);refine g2_ ?_;rw[cE]
 by_cases h:a.id.node=x.node
 ·rw[decide_eq_true h];refine g2_ ?_;refine ae ?_ rfl;exact wf_ @xK
 ·rw[decide_eq_false h];refine g2_ ?_;refine ae ?_ rfl;exact ws_
