import Derived.Test.YtmhmahcdanclnaaGreatNo34
import Derived.Sort.AssemblyPlain
set_option linter.unusedSectionVars false
set_option linter.unusedSimpArgs false
set_option linter.unusedVariables false
set_option maxRecDepth 10000
namespace Go.Eng
def dfN{α:Type}(q:α->Bool)(l:List α)(j:Nat):Nat:=((l.take j).filter fun x=> !q x).length
def dfR{α:Type}(q:α->Bool)(l:List α)(j:Nat):List α:=(l.take j).filter (fun x=> !q x)++l.drop (dfN q l j)
section
variable {α:Type} {q:α->Bool} {l:List α} {j:Nat}
theorem qQ:dfN q l j<=j:=by grind [dfN]
theorem qH(hj:j<=l.length):(dfR q l j).length=l.length:=by grind [dfR,dfN]
theorem qN(hj:j<l.length):(dfR q l j)[j]? =some l[j]:=by grind [dfR,dfN]
theorem ot(hj:j<l.length):(l.take (j+1)).filter (fun x=> !q x)=(l.take j).filter (fun x=> !q x)++(if q l[j]=false then [l[j]]else []):=by grind [List.take_add_one,List.getElem?_eq_getElem,Option.toList_some]
theorem fB(hj:j<l.length)(hb:q l[j]=false):dfN q l (j+1)=dfN q l j+1:=by
 unfold dfN;rw[ot hj,if_pos hb,List.length_append];rfl
theorem fC(hj:j<l.length)(hb:q l[j]=true):dfN q l (j+1)=dfN q l j:=by
 unfold dfN;rw[ot hj,if_neg (by rw[hb];decide),List.append_nil]
theorem nQ(hj:j<l.length)(hb:q l[j]=true):dfR q l (j+1)=dfR q l j:=by
 unfold dfR;rw[fC hj hb,ot hj,if_neg (by rw[hb];decide),List.append_nil]
theorem oe(hj:j<l.length)(hb:q l[j]=false):(dfR q l j).set (dfN q l j) l[j]=dfR q l (j+1):=by
 have h:=qQ (q:=q) (l:=l) (j:=j);unfold dfR;rw[fB hj hb,ot hj,if_pos hb];have h2:((l.take j).filter fun x=> !q x).length=dfN q l j:=rfl
 rw[List.set_append_right _ _ (by omega),h2,Nat.sub_self,List.drop_eq_getElem_cons (show dfN q l j<l.length by omega),List.set_cons_zero,List.append_assoc]
 rfl
theorem nD{i:Nat}(hi:i<l.length)(hb:q l[i]=true)(hF: ∀x∈l.take i,q x=false):dfN q l (i+1)=i/\dfR q l (i+1)=l:=by
 have h1:(l.take i).filter (fun x=> !q x)=l.take i:=List.filter_eq_self.2 fun x hx=>by simp[hF x hx]
 have h2:(l.take (i+1)).filter (fun x=> !q x)=l.take i:=by rw[ot hi,if_neg (by rw[hb];decide),List.append_nil,h1]
 have h3:dfN q l (i+1)=i:=by unfold dfN;rw[h2,List.length_take];omega
 exact⟨h3,by unfold dfR;rw[h2,h3,List.take_append_drop]⟩
theorem xt:(dfR q l l.length).take (dfN q l l.length)=l.filter fun x=> !q x:=by grind [dfR,dfN]
theorem qK:dfN q l l.length=(l.filter fun x=> !q x).length:=by unfold dfN;rw[List.take_length]
end
end Go.Eng
namespace Go.Proofs.YtmhmahcdanclnaaGreat.V
open Go.Eng
attribute [local go_sem] aS ah fzD plR ba aL aR aC aE ak az aU z8 z16 z32 z64 encMg aN b_ aA List.set_cons_succ List.set_cons_zero
theorem lg(c:ar)(p:af)(hp:okP p):Con2 Tryz.prog 76 [.agg (aE c),.agg (ak p)] (· =⟨.agg ((ak p).set 24 (.rf 0 0 p.rows.length)),[(0,.arr 84 3 (p.rows.map aC) false)],1⟩):=by
 have kf:=qe p hp;have hn:=p.node.toNat_lt;have htb:=hp.table;refine en_ Tryz.func76 [.cell 4 49] (g2_ ?_);refine g2_ ?_;refine im_ Tryz.func84 [.cell 8 49,.tmp 9] (g2_ ?_);refine g2_ ?_;refine .inr (.inr (.inl ⟨[oF 0,oF 1,oF 3,oF 4,oT 2,oF 5,oF 6,oF 7,oF 8,oF 9],[],by kernel_rfl,g2_ ?_⟩))
 refine cw_ kf (g2_ ?_);refine im_ Tryz.func156 [.cell 8 49,.tmp 9] (g2_ ?_);refine gx_ ?_
 by_cases h1:c.nodes<=(p.node.toNat:Int)
 ·rw[decide_eq_true h1];refine g2_ ?_;exact⟨_,rfl,aa [(0,.to 0)] ws_⟩
 rw[decide_eq_false h1];refine gx_ ?_
 by_cases h2:(p.table.length:Int)<=(p.node.toNat:Int)
 ·rw[decide_eq_true h2];refine g2_ ?_;exact⟨_,rfl,aa [(0,.to 0)] ws_⟩
 rw[decide_eq_false h2];refine g2_ ?_;exact⟨_,rfl,aa [(0,.to 0)] ws_⟩
theorem iA(c:ar)(p:af)(hp:okP p):Con2 Tryz.prog 76 [.agg (aE c),.agg (ak p)] (· =plR (.agg (ak p))):=by
 refine(lg c p hp).emb ?_ rfl;exact wf_ @an
theorem kV(c:ar)(p:af)(e:GEvt)(hs:c.schema.length<=4000000)(hv:e.vals.length<=4000000)(hd:e.data.length<=4000000)(hr:p.rows.length<=4000000):
  Con2 Tryz.prog 136 [.agg (aE c),.agg (ak p),.agg (az e)] (· =plR (.v (.bool (j5 c p e)))):=by
 refine Con2.ofEmb ?_;have hx:=e.id.bd;have k1:=sM c.schema e hs hv hd;obtain⟨R,hR⟩: ∃R,j5 c p e=R:=⟨_,rfl⟩;rw[hR];unfold j5 at hR;refine en_ Tryz.func136 [.tmp 6] (g2_ ?_);refine g2_ ?_;refine cw_ k1 (g2_ ?_);cases h1:bZ c.schema e with
 |false=>
  rw[if_pos (.inl h1)]at hR;subst hR;refine g2_ ?_;refine ae ?_ rfl;exact ws_
 |true=>
 refine g2_ ?_
 by_cases h2:c.nodes<=(e.id.node.toNat:Int)
 ·rw[if_pos (.inr (.inl h2))]at hR;subst hR;rw[decide_eq_true h2];refine g2_ ?_;refine ae ?_ rfl;exact ws_
 rw[decide_eq_false h2];refine g2_ ?_
 by_cases h3:c.last.toNat<e.id.seq.toNat
 ·rw[if_pos (.inr (.inr h3))]at hR;subst hR;rw[decide_eq_true (show(c.last.toNat:Int)<e.id.seq.toNat by omega)]
  refine g2_ ?_;refine ae ?_ rfl;exact ws_
 rw[decide_eq_false (show ¬(c.last.toNat:Int)<e.id.seq.toNat by omega)]
 rw[if_neg (by rw[h1];simp only[h2,h3];decide)]at hR
 refine g2_ ?_;rw[ch]
 by_cases h4:e.id.node=p.node/\p.inc.toNat<=e.id.inc.toNat
 ·rw[if_pos h4]at hR;subst hR;rw[decide_eq_true h4.1];refine g2_ ?_;rw[decide_eq_true (show(p.inc.toNat:Int)<=e.id.inc.toNat by have:=h4.2;omega)]
  refine g2_ ?_;refine ae ?_ rfl;exact ws_
 rw[if_neg h4]at hR
 by_cases h5:e.id.node=p.node
 ·have h7: ¬p.inc.toNat<=e.id.inc.toNat:=fun g=>h4 ⟨h5,g⟩
  rw[decide_eq_true h5];refine g2_ ?_;rw[decide_eq_false (show ¬(p.inc.toNat:Int)<=e.id.inc.toNat by omega)]
  refine g2_ ?_;refine .inl ⟨[oF 0,oF 3,oF 1,oF 4,oF 2,oF 5,oF 6,oF 7,oF 8,oF 10,oF 14,oF 15,oF 9,oF 11,oF 16,oF 12,oF 13,oF 17,oF 18,oF 19],by kernel_rfl,gx_ ?_⟩
  by_cases h6:e.id.node.toNat<p.rows.length
  ·rw[List.getElem?_eq_getElem h6]at hR;simp only at hR;have km:=qF p.rows[e.id.node.toNat] e.id c.window;rw[decide_eq_true (show(e.id.node.toNat:Int)<(p.rows.length:Int)by omega)]
   refine gf_ (mE_ h6) ?_;refine cw_ km (g2_ ?_);rw[hR];refine ae ?_ rfl;exact ws_
  ·rw[List.getElem?_eq_none (by omega)]at hR
   simp only at hR;subst hR;rw[decide_eq_false (show ¬(e.id.node.toNat:Int)<(p.rows.length:Int)by omega)]
   refine g2_ ?_;refine ae ?_ rfl;exact ws_
 ·rw[decide_eq_false h5];refine g2_ ?_;refine .inl ⟨[oF 0,oF 3,oF 1,oF 4,oF 2,oF 5,oF 6,oF 7,oF 8,oF 10,oF 14,oF 15,oF 9,oF 11,oF 16,oF 12,oF 13,oF 17,oF 18,oF 19],by kernel_rfl,gx_ ?_⟩
  by_cases h6:e.id.node.toNat<p.rows.length
  ·rw[List.getElem?_eq_getElem h6]at hR;simp only at hR;have km:=qF p.rows[e.id.node.toNat] e.id c.window;rw[decide_eq_true (show(e.id.node.toNat:Int)<(p.rows.length:Int)by omega)]
   refine gf_ (mE_ h6) ?_;refine cw_ km (g2_ ?_);rw[hR];refine ae ?_ rfl;exact ws_
  ·rw[List.getElem?_eq_none (by omega)]at hR
   simp only at hR;subst hR;rw[decide_eq_false (show ¬(e.id.node.toNat:Int)<(p.rows.length:Int)by omega)]
   refine g2_ ?_;refine ae ?_ rfl;exact ws_
theorem oa(x:GID)(a:GAsk):Con2 Tryz.prog 140 [.agg (aU a),.fp (aN x)] (· =plR (.v (.bool (cL x a)))):=by
 refine Con2.ofEmb ?_;have hx:=x.bd;have ha:=a.id.bd;unfold cL;refine en_ Tryz.func140 [.tmp 3] (g2_ ?_);refine g2_ ?_;rw[ch]
 by_cases h:a.id.node=x.node
 ·rw[decide_eq_true h];refine g2_ ?_;refine ae ?_ rfl;exact wf_ @wK
 ·rw[decide_eq_false h];refine g2_ ?_;refine ae ?_ rfl;exact ws_
end Go.Proofs.YtmhmahcdanclnaaGreat.V
namespace Go.Proofs.YtmhmahcdanclnaaGreat.V
open Go.Eng
theorem fill_one{d:GDesc}{self:UInt8}{room:Int}(h1:d.node≠self)(h2:d.inc≠0)(h3:0<room):eE self room [] [d]=[d]:=by
 have h:dO [] d self room=([d],true):=by
  unfold dO;rw[if_neg (by simp[h1,h2])]
  show(if room<=(0:Int)then _ else _)=_
  rw[if_neg (by omega)];rfl
 rw[eE,h];rfl
structure Tab(c:ar)(p:af)(a b:au):Prop where
 len:(p.table.length:Int)=c.nodes
 a:p.table[0]? =some a
 b:p.table[1]? =some b
structure Sh(c:ar)(p:af)(nd:UInt8)(i:UInt16)(v:List GDesc)(r:ep)(a b:au):Prop where
 h:okH p
 node:p.node=nd
 inc:p.inc=i
 up:p.up=true
 filter:p.filter=[]
 view:p.view=v
 near:p.near=[]
 ring:p.ring=r
 tab:Tab c p a b
def zR:ep:=⟨false,false,zDesc,zDesc⟩
structure atz(c:ar)(A B:af)(M:aK)(P1:af)(W:aK)(Q1:af)(P2:af):Prop where
 a1:bE c (bF c 0)=(A,0)
 a2:A.up=true
 a3:okH A
 b1:bE c (bF c 1)=(B,0)
 b2:B.up=true
 b3:okH B
 m1:ap4 c B 0=([M],0)
 m2:okMg M
 m3:M.to=A.node
 m4:M.kind=1
 p1:aak c A M=(P1,[W])
 p2:okH P1
 p3:P1.up=true
 w1:okMg W
 w2:W.to=B.node
 w3:W.kind=2
 q1:lv c B W=(Q1,[])
 q2:okH Q1
 q3:Q1.up=true
 q4:cj Q1=[0,0]
 q5:Q1.node=1
 q6:Q1.inc=1
 q7:Q1.view.length<=300/\Q1.near.length<=300
 e1:okMg (pMsg Q1 9 0)
 e2:(pMsg Q1 9 0).to=P1.node
 r1:se c P1 (pMsg Q1 9 0)=(P2,[])
 r2:Sh c P2 0 1 [] zR ⟨1,1,0⟩ ⟨1,3,0⟩
end Go.Proofs.YtmhmahcdanclnaaGreat.V
namespace Go.Eng
open Go.Sort
theorem swoU:SWO ltU where
 irrefl x:=by simp[ltU]
 trans x y z:=by simp only[ltU,decide_eq_true_eq];exact UInt8.lt_trans
 ntrans x y z:=by
  simp only[ltU,decide_eq_false_iff_not,UInt8.not_lt];intro h1 h2;exact UInt8.le_trans h2 h1
theorem atm(x y:UInt8)(h1:ltU x y=false)(h2:ltU y x=false):x=y:=by grind [ltU]
def bR(d:Array UInt8):List (List DV):=d.toList.map aA
theorem amA(d:Array UInt8):(bR d).length=d.size:=by simp[bR]
theorem aX{d:Array UInt8}{i:Nat}(h:i<d.size):(bR d)[i]? =some [.v (.int .u8 d[i]!.toNat)]:=by
 rw[bR,List.getElem?_map,Array.getElem?_toList,Array.getElem?_eq_getElem h,getElem!_pos d i h];rfl
theorem eZ{d:Array UInt8}{i:Nat}{x:UInt8}:(bR d).set i [.v (.int .u8 x.toNat)]=bR (d.setIfInBounds i x):=by
 rw[bR,bR,Array.toList_setIfInBounds,List.map_set];rfl
theorem dJ{d:Array UInt8}{i j:Nat}{x:UInt8}(h:j<d.size):(bR (d.setIfInBounds i x))[j]? =some [.v (.int .u8 (d.setIfInBounds i x)[j]!.toNat)]:=aX (by simpa using h)
theorem asp(l:List UInt8):l.map aA=bR l.toArray:=rfl
theorem dT{d:Array UInt8}{i j:Nat}:bR ((d.setIfInBounds i d[j]!).setIfInBounds j d[i]!)=bR (swp d i j):=rfl
section
variable {α:Type} {lt:α->α->Bool}
theorem rG{x:α}{P:List α}: ∀j,j<=P.length->dF lt x P j<=j/\(∀i y,dF lt x P j<=i->i<j->P[i]? =some y->lt x y=true)/\(dF lt x P j=0\/ ∃y,P[dF lt x P j-1]? =some y/\lt x y=false)
 |0,_=>⟨Nat.le_refl _,fun i y _ h=>absurd h (Nat.not_lt_zero _),.inl rfl⟩
 | j+1,h=>by
  have hj:j<P.length:=h;cases hc:lt x P[j]with
  |true=>
   rw[mL hj hc];obtain⟨h1,h2,h3⟩:=rG (x:=x) (P:=P) j (by omega)
   refine⟨by omega,fun i y hi hij hy=>?_,h3⟩
   by_cases e:i=j
   ·subst e;rw[List.getElem?_eq_getElem hj]at hy;cases hy;exact hc
   ·exact h2 i y hi (by omega) hy
  |false=>
   rw[m_ hj hc];refine⟨Nat.le_refl _,fun i y hi hij=>by omega,.inr ⟨P[j],?_,hc⟩⟩
   rw[Nat.add_sub_cancel,List.getElem?_eq_getElem hj]
abbrev Asc(lt:α->α->Bool)(P:List α):Prop:=P.Pairwise fun a b=>lt b a=false
theorem amu[Inhabited α](hS:SWO lt){P:List α}{x:α}(h:Asc lt P):Asc lt (j4 lt P x):=by
 obtain⟨h1,h2,h3⟩:=rG (lt:=lt) (x:=x) (P:=P) P.length (Nat.le_refl _);rw[j4,ck];generalize dF lt x P P.length=k at h1 h2 h3
 have hd: ∀y∈P.drop k,lt x y=true:=fun y hy=>by
  obtain⟨i,hi,rfl⟩:=List.mem_iff_getElem.1 hy;rw[List.length_drop]at hi;exact h2 (k+i) _ (by omega) (by omega) (by rw[List.getElem_drop];exact List.getElem?_eq_getElem (by omega))
 have ht: ∀y∈P.take k,lt x y=false:=fun y hy=>by
  obtain⟨i,hi,rfl⟩:=List.mem_iff_getElem.1 hy;rw[List.length_take]at hi;rcases h3 with h3|⟨z,hz,h4⟩
  ·omega
  ·obtain⟨hk,rfl⟩:=List.getElem?_eq_some_iff.1 hz;rw[List.getElem_take]
   by_cases e:i=k-1
   ·subst e;exact h4
   ·exact hS.ntrans _ _ _ h4 (List.pairwise_iff_getElem.1 h i (k-1) (by omega) hk (by omega))
 have hasym: ∀y,lt x y=true->lt y x=false:=fun y hy=>by
  cases hc:lt y x with
  |false=>rfl
  |true=>have:=hS.trans x y x hy hc;rw[hS.irrefl]at this;cases this
 refine List.pairwise_append.2 ⟨h.sublist (List.take_sublist _ _),List.pairwise_cons.2 ⟨fun y hy=>hasym y (hd y hy),h.sublist (List.drop_sublist _ _)⟩,fun a ha b hb=>?_⟩
 rcases List.mem_cons.1 hb with rfl|hb
 ·exact ht a ha
 ·have:=(List.take_append_drop k P).symm▸h;exact(List.pairwise_append.1 this).2.2 a ha b hb
theorem u_{P:List α}{x:α}:(j4 lt P x).Perm (x::P):=by grind [j4,ck,List.perm_middle,List.take_append_drop]
theorem kJ[Inhabited α](hS:SWO lt): ∀(l P:List α),Asc lt P->Asc lt (l.foldl (j4 lt) P)/\(l.foldl (j4 lt) P).Perm (l++P)
 |[],P,h=>⟨h,List.Perm.refl _⟩
 |x::r,P,h=>by
  obtain⟨h1,h2⟩:=kJ hS r (j4 lt P x) (amu hS h);refine⟨h1,h2.trans ?_⟩;have e1:(r++j4 lt P x).Perm (r++(x::P)):=(List.Perm.refl r).append u_;exact e1.trans List.perm_middle
theorem th[Inhabited α](hS:SWO lt)(l:List α):Asc lt (aW lt l):=(kJ hS l [] List.Pairwise.nil).1
theorem zM[Inhabited α](hS:SWO lt)(l:List α):(aW lt l).Perm l:=by
 have:=(kJ hS l [] List.Pairwise.nil).2
 rwa[List.append_nil]at this
end
def Todo(R:Array UInt8->Prop)(a b:Nat)(d:Array UInt8):Prop:= ∀d',PermIn a b d d'->SortedIn ltU a b d'->R d'
section
variable {R:Array UInt8->Prop} {a b mid:Nat} {d d1 d2:Array UInt8}
theorem Todo.perm(h:Todo R a b d)(hp:PermIn a b d d1):Todo R a b d1:=fun d' h1 h2=>h d' (permIn_trans _ _ _ _ _ hp h1) h2
theorem Todo.done(h:Todo R a b d)(hs:SortedIn ltU a b d):R d:=h d (permIn_refl _ _ _) hs
theorem aer(l:List UInt8):Todo (fun d=>d.toList=aW ltU l) 0 l.length l.toArray:=by
 have key: ∀d':Array UInt8,PermIn 0 l.length l.toArray d'->SortedIn ltU 0 l.length d'->d'.toList=l.mergeSort (fun x y=> !ltU y x):=fun d' h1 h2=>
  sorted_unique_holds swoU atm l.toArray d' (by simpa using h1) (by simpa using h2)
 intro d' h1 h2;show d'.toList=aW ltU l;rw[key d' h1 h2];refine(key (aW ltU l).toArray ⟨by simp[cr],fun i hi=>?_,?_⟩ fun i j _ hij hj=>?_).symm
 ·have hi:l.length<=i:=by omega
  rw[getElem!_neg _ _ (by simp[cr];omega),getElem!_neg _ _ (by simp;omega)]
 ·have e1:((aW ltU l).toArray.extract 0 l.length).toList=aW ltU l:=by
   simp;rw[List.take_of_length_le (by rw[cr];omega)]
  have e2:(l.toArray.extract 0 l.length).toList=l:=by simp
  rw[e1,e2];exact zM swoU l
 ·have hl:(aW ltU l).length=l.length:=cr;have:=List.pairwise_iff_getElem.1 (th swoU l) i j (by omega) (by omega) hij
  rw[getElem!_pos _ j (by simp;omega),getElem!_pos _ i (by simp;omega)]
  simpa using this
theorem Todo.right(h:Todo R a b d)(hb:b<=d.size)(h1:a<=mid)(h2:mid<b)(hp:PermIn a b d d1)(hlo: ∀i,a<=i->i<mid->ltU d1[i]! d1[mid]! =true)(hhi: ∀i,mid<i->i<b->ltU d1[i]! d1[mid]! =false)
  (hp2:PermIn a mid d1 d2) (hs2:SortedIn ltU a mid d2):Todo R (mid+1) b d2/\Below ltU (mid+1) b d2:=by
 have z1:d1.size=d.size:=hp.1;have z2:d2.size=d1.size:=hp2.1;refine⟨fun d' g1 g2=>h d' ?_ ?_,.inr fun i hi hib=>?_⟩
 ·exact permIn_trans _ _ _ _ _ hp (permIn_trans _ _ _ _ _ (permIn_mono _ _ _ _ a b (Nat.le_refl _) (by omega) (by omega) hp2) (permIn_mono _ _ _ _ a b (by omega) (Nat.le_refl _) (by omega) g1))
 ·have em:d'[mid]! =d1[mid]!:=(g1.2.1 mid (.inl (by omega))).trans (hp2.2.1 mid (.inr (Nat.le_refl _)))
  refine sorted_glue swoU (mid:=mid) (hs2.congr fun i hi him=>g1.2.1 i (.inl (by omega))) g2 (fun i hi him=>?_) (fun i him hib=>?_)
  ·rw[em,g1.2.1 i (.inl (by omega))]
   exact permIn_all d1 d2 a mid (fun x=>ltU x d1[mid]! =true) (by omega) hp2 hlo i hi him
  ·rw[em];refine permIn_all d2 d' (mid+1) b (fun x=>ltU x d1[mid]! =false) (by omega) g1 (fun j hj hjb=>?_) i (by omega) hib
   rw[hp2.2.1 j (.inr (by omega))]
   exact hhi j (by omega) hjb
 ·rw[Nat.add_sub_cancel,hp2.2.1 i (.inr (by omega)),hp2.2.1 mid (.inr (Nat.le_refl _))]
  exact hhi i (by omega) hib
theorem Todo.left(h:Todo R a b d)(hb:b<=d.size)(h1:a<=mid)(h2:mid<b)(hp:PermIn a b d d1)(hlo: ∀i,a<=i->i<mid->ltU d1[i]! d1[mid]! =true)(hhi: ∀i,mid<i->i<b->ltU d1[i]! d1[mid]! =false)
  (hbl:Below ltU a b d) (hp2:PermIn (mid+1) b d1 d2) (hs2:SortedIn ltU (mid+1) b d2):Todo R a mid d2/\Below ltU a mid d2:=by
 have z1:d1.size=d.size:=hp.1;have z2:d2.size=d1.size:=hp2.1;have hpa:PermIn a b d d2:=permIn_trans _ _ _ _ _ hp (permIn_mono _ _ _ _ a b (by omega) (Nat.le_refl _) (by omega) hp2)
 refine⟨fun d' g1 g2=>h d' ?_ ?_,(hbl.perm hb hpa).mono (by omega)⟩
 ·exact permIn_trans _ _ _ _ _ hpa (permIn_mono _ _ _ _ a b (Nat.le_refl _) (by omega) (by omega) g1)
 ·have em:d'[mid]! =d1[mid]!:=(g1.2.1 mid (.inr (Nat.le_refl _))).trans (hp2.2.1 mid (.inl (by omega)))
  refine sorted_glue swoU (mid:=mid) g2 (hs2.congr fun i hi him=>g1.2.1 i (.inr (by omega))) (fun i hi him=>?_) (fun i him hib=>?_)
  ·rw[em];refine permIn_all d2 d' a mid (fun x=>ltU x d1[mid]! =true) (by omega) g1 (fun j hj hjm=>?_) i hi him
   rw[hp2.2.1 j (.inl (by omega))]
   exact hlo j hj hjm
  ·rw[em,g1.2.1 i (.inr (by omega))]
   exact permIn_all d1 d2 (mid+1) b (fun x=>ltU x d1[mid]! =false) (by omega) hp2 (fun j hj hjb=>hhi j (by omega) hjb) i (by omega) hib
theorem Todo.equal{p:UInt8}(h:Todo R a b d)(hb:b<=d.size)(h1:a<mid)(h2:mid<=b)(hp:PermIn a b d d1)(hlo: ∀i,a<=i->i<mid->ltU p d1[i]! =false)(hhi: ∀i,mid<=i->i<b->ltU p d1[i]! =true)
  (hge: ∀i,a<=i->i<b->ltU d[i]! p=false):Todo R mid b d1/\Below ltU mid b d1:=by
 have z1:d1.size=d.size:=hp.1;have hge1:=permIn_all d d1 a b (fun x=>ltU x p=false) hb hp hge
 refine⟨fun d' g1 g2=>h d' ?_ ?_,.inr fun i hi hib=>?_⟩
 ·exact permIn_trans _ _ _ _ _ hp (permIn_mono _ _ _ _ a b (by omega) (Nat.le_refl _) (by omega) g1)
 ·refine sorted_glue_eq swoU p g2 (fun i hi him=>?_) (fun i hi him=>?_) (fun i him hib=>?_)
  ·rw[g1.2.1 i (.inl (by omega))];exact hlo i hi him
  ·rw[g1.2.1 i (.inl (by omega))];exact hge1 i hi (by omega)
  ·exact permIn_all d1 d' mid b (fun x=>ltU p x=true) (by omega) g1 hhi i him hib
 ·have g1:=hlo (mid-1) (by omega) (by omega)
  have g2:=hhi i hi hib;cases hc:ltU d1[i]! d1[mid-1]! with
  |false=>rfl
  |true=>have:=swoU.trans _ _ _ g2 hc;rw[g1]at this;cases this
