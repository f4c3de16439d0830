import Derived.Test.YthoihfighiolmaaGreatPt35
import Derived.Test.YthoihfighiolmaaGreatPt36
set_option linter.unusedSectionVars false
set_option linter.unusedSimpArgs false
set_option linter.unusedVariables false
set_option maxRecDepth 10000
set_option maxHeartbeats 4000000
namespace Go.Eng
end Go.Eng
namespace Go.Proofs.YthoihfighiolmaaGreat.V
open Go.Eng
def tab(p:ah)(l:List an):ah:={ p with table:=l,reports:=lrnK p.table l p.reports l.length }
theorem tQ{a b:List an}{r:List (List cO)}(h:sqR r): ∀k,sqR (lrnK a b r k)
 |0=>h
 | k+1=>by
  rw[lrnK,List.range_succ,List.foldl_append];have ih:=tQ (a:=a) (b:=b) h k;simp only[List.foldl_cons,List.foldl_nil];split
  ·split
   ·exact oM ih
   ·exact ih
  ·exact ih
theorem vI{m:an}{inc:UInt16}:m.inc<(fA inc m).inc↔m.inc<inc:=by
 unfold fA;split
 ·exact Iff.rfl
 ·rename_i h;exact⟨fun e=>absurd e (UInt16.lt_irrefl _),fun e=>absurd (.inl e) h⟩
theorem sV{l:List an}{node:UInt8}{inc:UInt16}{r:List (List cO)}(hn:node.toNat<l.length): ∀k,k<=l.length->lrnK l (cl l node inc) r k=if node.toNat<k/\l[node.toNat].inc<inc then bI r node else r
 |0,_=>by rw[if_neg (by omega)];rfl
 | k+1,hk=>by
  have h2:k<(cl l node inc).length:=by simp[cl];omega
  rw[mA (by omega) h2,sV hn k (by omega)]
  have hb:(cl l node inc)[k]=if node.toNat=k then fA inc l[k]else l[k]:=by simp[cl,List.getElem_modify]
  rw[hb]
  by_cases e:node.toNat=k
  ·subst e;have e1: ¬(node.toNat<node.toNat/\l[node.toNat].inc<inc):=fun h=>absurd h.1 (Nat.lt_irrefl _)
   rw[if_pos rfl,if_neg e1]
   by_cases h:l[node.toNat].inc<inc
   ·rw[if_pos (vI.2 h),if_pos ⟨Nat.lt_succ_self _,h⟩,UInt8.ofNat_toNat]
   ·rw[if_neg (fun h3=>h (vI.1 h3)),if_neg (fun h3=>h h3.2)]
  ·rw[if_neg e,if_neg (UInt16.lt_irrefl _)]
   congr 1
   rw[eq_iff_iff];exact⟨fun h=>⟨by omega,h.2⟩,fun h=>⟨by omega,h.2⟩⟩
theorem rW(p:ah)(t:List an):bD p t=tab p (ct p.table t p.node):=by
 rw[bD,tab,show(ct p.table t p.node).length=p.table.length by simp[ct]]
theorem alx{P:Program}{ops:Array Oper}{K:DS->Prop}{ds:DS}(t:OT)(pre:List (Nat×DSV))(loc:List (Nat×ek))(H:List (Nat×Row))(nx:Nat){q:Prop}(hw:gO P ops.toList (fun d=>leD ⟨pre++ds.ρ,loc++ds.σ,H,nx,ds.nb⟩ d) t ds)(k:q)(ht:fH ops m0 t=true:=by kernel_rfl)
  (e:Lft q->K ⟨pre++ds.ρ,loc++ds.σ,H,nx,ds.nb⟩:=by intro k;(repeat (first|(simp-implicitDefEqProofs only[go_sem,ab,List.cons_append,List.nil_append])|(with_reducible refine aK ?_)|(with_reducible refine f6 (by omega) ?_)|(with_reducible refine And.intro (by omega) ?_)));exact k.out):AtDraw2 P ops K ds:=
 .inr (.inl ⟨t,ht,fE (fun d hd=>.inr ⟨_,hd,e ⟨k⟩⟩) t ds hw⟩)
end Go.Proofs.YthoihfighiolmaaGreat.V
namespace Go.Eng
theorem uw(l:List GDesc)(d:GDesc):cF l d<=l.length:=(List.takeWhile_prefix _).length_le
theorem akk{l:List GDesc}{d:GDesc}{i:Nat}(h:i<cF l d)(hi:i<l.length):l[i].node<d.node:=by
 have hp:=List.takeWhile_prefix (fun x:GDesc=>decide (x.node<d.node)) (l:=l)
 have hm:(l.takeWhile fun x=>decide (x.node<d.node))[i]∈l.takeWhile fun x=>decide (x.node<d.node):=List.getElem_mem h
 have h2:=List.all_eq_true.1 (List.all_takeWhile (p:=fun x:GDesc=>decide (x.node<d.node)) (l:=l)) _ hm
 rw[hp.getElem h]at h2;simpa using h2
theorem ajb{l:List GDesc}{d:GDesc}(hi:cF l d<l.length): ¬l[cF l d].node<d.node:=by
 induction l with
 |nil=>simp at hi
 | cons y r ih=>
  by_cases h:y.node<d.node
  ·have e:cF (y::r) d=cF r d+1:=by simp[cF,List.takeWhile_cons,h]
   simp only[e,List.getElem_cons_succ];exact ih (by rw[e]at hi;simpa using hi)
  ·have e:cF (y::r) d=0:=by simp[cF,List.takeWhile_cons,h]
   simp only[e,List.getElem_cons_zero];exact h
theorem rh(l:List GDesc)(d:GDesc):(bE l d).length=l.length+1:=by
 have:=uw l d;simp[bE];omega
def wK(l:List GDesc)(d:GDesc)(i:Nat):List GDesc:=if i<=cF l d then l.take i else (bE l d).take (i+1)
theorem anl{l:List GDesc}{d:GDesc}{i:Nat}(h:i<cF l d)(hi:i<l.length):wK l d (i+1)=wK l d i++[l[i]]:=by
 rw[wK,wK,if_pos (by omega),if_pos (by omega),List.take_add_one,List.getElem?_eq_getElem hi];rfl
theorem sP{l:List GDesc}{d:GDesc}{i:Nat}(h:cF l d<=i)(hi:i<l.length):(bE l d)[i+1]? =some l[i]:=by
 rw[bE,List.getElem?_append_right (by simp;omega),List.length_take,show i+1-min (cF l d) l.length=(i-cF l d)+1 by omega,List.getElem?_cons_succ,List.getElem?_drop,show cF l d+(i-cF l d)=i by omega,List.getElem?_eq_getElem hi]
theorem anh{l:List GDesc}{d:GDesc}(hi:cF l d<l.length):wK l d (cF l d+1)=wK l d (cF l d)++[d]++[l[cF l d]]:=by
 rw[wK,wK,if_neg (by omega),if_pos (Nat.le_refl _),List.take_add_one,sP (Nat.le_refl _) hi,List.take_add_one]
 have e1:(bE l d).take (cF l d)=l.take (cF l d):=by
  rw[bE,List.take_append_of_le_length (by simp;omega),List.take_take,Nat.min_self]
 have e2:(bE l d)[cF l d]? =some d:=by
  rw[bE,List.getElem?_append_right (by simp;omega),List.length_take,show cF l d-min (cF l d) l.length=0 by omega];rfl
 rw[e1,e2];rfl
theorem amE{l:List GDesc}{d:GDesc}{i:Nat}(h:cF l d<i)(hi:i<l.length):wK l d (i+1)=wK l d i++[l[i]]:=by
 rw[wK,wK,if_neg (by omega),if_neg (by omega),List.take_add_one,sP (by omega) hi];rfl
theorem alu{l:List GDesc}{d:GDesc}{i:Nat}:(wK l d i).length<=l.length+1:=by
 have:=rh l d;rw[wK];split<;>simp<;>omega
theorem alH{l:List GDesc}{d:GDesc}:(if l.length<=cF l d then wK l d l.length++[d]else wK l d l.length)=bE l d:=by
 have hw:=uw l d
 by_cases h:l.length<=cF l d
 ·rw[if_pos h,wK,if_pos h,bE,List.take_of_length_le (Nat.le_refl _),List.take_of_length_le h,List.drop_of_length_le h]
 ·rw[if_neg h,wK,if_neg h,List.take_of_length_le (by rw[rh];exact Nat.le_refl _)]
end Go.Eng
namespace Go.Proofs.YthoihfighiolmaaGreat.V
open Go.Eng
attribute [local go_sem] zDesc aP af fzD plR bb a_ aE bj aC ak bk cR z8 z16 z32 z64 encMg aH dE List.map_cons List.map_nil List.set_cons_succ List.set_cons_zero
theorem adx(a b c:Int):Con2 Tryz.prog 48 [.v (.int .i64 a),.v (.int .i64 b),.v (.int .i64 c)] (· =plR (.v (.bool (inR a b c)))):=by
 refine en_ Tryz.func48 [.tmp 6] (g2_ ?_);refine g2_ ?_;have e:inR a b c=(decide (b<=a)&&decide (a<=c)):=rfl;rw[e];refine ic (fun h=>?_) (fun h=>?_)
 all_goals
  rw[h];refine g2_ ?_;exact⟨_,rfl,aa [] (wf_ @Bool.false_and)⟩
theorem nI(c:ar)(node:UInt8)(h0:0<=c.nodes)(h12:c.nodes<=12):Con2 Tryz.prog 10 [.agg (aC c),.v (.int .u8 node.toNat)] (· =⟨.agg ((ak (bM c node)).set 20 (.rf 0 0 (bM c node).table.length)),[(0,.arr 111 3 ((bM c node).table.map aE) false)],1⟩):=by
 refine Con2.keep ?_;obtain⟨n,hn⟩: ∃n:Nat,c.nodes=n:=⟨c.nodes.toNat,by omega⟩
 have hn12:n<=12:=by omega
 have e:(min (max c.nodes 0) 12).toNat=n:=by omega
 unfold bM;rw[e];have k1:=yJ n (by omega)
 have k2:=yP n (by omega)
 refine en_ Tryz.func10 [.cell 4 49] (g2_ ?_);refine gf_ hn ?_;obtain⟨T0,hT0⟩: ∃T0,T0=(List.replicate n (⟨0,0,0⟩:an)).map aE:=⟨_,rfl⟩;have hT0l:T0.length=n:=by rw[hT0];simp
 rw[<-hT0]at k1 ⊢;refine alx (.fl 0 (.fl 1 (.fl 4 (.fl 7 (.fl 2 (.fl 5 (.fl 8 (.fl 9 (.eff 3 true (.eff 6 true (.fl 10 (.eff 11 true (.eff 12 false .done .no) .no)) (.eff 11 true (.eff 6 true (.fl 10 (.eff 12 false .done .no)) .no) .no)) (.eff 11 true (.eff 3 true (.eff 6 true (.fl 10 (.eff 12 false .done .no)) .no) .no) .no)))))))))) [(5,.loc 5 0)] [(5,⟨(((ak ({ node:=node,inc:=0,up:=false,filter:=[],view:=[],near:=[],ring:=⟨false,false,zDesc,zDesc⟩,wait:=⟨false,0,0,[]⟩,table:=[],count:=0,heard:=[],seq:=0,rows:=[],reports:=List.replicate n (cg n),buf:=⟨c.buffer,[]⟩,pulls:=[],passed:=0,evicted:=0,collected:=0 }:ah)).set 20 (.rf 0 0 n)).set 22 (.v (.slice none 0 0))).set 24 (.v (.slice none 0 0)),49⟩)] [(0,.arr 111 3 T0 false)] 1 ?_ ?_
 ·refine gf_ hn ?_
  repeat' (first
   |(with_reducible refine And.intro ?_ ?_)
   |(refine CallS.eqW k1 ?_ (.inl ?_) ?_;(focus (repeat first|simp-implicitDefEqProofs only[go_sem,ab,hn]|with_reducible refine gl_ ?_;done));(focus (simp-implicitDefEqProofs only[go_sem,ab];done));repeat first|simp-implicitDefEqProofs only[go_sem,ab,hn]|with_reducible first|refine gl_ ?_|refine ga_ ?_|refine gn_ ?_)
   |(refine CallS.eqW k2 ?_ (.inl ?_) ?_;(focus (repeat first|simp-implicitDefEqProofs only[go_sem,ab,hn]|with_reducible refine gl_ ?_;done));(focus (simp-implicitDefEqProofs only[go_sem,ab];done));repeat first|simp-implicitDefEqProofs only[go_sem,ab,hn]|with_reducible first|refine gl_ ?_|refine ga_ ?_|refine gn_ ?_)
   |(refine aa [(0,.to 0)] ?_;(focus (repeat first|simp-implicitDefEqProofs only[go_sem,ab,hT0l,List.map_nil]|with_reducible refine gl_ ?_;done)))
   |(refine aa [(0,.to 0)] ?_;(focus (repeat first|simp-implicitDefEqProofs only[go_sem,ab,hT0l,List.map_nil]|with_reducible refine gl_ ?_;(repeat' (first|rfl|refine And.intro ?_ ?_));done))))
 refine gf_ hn ?_;refine av (γ:=Nat) (fun i=>[(6,.d (.v (.int .i64 (i:Nat))))]) (fun i=>[(5,⟨(((ak ({ node:=node,inc:=0,up:=false,filter:=[],view:=[],near:=[],ring:=⟨false,false,zDesc,zDesc⟩,wait:=⟨false,0,0,[]⟩,table:=[],count:=0,heard:=[],seq:=0,rows:=[],reports:=List.replicate n (cg n),buf:=⟨c.buffer,[]⟩,pulls:=[],passed:=0,evicted:=0,collected:=0 }:ah)).set 20 (.rf 0 0 n)).set 22 (.rf 1 0 i)).set 24 (.rf 2 0 i),49⟩)]) (fun i=>[(0,.arr 111 3 T0 false),(1,.arr 57 3 ((List.replicate i (⟨0,0,0⟩:cO)).map a_) false),(2,.arr 104 3 ((List.replicate i (⟨0,0,0⟩:ami)).map bj) false)]) 3 (fun i=>i<=n) (fun i=>n-i) 0 (aa [(0,.to 0),(1,.nil 3),(2,.nil 3)] ?_) (by omega) (fun i hi=>?_)
 ·repeat first|simp-implicitDefEqProofs only[go_sem,ab,List.replicate_zero]|with_reducible refine gl_ ?_
  first|done|rfl|exact⟨rfl,rfl⟩
 ·refine gf_ hn ?_;refine aq (fun h=>?_) (fun h=>?_)
  ·refine gf_ hn ?_;refine⟨i+1,aa [(0,.to 0),(1,.to 6),(2,.to 4)] ?_,by omega,by omega⟩
   repeat first|simp-implicitDefEqProofs only[go_sem,ab,List.replicate_succ',List.map_append,List.length_append]|with_reducible refine gl_ ?_
   try (repeat' (first|rfl|refine And.intro ?_ ?_))
  ·obtain rfl:i=n:=by omega
   refine gf_ hn ?_;refine⟨⟨_,_,_⟩,⟨0,_,rfl,?_,?_⟩,fT _⟩
   ·rw[hT0];repeat first|simp-implicitDefEqProofs only[go_sem,ab,List.map_replicate,aE,z8,z16]|with_reducible refine gl_ ?_
   ·repeat first|simp-implicitDefEqProofs only[go_sem,ab,List.map_replicate,List.take_replicate,List.length_replicate,Nat.min_self,zDesc,List.map_nil,z8,z16,z32,z64,List.set_cons_succ,List.set_cons_zero]|with_reducible refine gl_ ?_
theorem lQ(c:ar)(p:ah)(h0:0<=c.nodes)(h12:c.nodes<=12):Con2 Tryz.prog 59 [.agg (aC c),.agg (ak p)] (· =⟨.agg ((ak (fQ c p)).set 20 (.rf 0 0 (fQ c p).table.length)),[(0,.arr 111 3 ((fQ c p).table.map aE) false)],1⟩):=by
 have k1:=nI c p.node h0 h12;unfold fQ;generalize bM c p.node=q at k1;refine en_ Tryz.func59 [.cell 4 49] (g2_ ?_);refine g2_ ?_;refine ce_ k1 (g2_ ?_);exact⟨_,rfl,aa [] ws_⟩
theorem nv(c:ar)(p:ah)(h0:0<=c.nodes)(h12:c.nodes<=12):Con2 Tryz.prog 59 [.agg (aC c),.agg (ak p)] (· =plR (.agg (ak (fQ c p)))):=by
 have k:=lQ c p h0 h12;generalize fQ c p=q at k;refine k.emb ?_ rfl;simp[embD,embDs,embC,fzD,lk,rfD,ak,List.take_of_length_le]
theorem y9(c:ar)(node:UInt8)(h0:0<=c.nodes)(h12:c.nodes<=12):Con2 Tryz.prog 10 [.agg (aC c),.v (.int .u8 node.toNat)] (· =plR (.agg (ak (bM c node)))):=by
 have k:=nI c node h0 h12;generalize bM c node=q at k;refine k.emb ?_ rfl;simp[embD,embDs,embC,fzD,lk,rfD,ak,List.take_of_length_le]
theorem tK(c:ar)(p:ah)(h0:0<=c.nodes)(h12:c.nodes<=12)(hpn:(p.node.toNat:Int)<c.nodes):Con2 Tryz.prog 58 [.agg (aC c),.agg (ak p)] (· =plR (.tup [.agg (ak (bU c p).1),.v (.int .i64 (bU c p).2)])):=by
 refine Con2.ofEmb ?_;refine en_ Tryz.func58 [.cell 4 49,.tmp 5] (g2_ ?_);refine g2_ ?_;refine iX (fun hu=>?_) (fun hu=>?_)
 ·have e:bU c p=(p,54):=by unfold bU;rw[if_pos hu]
  rw[e];refine g2_ ?_;refine ae ?_ rfl;exact ws_
 ·refine g2_ ?_;rw[wg];refine aq (fun h2=>?_) (fun h2=>?_)
  ·have e:bU c p=(p,55):=by unfold bU;rw[if_neg (by simp[hu]),if_pos h2]
   rw[e];refine g2_ ?_;refine ae ?_ rfl;exact ws_
  ·refine g2_ ?_;have hC:=lQ c p h0 h12
   have e:bU c p=({ bM c p.node with inc:=p.inc+1,up:=true,table:=(bM c p.node).table.set p.node.toNat ⟨p.inc+1,1,0⟩ },0):=by
    unfold bU;rw[if_neg (by simp[hu]),if_neg h2]
   have hlen:(bM c p.node).table.length<=12:=by simp[bM];omega
   have hnn:(bM c p.node).node=p.node:=rfl;have h4:p.node.toNat<(bM c p.node).table.length:=by simp[bM];omega
   rw[e];unfold fQ at hC;generalize bM c p.node=q at hC hlen h4 hnn;refine ce_ hC (g2_ ?_)
   have hinc:p.inc.toNat<65535:=by
    have h3:=p.inc.toNat_lt;have:p.inc.toNat≠65535:=fun h=>h2 (by apply UInt16.toNat_inj.1;exact h)
    omega
   have hinc2:((p.inc+1:UInt16).toNat:Int)=(p.inc.toNat:Int)+1:=by
    rw[UInt16.toNat_add];have:(1:UInt16).toNat=1:=rfl;omega
   refine iR (by omega) ?_
   rw[hnn];refine gf_ (mE_ h4) ?_;refine ae ?_ rfl
   repeat first|simp-implicitDefEqProofs only[go_sem,ab,List.map_set,hinc2,List.length_set,List.length_map,List.take_of_length_le (Nat.le_refl _)]|with_reducible refine gl_ ?_
   rw[List.take_of_length_le (by simp)]
   try (repeat' (first|rfl|refine And.intro ?_ ?_))
theorem iL(p:ah)(l:List an)(hp:okP p)(ht:l.length<=256)(hl:l.length=p.table.length)(hr:jc p.reports)(hq:sqR p.reports):Con2 Tryz.prog 75 [.agg (ak p),.fz 3 (l.map aE)] (· =plR (.agg (ak (tab p l)))):=by
 refine Con2.ofEmb ?_;unfold tab;refine en_ Tryz.func75 [.cell 4 49] (g2_ ?_);refine gf_ ao ?_;refine av (γ:=Nat) (fun k=>[(5,.d (.v (.int .i64 (k:Nat))))]) (fun k=>[(2,⟨ak { p with reports:=lrnK p.table l p.reports k },49⟩)]) (fun k=>[]) 0 (fun k=>k<=l.length) (fun k=>l.length-k) 0 (aa [] ?_) (by omega) (fun k hk0=>?_)
 ·repeat first|simp-implicitDefEqProofs only[go_sem,ab,lrnK,List.range_zero,List.foldl_nil,ao]|with_reducible refine gl_ ?_
  try (repeat' (first|rfl|refine And.intro ?_ ?_))
 ·refine gf_ ao ?_;refine aq (fun h0=>?_) (fun h0=>?_)
  ·have hk2:k<l.length:=by omega
   have hk:k<p.table.length:=by omega
   have hok:=gw (a:=p.table) (b:=l) hr k;have hsq:=tQ (a:=p.table) (b:=l) hq k;have hsu:=mA (r:=p.reports) hk hk2;refine gf_ ao ?_;refine .inl ⟨[oF 0,oF 1,oF 5,oF 7,oF 2,oF 6,oF 3,oF 8,oF 4,oF 9,oF 10,oF 11],by kernel_rfl,gf_ (c3_ (mE_ hk) (mE_ hk2) ao) ?_⟩
   have hku:((UInt8.ofNat k).toNat:Int)=k:=by rw[UInt8.toNat_ofNat'];omega
   have hfo:=qL (lrnK p.table l p.reports k) (UInt8.ofNat k) hok hsq;rw[hku]at hfo
   by_cases h:p.table[k].inc<l[k].inc
   ·have h2:(p.table[k].inc.toNat:Int)<(l[k].inc.toNat:Int):=(cZ _ _).2 h;rw[if_pos h]at hsu;rw[decide_eq_true h2];refine gf_ ao ?_;refine dx (by omega) ?_
    refine gf_ ao ?_;refine ce_ hfo (gf_ ao ?_);refine⟨k+1,aa [] ?_,by omega,by omega⟩
    refine gf_ (c2_ hsu ao) ?_
    try (repeat' (first|rfl|refine And.intro ?_ ?_))
   ·have h2: ¬(p.table[k].inc.toNat:Int)<(l[k].inc.toNat:Int):=fun h3=>h ((cZ _ _).1 h3)
    rw[if_neg h]at hsu;rw[decide_eq_false h2];refine gf_ ao ?_;refine⟨k+1,aa [] ?_,by omega,by omega⟩
    refine gf_ (c2_ hsu ao) ?_
    try (repeat' (first|rfl|refine And.intro ?_ ?_))
  ·obtain rfl:k=l.length:=by omega
   refine gf_ ao ?_;refine ae ?_ rfl;exact wf_ ao
theorem jk(c:ar)(p:ah)(node:UInt8)(inc:UInt16)(hp:okP p)(hr:jc p.reports)(hq:sqR p.reports)(ht:p.table.length<=256)(hct:c.nodes<=(p.table.length:Int)):Con2 Tryz.prog 19 [.agg (aC c),.agg (ak p),.v (.int .u8 node.toNat),.v (.int .u16 inc.toNat)] (· =plR (.tup [.agg (ak (aI c p node inc).1),.v (.bool (aI c p node inc).2)])):=by
 refine Con2.ofEmb ?_;have hi:=node.toNat_lt;have hj:=p.node.toNat_lt;refine en_ Tryz.func19 [.cell 8 49,.tmp 9] (g2_ ?_);refine gf_ ao ?_
 by_cases h1:c.nodes<=(node.toNat:Int)
 ·have e:aI c p node inc=(p,false):=if_pos (.inl h1);rw[e,decide_eq_true h1];refine gf_ ao ?_;refine ae ?_ rfl;exact ws_
 rw[decide_eq_false h1];refine gf_ ao ?_;rw[bt]
 by_cases h3:node=p.node
 ·have e:aI c p node inc=(p,false):=if_pos (.inr (.inr (.inl h3)));rw[e,decide_eq_true h3];refine gf_ ao ?_;refine ae ?_ rfl;exact ws_
 rw[decide_eq_false h3];refine gf_ ao ?_;rw[ga]
 by_cases h4:inc=0
 ·have e:aI c p node inc=(p,false):=if_pos (.inr (.inr (.inr h4)));rw[e,decide_eq_true h4];refine gf_ ao ?_;refine ae ?_ rfl;exact ws_
 rw[decide_eq_false h4];have hk:node.toNat<p.table.length:=by omega
 have hgk:=aX (f:=aE) hk;refine gg_ ao hgk ?_
 have e0:aI c p node inc=if inc<p.table[node.toNat].inc\/(inc=p.table[node.toNat].inc/\p.table[node.toNat].state=3)then (p,false)
   else ({ p with table:=cl p.table node inc,reports:=if p.table[node.toNat].inc<inc then bI p.reports node else p.reports },true):=by
  unfold aI;rw[if_neg (by simp[h1,h3,h4];omega),List.getElem?_eq_getElem hk]
 have hlr:=sV (inc:=inc) (r:=p.reports) hk p.table.length (Nat.le_refl _);have hth:=tJ p.table node inc (by omega)
 have hlen:(cl p.table node inc).length=p.table.length:=by simp[cl]
 have hta:=iL p (cl p.table node inc) hp (by omega) hlen hr hq
 have e5:({ p with table:=cl p.table node inc,reports:=if p.table[node.toNat].inc<inc then bI p.reports node else p.reports }:ah)=tab p (cl p.table node inc):=by
  rw[tab,hlen,hlr]
  congr 1
  by_cases h:p.table[node.toNat].inc<inc
  ·rw[if_pos h,if_pos ⟨hk,h⟩]
  ·rw[if_neg h,if_neg (fun g=>h g.2)]
 rw[e5]at e0;rw[e0];generalize tab p (cl p.table node inc)=T at hta;generalize p.table[node.toNat]=m at hgk⊢
 by_cases h5:(inc.toNat:Int)<(m.inc.toNat:Int)
 ·have h6:inc<m.inc:=by rw[UInt16.lt_iff_toNat_lt];omega
  rw[if_pos (.inl h6),decide_eq_true h5];refine gf_ ao ?_;refine ae ?_ rfl;exact ws_
 have h6: ¬inc<m.inc:=by rw[UInt16.lt_iff_toNat_lt];omega
 rw[decide_eq_false h5];refine gg_ ao hgk ?_;rw[d4]
 by_cases hA:inc=m.inc
 ·rw[decide_eq_true hA];refine gg_ ao hgk ?_;rw[agu]
  by_cases hB:m.state=3
  ·rw[if_pos (.inr ⟨hA,hB⟩),decide_eq_true hB];refine gf_ ao ?_;refine ae ?_ rfl;exact ws_
  ·rw[if_neg (by simp[h6,hB]),decide_eq_false hB]
   refine gf_ ao ?_;refine .inl ⟨[oF 0,oF 1,oF 3,oF 4,oF 2,oT 5,oF 6,oF 7,oF 8],by kernel_rfl,gf_ ao ?_⟩
   refine ce_ hth (gf_ ao ?_);refine CallS.eq hta (wf_ ao) (.inl ws_) ?_;refine gf_ ao ?_;refine ae ?_ rfl;exact wf_ ao
 ·rw[if_neg (by simp[h6,hA]),decide_eq_false hA]
  refine gf_ ao ?_;refine .inl ⟨[oF 0,oF 1,oF 3,oF 4,oF 2,oT 5,oF 6,oF 7,oF 8],by kernel_rfl,gf_ ao ?_⟩
  refine ce_ hth (gf_ ao ?_);refine CallS.eq hta (wf_ ao) (.inl ws_) ?_;refine gf_ ao ?_;refine ae ?_ rfl;exact wf_ ao
theorem dL(p:ah)(kind to:UInt8)(l:List GDesc)(t:List an):Con2 Tryz.prog 123 [.agg (ak p),.v (.int .u8 kind.toNat),.v (.int .u8 to.toNat),fzD l,.fz 3 (t.map aE)] (· =plR (.agg (encMg { pMsg p kind to with list:=l,table:=t }))):=by
 refine en_ Tryz.func123 [.cell 10 60] (g2_ ?_);refine g2_ ?_;exact⟨_,rfl,aa [] (by simp-implicitDefEqProofs only[go_sem,ab,pMsg,zEvt,List.map_nil])⟩
theorem jy(p:ah)(l:List GDesc)(hp:okP p)(hl:aR l)(hn: ∀x∈l,x.node≠p.node):Con2 Tryz.prog 131 [.agg (ak p),fzD l] (· =plR (fzD (bE l (pSelf p)))):=by
 refine Con2.ofEmb ?_;have hb:=hl.1;have hs:=gd p hp;have hse:cF l (pSelf p)<=l.length:=uw _ _;have hend:=alH (l:=l) (d:=pSelf p);have hsn:(pSelf p).node=p.node:=rfl;refine en_ Tryz.func131 [.tmp 4] (g2_ ?_);refine g2_ ?_;refine av (γ:=Nat) (fun i=>[(7,.d (.v (.int .i64 (i:Nat)))),(6,.d (.v (.bool (decide (cF l (pSelf p)<i))))),(5,.d (.rf 0 0 (wK l (pSelf p) i).length))]) (fun _=>[]) (fun i=>[(0,.arr 34 4 ((wK l (pSelf p) i).map af) false)]) 1 (fun i=>i<=l.length) (fun i=>l.length-i) 0 (aa [(0,.nil 4)] ?_) (by omega) (fun i hi=>?_)
 ·have e0:wK l (pSelf p) 0=[]:=by rw[wK,if_pos (Nat.zero_le _)];rfl
  repeat first|simp-implicitDefEqProofs only[go_sem,ab,e0,Nat.not_lt_zero,decide_false]|with_reducible refine gl_ ?_
  repeat' (first|rfl|refine And.intro ?_ ?_)
 ·have hwl:(wK l (pSelf p) i).length<=l.length+1:=alu;refine g2_ ?_;refine aq (fun h=>?_) (fun h=>?_)
  ·have hk:i<l.length:=by omega
   have hne:=hn _ (List.getElem_mem hk);refine g2_ ?_;refine .inl ⟨[oF 0,oF 1,oF 2,oF 3,oF 4,oF 8,oF 5,oF 9,oF 6,oF 7,oF 10,oF 11],by kernel_rfl,?_⟩
   rcases Nat.lt_trichotomy i (cF l (pSelf p))with hip|hip|hip
   ·have e1:decide (cF l (pSelf p)<i)=false:=decide_eq_false (by omega)
    have e3:decide (cF l (pSelf p)<i+1)=false:=decide_eq_false (by omega)
    have hlt:=(dH _ _).2 (akk hip hk);have e2:decide ((p.node.toNat:Int)<(l[i].node.toNat:Int))=false:=decide_eq_false (by rw[hsn]at hlt;omega)
    refine gf_ (c2_ e1 (mE_ hk)) ?_;rw[e2];refine gf_ (mE_ hk) ?_;refine⟨i+1,aa [(0,.to 2)] ?_,by omega,by omega⟩
    repeat first|simp-implicitDefEqProofs only[go_sem,ab,anl hip hk,List.map_append,List.length_append,e3]|with_reducible refine gl_ ?_
    try first|rfl|exact⟨rfl,by simp[af]⟩
   ·subst hip;have e1:decide (cF l (pSelf p)<cF l (pSelf p))=false:=decide_eq_false (by omega)
    have e3:decide (cF l (pSelf p)<cF l (pSelf p)+1)=true:=decide_eq_true (by omega)
    have hge: ¬((l[cF l (pSelf p)].node.toNat:Int)<(p.node.toNat:Int)):=fun g=>ajb hk ((dH _ _).1 g)
    have hne2:l[cF l (pSelf p)].node.toNat≠p.node.toNat:=fun g=>hne (UInt8.toNat_inj.1 g)
    have e2:decide ((p.node.toNat:Int)<(l[cF l (pSelf p)].node.toNat:Int))=true:=decide_eq_true (by omega)
    have hq:=anh hk;refine gf_ (c2_ e1 (mE_ hk)) ?_;rw[e2];refine g2_ ?_;refine ce_ hs (x1_ (mE_ hk) ?_);refine⟨cF l (pSelf p)+1,aa [(0,.to 4)] ?_,by omega,by omega⟩
    repeat first|simp-implicitDefEqProofs only[go_sem,ab,hq,List.map_append,List.length_append,e3]|with_reducible refine gl_ ?_
    try first|rfl|exact⟨rfl,by simp[af]⟩
   ·have e1:decide (cF l (pSelf p)<i)=true:=decide_eq_true (by omega)
    have e3:decide (cF l (pSelf p)<i+1)=true:=decide_eq_true (by omega)
    refine gf_ (c2_ e1 (mE_ hk)) ?_;refine⟨i+1,aa [(0,.to 2)] ?_,by omega,by omega⟩
    repeat first|simp-implicitDefEqProofs only[go_sem,ab,amE hip hk,List.map_append,List.length_append,e3]|with_reducible refine gl_ ?_
    try first|rfl|exact⟨rfl,by simp[af]⟩
  ·obtain rfl:i=l.length:=by omega
   by_cases hw:l.length<=cF l (pSelf p)
   ·rw[if_pos hw]at hend;have e1:decide (cF l (pSelf p)<l.length)=false:=decide_eq_false (by omega)
    refine gf_ e1 ?_;refine ce_ hs (gx_ ?_);refine ae ?_ rfl;refine x1_ hend.symm ?_
    try rw[List.take_of_length_le (by simp)]
    try (repeat' (first|rfl|refine And.intro ?_ ?_))
   ·rw[if_neg hw]at hend;have e1:decide (cF l (pSelf p)<l.length)=true:=decide_eq_true (by omega)
    refine gf_ e1 ?_;refine ae ?_ rfl
    repeat first|simp-implicitDefEqProofs only[go_sem,ab,hend,List.length_map,aF]|with_reducible refine gl_ ?_
theorem wT(c:ar)(p:ah)(to:UInt8)(hp:okP p):Con2 Tryz.prog 61 [.agg (aC c),.agg (ak p),.v (.int .u8 to.toNat)] (· =plR (.tup [.fz 17 ((dF c p to).1.map encMg),.v (.int .i64 (dF c p to).2)])):=by
 refine Con2.ofEmb ?_;have hn:=p.node.toNat_lt;have ht:=to.toNat_lt;have hs:=gd p hp;have hw:=dL p 1 to [pSelf p] [];refine en_ Tryz.func61 [.tmp 6,.tmp 7] (g2_ ?_);refine g2_ ?_;cases hu:p.up with
 |false=>
  have e:dF c p to=([],53):=by unfold dF;rw[if_pos hu]
  rw[e];refine g2_ ?_;refine ae ?_ rfl;exact ws_
 | true=>
  refine g2_ ?_
  by_cases h1:c.nodes<=(to.toNat:Int)
  ·have e:dF c p to=([],2):=by unfold dF;rw[if_neg (by simp[hu]),if_pos (.inl h1)]
   rw[e,decide_eq_true h1];refine g2_ ?_;refine ae ?_ rfl;exact ws_
  ·rw[decide_eq_false h1];refine g2_ ?_;rw[bt];refine aq (fun h2=>?_) (fun h2=>?_)
   ·have e:dF c p to=([],2):=by unfold dF;rw[if_neg (by simp[hu]),if_pos (.inr h2)]
    rw[e];refine g2_ ?_;refine ae ?_ rfl;exact ws_
   ·have e:dF c p to=([{ pMsg p 1 to with list:=[pSelf p] }],0):=by unfold dF;rw[if_neg (by simp[hu]),if_neg (by simp[h1,h2])]
    rw[e];refine g2_ ?_;refine .inl ⟨[oF 0,oF 1,oF 2,oT 3,oT 4,oF 5,oF 6,oF 7,oF 8],by kernel_rfl,g2_ ?_⟩
    refine CallS.eq hs (wf_ hu) (.inl ws_) ?_;refine g2_ ?_;refine cx_ hw (wf_ hu) (g2_ ?_);refine ae ?_ rfl
    repeat first|simp-implicitDefEqProofs only[go_sem,ab,pMsg,pSelf,List.map_cons,List.map_nil]|with_reducible refine gl_ ?_
theorem wi(c:ar)(l:List GDesc)(hc:c.schema.length<=4000000)(hl:aR l):Con2 Tryz.prog 27 [.agg (aC c),fzD l] (· =bb 34 4 ((pFine c l).map af)):=by
 have hb:=hl.1;refine en_ Tryz.func27 [.tmp 4] (g2_ ?_);refine g2_ ?_;refine av (γ:=Nat) (fun k=>[(6,.d (.v (.int .i64 (k:Nat)))),(5,.d (.rf 0 0 (pFine c (l.take k)).length))]) (fun _=>[]) (fun k=>[(0,.arr 34 4 ((pFine c (l.take k)).map af) false)]) 1 (fun k=>k<=l.length) (fun k=>l.length-k) 0 (aa [(0,.nil 4)] ?_) (by omega) (fun k hk0=>?_)
 ·repeat first|simp-implicitDefEqProofs only[go_sem,ab,List.take_zero,pFine,List.filter_nil]|with_reducible refine gl_ ?_
  repeat' (first|rfl|refine And.intro ?_ ?_)
 ·have hdl:=gh (f:=bp c) l k;have hdl2:(pFine c (l.take k)).length<=l.length:=hdl;refine g2_ ?_;refine aq (fun h=>?_) (fun h=>?_)
  ·have hk:k<l.length:=by omega
   have hsn:pFine c (l.take (k+1))=pFine c (l.take k)++(if bp c l[k]=true then [l[k]]else []):=eY hk
   have hfr:=xG c.schema l[k].filter (by omega) (by have:=hl.2 _ (List.getElem_mem hk);omega)
   have hgk:=aX (f:=af) hk;have hnd:=l[k].node.toNat_lt;refine g2_ ?_;refine .inl ⟨[oF 0,oF 1,oF 6,oF 2,oF 7,oF 3,oF 4,oF 5,oF 8,oF 9,oF 10,oF 11,oF 12,oF 13,oF 14,oF 15,oF 16,oF 17,oF 18,oF 20,oF 21,oF 19,oF 22,oF 23,oF 24,oF 25,oF 26],by kernel_rfl,gf_ hgk ?_⟩
   generalize l[k]=d at hsn hfr hgk hnd ⊢;have no:bp c d=false->pFine c (l.take (k+1))=pFine c (l.take k):=fun e=>by rw[hsn,e];simp
   by_cases h1:(d.node.toNat:Int)<c.nodes
   ·rw[decide_eq_true h1];refine gf_ hgk ?_
    by_cases h2:(0:Int)<(d.inc.toNat:Int)
    ·rw[decide_eq_true h2];refine gf_ hgk ?_;refine ce_ hfr ?_;cases h3:bB c.schema d.filter with
     |true=>
      have e:bp c d=true:=by simp[bp,h1,h3];omega
      rw[e]at hsn;refine gf_ hgk ?_;refine⟨k+1,aa [(0,.to 2)] ?_,by omega,by omega⟩
      repeat first|simp-implicitDefEqProofs only[go_sem,ab,hsn,if_true,List.length_append,List.map_append]|with_reducible refine gl_ ?_
      try first|rfl|exact⟨rfl,by simp[af]⟩
     |false=>
      have e:bp c d=false:=by simp[bp,h3]
      refine g2_ ?_;refine⟨k+1,aa [(0,.to 0)] ?_,by omega,by omega⟩
      refine gf_ (no e) ?_
      try (repeat' (first|rfl|refine And.intro ?_ ?_))
    ·have e:bp c d=false:=by simp[bp];omega
     rw[decide_eq_false h2];refine g2_ ?_;refine⟨k+1,aa [(0,.to 0)] ?_,by omega,by omega⟩
     refine gf_ (no e) ?_
     try (repeat' (first|rfl|refine And.intro ?_ ?_))
   ·have e:bp c d=false:=by simp[bp];omega
    rw[decide_eq_false h1];refine g2_ ?_;refine⟨k+1,aa [(0,.to 0)] ?_,by omega,by omega⟩
    refine gf_ (no e) ?_
    try (repeat' (first|rfl|refine And.intro ?_ ?_))
  ·have he:l.take k=l:=List.take_of_length_le (by omega)
   refine g2_ ?_;exact⟨_,rfl,aa [] (wf_ he)⟩
