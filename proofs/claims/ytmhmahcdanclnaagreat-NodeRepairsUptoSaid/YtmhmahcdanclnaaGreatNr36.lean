import Derived.Test.YtmhmahcdanclnaaGreatNr35
set_option linter.unusedSectionVars false
set_option linter.unusedSimpArgs false
set_option linter.unusedVariables false
set_option maxRecDepth 10000
namespace Go.Eng
def gw:Option Nat->Int
 |some i=>(i:Nat)
 |none=> -1
section
variable {α:Type} {l:List α} {q:α->Bool} {k:Nat}
theorem acS(hk:k<l.length)(hb:q l[k]=true)(hF: ∀x∈l.take k,q x=false):gw (l.findIdx? q)=(k:Nat):=by
 have h:l.findIdx? q=some k:=List.findIdx?_eq_some_iff_getElem.2 ⟨hk,hb,fun j hj=>by
  have h2:j<l.length:=by omega
  simp[hF l[j] (List.mem_take_iff_getElem.2 ⟨j,by omega,rfl⟩)]⟩
 rw[h];rfl
theorem aez(hF: ∀x∈l,q x=false):gw (l.findIdx? q)= -1:=by
 rw[List.findIdx?_eq_none_iff.2 hF];rfl
theorem xD(hk:k<l.length)(hb:q l[k]=false)(hF: ∀x∈l.take k,q x=false): ∀x∈l.take (k+1),q x=false:=by grind [List.take_add_one,List.getElem?_eq_getElem]
theorem afJ:decide (0<=gw (l.findIdx? q))=l.any q:=by
 cases h:l.findIdx? q with
 |none=>
  rw[List.findIdx?_eq_none_iff]at h;have:l.any q=false:=by rw[List.any_eq_false];intro x hx;simp[h x hx]
  rw[this];rfl
 |some i=>
  obtain⟨hi,hb,_⟩:=List.findIdx?_eq_some_iff_getElem.1 h;have:l.any q=true:=List.any_eq_true.2 ⟨_,List.getElem_mem hi,hb⟩;rw[this];simp[gw]
end
end Go.Eng
namespace Go.Proofs.YtmhmahcdanclnaaGreat.V
open Go.Eng
attribute [local go_sem] aQ ah fzD plR a_ aN aP aD aB ak aE aU z8 z16 z32 z64 encMg aO
theorem rq:yS Tryz.prog 376 178 5 12/\pR Tryz.prog 376 178 5:=xM (φ:=400) (ψ:=401) Tryz.func376 (by kernel_rfl) (by kernel_rfl) rfl rfl Ty.el47 Ty.zero178 (by kernel_rfl) (by decide) (by decide) (by decide)
theorem qo:yS Tryz.prog 376 178 5 12:=rq.1
theorem om:pR Tryz.prog 376 178 5:=rq.2
theorem nz(f:FuncId)(cap:List DV)(l:List GAsk)(q:GAsk->Bool)(hl:l.length<=4000000)(hc1: ∀H,embDs H cap=some cap)(hc2:noPts cap=true)(hc3: ∀r,wkDs r cap cap)
  (hq: ∀x∈l,Con2 Tryz.prog f (.agg (aU x)::cap) (· =plR (.v (.bool (q x))))):
  Con2 Tryz.prog 230 [.fz 5 (l.map aU),.fn f [] cap] (· =plR (.v (.int .i64 (gw (l.findIdx? q))))):=by
 refine Con2.ofEmb ?_;refine en_ Tryz.func230 [.tmp 4] (g2_ ?_);refine g2_ ?_;refine aw l.length (fun _=>[]) (fun _=>[]) (fun _=>[]) 0 (fun k=> ∀x∈l.take k,q x=false) (aa [] ?_) (by simp) (fun g k=>ws_) (by omega) (fun g=>ws_) (fun k hk hF=>?_) (fun hF=>?_)
 ·refine gf_ hc3 ?_
  try rfl
 ·have hx:=hq l[k] (List.getElem_mem hk)
  repeat first|simp-implicitDefEqProofs only[go_sem,ab,aZ hk,List.nil_append,List.cons_append]|with_reducible first|refine gl_ ?_|refine ga_ ?_|refine gn_ ?_
  refine CallS.eq hx (wf_ hc1) (.inl (wf_ hc2)) ?_;refine g2_ ?_;cases hb:q l[k]with
  |true=>
   refine g2_ ?_;refine ae ?_ rfl;exact wf_ (acS hk hb hF)
  |false=>
   refine g2_ ?_;refine⟨k+1,aa [] ?_,rfl,xD hk hb hF⟩;exact wf_ hc3
 ·rw[List.take_of_length_le (Nat.le_refl _)]at hF;refine g2_ ?_;refine ae ?_ rfl;exact wf_ (aez hF)
theorem agt(x:GID)(a:GAsk):Con2 Tryz.prog 399 [.agg (aU a),.fp (aO x)] (· =plR (.v (.bool (decide (a.id=x))))):=by
 refine Con2.ofEmb ?_;refine en_ Tryz.func399 [.tmp 3] (g2_ ?_);refine g2_ ?_;refine ae ?_ rfl;exact ws_
theorem z6(x:GID)(l:List GAsk)(hl:l.length<=4000000):Con2 Tryz.prog 398 [.fz 5 (l.map aU),.fn 399 [] [.fp (aO x)]] (· =plR (.v (.bool (pHas l x)))):=by
 refine Con2.ofEmb ?_;have h:=nz 399 [.fp (aO x)] l (fun a=>decide (a.id=x)) hl (fun _=>ws_) ws_ (fun _=>ws_) (fun a _=>agt x a)
 have e:=afJ (l:=l) (q:=fun a=>decide (a.id=x))
 unfold pHas;rw[<-e];generalize gw (l.findIdx? fun a=>decide (a.id=x))=i at h
 refine en_ Tryz.func398 [.tmp 4] (g2_ ?_);refine g2_ ?_;refine ce_ h (g2_ ?_);refine ae ?_ rfl;exact ws_
theorem ak5(x:GID)(l:List GAsk)(hl:l.length<=4000000):Con2 Tryz.prog 374 [.fz 5 (l.map aU),.agg (aO x)] (· =plR (.v (.bool (pHas l x)))):=by
 refine Con2.ofEmb ?_;have h:=z6 x l hl;refine en_ Tryz.func374 [.tmp 4] (g2_ ?_);refine g2_ ?_;refine CallS.eq h ws_ (.inr ws_) ?_;refine g2_ ?_;refine ae ?_ rfl;exact ws_
theorem agB(x a:GAsk):Con2 Tryz.prog 375 [.agg (aU a),.fp (aU x)] (· =plR (.v (.bool (x.id.less a.id)))):=by
 refine Con2.ofEmb ?_;have h:=aaL x.id a.id;refine en_ Tryz.func375 [.tmp 3] (g2_ ?_);refine g2_ ?_;refine ce_ h (g2_ ?_);refine ae ?_ rfl;exact ws_
theorem ajD(l:List GAsk)(x:GAsk)(most:Int)(hl:l.length<=4000000):Con2 Tryz.prog 322 [.fz 5 (l.map aU),.agg (aU x),.v (.int .i64 most)] (· =plR (.tup [.fz 5 ((pAdd l x most).map aU),.v (.int .i64 (pErr l x most))])):=by
 refine Con2.ofEmb ?_;have h:=nz 375 [.fp (aU x)] l (fun a=>x.id.less a.id) hl (fun _=>ws_) ws_ (fun _=>ws_) (fun a _=>agB x a)
 have h2:=ak5 x.id l hl;have hple:=arx l x;unfold pAdd;obtain⟨er,hr⟩: ∃er,pErr l x most=er:=⟨_,rfl⟩;rw[hr];unfold pErr at hr;refine en_ Tryz.func322 [.tmp 6,.tmp 7] (g2_ ?_);refine g2_ ?_;refine ce_ (pU (l.map aU) (by rw[List.length_map];omega)) ?_
 repeat first|simp-implicitDefEqProofs only[go_sem,ab,List.length_map]|with_reducible first|refine gl_ ?_|refine ga_ ?_|refine gn_ ?_
 rw[show((x.left.toNat:Int)==0)=decide (x.left=0)from cE x.left 0]
 by_cases e1:x.left=0
 ·rw[if_pos e1]at hr;subst hr;rw[decide_eq_true e1,if_neg (by decide)]
  refine g2_ ?_;refine ae ?_ rfl;exact wf_ @ao
 rw[if_neg e1]at hr;rw[decide_eq_false e1];refine g2_ ?_;refine ce_ h2 (g2_ ?_);cases e2:pHas l x.id with
 |true=>
  rw[if_pos e2]at hr;subst hr;rw[if_neg (by decide)]
  refine g2_ ?_;refine ae ?_ rfl;exact wf_ @ao
 |false=>
 rw[if_neg (by rw[e2];decide)]at hr
 refine gx_ ?_
 by_cases e3:most<=(l.length:Int)
 ·rw[if_pos e3]at hr;subst hr;rw[decide_eq_true e3,if_neg (by decide)]
  refine g2_ ?_;refine ae ?_ rfl;exact wf_ @ao
 rw[if_neg e3]at hr;subst hr;rw[decide_eq_false e3,if_pos rfl];have hmap:(l.map aU).take (pAt l x)++[aU x]++(l.map aU).drop (pAt l x)=(pIns l x).map aU:=by simp[pIns]
 have hln:(pIns l x).length=l.length+1:=by simp[pIns];omega
 refine g2_ ?_;refine CallS.eq h ws_ (.inr ws_) ?_;refine g2_ ?_;cases hi:l.findIdx? (fun a=>x.id.less a.id)with
 |none=>
  have ha:pAt l x=l.length:=by unfold pAt;rw[hi];rfl
  rw[show gw none= -1 from rfl,show decide ((-1:Int)<0)=true from rfl]
  refine gx_ ?_;rw[ha]at hmap;refine CallS.ins qo om (i:=l.length) (l:=l.map aU) (x:=aU x) rfl rfl (by decide) (by simp) (by simp) (by simp;omega) ?_
  rw[hmap];refine gx_ ?_;refine ae ?_ rfl;refine gf_ (c2_ @ao hln) ?_
  try rw[List.take_of_length_le (by simp[hln])]
 |some i=>
  have ha:pAt l x=i:=by unfold pAt;rw[hi];rfl
  rw[show gw (some i)=((pAt l x:Nat):Int)from by rw[ha];rfl,decide_eq_false (show ¬((pAt l x:Nat):Int)<0 by omega)]
  refine gx_ ?_;refine CallS.ins qo om (i:=pAt l x) (l:=l.map aU) (x:=aU x) rfl rfl (by decide) (by simp) (by simpa using hple) (by simp;omega) ?_
  rw[hmap];refine gx_ ?_;refine ae ?_ rfl;refine u1_ (c3_ @List.length_map.{0,0} @ao hln) ?_
  try rw[List.take_of_length_le (by simp[hln])]
theorem acX(x:GID)(a:GAsk):Con2 Tryz.prog 231 [.agg (aU a),.fp (aO x)] (· =plR (.v (.bool (!decide (a.id=x))))):=by
 refine Con2.ofEmb ?_;refine en_ Tryz.func231 [.tmp 3] (g2_ ?_);refine g2_ ?_;refine ae ?_ rfl;exact ws_
theorem ab9{l:List GAsk}{x:GID}{k:Nat}(hk:k<l.length):Eng.pDrop (l.take (k+1)) x=Eng.pDrop (l.take k) x++(if (!decide (l[k].id=x))=true then [l[k]]else []):=fo hk
theorem al7{l:List GAsk}{x:GID}{k:Nat}:(Eng.pDrop (l.take k) x).length<=l.length:=gR _ _
theorem ach(l:List GAsk)(x:GID)(hl:l.length<=4000000):Con2 Tryz.prog 139 [.fz 5 (l.map aU),.agg (aO x)] (· =a_ 178 5 ((Eng.pDrop l x).map aU)):=by
 have hd:=fun a=>acX x a
 refine en_ Tryz.func139 [.tmp 4] (g2_ ?_);refine g2_ ?_;refine im_ Tryz.func168 [.tmp 4] (g2_ ?_);refine g2_ ?_;refine aw l.length (fun k=>[(5,.d (.rf 1 0 (Eng.pDrop (l.take k) x).length))]) (fun _=>[]) (fun k=>[(1,.arr 178 5 ((Eng.pDrop (l.take k) x).map aU) false),(0,.var 54 (aO x))]) 2 (fun _=>True) (aa [(1,.nil 5)] ?_) trivial (fun g k=>ws_) (by omega) (fun g=>ws_) (fun k hk _=>?_) (fun _=>?_)
 ·refine u1_ (c3_ @List.take_zero.{0} @Eng.pDrop.eq_1 @List.filter_nil.{0}) ?_
  try rfl
 ·have hdl2:=al7 (l:=l) (x:=x) (k:=k);have hsn:=ab9 (x:=x) hk
  repeat first|simp-implicitDefEqProofs only[go_sem,ab,aZ hk,List.nil_append,List.cons_append]|with_reducible first|refine gl_ ?_|refine ga_ ?_|refine gn_ ?_
  refine CallS.eq (hd l[k]) ws_ (.inr ws_) ?_;refine g2_ ?_;refine jZ (fun h=>?_) (fun h=>?_)
  ·refine g2_ ?_;refine⟨k+1,aa [(1,.to 1)] ?_,rfl⟩;refine u1_ (c4_ hsn h @Bool.not_true (c3_ @Bool.false_eq_true @if_false.{0} @List.append_nil.{0})) ?_
   repeat' (first|(with_reducible rfl)|(refine And.intro ?_ ?_)|rfl|(simp[aU];done))
  ·repeat first|simp-implicitDefEqProofs only[go_sem,ab,List.length_map]|with_reducible first|refine gl_ ?_|refine ga_ ?_|refine gn_ ?_
   refine⟨k+1,aa [(1,.to 3)] ?_,rfl⟩;refine u1_ (c4_ hsn h @Bool.not_false (c2_ @if_true.{0} @List.length_append.{0})) ?_
   repeat' (first|(with_reducible rfl)|(refine And.intro ?_ ?_)|rfl|(simp[aU];done))
 ·have he:l.take l.length=l:=List.take_of_length_le (by omega)
  refine g2_ ?_;exact⟨_,rfl,aa [(0,.to 1)] (wf_ he)⟩
theorem adL{l:List GAsk}{k:Nat}(hk:k<l.length):pGone (l.take (k+1))=pGone (l.take k)++(if decide (l[k].left.toNat<=1)=true then [l[k].id]else []):=by grind [pGone,fo]
def pLive(l:List GAsk):List GAsk:=l.filter fun a=> !decide (a.left.toNat<=1)
theorem abS{l:List GAsk}{k:Nat}(hk:k<l.length):pLive (l.take (k+1))=pLive (l.take k)++(if (!decide (l[k].left.toNat<=1))=true then [l[k]]else []):=fo hk
def pOld(l:List GAsk)(j:Nat):List GAsk:=(l.take j).map GAsk.less1++l.drop j
theorem aaa{l:List GAsk}{j:Nat}:(pOld l j).length=l.length:=by grind [pOld]
theorem aln{l:List GAsk}{j:Nat}(hj:j<l.length):(pOld l j)[j]? =some l[j]:=by grind [pOld]
theorem amx{l:List GAsk}{j:Nat}(hj:j<l.length):(pOld l j).set j l[j].less1=pOld l (j+1):=by
 unfold pOld;have h1:((l.take j).map GAsk.less1).length=j:=by simp;omega
 rw[List.set_append_right _ _ (by omega),h1,Nat.sub_self,List.drop_eq_getElem_cons hj,List.set_cons_zero,List.take_add_one,List.getElem?_eq_getElem hj,Option.toList_some,List.map_append,List.append_assoc]
 rfl
theorem adM(l:List GAsk)(hl:l.length<=4000000):Con2 Tryz.prog 93 [.fz 5 (l.map aU)] (· =plR (.tup [.fz 5 ((Eng.pTick l).map aU),.fz 3 ((pGone l).map aO)])):=by
 refine Con2.ofEmb ?_;refine en_ Tryz.func93 [.tmp 2,.tmp 3] (g2_ ?_);refine g2_ ?_;refine im_ Tryz.func168 [.tmp 4] (g2_ ?_);refine g2_ ?_;refine aw l.length (fun k=>[(5,.d (.rf 1 0 (pLive (l.take k)).length))]) (fun _=>[]) (fun k=>[(1,.arr 178 5 ((pLive (l.take k)).map aU) false),(2,.arr 54 3 ((pGone (l.take k)).map aO) false),(0,.var 58 [.rf 2 0 (pGone (l.take k)).length])]) 3 (fun _=>True) (aa [(1,.nil 5),(2,.nil 3)] ?_) trivial (fun g k=>ws_) (by omega) (fun g=>ws_) (fun k hk _=>?_) (fun _=>?_)
 ·refine u1_ (c4_ @List.take_zero.{0} @pLive.eq_1 @pGone.eq_1 (c3_ @List.filter_nil.{0} @List.map_nil.{0,0} @List.length_nil.{0})) ?_
  repeat' (first|rfl|(refine And.intro ?_ ?_))
 ·have h1:(pLive (l.take k)).length<=l.length:=gR _ _;have h2:(pGone (l.take k)).length<=l.length:=by unfold pGone;rw[List.length_map];exact gR _ _
  have hs1:=abS hk;have hs2:=adL hk
  repeat first|simp-implicitDefEqProofs only[go_sem,ab,aZ hk,List.nil_append,List.cons_append]|with_reducible first|refine gl_ ?_|refine ga_ ?_|refine gn_ ?_
  refine im_ Tryz.func169 [.tmp 3] (g2_ ?_);refine g2_ ?_;refine bb (fun h=>?_) (fun h=>?_)
  ·have h3:decide (l[k].left.toNat<=1)=true:=decide_eq_true (by omega)
   refine gx_ ?_;refine⟨k+1,aa [(1,.to 1),(2,.to 4)] ?_,rfl⟩;refine u1_ (c4_ hs1 hs2 h3 (c4_ @Bool.not_true @Bool.false_eq_true @if_true.{0} (c3_ @if_false.{0} @List.append_nil.{0} @List.length_append.{0}))) ?_
   repeat' (first|(with_reducible rfl)|(refine And.intro ?_ ?_)|rfl|(simp[aU,aO];done))
  ·have h3:decide (l[k].left.toNat<=1)=false:=decide_eq_false (by omega)
   refine gx_ ?_;refine⟨k+1,aa [(1,.to 4),(2,.to 2)] ?_,rfl⟩
   repeat first|simp-implicitDefEqProofs only[go_sem,ab,hs1,hs2,h3,Bool.not_false,Bool.false_eq_true,if_true,if_false,List.append_nil,List.length_append]|with_reducible refine gl_ ?_
   repeat' (first|(with_reducible rfl)|(refine And.intro ?_ ?_)|rfl|(simp[aU,aO];done))
 ·have he:l.take l.length=l:=List.take_of_length_le (by omega)
  rw[he]
  have hlv: ∀a∈pLive l,1<=a.left.toNat:=fun a ha=>by
   have:=(List.mem_filter.1 ha).2;simp at this;omega
  have hlen:(pLive l).length<=l.length:=List.length_filter_le _ _;have htk:Eng.pTick l=(pLive l).map GAsk.less1:=rfl;rw[htk];generalize pLive l=L at hlv hlen;generalize pGone l=G;refine gx_ ?_;refine aw L.length (fun k=>[]) (fun _=>[]) (fun k=>[(1,.arr 178 5 ((pOld L k).map aU) false),(2,.arr 54 3 (G.map aO) false),(0,.var 58 [.rf 2 0 G.length])]) 3 (fun _=>True) (aa [] ?_) trivial (fun g k=>ws_) (by omega) (fun g=>ws_) (fun k hk _=>?_) (fun _=>?_)
  ·refine x1_ (c2_ @pOld.eq_1 @List.drop_zero.{0}) ?_
   try rfl
  ·have hg:((pOld L k).map aU)[k]? =some (aU L[k]):=by rw[List.getElem?_map,aln hk];rfl
   have h5:=hlv _ (List.getElem_mem hk);have h6:=L[k].left.toNat_lt
   repeat first|simp-implicitDefEqProofs only[go_sem,ab,hg,List.length_map,aaa,List.contains_nil]|with_reducible first|refine gl_ ?_|refine ga_ ?_|refine gn_ ?_
   refine iq (by omega) ?_
   refine gg_ hg @aaa ?_;refine⟨k+1,aa [] ?_,rfl⟩;refine x1_ (amx hk).symm ?_
   have e5:((L[k].less1.left.toNat:Nat):Int)=(L[k].left.toNat:Int)-1:=by
    have:L[k].less1.left.toNat=L[k].left.toNat-1:=UInt8.toNat_sub_of_le _ _ (UInt8.le_iff_toNat_le.2 h5);omega
   rw[e5];rfl
  ·refine g2_ ?_;refine .inl ⟨[oF 0,oF 1,oF 2,oF 3],by kernel_rfl,?_⟩
   ((try (with_reducible refine av ?_));(try simp-implicitDefEqProofs only[go_sem,ab]);repeat ((first|(with_reducible refine av ?_)|(with_reducible refine cN (by omega) ?_)|(with_reducible refine And.intro (by omega) ?_));(try simp-implicitDefEqProofs only[go_sem,ab])))
   refine ae ?_ rfl
   repeat first|simp-implicitDefEqProofs only[go_sem,ab,pOld,List.take_length,List.drop_length,List.append_nil,List.length_map]|with_reducible refine gl_ ?_
   rw[List.take_of_length_le (by simp)]
attribute[local go_sem] bP
section
variable {s:List GSpan} {v:List Int} {k:Nat}
theorem rZ(hl:v.length=s.length)(h1:k<s.length)(h2:k<v.length)(h: ¬(s[k].a<=v[k]/\v[k]<=s[k].b)):fK s v=false:=by
 unfold fK;rw[Bool.and_eq_false_iff];right;rw[List.all_eq_false];refine⟨(s[k],v[k]),?_,by simpa using h⟩
 rw[List.mem_iff_getElem];exact⟨k,by simp;omega,by simp⟩
theorem vn(hl:v.length=s.length)(h: ∀j (h1:j<s.length) (h2:j<v.length),s[j].a<=v[j]/\v[j]<=s[j].b):fK s v=true:=by
 unfold fK;rw[decide_eq_true hl,Bool.true_and,List.all_eq_true];intro x hx;obtain⟨j,hj,rfl⟩:=List.mem_iff_getElem.1 hx
 have hj2:j<s.length/\j<v.length:=by
  rw[List.length_zip]at hj;omega
 have:=h j hj2.1 hj2.2;simpa using this
theorem uF(hl:v.length≠s.length):fK s v=false:=by
 unfold fK;rw[decide_eq_false hl];rfl
end
def FitK(s:List GSpan)(v:List Int)(k:Nat):Prop:= ∀j,j<k-> ∀(h1:j<s.length) (h2:j<v.length),s[j].a<=v[j]/\v[j]<=s[j].b
theorem FitK.snoc{s:List GSpan}{v:List Int}{k:Nat}(h:FitK s v k)(h1:k<s.length)(h2:k<v.length)(g:s[k].a<=v[k]/\v[k]<=s[k].b):FitK s v (k+1):=fun j hj a b=>by
 by_cases e:j=k
 ·subst e;exact g
 ·exact h j (by omega) a b
theorem amN(s:List GSpan)(v:List Int)(hs:s.length<=4000000)(hv:v.length<=4000000):Con2 Tryz.prog 72 [.fz 2 (s.map aQ),.fz 1 (v.map bP)] (· =plR (.v (.bool (fK s v)))):=by
 refine Con2.ofEmb ?_;refine en_ Tryz.func72 [.tmp 4] (g2_ ?_);refine gx_ ?_;refine ez (fun h=>?_) (fun h=>?_)
 ·rw[uF (by omega)]
  refine g2_ ?_;refine ae ?_ rfl;exact ws_
 ·have hl:v.length=s.length:=by omega
  refine gx_ ?_;refine aw s.length (fun _=>[]) (fun _=>[]) (fun _=>[]) 0 (FitK s v) (aa [] ?_) (fun j hj=>by omega) (fun g k=>ws_) (by omega) (fun g=>ws_) (fun k hk hF=>?_) (fun hF=>?_)
  ·refine g2_ ?_
   try rfl
  ·have hkv:k<v.length:=by omega
   repeat first|simp-implicitDefEqProofs only[go_sem,ab,aZ hk]|with_reducible first|refine gl_ ?_|refine ga_ ?_|refine gn_ ?_
   refine .inl ⟨[oF 0,oF 1,oF 4,oF 2,oF 5,oF 3,oF 6,oF 7,oF 8,oF 9,oF 12,oF 10,oF 13,oF 11,oF 14,oF 15],by kernel_rfl,?_⟩
   repeat first|simp-implicitDefEqProofs only[go_sem,ab,aZ hk,aZ hkv,List.length_map]|with_reducible first|refine gl_ ?_|refine ga_ ?_|refine gn_ ?_
   by_cases h1:v[k]<s[k].a
   ·rw[decide_eq_true h1,rZ hl hk hkv (by omega)]
    refine g2_ ?_;refine ae ?_ rfl;exact ws_
   ·rw[decide_eq_false h1];refine gf_ (c2_ (mE_ hk) (mE_ hkv)) ?_
    by_cases h2:s[k].b<v[k]
    ·rw[decide_eq_true h2,rZ hl hk hkv (by omega)]
     refine g2_ ?_;refine ae ?_ rfl;exact ws_
    ·rw[decide_eq_false h2];refine g2_ ?_;refine⟨k+1,aa [] ?_,rfl,hF.snoc hk hkv ⟨by omega,by omega⟩⟩
     exact ws_
  ·rw[vn hl (fun j h1 h2=>hF j h1 h1 h2)]
   refine g2_ ?_;refine ae ?_ rfl;exact ws_
theorem na(f:List GSpan)(v:List Int)(hf:f.length<=4000000)(hv:v.length<=4000000):Con2 Tryz.prog 25 [.fz 2 (f.map aQ),.fz 1 (v.map bP)] (· =plR (.v (.bool (dH f v)))):=by
 refine Con2.ofEmb ?_;unfold dH;refine en_ Tryz.func25 [.tmp 4] (g2_ ?_);refine gx_ ?_
 by_cases h0:f.length=0
 ·have e0:f=[]:=List.eq_nil_of_length_eq_zero h0;rw[show((f.length:Int)==0)=true by rw[h0];rfl]
  subst e0;refine g2_ ?_;refine ae ?_ rfl;exact y1_ (c2_ @List.isEmpty_nil.{0} @Bool.false_and)
 have e0:f.isEmpty=false:=by cases f with|nil=>exact absurd rfl h0|cons=>rfl
 rw[show((f.length:Int)==0)=false from beq_eq_false_iff_ne.2 (by omega),e0,Bool.not_false,Bool.true_and]
 refine gx_ ?_
 by_cases hl:f.length=v.length
 ·rw[show((f.length:Int) !=(v.length:Int))=false by rw[hl];simp]
  refine gx_ ?_;refine aw f.length (fun _=>[]) (fun _=>[]) (fun _=>[]) 0 (FitK f v) (aa [] ?_) (fun j hj=>by omega) (fun g k=>ws_) (by omega) (fun g=>ws_) (fun k hk hF=>?_) (fun hF=>?_)
  ·refine g2_ ?_
   try rfl
  ·have hkv:k<v.length:=by omega
   have hh:=alO f[k] v[k]
   repeat first|simp-implicitDefEqProofs only[go_sem,ab,aZ hk]|with_reducible first|refine gl_ ?_|refine ga_ ?_|refine gn_ ?_
   refine .inl ⟨[oF 0,oF 1,oF 2,oF 3,oF 4,oF 5,oF 6],by kernel_rfl,?_⟩
   repeat first|simp-implicitDefEqProofs only[go_sem,ab,aZ hk,aZ hkv,List.length_map]|with_reducible first|refine gl_ ?_|refine ga_ ?_|refine gn_ ?_
   refine ce_ hh (g2_ ?_)
   by_cases h1:f[k].a<=v[k]/\v[k]<=f[k].b
   ·rw[decide_eq_true h1.1,decide_eq_true h1.2];refine g2_ ?_;refine⟨k+1,aa [] ?_,rfl,hF.snoc hk hkv h1⟩;exact ws_
   ·rw[show(decide (f[k].a<=v[k])&&decide (v[k]<=f[k].b))=false by rw[Bool.and_eq_false_iff];simp only[decide_eq_false_iff_not];omega,rZ hl.symm hk hkv h1]
    refine g2_ ?_;refine ae ?_ rfl;exact ws_
  ·rw[vn hl.symm (fun j h1 h2=>hF j h1 h1 h2)]
   refine g2_ ?_;refine ae ?_ rfl;exact ws_
 ·rw[show((f.length:Int) !=(v.length:Int))=true by simp;omega,uF (by omega)]
  refine g2_ ?_;refine ae ?_ rfl;exact ws_
theorem rM(s:List GSpan)(e:GEvt)(hs:s.length<=4000000)(hv:e.vals.length<=4000000)(hd:e.data.length<=4000000):Con2 Tryz.prog 24 [.fz 2 (s.map aQ),.agg (aE e)] (· =plR (.v (.bool (cO s e)))):=by
 refine Con2.ofEmb ?_;have hx:=e.id.bd;unfold cO;refine en_ Tryz.func24 [.tmp 4] (g2_ ?_);refine g2_ ?_;refine ce_ (amN s e.vals hs hv) (g2_ ?_);cases h1:fK s e.vals with
 |false=>
  rw[Bool.false_and];refine g2_ ?_;refine ae ?_ rfl;exact ws_
 |true=>
 rw[Bool.true_and];refine gx_ ?_
 by_cases h2:e.data.length<=64
 case neg=>
  rw[decide_eq_false h2,decide_eq_false (show ¬(e.data.length:Int)<=64 by omega),Bool.false_and]
  refine g2_ ?_;refine ae ?_ rfl;exact ws_
 rw[decide_eq_true h2,decide_eq_true (show(e.data.length:Int)<=64 by omega),Bool.true_and]
 refine g2_ ?_
 by_cases h3:e.id.node.toNat<12
 case neg=>
  rw[decide_eq_false h3,decide_eq_false (show ¬(e.id.node.toNat:Int)<12 by omega),Bool.false_and]
  refine g2_ ?_;refine ae ?_ rfl;exact ws_
 rw[decide_eq_true h3,decide_eq_true (show(e.id.node.toNat:Int)<12 by omega),Bool.true_and]
 refine g2_ ?_
 by_cases h4:1<=e.id.inc.toNat
 case neg=>
  rw[decide_eq_false h4,decide_eq_false (show ¬(1:Int)<=e.id.inc.toNat by omega),Bool.false_and]
  refine g2_ ?_;refine ae ?_ rfl;exact ws_
 rw[decide_eq_true h4,decide_eq_true (show(1:Int)<=e.id.inc.toNat by omega),Bool.true_and]
 refine g2_ ?_
 by_cases h5:1<=e.id.seq.toNat
 case neg=>
  rw[decide_eq_false h5,decide_eq_false (show ¬(1:Int)<=e.id.seq.toNat by omega)]
  refine g2_ ?_;refine ae ?_ rfl;exact ws_
 rw[decide_eq_true h5,decide_eq_true (show(1:Int)<=e.id.seq.toNat by omega)]
 refine g2_ ?_;refine ae ?_ rfl;exact ws_
def alC(t:List (List GMark)):Prop:=t.length<=4000000/\ ∀r∈t,r.length<=4000000
theorem uK{t:List (List GMark)}{k:Nat}(h:k<t.length):(bt t)[k]? =some [.fz 3 (t[k].map aN)]:=by rw[bt,aZ h]
theorem fw{t:List (List GMark)}:(bt t).length=t.length:=by rw[bt,List.length_map]
theorem apb(t:List (List GMark))(m n:UInt8)(ht:alC t):Con2 Tryz.prog 71 [.fz 1 (bt t),.v (.int .u8 m.toNat),.v (.int .u8 n.toNat)] (· =plR (.agg (aN (xF t m n)))):=by
 refine Con2.ofEmb ?_;have hm:=m.toNat_lt;have hn:=n.toNat_lt;have ht1:=ht.1;unfold xF;refine en_ Tryz.func71 [.cell 6 57] (g2_ ?_);refine gf_ @fw ?_
 by_cases h1:m.toNat<t.length
 ·have hr:=ht.2 _ (List.getElem_mem h1);rw[decide_eq_false (show ¬(t.length:Int)<=m.toNat by omega),List.getElem?_eq_getElem h1]
  refine gg_ @fw (uK h1) ?_
  by_cases h2:n.toNat<t[m.toNat].length
  ·rw[decide_eq_false (show ¬(t[m.toNat].length:Int)<=n.toNat by omega)]
   simp only[List.getElem?_eq_getElem h2];refine gf_ (c3_ @fw (uK h1) (mE_ h2)) ?_;refine ae ?_ rfl;exact ws_
  ·rw[decide_eq_true (show(t[m.toNat].length:Int)<=n.toNat by omega)]
   simp only[List.getElem?_eq_none (show t[m.toNat].length<=n.toNat by omega)]
   refine g2_ ?_;refine ae ?_ rfl;exact ws_
 ·rw[decide_eq_true (show(t.length:Int)<=m.toNat by omega),List.getElem?_eq_none (by omega)]
  refine g2_ ?_;refine ae ?_ rfl;exact ws_
theorem ao0(t:List (List GMark))(self:UInt8)(rows:List GRow)(x:GID)(k:Nat)(m:aq)(ht:alC t)(hr:rows.length<=4000000)(hx:x.node.toNat<rows.length)(hk:k<=4000000):
  Con2 Tryz.prog 68 [.v (.int .i64 (k:Nat)),.agg (aP m),.fp [.v (.int .u8 self.toNat)],.fp (aO x),.fp [.fz 3 (rows.map aD)],.fp [.fz 1 (bt t)]] (· =plR (.v (.bool (j_ t self rows x k m)))):=by
 refine Con2.ofEmb ?_;have hx1:=x.bd;have hs:=self.toNat_lt;have c1:=aaq x.node rows[x.node.toNat];have c2:=nk (rwMark x.node rows[x.node.toNat]) x;have c3:=apb t (UInt8.ofNat k) x.node ht;have c4:=nk (xF t (UInt8.ofNat k) x.node) x;have c5:=nk ⟨x.node,0,0⟩ x;unfold j_;refine en_ Tryz.func68 [.tmp 8] (g2_ ?_);refine g2_ ?_;rw[vo]
 by_cases h1:m.inc=0
 ·rw[decide_eq_true h1,if_pos (.inl h1)];refine g2_ ?_;refine ae ?_ rfl;exact ws_
 rw[decide_eq_false h1];refine g2_ ?_;rw[aba]
 by_cases h2:m.state=3
 ·rw[decide_eq_true h2,if_pos (.inr h2)];refine g2_ ?_;refine ae ?_ rfl;exact ws_
 rw[decide_eq_false h2,if_neg (by simp[h1,h2])]
 refine g2_ ?_;refine ly (fun h3=>?_) (fun h3=>?_)
 ·rw[if_pos (by omega),List.getElem?_eq_getElem hx]
  refine .inl ⟨[oF 0,oF 2,oF 3,oF 8,oF 1,oF 4,oF 5,oF 6,oT 7,oF 9,oF 10,oF 11],by kernel_rfl,?_⟩
  repeat first|simp-implicitDefEqProofs only[go_sem,ab,aZ hx,List.length_map]|with_reducible first|refine gl_ ?_|refine ga_ ?_|refine gn_ ?_
  refine ce_ c1 (g2_ ?_);refine ce_ c2 (g2_ ?_);refine ae ?_ rfl;exact ws_
 ·rw[if_neg (by omega)]
  refine g2_ ?_;refine bb (fun h4=>?_) (fun h4=>?_)
  ·rw[if_pos (by omega)]
   have e8:(UInt8.ofNat k).toNat=k:=by rw[UInt8.toNat_ofNat'];exact Nat.mod_eq_of_lt (by omega)
   rw[e8]at c3;refine .inl ⟨[oF 0,oF 1,oF 3,oF 6,oF 2,oF 4,oT 5,oF 7,oF 8,oF 9],by kernel_rfl,?_⟩
   ((try (with_reducible refine av ?_));(try simp-implicitDefEqProofs only[go_sem,ab]);repeat ((first|(with_reducible refine av ?_)|(with_reducible refine cN (by omega) ?_)|(with_reducible refine And.intro (by omega) ?_));(try simp-implicitDefEqProofs only[go_sem,ab])))
   refine iq (by omega) ?_
   refine g2_ ?_;refine ce_ c3 (g2_ ?_);refine ce_ c4 (g2_ ?_);refine ae ?_ rfl;exact ws_
  ·rw[if_neg (by omega)]
   refine g2_ ?_;refine ce_ c5 (g2_ ?_);refine ae ?_ rfl;exact ws_
theorem ahw{t:List (List GMark)}{ms:List aq}{self:UInt8}{rows:List GRow}{x:GID}(hx:x.node.toNat<rows.length){k:Nat}(hk:k<ms.length)(h:j_ t self rows x k ms[k]=true):cG t ms self rows x=false:=by
 unfold cG;rw[if_neg (by omega)]
 have:(ms.mapIdx fun k m=>j_ t self rows x k m).any id=true:=List.any_eq_true.2 ⟨true,List.mem_iff_getElem.2 ⟨k,by simpa using hk,by simpa using h⟩,rfl⟩
 rw[this];rfl
theorem abW{t:List (List GMark)}{ms:List aq}{self:UInt8}{rows:List GRow}{x:GID}(hx:x.node.toNat<rows.length)(h: ∀k (hk:k<ms.length),j_ t self rows x k ms[k]=false):cG t ms self rows x=true:=by grind [cG,j_]
theorem adK(t:List (List GMark))(ms:List aq)(self:UInt8)(rows:List GRow)(x:GID)(ht:alC t)(hm:ms.length<=4000000)(hr:rows.length<=4000000):
  Con2 Tryz.prog 22 [.fz 1 (bt t),.fz 3 (ms.map aP),.v (.int .u8 self.toNat),.fz 3 (rows.map aD),.agg (aO x)] (· =plR (.v (.bool (cG t ms self rows x)))):=by
 refine Con2.ofEmb ?_;have hx1:=x.bd;have c1:=fun (hx:x.node.toNat<rows.length) k m hk=>ao0 t self rows x k m ht hr hx hk
 refine en_ Tryz.func22 [.tmp 10] (g2_ ?_);refine gx_ ?_;refine bb (fun h=>?_) (fun h=>?_)
 ·have e:cG t ms self rows x=false:=if_pos (by omega)
  rw[e];refine g2_ ?_;refine ae ?_ rfl;exact ws_
 ·have hx:x.node.toNat<rows.length:=by omega
  have c1:=c1 hx;refine gx_ ?_;generalize bt t=T at c1;refine aw ms.length (fun _=>[]) (fun _=>[]) (fun _=>[(3,.var 43 [.fz 1 T]),(2,.var 41 [.fz 3 (rows.map aD)]),(1,.var 54 (aO x)),(0,.var 5 [.v (.int .u8 self.toNat)])]) 4 (fun k=> ∀j (hj:j<ms.length),j<k->j_ t self rows x j ms[j]=false) (aa [] ?_) (fun j _ hj=>by omega) (fun g k=>ws_) (by omega) (fun g=>ws_) (fun k hk hF=>?_) (fun hF=>?_)
  ·refine g2_ ?_
   try rfl
  ·have c1:=c1 k ms[k] (by omega)
   repeat first|simp-implicitDefEqProofs only[go_sem,ab,aZ hk,List.nil_append,List.cons_append]|with_reducible first|refine gl_ ?_|refine ga_ ?_|refine gn_ ?_
   refine CallS.eq c1 ws_ (.inr ws_) ?_;refine g2_ ?_;cases hb:j_ t self rows x k ms[k]with
   |true=>
    rw[ahw hx hk hb];refine g2_ ?_;refine ae ?_ rfl;exact ws_
   | false=>
    refine g2_ ?_;refine⟨k+1,aa [] ?_,rfl,fun j hj hjk=>?_⟩
    ·exact ws_
    ·by_cases e:j=k
     ·subst e;exact hb
     ·exact hF j hj (by omega)
  ·rw[abW hx (fun k hk=>hF k hk hk)]
   refine g2_ ?_;refine ae ?_ rfl;exact ws_
end Go.Proofs.YtmhmahcdanclnaaGreat.V
namespace Go.Eng
theorem jJ{r:Nat->Option Rn}{c c':List DV}(hc:wkDs r c c'): ∀{a a':List (List DV)} (k:Nat),gy r a a'->gy r (a.set k c) (a'.set k c')
 |[],a',k,h=>by simp only[gy]at h;subst h;exact rfl
 |d::l,[],k,h=>by simp[gy]at h
 |d::l,e::m,0,h=>⟨hc,h.2⟩
 |d::l,e::m,k+1,h=>⟨h.1,jJ hc k h.2⟩
theorem qC{r:Nat->Option Rn}{j k n:Nat}(h:r j=some (.to k)):wkDs r [.rf j 0 n] [.rf k 0 n]:=⟨by show wkRf 0 n (r j) (.rf k 0 n);rw[h];exact⟨rfl,rfl,rfl⟩,rfl⟩
theorem an1{r:Nat->Option Rn}{l:List (List DV)}:wkDs r [.fz 3 l] [.fz 3 l]:=⟨⟨rfl,rfl⟩,rfl⟩
theorem aoa{r:Nat->Option Rn}{t:List (List GMark)}{k:Nat}:gy r (dA [.v (.slice none 0 0)] (bt t) k) (dA [.v (.slice none 0 0)] (bt t) k):=oW fun cs hc=>by
 unfold dA at hc;rcases List.mem_append.1 hc with hc|hc
 ·obtain⟨x,_,rfl⟩:=List.mem_map.1 (List.mem_of_mem_take hc);exact⟨⟨rfl,rfl⟩,rfl⟩
 ·rw[(List.mem_replicate.1 hc).2];exact⟨rfl,rfl⟩
def oneR(t:List (List GMark))(i n j:Nat):List (List DV):=(bt t).set i [.rf j 0 n]
end Go.Eng
namespace Go.Proofs.YtmhmahcdanclnaaGreat.V
open Go.Eng
attribute [local go_sem] aQ ah fzD plR a_ aN aP aD aB ak aE aU z8 z16 z32 z64 encMg aO bP
theorem aaS(l:List (List GMark))(i:Nat)(hi:i<l.length)(hl:fP l):Con2 Tryz.prog 319 [.fz 1 (bt l)] (· =⟨.rf 0 0 l.length,[(0,.nst 40 1 (oneR l i l[i].length 1)),(1,.arr 57 3 (l[i].map aN) false)],2⟩):=by
 obtain⟨hl1,hl2⟩:=hl;have hLl:(bt l).length=l.length:=by rw[bt,List.length_map]
 have hge0: ∀k (hk:k<l.length),(bt l)[k]? =some [DV.fz 3 (l[k].map aN)]:=fun k hk=>by rw[bt,List.getElem?_map,List.getElem?_eq_getElem hk];rfl
 have hwk: ∀r k,gy r (dA [.v (.slice none 0 0)] (bt l) k) (dA [.v (.slice none 0 0)] (bt l) k):=fun r k=>aoa
 unfold oneR;obtain⟨nH,hnH⟩: ∃nH:Nat->List (Nat×Row),nH=fun k=>if k<=i then [(0,.nst 40 1 (dA [.v (.slice none 0 0)] (bt l) k))]else [(0,.nst 40 1 ((dA [.v (.slice none 0 0)] (bt l) k).set i [.rf 1 0 l[i].length])),(1,.arr 57 3 (l[i].map aN) false)]:=⟨_,rfl⟩
 have hn1: ∀k,k<=i->nH k=[(0,.nst 40 1 (dA [.v (.slice none 0 0)] (bt l) k))]:=fun k h=>by rw[hnH];exact if_pos h
 have hn2: ∀k,i<k->nH k=[(0,.nst 40 1 ((dA [.v (.slice none 0 0)] (bt l) k).set i [.rf 1 0 l[i].length])),(1,.arr 57 3 (l[i].map aN) false)]:=fun k h=>by rw[hnH];exact if_neg (by omega)
 clear hnH;have hends:(dA [.v (.slice none 0 0)] (bt l) l.length)=bt l:=by rw[<-hLl];exact jB
 generalize bt l=L at hLl hge0 hwk hn1 hn2 hends ⊢;refine en_ Tryz.func319 [.tmp 2] (g2_ ?_);refine gf_ hLl ?_;refine aw l.length (fun k=>[]) (fun _=>[]) nH 2 (fun _=>True) (aa [(0,.to 0)] ?_) trivial (fun g k=>ws_) (by omega) (fun g=>ws_) (fun k hk _=>?_) (fun _=>?_)
 ·rw[hn1 0 (by omega)]
  refine gf_ (c2_ @ov hLl) ?_;exact⟨rfl,rfl,rfl,rfl,rfl⟩
 ·have hk2:k<L.length:=by omega
  have hge:=hge0 k hk;have hge2:L[k]=[DV.fz 3 (l[k].map aN)]:=by rw[List.getElem?_eq_getElem hk2]at hge;exact Option.some.inj hge
  have hps:=jE (z:=[.v (.slice none 0 0)]) hk2;rw[hge2]at hps;have hw1:=hwk (rnOf [(0,.to 0)] 2) (k+1);rcases Nat.lt_trichotomy k i with h1|h1|h1
  ·rw[hn1 k (by omega)]
   repeat first|simp-implicitDefEqProofs only[go_sem,ab,hge,cK hk2,cw (Nat.le_of_lt hk2),List.contains_nil]|with_reducible first|refine gl_ ?_|refine ga_ ?_|refine gn_ ?_
   refine ce_ (ij (l[k].map aN) (by rw[List.length_map];have:=hl2 _ (List.getElem_mem hk);omega)) ?_
   repeat first|simp-implicitDefEqProofs only[go_sem,ab,cK hk2,cw (Nat.le_of_lt hk2),List.contains_nil]|with_reducible first|refine gl_ ?_|refine ga_ ?_|refine gn_ ?_
   refine⟨k+1,aa [(0,.to 0)] ?_,rfl⟩;rw[hn1 (k+1) (by omega)]
   refine g2_ ?_;rw[hps];exact hwk _ _
  ·subst h1;rw[hn1 k (by omega)]
   repeat first|simp-implicitDefEqProofs only[go_sem,ab,hge,cK hk2,cw (Nat.le_of_lt hk2),List.contains_nil]|with_reducible first|refine gl_ ?_|refine ga_ ?_|refine gn_ ?_
   refine ce_ (lE (l[k].map aN) (by rw[List.length_map];have:=hl2 _ (List.getElem_mem hk);omega)) ?_
   repeat first|simp-implicitDefEqProofs only[go_sem,ab,cK hk2,cw (Nat.le_of_lt hk2),List.contains_nil]|with_reducible first|refine gl_ ?_|refine ga_ ?_|refine gn_ ?_
   refine⟨k+1,aa [(0,.to 0),(1,.to 2)] ?_,rfl⟩;rw[hn2 (k+1) (by omega)]
   refine g2_ ?_;rw[<-hps,List.set_set];exact jJ (qC rfl) k (hwk _ _)
  ·have hgt:((dA [.v (.slice none 0 0)] L k).set i [.rf 1 0 l[i].length])[k]? =some [DV.v (.slice none 0 0)]:=by rw[List.getElem?_set_ne (by omega),cK hk2]
   rw[hn2 k h1]
   repeat first|simp-implicitDefEqProofs only[go_sem,ab,hge,hgt,List.length_set,cw (Nat.le_of_lt hk2),List.contains_nil]|with_reducible first|refine gl_ ?_|refine ga_ ?_|refine gn_ ?_
   refine ce_ (ij (l[k].map aN) (by rw[List.length_map];have:=hl2 _ (List.getElem_mem hk);omega)) ?_
   repeat first|simp-implicitDefEqProofs only[go_sem,ab,hgt,List.length_set,cw (Nat.le_of_lt hk2),List.contains_nil]|with_reducible first|refine gl_ ?_|refine ga_ ?_|refine gn_ ?_
   refine⟨k+1,aa [(0,.to 0),(1,.to 1)] ?_,rfl⟩;rw[hn2 (k+1) (by omega)]
   refine g2_ ?_;rw[List.set_comm _ _ (by omega),hps]
   exact jJ (qC rfl) i (hwk _ _)
 ·rw[hn2 l.length hi];refine gf_ hends ?_;refine⟨_,rfl,aa [(0,.to 0),(1,.to 1)] ?_⟩;refine g2_ ?_;have hw1:=hwk (rnOf [(0,.to 0),(1,.to 1)] 2) l.length;rw[hends]at hw1;exact jJ (qC rfl) i hw1
theorem tL: ∀(ks:List GMark) (row:List GMark),(ks.foldl jd row).length=row.length
 |[],_=>rfl
 | a::ks,row=>by
  rw[List.foldl_cons,tL ks];unfold jd;split
  ·rfl
  ·split
   ·rw[List.length_set]
   ·rfl
theorem adk{f:FuncId}{args:List DV}{t:List (List GMark)}{i:Nat}{R:List GMark}{n:Nat}(hn:n=R.length)(h:Con2 Tryz.prog f args (· =⟨.rf 0 0 t.length,[(0,.nst 40 1 (oneR t i n 1)),(1,.arr 57 3 (R.map aN) false)],2⟩)):
  Con2 Tryz.prog f args (· =plR (.fz 1 (bt (t.set i R)))):=by
 subst hn
 have h2:=Con2.frz (l':=bt (t.set i R)) [1] h (id:=0) rfl (by
  unfold oneR;have e:bt (t.set i R)=(bt t).set i [.fz 3 (R.map aN)]:=by simp[bt]
  rw[e];refine qh (c:=[.rf 1 0 R.length]) (c':=[.fz 3 (R.map aN)]) ⟨?_,rfl,fun i hi=>hi⟩ i (qf (fun x=>⟨rfl,rfl,rfl⟩) t)
  simp[embDs,embD,rfD,embC,lk,ao])
 refine h2.emb ?_ rfl;have hl:(bt (t.set i R)).length=t.length:=by rw[bt,List.length_map,List.length_set]
 have e2:List.take t.length (bt (t.set i R))=bt (t.set i R):=List.take_of_length_le (by rw[hl];exact Nat.le_refl _)
 simp[embD,setH,roHs,roH,lk,rfD,hl,e2]
theorem acF(t:List (List GMark))(m:UInt8)(ks:List GMark)(ht:fP t)(hk:ks.length<=4000000):Con2 Tryz.prog 255 [.fz 1 (bt t),.v (.int .u8 m.toNat),.fz 3 (ks.map aN)] (· =plR (.fz 1 (bt (bZ t m ks)))):=by
 have hm:=m.toNat_lt;have ht1:=ht.1
 by_cases h1:m.toNat<t.length
 case neg=>
  have e:bZ t m ks=t:=by unfold bZ;rw[List.modify_eq_self (by omega)]
  rw[e];refine Con2.ofEmb ?_;refine en_ Tryz.func255 [.tmp 6] (g2_ ?_);refine g2_ ?_;refine ce_ (sH t ht) (gf_ @fw ?_);rw[decide_eq_true (show(t.length:Int)<=m.toNat by omega)]
  refine g2_ ?_;refine ae ?_ rfl;refine gf_ @fw ?_;rw[List.take_of_length_le (by rw[fw];exact Nat.le_refl _)]
 have hr1:=ht.2 _ (List.getElem_mem h1);have e:bZ t m ks=t.set m.toNat (ks.foldl jd t[m.toNat]):=by unfold bZ;rw[iU _ _ h1]
 rw[e];have hc:=aaS t m.toNat h1 ht
 have hog:(oneR t m.toNat t[m.toNat].length 1)[m.toNat]? =some [.rf 1 0 t[m.toNat].length]:=by
  unfold oneR;rw[List.getElem?_set_self (by rw[fw];exact h1)]
 have hol:(oneR t m.toNat t[m.toNat].length 1).length=t.length:=by unfold oneR;rw[List.length_set,fw]
 have how: ∀r:Nat->Option Rn,r 1=some (.to 1)->gy r (oneR t m.toNat t[m.toNat].length 1) (oneR t m.toNat t[m.toNat].length 1):=fun r hr=>by
  unfold oneR;exact jJ (qC hr) _ (afT (fun x=>an1) t)
 have hosh:(oneR t m.toNat t[m.toNat].length 1).map (shDs 0)=oneR t m.toNat t[m.toNat].length 1:=by
  unfold oneR;rw[List.map_set,show shDs 0 [.rf 1 0 t[m.toNat].length]=[.rf 1 0 t[m.toNat].length]from rfl]
  congr 1
  unfold bt;rw[List.map_map];rfl
 obtain⟨R,hR⟩: ∃R:Nat->List GMark,R=fun k=>(ks.take k).foldl jd t[m.toNat]:=⟨_,rfl⟩
 have hR0:R 0=t[m.toNat]:=by rw[hR];rfl
 have hRe:R ks.length=ks.foldl jd t[m.toNat]:=by rw[hR];simp only;rw[List.take_length]
 have hRl: ∀k,(R k).length=t[m.toNat].length:=fun k=>by rw[hR];exact tL _ _
 have hRn: ∀k (hk:k<ks.length),R (k+1)=jd (R k) ks[k]:=fun k hk=>by
  rw[hR];simp only;rw[List.take_add_one,List.getElem?_eq_getElem hk,Option.toList_some,List.foldl_append];rfl
 rw[<-hRe];refine adk (i:=m.toNat) (R:=R ks.length) (n:=t[m.toNat].length) (hRl _).symm ?_;clear hR hRe e;generalize t[m.toNat].length=n at hc hog hol how hosh hRl hr1;generalize oneR t m.toNat n 1=O at hc hog hol how hosh;rw[<-hR0]at hc;refine en_ Tryz.func255 [.tmp 6] (g2_ ?_);refine g2_ ?_;refine ce_ hc (gf_ hosh ?_);rw[decide_eq_false (show ¬(t.length:Int)<=m.toNat by omega)]
 refine gg_ hog hol ?_;refine aw ks.length (fun k=>[]) (fun _=>[]) (fun k=>[(0,.nst 40 1 O),(1,.arr 57 3 ((R k).map aN) false)]) 2 (fun _=>True) (aa [] ?_) trivial (fun g k=>ws_) (by omega) (fun g=>ws_) (fun k hk2 _=>?_) (fun _=>?_)
 ·refine g2_ ?_;exact⟨rfl,how _ rfl⟩
 ·have h5:=hRl k;have h6:=hRn k hk2;have h7:=ks[k].node.toNat_lt;generalize R k=A at h5 h6;subst h5;unfold jd at h6;refine gf_ (mE_ hk2) ?_;refine .inl ⟨[oF 0,oF 3,oF 1,oF 4,oF 2,oF 5,oF 6,oF 7,oF 8,oF 9,oF 10,oF 11,oF 12,oF 13,oF 14],by kernel_rfl,g2_ ?_⟩
  by_cases g1:ks[k].node.toNat<A.length
  case neg=>
   rw[decide_eq_false (show ¬(ks[k].node.toNat:Int)<(A.length:Int)by omega)]
   rw[List.getElem?_eq_none (by omega)]at h6
   simp only at h6;refine g2_ ?_;refine⟨k+1,aa [] ?_,rfl⟩;rw[h6];refine g2_ ?_;exact how _ rfl
  rw[decide_eq_true (show(ks[k].node.toNat:Int)<(A.length:Int)by omega)]
  rw[List.getElem?_eq_getElem g1]at h6;simp only at h6;have kn:=rF ks[k] A[ks[k].node.toNat];refine gf_ (c2_ (mE_ hk2) (mE_ g1)) ?_;refine ce_ kn (g2_ ?_);cases g2:jV ks[k] A[ks[k].node.toNat]with
  |false=>
   rw[if_neg (by rw[g2];simp)]at h6
   refine g2_ ?_;refine⟨k+1,aa [] ?_,rfl⟩;rw[h6];refine g2_ ?_;exact how _ rfl
  |true=>
   rw[if_pos g2]at h6;refine gf_ (mE_ g1) ?_;refine⟨k+1,aa [] ?_,rfl⟩;rw[h6];refine x0_ ?_;exact how _ rfl
 ·refine g2_ ?_;refine⟨_,rfl,aa [] ?_⟩;refine g2_ ?_;exact how _ rfl
end Go.Proofs.YtmhmahcdanclnaaGreat.V
namespace Go.Proofs.YtmhmahcdanclnaaGreat.V
open Go.Eng
attribute [local go_sem] aQ ah fzD plR a_ aN aP aD aB ak aE aU z8 z16 z32 z64
