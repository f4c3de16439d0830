import Derived.Test.YtmhmahcdanclnaaGreatNo37
set_option linter.unusedSectionVars false
set_option linter.unusedSimpArgs false
set_option linter.unusedVariables false
set_option maxRecDepth 10000
set_option maxHeartbeats 4000000
namespace Go.Eng
def d_(b:d7):List DV:=[.v (.int .i64 b.room),.fz 5 (b.evs.map az)]
def okB(b:d7):Prop:=b.evs.length<=4000000/\ ∀e∈b.evs,e.vals.length<=4000000/\e.data.length<=4000000
def eW(l:List GEvt)(w:Int)(k:Nat):List GEvt:=if 0<=w/\w<k then (l.take k).eraseIdx w.toNat else l.take k
section
variable {l:List GEvt} {w:Int} {k:Nat}
theorem ato:eW l w 0=[]:=by
 unfold eW;rw[if_neg (by omega)];rfl
theorem arj:(eW l w k).length<=l.length:=by grind [List.length_take,eW]
theorem asS(hk:k<l.length)(h:(k:Int)=w):eW l w (k+1)=eW l w k:=by
 unfold eW;rw[if_pos ⟨by omega,by omega⟩,if_neg (by omega),List.take_add_one,List.getElem?_eq_getElem hk]
 have e:w.toNat=(l.take k).length:=by rw[List.length_take];omega
 rw[e,List.eraseIdx_append_of_length_le (Nat.le_refl _)];simp
theorem asG(hk:k<l.length)(h:(k:Int)≠w):eW l w (k+1)=eW l w k++[l[k]]:=by
 unfold eW;rw[List.take_add_one,List.getElem?_eq_getElem hk]
 by_cases h2:0<=w/\w<k
 ·rw[if_pos ⟨h2.1,by omega⟩,if_pos h2,List.eraseIdx_append_of_lt_length (by rw[List.length_take];omega)]
  rfl
 ·rw[if_neg (by omega),if_neg h2]
  rfl
theorem aey:eW l (-1) l.length=l:=by
 unfold eW;rw[if_neg (by omega),List.take_length]
theorem amV{i:Nat}(hi:i<l.length):eW l (i:Nat) l.length=l.eraseIdx i:=by
 unfold eW;rw[if_pos ⟨by omega,by omega⟩,List.take_length,Int.toNat_natCast]
end
theorem po{l:List GEvt}{q:GID->Bool}{i:Nat}(h:lh l q=some i):i<l.length:=by grind [lh,List.findIdx?_eq_some_iff_getElem]
end Go.Eng
namespace Go.Proofs.YtmhmahcdanclnaaGreat.V
open Go.Eng
attribute [local go_sem] aS ah fzD plR ba aL aR aC aE ak az aU z8 z16 z32 z64 encMg aN d_
theorem adE(l:List (List DV))(hl:l.length<=5000000):Con2 Tryz.prog 270 [.fz 1 l] (· =plR (.fz 1 l)):=jn (fj (T:=51) Tryz.func270 (by kernel_rfl) (by kernel_rfl) rfl rfl Ty.elOf51 (by decide) l hl)
theorem ada(l:List (List DV))(hl:l.length<=5000000):Con2 Tryz.prog 271 [.fz 1 l] (· =plR (.fz 1 l)):=jn (fj (T:=52) Tryz.func271 (by kernel_rfl) (by kernel_rfl) rfl rfl Ty.elOf52 (by decide) l hl)
theorem tS:aa_ Tryz.prog 162 56 5 56/\pX Tryz.prog 162 56 5:=ym (φ:=268) (ψ:=269) Tryz.func162 (by kernel_rfl) (by kernel_rfl) rfl rfl Ty.el44 Ty.zero56 (by kernel_rfl) (by decide) (by decide) (by decide)
theorem pP:aa_ Tryz.prog 162 56 5 56:=tS.1
theorem nP:pX Tryz.prog 162 56 5:=tS.2
theorem nz(e:GEvt)(h:e.vals.length<=4000000/\e.data.length<=4000000):Con2 Tryz.prog 163 [.agg (az e)] (· =plR (.agg (az e))):=by
 refine Con2.ofEmb ?_;refine en_ Tryz.func163 [.cell 2 56] (g2_ ?_);refine g2_ ?_;refine .inl ⟨[oF 0,oF 2,oF 5,oF 1,oF 3,oF 6,oT 4,oT 7,oF 8,oF 9],by kernel_rfl,?_⟩
 ((try (with_reducible refine av ?_));(try simp-implicitDefEqProofs only[go_sem,ab]);repeat ((first|(with_reducible refine av ?_)|(with_reducible refine cV (by omega) ?_)|(with_reducible refine And.intro (by omega) ?_));(try simp-implicitDefEqProofs only[go_sem,ab])))
 refine ce_ (adE (e.vals.map b_) (by rw[List.length_map];omega)) (g2_ ?_)
 refine ce_ (ada (e.data.map aA) (by rw[List.length_map];omega)) ?_
 ((try (with_reducible refine av ?_));(try simp-implicitDefEqProofs only[go_sem,ab]);repeat ((first|(with_reducible refine av ?_)|(with_reducible refine cV (by omega) ?_)|(with_reducible refine And.intro (by omega) ?_));(try simp-implicitDefEqProofs only[go_sem,ab])))
 refine ae ?_ rfl;exact ws_
theorem gk(b:d7)(w:Int)(hb:okB b):Con2 Tryz.prog 159 [.agg (d_ b),.v (.int .i64 w)] (· =⟨.agg [.v (.int .i64 b.room),.rf 0 0 (eW b.evs w b.evs.length).length],[(0,.arr 56 5 ((eW b.evs w b.evs.length).map az) false)],1⟩):=by
 have hb1:=hb.1;refine en_ Tryz.func159 [.cell 4 46] (g2_ ?_);refine gx_ ?_;refine aq b.evs.length (fun _=>[]) (fun k=>[(5,⟨[.v (.int .i64 b.room),.rf 0 0 (eW b.evs w k).length],46⟩)]) (fun k=>[(0,.arr 56 5 ((eW b.evs w k).map az) false)]) 1 (fun _=>True) (aa [(0,.nil 5)] ?_) trivial (fun g k=>ws_) (by omega) (fun g=>ws_) (fun k hk _=>?_) (fun _=>?_)
 ·refine u1_ @ato ?_
  try rfl
 ·have hl:=arj (l:=b.evs) (w:=w) (k:=k)
  repeat first|simp-implicitDefEqProofs only[go_sem,ab,aV hk]|with_reducible first|refine gl_ ?_|refine ga_ ?_|refine gn_ ?_
  refine cU (fun h=>?_) (fun h=>?_)
  ·have hs:=asG hk h;refine g2_ ?_;refine .inl ⟨[oF 0,oF 2,oF 1,oT 3,oT 4,oF 5,oF 6,oF 7],by kernel_rfl,?_⟩
   ((try (with_reducible refine av ?_));(try simp-implicitDefEqProofs only[go_sem,ab]);repeat ((first|(with_reducible refine av ?_)|(with_reducible refine cV (by omega) ?_)|(with_reducible refine And.intro (by omega) ?_));(try simp-implicitDefEqProofs only[go_sem,ab])))
   refine ce_ (nz b.evs[k] (hb.2 _ (List.getElem_mem hk))) ?_
   repeat first|simp-implicitDefEqProofs only[go_sem,ab,List.length_map]|with_reducible first|refine gl_ ?_|refine ga_ ?_|refine gn_ ?_
   refine⟨k+1,aa [(0,.to 2)] ?_,rfl⟩;refine u1_ (c2_ hs @List.length_append.{0}) ?_
   repeat' (first|(with_reducible rfl)|(refine And.intro ?_ ?_)|rfl|(simp[az];done))
  ·have hs:=asS hk h;refine g2_ ?_;refine⟨k+1,aa [(0,.to 0)] ?_,rfl⟩;exact wf_ hs
 ·((try (with_reducible refine av ?_));(try simp-implicitDefEqProofs only[go_sem,ab]);repeat ((first|(with_reducible refine av ?_)|(with_reducible refine cV (by omega) ?_)|(with_reducible refine And.intro (by omega) ?_));(try simp-implicitDefEqProofs only[go_sem,ab])))
  exact⟨_,rfl,aa [] ws_⟩
theorem mS(b:d7)(q:GID->Bool)(f:FuncId)(cap:List DV)(hb:okB b)(hc1: ∀H,embDs H cap=some cap)(hc2:noPts cap=true)(hc3: ∀r,wkDs r cap cap)
  (hq: ∀x,Con2 Tryz.prog f (.agg (aN x)::cap) (· =plR (.v (.bool (q x))))):Con2 Tryz.prog 134 [.agg (d_ b),.fn f [] cap] (· =plR (.v (.int .i64 (fH (lh b.evs q))))):=by
 refine Con2.ofEmb ?_;have hb1:=hb.1;unfold lh;refine en_ Tryz.func134 [.tmp 4] (g2_ ?_);refine gx_ ?_;refine im_ Tryz.func227 [.tmp 4] (g2_ ?_);refine gx_ ?_;refine aq b.evs.length (fun _=>[]) (fun _=>[]) (fun _=>[(0,.var 187 [.fn f [] cap])]) 1 (fun k=> ∀x∈b.evs.take k,q x.id=false) (aa [] ?_) (by simp) (fun g k=>ws_) (by omega) (fun g=>ws_) (fun k hk hF=>?_) (fun hF=>?_)
 ·refine gf_ hc3 ?_
  try rfl
 ·have hx:=hq b.evs[k].id
  repeat first|simp-implicitDefEqProofs only[go_sem,ab,aV hk,List.nil_append,List.cons_append]|with_reducible first|refine gl_ ?_|refine ga_ ?_|refine gn_ ?_
  refine im_ Tryz.func228 [.tmp 3] (g2_ ?_);refine gf_ (mE_ hk) ?_;refine CallS.eq hx (wf_ hc1) (.inl (wf_ hc2)) ?_;refine g2_ ?_;cases hb:q b.evs[k].id with
  |true=>
   refine g2_ ?_;refine ae ?_ rfl;exact wf_ (aem (q:=fun e:GEvt=>q e.id) hk hb hF)
  |false=>
   refine g2_ ?_;refine⟨k+1,aa [] ?_,rfl,yb (q:=fun e:GEvt=>q e.id) hk hb hF⟩
   exact wf_ hc3
 ·rw[List.take_of_length_le (Nat.le_refl _)]at hF;refine g2_ ?_;refine ae ?_ rfl;exact wf_ (ac4 (q:=fun e:GEvt=>q e.id) hF)
theorem akk(x y:GID):Con2 Tryz.prog 135 [.agg (aN y),.fp (aN x)] (· =plR (.v (.bool (decide (y=x))))):=by
 refine Con2.ofEmb ?_;refine en_ Tryz.func135 [.tmp 3] (g2_ ?_);refine g2_ ?_;refine ae ?_ rfl;exact ws_
theorem x9(b:d7)(x:GID)(hb:okB b):Con2 Tryz.prog 67 [.agg (d_ b),.agg (aN x)] (· =plR (.v (.int .i64 (fH (lh b.evs fun y=>decide (y=x)))))):=by
 refine Con2.ofEmb ?_;have h:=mS b (fun y=>decide (y=x)) 135 [.fp (aN x)] hb (fun _=>ws_) ws_ (fun _=>ws_) (fun y=>akk x y)
 refine en_ Tryz.func67 [.tmp 4] (g2_ ?_);refine g2_ ?_;refine CallS.eq h ws_ (.inr ws_) ?_;refine g2_ ?_;refine ae ?_ rfl;exact ws_
theorem al0(l:List GEvt)(x:GID):decide (0<=fH (lh l fun y=>decide (y=x)))=cG l x:=afj
theorem nO(b:d7)(x:GID)(hb:okB b):Con2 Tryz.prog 21 [.agg (d_ b),.agg (aN x)] (· =plR (.v (.bool (cG b.evs x)))):=by
 refine Con2.ofEmb ?_;rw[<-al0];refine en_ Tryz.func21 [.tmp 4] (g2_ ?_);refine g2_ ?_;refine ce_ (x9 b x hb) (g2_ ?_);refine ae ?_ rfl;exact ws_
theorem ajA{l:List GEvt}{q:GEvt->Bool}:l.find? q=(l.findIdx? q).bind fun i=>l[i]?:=by
 induction l with
 |nil=>rfl
 | cons a l ih=>
  rw[List.find?_cons,List.findIdx?_cons];cases h:q a with
  |true=>rfl
  |false=>
   simp only[Bool.false_eq_true,if_false];rw[ih];cases l.findIdx? q<;>rfl
def om(b:d7)(x:GID):GEvt×Int:=match b.evs.find? fun e=>decide (e.id=x)with
 |some e=>(e,0)
 |none=>(zEvt,151)
theorem ai5(b:d7)(x:GID)(hb:okB b):Con2 Tryz.prog 252 [.agg (d_ b),.agg (aN x)] (· =plR (.tup [.agg (az (om b x).1),.v (.int .i64 (om b x).2)])):=by
 refine Con2.ofEmb ?_;have hb1:=hb.1;have ho:=x9 b x hb;have hR:om b x=om b x:=rfl
 conv at hR=>lhs;unfold om;rw[ajA]
 unfold lh at ho;refine en_ Tryz.func252 [.cell 4 56,.tmp 5] (g2_ ?_);refine g2_ ?_;refine ce_ ho (g2_ ?_);cases hi:b.evs.findIdx? (fun e=>decide (e.id=x))with
 |none=>
  rw[hi]at hR;rw[<-hR,show fH none= -1 from rfl,show decide ((-1:Int)<0)=true from rfl]
  refine g2_ ?_;refine ae ?_ rfl;exact wf_ (c2_ @zEvt.eq_1 @Option.bind_none.{0,0})
 |some i=>
  obtain⟨hk,_⟩:=List.findIdx?_eq_some_iff_getElem.1 hi;rw[hi]at hR;rw[<-hR,show fH (some i)=((i:Nat):Int)from rfl,decide_eq_false (show ¬((i:Nat):Int)<0 by omega)]
  refine gf_ (mE_ hk) ?_;refine ce_ (nz b.evs[i] (hb.2 _ (List.getElem_mem hk))) ?_
  ((try (with_reducible refine av ?_));(try simp-implicitDefEqProofs only[go_sem,ab]);repeat ((first|(with_reducible refine av ?_)|(with_reducible refine cV (by omega) ?_)|(with_reducible refine And.intro (by omega) ?_));(try simp-implicitDefEqProofs only[go_sem,ab])))
  refine ae ?_ rfl;exact wf_ (c2_ @Option.bind_some.{0,0} (List.getElem?_eq_getElem hk))
theorem ahM(e:GEvt)(y:GID):Con2 Tryz.prog 160 [.agg (aN y),.fp (az e)] (· =plR (.v (.bool (e.id.less y)))):=by
 refine Con2.ofEmb ?_;have h:=aad e.id y;refine en_ Tryz.func160 [.tmp 3] (g2_ ?_);refine g2_ ?_;refine ce_ h (g2_ ?_);refine ae ?_ rfl;exact ws_
theorem sP(b:d7)(e:GEvt)(hb:okB b)(he:e.vals.length<=4000000/\e.data.length<=4000000):Con2 Tryz.prog 89 [.agg (d_ b),.agg (az e)] (· =plR (.tup [.agg (d_ (dk b e).1),.v (.int .i64 (dk b e).2)])):=by
 refine Con2.ofEmb ?_;have hb1:=hb.1;have h1:=gk b (-1) hb;rw[aey]at h1;have h2:=nO b e.id hb;have h3:=mS b (fun y=>e.id.less y) 160 [.fp (az e)] hb (fun _=>ws_) ws_ (fun _=>ws_) (fun y=>ahM e y)
 have hple:eAt b.evs e.id<=b.evs.length:=by
  unfold eAt;cases hi:lh b.evs fun a=>e.id.less a with
  |none=>exact Nat.le_refl _
  |some i=>exact Nat.le_of_lt (po hi)
 obtain⟨R,hR⟩: ∃R,dk b e=R:=⟨_,rfl⟩;rw[hR];unfold dk at hR;refine en_ Tryz.func89 [.cell 4 46,.tmp 5] (g2_ ?_);refine g2_ ?_;refine ce_ h1 (g2_ ?_);refine ce_ h2 (g2_ ?_);cases e2:cG b.evs e.id with
 |true=>
  rw[if_pos e2]at hR;subst hR;refine g2_ ?_;refine ae ?_ rfl;exact wf_ @an
 |false=>
 rw[if_neg (by rw[e2];decide)]at hR
 refine gx_ ?_
 by_cases e3:b.room<=(b.evs.length:Int)
 ·rw[if_pos e3]at hR;subst hR;rw[decide_eq_true e3];refine g2_ ?_;refine ae ?_ rfl;exact wf_ @an
 rw[if_neg e3]at hR;subst hR;rw[decide_eq_false e3];have hmap:(b.evs.map az).take (eAt b.evs e.id)++[az e]++(b.evs.map az).drop (eAt b.evs e.id)=(aek b.evs e).map az:=by simp[aek]
 have hln:(aek b.evs e).length=b.evs.length+1:=by simp[aek];omega
 refine g2_ ?_;refine CallS.eq h3 ws_ (.inr ws_) ?_;refine g2_ ?_;cases hi:lh b.evs (fun y=>e.id.less y)with
 |none=>
  have ha:eAt b.evs e.id=b.evs.length:=by unfold eAt;rw[hi];rfl
  rw[show fH none= -1 from rfl,show decide ((-1:Int)<0)=true from rfl]
  refine gx_ ?_;refine .inl ⟨[oF 0,oF 2,oF 3,oF 1,oT 4,oT 5,oF 6,oF 7,oF 8],by kernel_rfl,?_⟩
  ((try (with_reducible refine av ?_));(try simp-implicitDefEqProofs only[go_sem,ab]);repeat ((first|(with_reducible refine av ?_)|(with_reducible refine cV (by omega) ?_)|(with_reducible refine And.intro (by omega) ?_));(try simp-implicitDefEqProofs only[go_sem,ab])))
  refine ce_ (nz e he) ?_
  repeat first|simp-implicitDefEqProofs only[go_sem,ab,List.length_map]|with_reducible first|refine gl_ ?_|refine ga_ ?_|refine gn_ ?_
  rw[ha]at hmap;refine CallS.ins pP nP (i:=b.evs.length) (l:=b.evs.map az) (x:=az e) rfl rfl (by decide) (by simp) (by simp) (by simp;omega) ?_
  rw[hmap]
  repeat first|simp-implicitDefEqProofs only[go_sem,ab,List.length_map]|with_reducible first|refine gl_ ?_|refine ga_ ?_|refine gn_ ?_
  refine ae ?_ rfl;refine gf_ (c2_ @an hln) ?_
  try rw[List.take_of_length_le (by simp[hln])]
 |some i=>
  have ha:eAt b.evs e.id=i:=by unfold eAt;rw[hi];rfl
  rw[show fH (some i)=((eAt b.evs e.id:Nat):Int)from by rw[ha];rfl,decide_eq_false (show ¬((eAt b.evs e.id:Nat):Int)<0 by omega)]
  refine gx_ ?_;refine .inl ⟨[oF 0,oF 2,oF 3,oF 1,oT 4,oT 5,oF 6,oF 7,oF 8],by kernel_rfl,?_⟩
  ((try (with_reducible refine av ?_));(try simp-implicitDefEqProofs only[go_sem,ab]);repeat ((first|(with_reducible refine av ?_)|(with_reducible refine cV (by omega) ?_)|(with_reducible refine And.intro (by omega) ?_));(try simp-implicitDefEqProofs only[go_sem,ab])))
  refine ce_ (nz e he) ?_
  repeat first|simp-implicitDefEqProofs only[go_sem,ab,List.length_map]|with_reducible first|refine gl_ ?_|refine ga_ ?_|refine gn_ ?_
  refine CallS.ins pP nP (i:=eAt b.evs e.id) (l:=b.evs.map az) (x:=az e) rfl rfl (by decide) (by simp) (by simpa using hple) (by simp;omega) ?_
  rw[hmap]
  repeat first|simp-implicitDefEqProofs only[go_sem,ab,List.length_map]|with_reducible first|refine gl_ ?_|refine ga_ ?_|refine gn_ ?_
  refine ae ?_ rfl;refine u1_ (c3_ @List.length_map.{0,0} @an hln) ?_
  try rw[List.take_of_length_le (by simp[hln])]
theorem zf(n:UInt8)(i:UInt16)(y:GID):Con2 Tryz.prog 158 [.agg (aN y),.fp [.v (.int .u8 n.toNat)],.fp [.v (.int .u16 i.toNat)]] (· =plR (.v (.bool (zG n i y)))):=by
 refine Con2.ofEmb ?_;unfold zG;refine en_ Tryz.func158 [.tmp 4] (g2_ ?_);refine g2_ ?_;rw[aqj]
 by_cases h:y.node=n
 ·rw[decide_eq_true h];refine g2_ ?_;rw[aob];refine ae ?_ rfl;exact ws_
 ·rw[decide_eq_false h];refine g2_ ?_;refine ae ?_ rfl;exact ws_
theorem adI(b:d7)(n:UInt8)(i:UInt16)(hb:okB b):Con2 Tryz.prog 88 [.agg (d_ b),.v (.int .u8 n.toNat),.v (.int .u16 i.toNat)] (· =plR (.tup [.agg (d_ (bK b n i).1),.agg (aN (bK b n i).2.1),.v (.int .i64 (bK b n i).2.2)])):=by
 refine Con2.ofEmb ?_;have hb1:=hb.1;have h1:=gk b (-1) hb;rw[aey]at h1;have h3:=mS b (zG n i) 158 [.fp [.v (.int .u8 n.toNat)],.fp [.v (.int .u16 i.toNat)]] hb (fun _=>ws_) ws_ (fun _=>ws_) (fun y=>zf n i y)
 obtain⟨R,hR⟩: ∃R,bK b n i=R:=⟨_,rfl⟩;rw[hR];unfold bK at hR;refine en_ Tryz.func88 [.cell 6 46,.cell 7 54,.tmp 8] (g2_ ?_);refine g2_ ?_;refine CallS.eq h3 ws_ (.inr ws_) ?_;refine g2_ ?_;cases hi:lh b.evs (zG n i)with
 |none=>
  rw[hi]at hR;simp only at hR;subst hR;rw[show fH none= -1 from rfl,show decide ((-1:Int)<0)=true from rfl]
  refine g2_ ?_;refine ce_ h1 ?_
  ((try (with_reducible refine av ?_));(try simp-implicitDefEqProofs only[go_sem,ab]);repeat ((first|(with_reducible refine av ?_)|(with_reducible refine cV (by omega) ?_)|(with_reducible refine And.intro (by omega) ?_));(try simp-implicitDefEqProofs only[go_sem,ab])))
  refine ae ?_ rfl;exact wf_ @an
 |some j=>
  have hj:=po hi;have h2:=gk b ((j:Nat):Int) hb;rw[amV hj]at h2;rw[hi]at hR;simp only[List.getElem?_eq_getElem hj]at hR;subst hR;rw[show fH (some j)=((j:Nat):Int)from rfl,decide_eq_false (show ¬((j:Nat):Int)<0 by omega)]
  refine gx_ ?_;refine .inr (.inr (.inl ⟨[oF 0,oF 1,oF 3,oF 5,oF 4,oF 6,oF 7,oF 8,oT 2,oT 9,oF 10,oF 11],[6],by kernel_rfl,gf_ (mE_ hj) ?_⟩))
  refine ce_ h2 (gf_ (mE_ hj) ?_);refine ae ?_ rfl;exact wf_ @an
theorem zJ(b:d7)(x:GID)(hb:okB b):Con2 Tryz.prog 95 [.agg (d_ b),.agg (aN x)] (· =plR (.tup [.agg (d_ (bY b x).1),.v (.int .i64 (bY b x).2)])):=by
 refine Con2.ofEmb ?_;have hb1:=hb.1;have h1:=gk b (-1) hb;rw[aey]at h1;obtain⟨R,hR⟩: ∃R,bY b x=R:=⟨_,rfl⟩;rw[hR];unfold bY at hR;refine en_ Tryz.func95 [.cell 4 46,.tmp 5] (g2_ ?_);refine g2_ ?_;refine ce_ (x9 b x hb) (g2_ ?_);cases hi:lh b.evs (fun y=>decide (y=x))with
 |none=>
  rw[hi]at hR;simp only at hR;subst hR;rw[show fH none= -1 from rfl,show decide ((-1:Int)<0)=true from rfl]
  refine g2_ ?_;refine ce_ h1 ?_
  ((try (with_reducible refine av ?_));(try simp-implicitDefEqProofs only[go_sem,ab]);repeat ((first|(with_reducible refine av ?_)|(with_reducible refine cV (by omega) ?_)|(with_reducible refine And.intro (by omega) ?_));(try simp-implicitDefEqProofs only[go_sem,ab])))
  refine ae ?_ rfl;exact wf_ @an
 |some j=>
  have hj:=po hi;have h2:=gk b ((j:Nat):Int) hb;rw[amV hj]at h2;rw[hi]at hR;simp only at hR;subst hR;rw[show fH (some j)=((j:Nat):Int)from rfl,decide_eq_false (show ¬((j:Nat):Int)<0 by omega)]
  refine gx_ ?_;refine ce_ h2 ?_
  ((try (with_reducible refine av ?_));(try simp-implicitDefEqProofs only[go_sem,ab]);repeat ((first|(with_reducible refine av ?_)|(with_reducible refine cV (by omega) ?_)|(with_reducible refine And.intro (by omega) ?_));(try simp-implicitDefEqProofs only[go_sem,ab])))
  refine ae ?_ rfl;exact wf_ @an
theorem aaM(b:d7)(hb:okB b):Con2 Tryz.prog 94 [.agg (d_ b)] (· =plR (.fz 3 ((eIds b.evs).map aN))):=by
 refine Con2.ofEmb ?_;have hb1:=hb.1;refine en_ Tryz.func94 [.tmp 2] (g2_ ?_);refine gx_ ?_;refine aq b.evs.length (fun k=>[(3,.d (.rf 0 0 (eIds (b.evs.take k)).length))]) (fun _=>[]) (fun k=>[(0,.arr 54 3 ((eIds (b.evs.take k)).map aN) false)]) 1 (fun _=>True) (aa [(0,.nil 3)] ?_) trivial (fun g k=>ws_) (by omega) (fun g=>ws_) (fun k hk _=>?_) (fun _=>?_)
 ·refine u1_ (c4_ @List.take_zero.{0} @eIds.eq_1 @List.map_nil.{0,0} @List.length_nil.{0}) ?_
  try rfl
 ·have hs:eIds (b.evs.take (k+1))=eIds (b.evs.take k)++[b.evs[k].id]:=by unfold eIds;rw[List.take_add_one,List.getElem?_eq_getElem hk,List.map_append];rfl
  have hl:(eIds (b.evs.take k)).length<=b.evs.length:=by unfold eIds;rw[List.length_map,List.length_take];omega
  repeat first|simp-implicitDefEqProofs only[go_sem,ab,aV hk,List.length_map]|with_reducible first|refine gl_ ?_|refine ga_ ?_|refine gn_ ?_
  refine⟨k+1,aa [(0,.to 2)] ?_,rfl⟩;refine u1_ (c2_ hs @List.length_append.{0}) ?_
  repeat' (first|(with_reducible rfl)|(refine And.intro ?_ ?_)|rfl|(simp[aN];done))
 ·rw[List.take_length];refine g2_ ?_;refine ae ?_ rfl;exact wf_ @an
attribute[local go_sem] b_ aA List.set_cons_succ List.set_cons_zero
theorem kG{c:ar}{p:af}{e:GEvt}(hu:p.up=true)(hm:j5 c p e=true):aI c p e=({ p with
      rows:=p.rows.modify e.id.node.toNat fun r=>(cO r e.id c.window).1
      pulls:=(Eng.pDrop p.pulls e.id).filter fun a=> !cL e.id a
      buf:=(dk p.buf e).1
      passed:=if (dk p.buf e).2=52 then p.passed+1 else p.passed },true,fb p.filter e.vals):=by
  unfold aI;rw[if_neg (by rw[hu,hm];decide)]
theorem aaG(c:ar)(p:af)(e:GEvt)(hp:okP p)(hs:c.schema.length<=4000000)(he:e.vals.length<=4000000/\e.data.length<=4000000)(hps:0<=p.passed/\p.passed<=1000000000):
  Con2 Tryz.prog 27 [.agg (aE c),.agg (ak p),.agg (az e)] (· =plR (.tup [.agg (ak (aI c p e).1),.v (.bool (aI c p e).2.1),.v (.bool (aI c p e).2.2)])):=by
 refine Con2.ofEmb ?_;have hx:=e.id.bd;have kf:=lg c p hp;have ka:=kV c p e hs he.1 he.2 (by have:=hp.rows;omega)
 have kd:=qP p.pulls e.id hp.pulls;have kb:=sP p.buf e hp.evs he;have km:=mF p.filter e.vals hp.filter he.1;obtain⟨R,hR⟩: ∃R,aI c p e=R:=⟨_,rfl⟩;rw[hR];refine en_ Tryz.func27 [.cell 6 49,.tmp 7,.tmp 8] (g2_ ?_);refine g2_ ?_;refine .inr (.inr (.inl ⟨[oF 0,oF 1,oF 2,oF 4,oT 3,oF 5,oF 6,oF 7,oF 8,oF 9,oF 10,oF 11],[],by kernel_rfl,g2_ ?_⟩))
 refine cw_ kf ?_;clear kf;refine g2_ ?_;refine il_ Tryz.func75 [.cell 6 49,.tmp 7,.tmp 8] ?_;refine Vc2.sq (g2_ ?_);refine Vc2.sq (gx_ ?_);cases hu:p.up with
 |false=>
  have e1:aI c p e=(p,false,false):=if_pos (.inl hu);rw[e1]at hR;subst hR;refine g2_ ?_;refine ae ?_ rfl;exact wg_ hu @an
 |true=>
 refine g2_ ?_;refine CallS.eqW ka (wg_ hu @an) (.inr ws_) ?_;refine g2_ ?_;cases hm:j5 c p e with
 |false=>
  have e1:aI c p e=(p,false,false):=if_pos (.inr hm);rw[e1]at hR;subst hR;refine g2_ ?_;refine ae ?_ rfl;exact wg_ hu @an
 |true=>
 rw[kG hu hm]at hR;subst hR;obtain⟨_,_,_,_,r,hr,hrm⟩:=jq hm;obtain⟨h6,hr6⟩:=List.getElem?_eq_some_iff.1 hr;have kt:=uK p.rows[e.id.node.toNat] e.id c.window;refine g2_ ?_;refine Vc2.sq (g2_ ?_);refine Vc2.sq ?_;refine .inl ⟨[oF 0,oF 2,oF 4,oF 6,oF 10,oF 11,oF 1,oF 3,oF 5,oF 7,oF 12,oF 8,oF 9,oT 13,oF 14,oF 15,oF 16,oF 17,oF 18],by kernel_rfl,gf_ (mE_ h6) ?_⟩
 refine cw_ kt (gf_ (mE_ h6) ?_);have hrw:(p.rows.modify e.id.node.toNat fun r=>(cO r e.id c.window).1).map aC=(p.rows.map aC).set e.id.node.toNat (aC (cO p.rows[e.id.node.toNat] e.id c.window).1):=by rw[gl _ _ h6,List.map_set]
 have hrl:(p.rows.modify e.id.node.toNat fun r=>(cO r e.id c.window).1).length=p.rows.length:=List.length_modify ..
 generalize (p.rows.modify e.id.node.toNat fun r=>(cO r e.id c.window).1)=rows' at hrw hrl⊢
 have hL4:(Eng.pDrop p.pulls e.id).length<=4000000:=Nat.le_trans (List.length_filter_le _ _) hp.pulls;have hFl:((Eng.pDrop p.pulls e.id).filter fun a=> !cL e.id a).length<=4000000:=Nat.le_trans (List.length_filter_le _ _) hL4
 have hdf:=xt (q:=cL e.id) (l:=Eng.pDrop p.pulls e.id);have hdn:=qK (q:=cL e.id) (l:=Eng.pDrop p.pulls e.id);have kq:=oa e.id
 refine Vc2.seqJ (γ:=Unit) (fun _=>⟨[(3,.loc 3 0),(4,.loc 4 0),(5,.loc 5 0),(6,.loc 6 0)],[(6,⟨zPc,49⟩),(5,⟨az e,56⟩),(4,⟨((ak { p with rows:=rows',pulls:=(Eng.pDrop p.pulls e.id).filter fun a=> !cL e.id a }).set 24 (.rf 0 0 p.rows.length)).set 28 (.rf 1 0 ((Eng.pDrop p.pulls e.id).filter fun a=> !cL e.id a).length),49⟩),(3,⟨aE c,26⟩)],
  [(1,.arr 178 5 (((Eng.pDrop p.pulls e.id).filter fun a=> !cL e.id a).map aU) false),(0,.arr 84 3 (rows'.map aC) false)],2,1⟩) (fun _=>True) ?_ (fun _ _=>?_)
 ·refine g2_ ?_;refine cw_ kd ?_;generalize Eng.pDrop p.pulls e.id=L at hL4 hFl hdf hdn ⊢;generalize hFF:(L.filter fun a=> !cL e.id a)=F at hFl hdf hdn⊢
  refine gx_ ?_;refine im_ Tryz.func138 [.tmp 4] (g2_ ?_);refine g2_ ?_;refine CallS.eq (jF 140 [.fp (aN e.id)] L (cL e.id) hL4 (fun _=>ws_) ws_ (fun _=>ws_) (fun a _=>kq a)) (wf_ @an) (.inr ws_) ?_
  cases hi:L.findIdx? (cL e.id)with
  | none=>
   have e1:F=L:=by
    rw[<-hFF];exact List.filter_eq_self.2 fun x hx=>by simp[List.findIdx?_eq_none_iff.1 hi x hx]
   rw[show fH none= -1 from rfl]
   refine g2_ ?_;refine⟨(),aa [(1,.to 1)] ?_⟩
   repeat first|simp-implicitDefEqProofs only[go_sem,ab,zPc,e1,hu]|with_reducible refine gl_ ?_
   exact hrw
  | some i=>
   obtain⟨hil,hib,hif⟩:=List.findIdx?_eq_some_iff_getElem.1 hi;have hbi:cL e.id L[i]=true:=hib
   have hF0: ∀x∈L.take i,cL e.id x=false:=fun x hx=>by
    obtain⟨j,hj,rfl⟩:=List.mem_take_iff_getElem.1 hx;have:=hif j (by omega)
    simpa using this
   obtain⟨d1,d2⟩:=nD hil hbi hF0;rw[show fH (some i)=((i:Nat):Int)from rfl]
   refine g2_ ?_;rw[show(((i:Nat):Int)== -1)=false from beq_eq_false_iff_ne.2 (by omega)]
   refine g2_ ?_;refine bt (γ:=Nat) (fun j=>[(6,.d (.v (.int .i64 (j:Nat)))),(5,.d (.v (.int .i64 (dfN (cL e.id) L j:Nat))))]) (fun _=>[]) (fun j=>[(2,.var 54 (aN e.id)),(1,.arr 178 5 ((dfR (cL e.id) L j).map aU) false),(0,.arr 84 3 (rows'.map aC) false)]) 3 (fun j=>i+1<=j/\j<=L.length/\dfN (cL e.id) L j<j) (fun j=>L.length-j) (i+1) (aa [] ?_) ⟨Nat.le_refl _,by omega,by omega⟩ (fun j hj=>?_)
   ·refine gf_ (c3_ d1 d2 hrw) ?_
    first|done|rfl|exact⟨rfl,rfl⟩
   ·obtain⟨j1,j2,j3⟩:=hj;have hdl:=qQ (q:=cL e.id) (l:=L) (j:=j);have hrl2:=qH (q:=cL e.id) j2
    by_cases hjl:j<L.length
    ·have hg:((dfR (cL e.id) L j).map aU)[j]? =some (aU L[j]):=by rw[List.getElem?_map,qN hjl];rfl
     refine gf_ hrl2 ?_;rw[decide_eq_true (show(j:Int)<(L.length:Int)by omega)]
     refine gg_ hg hrl2 ?_;refine CallS.eq (kq L[j]) ws_ (.inr ws_) ?_;refine g2_ ?_;cases hb:cL e.id L[j]with
     |true=>
      refine g2_ ?_;refine⟨j+1,aa [] ?_,⟨by omega,by omega,by rw[fC hjl hb];omega⟩,by omega⟩
      refine gf_ (c2_ (fC hjl hb) (nQ hjl hb)) ?_
      first|done|rfl|exact⟨rfl,rfl⟩
     |false=>
      have hg2:((dfR (cL e.id) L j).map aU)[dfN (cL e.id) L j]? =some (aU (dfR (cL e.id) L j)[dfN (cL e.id) L j]):=aV (by omega)
      refine gg_ hg2 hrl2 ?_;refine⟨j+1,aa [] ?_,⟨by omega,by omega,by rw[fB hjl hb];omega⟩,by omega⟩
      refine u1_ (c3_ (fB hjl hb) (oe hjl hb).symm @List.map_set.{0,0}) ?_;exact⟨rfl,rfl,rfl,rfl⟩
    ·obtain rfl:j=L.length:=by omega
     refine gf_ hrl2 ?_;rw[decide_eq_false (show ¬(L.length:Int)<(L.length:Int)by omega)]
     refine gf_ hrl2 ?_;refine⟨by kernel_rfl,⟨by omega,by omega⟩,(),aa [] ?_⟩
     repeat first|simp-implicitDefEqProofs only[go_sem,ab,zPc,hu,hdn]|with_reducible refine gl_ ?_
     exact⟨by rw[Nat.sub_zero],by rw[<-hdn, <-List.map_take,hdf]⟩
 ·generalize (Eng.pDrop p.pulls e.id).filter (fun a=> !cL e.id a)=F at hFl
  refine Vc2.sq (g2_ ?_);refine cw_ kb (g2_ ?_);refine Vc2.sq ?_;have h3:=dm p.buf e;generalize dk p.buf e=Q at h3 ⊢;rcases h3 with ⟨rfl,_⟩|⟨rfl,_⟩|⟨rfl,_,_⟩
  all_goals
   refine g2_ ?_;refine Vc2.of ?_;refine g2_ ?_;refine .inr (.inr (.inl ⟨[oF 0,oF 1,oF 3,oF 2,oF 4,oT 5,oF 6,oF 7,oF 8],[],by kernel_rfl,?_⟩))
   repeat first|simp-implicitDefEqProofs only[go_sem,ab,zPc]|with_reducible first|refine gl_ ?_|refine ga_ ?_|refine gn_ ?_
   refine cw_ km ?_
   repeat first|simp-implicitDefEqProofs only[go_sem,ab,zPc,List.splitAt]|with_reducible first|refine gl_ ?_|refine ga_ ?_|refine gn_ ?_
   refine ae ?_ rfl;refine gf_ (c2_ hrl @an) ?_;have hrt:List.map aC rows'=List.take p.rows.length (List.map aC rows'):=by rw[List.take_of_length_le (by rw[List.length_map,hrl];exact Nat.le_refl _)]
   first|exact hrt|exact⟨hrt,rfl⟩|exact⟨rfl,hrt⟩|trace_state
end Go.Proofs.YtmhmahcdanclnaaGreat.V
namespace Go.Eng
section
variable {P:Program} {T e bytes ty:Nat} {u0 u:World} {g o n c m d:Nat} {a:Addr} {cur:Array Value}
theorem uo{ys:List (List Value)}(hT:cq P T e 1 bytes=true)(hg:u.heap[g]? =some (.cells cur e (0,0)))(hf:Fresh u0 g)(hs:Sl u 1 (some a) m d ys)(h1:bl ys)(hroom:n+m<=c)(hfit:o+n+m<=cur.size){K:Value->World->Prop}
  (hK: ∀u',u'.heap[g]? =some (.cells (cur.toList.take (o+n)++ys.flatten++cur.toList.drop (o+n+m)).toArray e (0,0))->SubX (some ⟨g,0,none⟩) u u'->K (.slice (some ⟨g,o,none⟩) (n+m) c) u'):
  AtEff false P (iS #[T,T] ty #[.slice (some ⟨g,o,none⟩) n c,.slice (some a) m d]) u0 u K:=by
 obtain⟨ht,hsz,i,z,hi,hi1,rfl,hz,hzs⟩:=bo hT;unfold iS;intro w hu h0;have hgw:=hu g _ hg ay;have hnews:ys.flatten.length=m:=by rw[aM (sz:=1) ys hs.each,hs.len,Nat.mul_one]
 have hcells: ∀j v,ys.flatten[j]? =some v->w.cell? (a.add j)=some v:=fun j v hv=>hu.cell (hs.cells j v hv)
 have hfc:=run_firstCells_some (P:=P) w i.size m a m d ys.flatten (by rw[hnews,hi1,Nat.mul_one]) hcells
 have hst:=run_storeCells_at P g (o+n) e ys.flatten 0 cur w hgw (by rw[hnews];omega) (eJ h1)
 simp only[Nat.add_zero]at hst;refine⟨.slice (some ⟨g,o,none⟩) (n+m) c,_,_,?_,iD (cs:=(cur.toList.take (o+n)++ys.flatten++cur.toList.drop (o+n+ys.flatten.length)).toArray) hu hg hf,hK _ (by rw[<-hnews];exact bu _ _ _) (dM rfl)⟩
 rw[hi1]at hfc;generalize ys.flatten=F at hfc hst ⊢;simp[Builtin.append_,run_underlying ht,sizeOf,typeInfo,hi,Builtin.lenOf,hroom,hfc,Addr.add_lit,hst,hi1]
theorem aet{z:Value}(hT:cq P T e 1 bytes=true)(hz0:cx P e=some [z])(hz1:z.oneCell'=true)(hg:u.heap[g]? =some (.cells cur e (0,0)))(hf:Fresh u0 g)(hfit:o+1<=cur.size){K:Value->World->Prop}
  (hK: ∀u',u'.heap[g]? =some (.cells (cur.toList.take o++[z]++cur.toList.drop (o+1)).toArray e (0,0))->SubX (some ⟨g,0,none⟩) u u'->K (.tuple #[]) u'):
  AtEff false P (tH #[T] ty #[.slice (some ⟨g,o,none⟩) 1 c]) u0 u K:=by
 obtain⟨ht,hsz,i,zv,hi,hi1,rfl,hz,hzs⟩:=bo hT
 have hzz:zv.cells.toList=[z]:=by
  simp only[cx,hi,hz,Option.map_some,Option.some.injEq]at hz0;exact hz0
 unfold tH;intro w hu h0;have hgw:=hu g _ hg ay;have hzc:(Builtin.zeroCells zv.cells 1).toList=[z]:=by rw[dg,hzz];rfl
 have hst:=run_storeCells_at P g o e [z] 0 cur w hgw (by simpa using hfit) (by intro v hv;rw[List.mem_singleton.1 hv];exact hz1)
 simp only[Nat.add_zero]at hst;refine⟨.tuple #[],_,_,?_,iD (cs:=(cur.toList.take o++[z]++cur.toList.drop (o+1)).toArray) hu hg hf,hK _ (bu _ _ _) (dM rfl)⟩;have hst2:(storeCells ⟨g,o,none⟩ (Builtin.zeroCells zv.cells 1).toList 0).run P w= .ok () (w.setRow g (cur.toList.take o++[z]++cur.toList.drop (o+1)).toArray):=by rw[hzc];exact hst
 simp[Builtin.clear_,run_underlying ht,zeroValue,typeInfo,hi,hz,hst2]
end
theorem ahk{α:Type}{L A B D E R:List α}{x z:α}{off i len n:Nat}(hA:A.length=off)(hB:B.length=i)(hD:D.length=len-1-i)(hi:i<len)(hL:L=A++(B++(x::(D++(E++R)))))(hn:n=off+len+E.length):
  ((L.take (off+i)++D++L.drop (off+i+(len-1-i))).take (off+(len-1))++[z]++(L.take (off+i)++D++L.drop (off+i+(len-1-i))).drop (off+(len-1)+1)).take n=A++(B++(D++(z::E))):=by
 have e1:L.take (off+i)=A++B:=by
  rw[hL, <-List.append_assoc,List.take_left' (by simp[hA,hB])]
 have e3:L.drop (off+len)=E++R:=by
  have:L=(A++(B++(x::D)))++(E++R):=by rw[hL];simp
  rw[this,List.drop_left' (by simp[hA,hB,hD];omega)]
 have e2: ∃y,L.drop (off+i+(len-1-i))=y::(E++R):=by
  have hlt:off+(len-1)<L.length:=by rw[hL];simp[hA,hB,hD];omega
  refine⟨L[off+(len-1)],?_⟩;rw[show off+i+(len-1-i)=off+(len-1)by omega,List.drop_eq_getElem_cons hlt,show off+(len-1)+1=off+len by omega,e3]
 obtain⟨y,e2⟩:=e2;rw[e1,e2];have hl:(A++B++D).length=off+(len-1):=by simp[hA,hB,hD];omega
 rw[List.take_left' hl]
 have e4:(A++B++D++y::(E++R)).drop (off+(len-1)+1)=E++R:=by
  have:A++B++D++y::(E++R)=(A++B++D++[y])++(E++R):=by simp
  rw[this,List.drop_left' (by rw[List.length_append,hl];rfl)]
 rw[e4];have:A++B++D++[z]++(E++R)=(A++(B++(D++(z::E))))++R:=by simp
 rw[this,List.take_left' (by simp[hA,hB,hD];omega)]
def delO{α:Type}(l:List α)(off len i:Nat)(z:α):List α:=l.take off++(((l.drop off).take len).eraseIdx i++(z::l.drop (off+len)))
theorem kD{α:Type}{l:List α}{off len i:Nat}{z:α}(h:off+len<=l.length)(hi:i<len):(delO l off len i z).length=l.length:=by grind [delO,List.length_append,List.length_cons,List.length_eraseIdx_of_lt,List.length_take,List.length_drop]
def asE(P:Program)(f:FuncId)(e:Nat)(z:Value):Prop:= ∀(vs:List Value) (p:Option Addr) (n c off len i:Nat) (u0 u:World),Own u0 u e 1 p n c (vs.map fun v=>[v])->bn vs=true->off+len<=n->i<len->n<=5000000-> ∀K:Value->World->Prop,
 (∀u',Own u0 u' e 1 p n c ((delO vs off len i z).map fun v=>[v])->SubX p u u'->K (.slice (ei p c off 1) (len-1) (c-off)) u')->AtCall false P f [.slice (ei p c off 1) len (c-off),.int .i64 i,.int .i64 ((i:Int)+1)] u0 u K
theorem eO{α:Type}: ∀(l:List α),(l.map fun v=>[v]).flatten=l
 |[]=>rfl
 |a::l=>by simp[eO l]
theorem yv{vs:List Value}(h:bn vs=true):bl (vs.map fun v=>[v]):=by
 intro y hy;obtain⟨v,hv,rfl⟩:=List.mem_map.1 hy;simp[bn,cJ h v hv]
theorem afC{α:Type}: ∀{V:List (List α)},(∀y∈V,y.length=1)->V=V.flatten.map fun v=>[v]
 |[],_=>rfl
 | y::V,h=>by
  have h1:=h y List.mem_cons_self
  match y,h1 with
  |[a],_=>
   rw[List.flatten_cons,List.singleton_append,List.map_cons, <-afC fun z hz=>h z (List.mem_cons_of_mem _ hz)]
theorem yN{α β:Type}(g:α->β)(l:List α)(off len i:Nat)(z:α):(delO l off len i z).map g=delO (l.map g) off len i (g z):=by grind [delO,List.map_take,List.map_drop,List.eraseIdx_eq_take_drop_succ]
theorem HVss.delO{us:World}{l:List (List DV)}{V:List (List Value)}(h:HVss us l V){c:List DV}{x:List Value}(hx:HVs us c noB x)(off len i:Nat):HVss us (Eng.delO l off len i c) (Eng.delO V off len i x):=by
 unfold Eng.delO;rw[List.eraseIdx_eq_take_drop_succ,List.eraseIdx_eq_take_drop_succ];have hw:=(h.drop off).take len;exact(h.take off).append (((hw.take i).append (hw.drop (i+1))).append ⟨x,_,rfl,hx,h.drop (off+len)⟩)
theorem xc{vs:List Value}(h:bl (vs.map fun v=>[v])):bn vs=true:=by
 induction vs with
 |nil=>rfl
 |cons a l ih=>
  have h1:=h [a] (by simp)
  simp only[bn,Bool.and_true]at h1;simp only[bn,h1,Bool.true_and];exact ih fun y hy=>h y (by simp only[List.map_cons,List.mem_cons];exact .inr hy)
theorem ajC{α:Type}{l:List α}{off len i:Nat}{z x:α}(h:x∈Eng.delO l off len i z):x=z\/x∈l:=by
 unfold Eng.delO at h;rcases List.mem_append.1 h with h|h
 ·exact .inr (List.mem_of_mem_take h)
 ·rcases List.mem_append.1 h with h|h
  ·exact .inr (List.mem_of_mem_drop (List.mem_of_mem_take ((List.eraseIdx_sublist ..).subset h)))
  ·rcases List.mem_cons.1 h with h|h
   ·exact .inl h
   ·exact .inr (List.mem_of_mem_drop h)
theorem CallS.delO{P:Program}{f:FuncId}{e:Nat}{z:Value}(hc:asE P f e z)(hz:plain z=true){ds:DS}{K:DV->DS->Prop}{id off i len:Nat}{l:List (List DV)}(hlk:lk ds.H id=some (.arr e 1 l false))(hle2:off+len<=l.length)(hi:i<len)(hn:l.length<=5000000)
  (hK:K (.rf id off (len-1)) ⟨ds.ρ,ds.σ,setH id (.arr e 1 (Eng.delO l off len i [.v z]) false) ds.H,ds.nx,ds.nb⟩):CallS P false f [.rf id off len,.v (.int .i64 i),.v (.int .i64 ((i:Int)+1))] ds K:=by
 rintro u0 β0 β us s u vs h ⟨w1,V1,rfl,⟨p,c,sz',q,hb,rfl,hle,hq,hsm⟩,w2,V2,rfl,⟨rfl,_⟩,w3,V3,rfl,⟨rfl,_⟩,rfl⟩
 obtain⟨p',c',g1,g2,g3⟩:=(h.row id _ hlk).2;rw[hb]at g1;cases g1;rcases g3 with ⟨rfl,rfl⟩|⟨h0,V,h4,h5,h6,h7⟩
 ·simp at hle2;omega
 obtain⟨X,rfl⟩: ∃X,V=X.map fun v=>[v]:=⟨V.flatten,afC h4.each⟩
 have hq':q=ei p c off 1:=by rw[hq (by omega)];unfold ei;rw[if_neg (by omega)]
 subst hq';have hz1:=vq hz;have hX1:=xc h6;refine hc X p l.length c off len i u0 u h4 hX1 hle2 hi hn _ (fun u' ho hx=>?_)
 have hn:=h.set (r:=.arr e 1 (Eng.delO l off len i [.v z]) false) hlk hx (fun a ha=>by rw[hb,aJ h0,ha];rfl)
  ⟨p,c,hb,by rw[kD hle2 hi];exact g2,.inr ⟨h0,(Eng.delO X off len i z).map fun v=>[v],by rw[kD hle2 hi];exact ho,h5,fun y hy=>?_,?_⟩⟩ (by rw[hb,aJ h0,aJ h0])
 ·exact⟨β,us,_,.rf id off (len-1),hn,⟨p,c,1,_,hb,rfl,by omega,hq,hsm⟩,hK⟩
 ·obtain⟨v,hv,rfl⟩:=List.mem_map.1 hy;rcases ajC hv with rfl|hv
  ·simp[bn,hz1]
  ·simp[bn,cJ hX1 v hv]
 ·rw[yN];exact h7.delO (c:=[.v z]) (x:=[z]) ⟨z,[],rfl,⟨rfl,hz⟩,rfl⟩ off len i
end Go.Eng
namespace Go.Proofs.YtmhmahcdanclnaaGreat.V
open Go.Eng
theorem aib:asE Tryz.prog 273 5 (.int .u8 0):=by
 intro vs p n c off len i u0 u ho h1 hle hi hn K hK;have hcap:=ho.sl.cap;have hvl:vs.length=n:=by simpa using ho.len
 rcases ho.at_ with ⟨_,h0,_⟩|⟨g,cur,rfl,hg,hnc,hcm,hcs,htake,hfr⟩
 ·omega
 have hsl:=(ho.sl.drop (l:=off) (by omega)).drop (l:=i+1) (by omega)
 rw[eU (by omega)]at hK hsl⊢
 simp only[Nat.zero_add,Nat.mul_one]at hK hsl ⊢;refine .inl (fa Ty.mixed Tryz.func273 rfl (by kernel_rfl) (by kernel_rfl) rfl [.tmp 6] rfl ?_)
 refine vs_ ?_;rw[ae4 (l:=i) (h:=i+1) (m:=len) Ty.el52 rfl (by omega) rfl (by omega) (by omega) (by omega)]
 refine vs_ ?_;rw[show((i:Int)==(i:Int)+1)=false from by simp;omega]
 refine vs_ ?_;refine .inl ⟨[oF 0,oF 1,oF 3,oF 4,oF 2,oF 5,oF 6,oF 7],by kernel_rfl,?_⟩
 refine vs_ ?_;rw[uW (k0:=i) Ty.el52 rfl (by omega)]
 refine vs_ ?_;rw[pM (k0:=i+1) Ty.el52 (by omega) (by omega)]
 refine vs_ ?_;obtain⟨a,ha⟩: ∃a,ei (some ⟨g,off,none⟩) (c-off) (i+1) 1=some a:=by unfold ei;split<;>exact⟨_,rfl⟩
 rw[ha]at hsl ⊢;have hs2:=hsl.take (k:=len-(i+1)) (by omega)
 refine uo Ty.el52 hg hfr hs2 (fun y hy=>yv h1 y (List.mem_of_mem_drop (List.mem_of_mem_drop (List.mem_of_mem_take hy)))) (by omega) (by rw[hcs];omega) ?_
 intro u1 hg1 x1;refine vs_ ?_;rw[show i+(len-(i+1))=len-1 by omega]
 rw[sR (l:=len-1) (h:=len) Ty.el52 (by omega) rfl (by omega) (by omega),eU (l:=len-1) (by omega)]
 simp only[Nat.mul_one,show len-(len-1)=1 by omega]
 refine vs_ ?_;have hfl:(((vs.map fun v=>[v]).drop off).drop (i+1)).take (len-(i+1))=(((vs.drop off).drop (i+1)).take (len-(i+1))).map fun v=>[v]:=by rw[List.map_take,List.map_drop,List.map_drop]
 rw[hfl,eO]at hg1;refine aet Ty.el52 Ty.zero5 rfl hg1 hfr ?_ ?_
 ·simp only[List.size_toArray,List.length_append,List.length_take,List.length_drop,Array.length_toList,hcs,hvl];omega
 intro u2 hg2 x2;refine vs_ ?_;refine hK u2 ?_ (fun b o hb h hn=>x2 b o hb (x1 b o hb h hn) hn)
 have hR:cur.toList=vs++cur.toList.drop n:=by
  have h0:cur.toList.take n=vs:=by rw[Nat.mul_one]at htake;rw[htake,eO]
  conv=>lhs;rw[<-List.take_append_drop n cur.toList,h0]
 have hV:vs=vs.take off++(((vs.drop off).take i)++(vs[off+i]::(((vs.drop off).drop (i+1)).take (len-(i+1))++vs.drop (off+len)))):=by
  conv=>lhs;rw[<-List.take_append_drop off vs]
  congr 1
  conv=>lhs;rw[<-List.take_append_drop i (vs.drop off)]
  congr 1
  rw[List.drop_eq_getElem_cons (by rw[List.length_drop];omega),List.getElem_drop]
  congr 1
  conv=>lhs;rw[<-List.take_append_drop (len-(i+1)) ((vs.drop off).drop (i+1))]
  congr 1
  rw[List.drop_drop,List.drop_drop]
  congr 1
  omega
 have hL:cur.toList=vs.take off++(((vs.drop off).take i)++(vs[off+i]::(((vs.drop off).drop (i+1)).take (len-(i+1))++(vs.drop (off+len)++cur.toList.drop n)))):=by
  conv=>lhs;rw[hR]
  conv=>lhs;lhs;rw[hV]
  simp only[List.append_assoc,List.cons_append]
 have key:=ahk (L:=cur.toList) (z:=(.int .u8 0)) (off:=off) (i:=i) (len:=len) (n:=n) (by rw[List.length_take];omega) (by rw[List.length_take,List.length_drop];omega) (by simp only[List.length_take,List.length_drop];omega) hi hL (by rw[List.length_drop];omega)
 rw[show len-1-i=len-(i+1)by omega]at key
 have hD:delO vs off len i (.int .u8 0)=vs.take off++(((vs.drop off).take i)++(((vs.drop off).drop (i+1)).take (len-(i+1))++((.int .u8 0)::vs.drop (off+len)))):=by
  unfold delO;rw[List.eraseIdx_eq_take_drop_succ,List.take_take,Nat.min_eq_left (by omega),List.drop_take,List.append_assoc]
 rw[<-hD]at key;refine⟨by rw[List.length_map,kD (by omega) hi];exact hvl,fun y hy=>by obtain⟨v,_,rfl⟩:=List.mem_map.1 hy;rfl,.inr ⟨g,_,rfl,hg2,hnc,hcm,?_,?_,hfr⟩⟩
 ·simp only[List.size_toArray,List.length_append,List.length_take,List.length_drop,Array.length_toList,List.length_cons,List.length_nil,hcs,hvl];omega
 ·rw[eO,Nat.mul_one];exact key
attribute [local go_sem] plR ba b_ aA aH
theorem yH(l:List (List DV))(hl:l.length<=5000000):Con2 Tryz.prog 271 [.fz 1 l] (· =ba 5 1 l):=fj (T:=52) Tryz.func271 (by kernel_rfl) (by kernel_rfl) rfl rfl Ty.elOf52 (by decide) l hl
theorem akG{α:Type}{l:List α}{off len i:Nat}{z:α}(h:off+len<=l.length)(hi:i<len):((Eng.delO l off len i z).drop off).take (len-1)=((l.drop off).take len).eraseIdx i:=by
 unfold Eng.delO;have h1:(l.take off).length=off:=by rw[List.length_take];omega
 rw[List.drop_left' h1,List.take_left' (by rw[List.length_eraseIdx_of_lt (by rw[List.length_take,List.length_drop];omega),List.length_take,List.length_drop];omega)]
theorem aj7{α:Type}{l:List α}{off len:Nat}(hlen:0<len):(l.drop (off+1)).take (len-1)=((l.drop off).take len).eraseIdx 0:=by
 cases h:l.drop off with
 |nil=>rw[<-List.drop_drop,h];simp
 |cons a r=>
  rw[<-List.drop_drop,h];cases len with
  |zero=>omega
  |succ n=>simp
theorem sF(C:List UInt8)(off len:Nat)(d:UInt32)(R2:Row)(hlen:0<len)(hle:off+len<=C.length)(hC:C.length<=5000000){ρ σ nb K}
  (hk: ∀(x:UInt8) off' (C':List UInt8),C[off+d.toNat % len]? =some x->off'+(len-1)<=C'.length->C'.length=C.length->(C'.drop off').take (len-1)=((C.drop off).take len).eraseIdx (d.toNat % len)->
   K (.v (.int .u8 x.toNat)) ⟨ρ,σ,[(2,R2),(1,.var 52 [.rf 0 off' (len-1)]),(0,.arr 5 1 (C'.map aA) false)],3,nb⟩):
  CallS Tryz.prog false 272 [.v (.int .u32 d.toNat),.pt 1 0] ⟨ρ,σ,[(2,R2),(1,.var 52 [.rf 0 off len]),(0,.arr 5 1 (C.map aA) false)],3,nb⟩ K:=by
 have hm:=Nat.mod_lt d.toNat hlen;have hd:=d.toNat_lt;have hg:off+d.toNat % len<C.length:=by omega
 refine im_ Tryz.func272 [.tmp 3] (g2_ ?_);refine g2_ ?_;refine lL (by omega) ?_
 refine g2_ ?_;refine lL (by omega) ?_
 refine g2_ ?_;rw[nA (a:=d.toNat) (b:=len) rfl rfl hlen];generalize hat:d.toNat % len=at_ at hm hg hk;have hx:=List.getElem?_eq_getElem hg;refine gf_ (mE_ hg) ?_
 by_cases h0:at_=0
 ·subst h0;rw[show(((0:Nat):Int)==0)=true from rfl]
  refine g2_ ?_;have kk:=hk C[off+0] (off+1) C hx (by omega) rfl (aj7 hlen)
  exact kk
 ·rw[show(((at_:Nat):Int)==0)=false from beq_eq_false_iff_ne.2 (by omega)]
  refine g2_ ?_;refine CallS.delO aib rfl (l:=C.map aA) rfl (by rw[List.length_map];exact hle) hm (by rw[List.length_map];exact hC) ?_
  refine g2_ ?_;have kk:=hk C[off+at_] off (Eng.delO C off len at_ 0) hx (by rw[kD hle hm];omega) (kD hle hm) (akG hle hm)
  rw[yN]at kk;exact kk
def PkF(l:List UInt8)(fan:Int)(dr:List UInt32)(g:List UInt8×List UInt8×Nat×Nat):Prop:=
 g.2.2.1+g.2.2.2<=g.2.1.length/\g.2.1.length=l.length/\g.1.length+g.2.2.2=l.length/\g.1.length<=fan.toNat/\
  iz fan.toNat l dr=g.1++iz (fan.toNat-g.1.length) ((g.2.1.drop g.2.2.1).take g.2.2.2) (dr.drop g.1.length)
section
variable {l:List UInt8} {fan:Int} {dr:List UInt32} {P C C':List UInt8} {off off' len:Nat} {x:UInt8} {d:UInt32}
theorem agE: ∀(n:Nat) (dr:List UInt32),iz n [] dr=[]
 |0,_=>rfl
 |n+1,dr=>by rw[iz];rfl
theorem aeI(h:PkF l fan dr (P,C,off,len))(he:fan<=(P.length:Int)\/len=0):iz fan.toNat l dr=P:=by
 obtain⟨_,_,_,h4,h5⟩:=h;rw[h5];rcases he with he|he
 ·have h4':P.length<=fan.toNat:=h4;rw[show fan.toNat-P.length=0 by omega]
  simp[iz]
 ·subst he;simp[agE]
theorem zm(h:PkF l fan dr (P,C,off,len))(h1:(P.length:Int)<fan)(hlen:0<len)(hd:d=(dr.drop P.length).headD 0)(hx:C[off+d.toNat % len]? =some x)(ho:off'+(len-1)<=C'.length)(hC:C'.length=C.length)
  (hw:(C'.drop off').take (len-1)=((C.drop off).take len).eraseIdx (d.toNat % len)):PkF l fan dr (P++[x],C',off',len-1):=by
 obtain⟨g1,g2,g3,g4,g5⟩:=h;have g1:off+len<=C.length:=g1;have g3:P.length+len=l.length:=g3;have hm:=Nat.mod_lt d.toNat hlen;have hwl:((C.drop off).take len).length=len:=by rw[List.length_take,List.length_drop];omega
 have hwx:((C.drop off).take len)[d.toNat % len]? =some x:=by
  rw[List.getElem?_take,if_pos hm,List.getElem?_drop];exact hx
 refine⟨ho,hC.trans g2,by simp only[List.length_append,List.length_cons,List.length_nil];omega,by simp only[List.length_append,List.length_cons,List.length_nil];omega,?_⟩
 rw[g5];simp only[List.length_append,List.length_cons,List.length_nil,Nat.zero_add];obtain⟨m,hm2⟩: ∃m,fan.toNat-P.length=m+1:=⟨fan.toNat-P.length-1,by omega⟩
 rw[hm2,show fan.toNat-(P.length+1)=m by omega,iz, <-hd,hwl,hwx,hw,List.append_assoc,List.tail_drop]
 rfl
end
theorem am2(l:List UInt8)(fan:Int)(dr:List UInt32)(hl:l.length<=4000000)(hdr:dr.length<=4000000):Con2 Tryz.prog 164 [.fz 1 (l.map aA),.v (.int .i64 fan),.fz 1 (dr.map aH)] (· =plR (.fz 1 ((iz fan.toNat l dr).map aA))):=by
 refine Con2.ofEmb ?_;refine en_ Tryz.func164 [.tmp 6] ?_;refine g2_ ?_;refine ce_ (yH (l.map aA) (by rw[List.length_map];omega)) ?_
 refine gx_ ?_;refine bt (γ:=List UInt8×List UInt8×Nat×Nat) (fun g=>[(10,.d (.v (.int .i64 (g.1.length:Nat)))),(9,.d (.rf 2 0 g.1.length))]) (fun _=>[]) (fun g=>[(2,.arr 5 1 (g.1.map aA) false),(1,.var 52 [.rf 0 g.2.2.1 g.2.2.2]),(0,.arr 5 1 (g.2.1.map aA) false)]) 3 (PkF l fan dr) (fun g=>g.2.2.2) ([],l,0,l.length) (aa [(2,.nil 1)] ?_) ⟨by simp,rfl,by simp,Nat.zero_le _,by simp⟩ (fun g hg=>?_)
 ·refine gx_ ?_
  try rfl
 ·obtain⟨P,C,off,len⟩:=g;have hC:C.length=l.length:=hg.2.1;have hle:off+len<=C.length:=hg.1;have hP:P.length+len=l.length:=hg.2.2.1;refine gx_ ?_
  by_cases h1:(P.length:Int)<fan
  case neg=>
   rw[decide_eq_false h1,aeI hg (.inl (by omega))]
   refine g2_ ?_;refine ae ?_ rfl;exact wf_ @an
  rw[decide_eq_true h1];refine g2_ ?_
  by_cases h2:(0:Int)<(len:Nat)
  case neg=>
   rw[decide_eq_false h2,aeI hg (.inr (by omega))]
   refine g2_ ?_;refine ae ?_ rfl;exact wf_ @an
  rw[decide_eq_true h2];have hlen:0<len:=by omega
  refine gx_ ?_
  by_cases h3:P.length<dr.length
  ·have hd:dr[P.length]=(dr.drop P.length).headD 0:=by rw[List.drop_eq_getElem_cons h3];rfl
   rw[decide_eq_true (show(P.length:Int)<(dr.length:Int)by omega)]
   refine gf_ (mE_ h3) ?_;refine sF C off len dr[P.length] _ hlen hle (by omega) fun x off' C' hx ho hc hw=>?_
   refine gx_ ?_;refine⟨(P++[x],C',off',len-1),aa [(2,.to 4)] ?_,zm hg h1 hlen hd hx ho hc hw,by show len-1<len;omega⟩
   repeat first|simp-implicitDefEqProofs only[go_sem,ab,List.length_append]|with_reducible refine gl_ ?_
   exact⟨rfl,by rw[List.map_append];rfl⟩
  ·have hd:(0:UInt32)=(dr.drop P.length).headD 0:=by rw[List.drop_eq_nil_of_le (by omega)];rfl
   rw[decide_eq_false (show ¬(P.length:Int)<(dr.length:Int)by omega)]
   refine gx_ ?_;refine sF C off len 0 _ hlen hle (by omega) fun x off' C' hx ho hc hw=>?_
   refine gx_ ?_;refine⟨(P++[x],C',off',len-1),aa [(2,.to 4)] ?_,zm hg h1 hlen hd hx ho hc hw,by show len-1<len;omega⟩
   repeat first|simp-implicitDefEqProofs only[go_sem,ab,List.length_append]|with_reducible refine gl_ ?_
   exact⟨rfl,by rw[List.map_append];rfl⟩
end Go.Proofs.YtmhmahcdanclnaaGreat.V
namespace Go.Eng
section
variable {κ:Type} [DecidableEq κ]
def mpRow(kv:κ->Value)(l:List (κ×DV)):Row:=.mpr (l.map fun p=>(kv p.1,p.2))
def z0(l:List (κ×DV))(k:κ):Option Nat:=(l.map (·.1)).findIdx? fun y=>decide (k=y)
def gw(l:List (κ×DV))(k:κ):Option DV:=(z0 l k).bind fun i=>(l[i]?).map (·.2)
def kI(l:List (κ×DV))(k:κ)(v:DV):List (κ×DV):=
 match z0 l k with
 |some i=>l.set i (k,v)
 |none=>l++[(k,v)]
end
def al6(P:Program)(E:TypeId)(z:DV):Prop:= ∃v,(∀w,(zeroValue E).run P w= .ok v w)/\ ∀us β,HV us z β v
section
variable {us:World} {β:Nat->PB}
theorem HVs.setI: ∀{l:List DV} {V:List Value},HVs us l β V-> ∀(j:Nat) {d:DV} {v:Value},HV us d β v->HVs us (l.set j d) β (V.set j v)
 |[],V,h,j,d,v,hd=>by cases h;exact rfl
 |a::r,V,⟨w,W,e,h1,h2⟩,0,d,v,hd=>by subst e;exact⟨v,W,rfl,hd,h2⟩
 |a::r,V,⟨w,W,e,h1,h2⟩,j+1,d,v,hd=>by subst e;exact⟨w,W.set j v,rfl,h1,HVs.setI h2 j hd⟩
theorem aca{n i:Nat}(h:i<n):(List.range n).set i i=List.range n:=by
 apply List.ext_getElem?;intro j;rw[List.getElem?_set];split
 ·rename_i e;subst e;simp[h]
 ·rfl
theorem anB{ents:List MapEntry}(hbo:ents.map (·.born)=List.range ents.length){i:Nat}{e:MapEntry}(he:ents[i]? =some e):e.born=i:=by
 have h1:(ents.map (·.born))[i]? =some e.born:=by rw[List.getElem?_map,he];rfl
 rw[hbo]at h1;have hi:i<ents.length:=by rcases Nat.lt_or_ge i ents.length with h|h;exact h;simp[List.getElem?_eq_none h]at he
 rw[List.getElem?_range hi]at h1;exact(Option.some.inj h1).symm
end
section
variable {P:Program} {u0 u us:World} {β0:Bse} {β:Nat->PB} {ds:DS} {s:S} {K:DS->Prop} {d:Option Tmp} {ty:TypeId} {pos:String} {aft:Array Edge} {g:Option (Nat×Bool)} {x:Bool}
 {κ:Type} [DecidableEq κ] {kv:κ->Value} {l:List (κ×DV)} {T Kt E:TypeId} {id:Nat} {y z t:Operand} {k:κ} {kd vd zd:DV}
theorem uX(hk:s9 P Kt kv){ents:List MapEntry}(hke:ents.map (·.key)=(l.map fun p=>(kv p.1,p.2)).map (·.1))(k:κ):
  (z0 l k=none/\ ∀w,(Instr.findKey Kt (kv k) ents).run P w= .ok none w)\/
  ∃i e p,z0 l k=some i/\ents[i]? =some e/\l[i]? =some p/\p.1=k/\e.key=kv k/\ ∀w,(Instr.findKey Kt (kv k) ents).run P w= .ok (some (i,e.val)) w:=by
 have hke2:ents.map (·.key)=(l.map (·.1)).map kv:=by rw[hke,List.map_map,List.map_map];rfl
 have hlen:ents.length=l.length:=by simpa using congrArg List.length hke2
 have hf:=hk.find k ents (l.map (·.1)) hke2
 unfold z0;cases hi:(l.map (·.1)).findIdx? fun y=>decide (k=y)with
 |none=>
  rw[hi]at hf;exact .inl ⟨rfl,hf⟩
 | some i=>
  rw[hi]at hf;obtain⟨h1,h2,_⟩:=List.findIdx?_eq_some_iff_getElem.1 hi;have hil:i<l.length:=by simpa using h1
  have hie:i<ents.length:=by omega
  have hp:(l[i]).1=k:=by simpa[eq_comm]using h2
  refine .inr ⟨i,ents[i],l[i],rfl,List.getElem?_eq_getElem hie,List.getElem?_eq_getElem hil,hp,?_,?_⟩
  ·have h3:(ents.map (·.key))[i]? =some ents[i].key:=by rw[List.getElem?_map,List.getElem?_eq_getElem hie];rfl
   rw[hke2,List.getElem?_map,List.getElem?_map,List.getElem?_eq_getElem hil]at h3;rw[<-Option.some.inj h3];show kv (l[i]).1=kv k;rw[hp]
  ·intro w;rw[hf w,Option.bind_some,List.getElem?_eq_getElem hie];rfl
theorem Rel.setMp(h:Rel u0 β0 β us ds s u){r clock clock':Nat}{l l':List (Value×DV)}{ents ents':List MapEntry}(hlk:lk ds.H id=some (.mpr l))(hb:β id= .map r)(hg:u.heap[r]? =some (.map ents.toArray clock))(hf0:Fresh u0 r)(hfs:Fresh us r)
  (hk:ents'.map (·.key)=l'.map (·.1)) (hv:HVs us (l'.map (·.2)) β (ents'.map (·.val))) (hbo:ents'.map (·.born)=List.range ents'.length) (hc:clock'=ents'.length):
  Rel u0 β0 β us ⟨ds.ρ,ds.σ,setH id (.mpr l') ds.H,ds.nx,ds.nb⟩ s (learn u r (.map ents'.toArray clock')):=
 h.set (p:=some ⟨r,0,none⟩) hlk (dM rfl) (fun a ha=>by cases ha;rw[hb];rfl) ⟨r,clock',ents',hb,bu _ _ _,hf0,hfs,hk,hv,hbo,hc⟩ (by rw[hb];rfl)
theorem zQ(hK:K ((⟨ds.ρ,ds.σ,(ds.nx,mpRow kv ([]:List (κ×DV)))::ds.H,ds.nx+1,ds.nb⟩:DS).put d (.d (.mr ds.nx)))):bJ P x ⟨d,.makeMap T none,ty,pos,aft,g⟩ K ds:=by
 intro u0 β0 β us s u h;intro w hu h0;have hfu:Fresh u w.heap.size:=aO hu (Nat.le_refl _);have hn:=h.new (u':=learn u w.heap.size (.map #[] 0)) (r:=.mpr []) (dE hfu) (.map w.heap.size) ⟨w.heap.size,0,[],rfl,bu _ _ _,aO h0 (Nat.le_refl _),Fresh.anti h.sub hfu,rfl,rfl,rfl,rfl⟩ (fun b hb=>by cases hb;exact hfu)
 exact⟨.map (some w.heap.size),{ w with heap:=w.heap.push (.map #[] 0) },_,by simp[xo,Instr.makeMap],iq hu rfl,_,us,_,hn.put_d d (x:=.mr ds.nx) ⟨w.heap.size,ee _ _ _,rfl⟩,hK⟩
theorem afB(hk:s9 P Kt kv)(hT:P.underlying T=some (.map Kt E))(hz:al6 P E zd)(ok:Bool)(hy:ds.sv y= .d (.mr id))(hkz:ds.sv z= .d kd)(hkd:dV kd=some (kv k))(hlk:lk ds.H id=some (mpRow kv l))
  (hK:K (ds.put d (.d (bif ok then .tup [(gw l k).getD zd,.v (.bool (gw l k).isSome)]else (gw l k).getD zd)))):LkS P x ⟨d,.lookup T y z ok,ty,pos,aft,g⟩ K ds T ok (.d (.mr id)) (.d kd):=by
 intro u0 β0 β us s u h;obtain⟨va,e1,r,hb,rfl⟩:=h.sv_d hy;obtain⟨vb,e2,hvb⟩:=h.sv_d hkz;have e3:=fu kd β vb _ hvb hkd;subst e3;show match s.sv y,s.sv z with| .v a,.v b=>AtRead P (mv T a b ok) u (eY s d u (LiftR u0 β0 K))|_,_=>False
 rw[e1,e2];obtain⟨r',clock,ents,hb',hg,hf0,hfs,hke,hva,hbo,hcl⟩:=(h.row id _ hlk).2;rw[hb]at hb';cases hb';obtain⟨zv,hz1,hz2⟩:=hz
 have fin: ∀vv dv t,HV us dv β vv->(gw l k).getD zd=dv->(gw l k).isSome=t->LiftR u0 β0 K (s.put d (.v (if ok then .tuple #[vv,.bool t]else vv))) u:=by
  rintro vv dv t hvv rfl rfl
  refine⟨β,us,_,h.put_d d ?_,hK⟩;cases ok with
  |true=>exact⟨[vv,.bool _],rfl,vv,_,rfl,hvv,_,[],rfl,⟨rfl,rfl⟩,rfl⟩
  |false=>exact hvv
 rcases uX hk hke k with ⟨n1,n2⟩|⟨i,e,p,n1,n2,n3,n4,n5,n6⟩
 ·have hg0:gw l k=none:=by rw[gw,n1];rfl
  refine⟨_,fun w hu=>?_,fin zv zd false (hz2 us β) (by rw[hg0];rfl) (by rw[hg0];rfl)⟩
  have hw:=hu _ _ hg bL;simp only[mv,Instr.lookup,Sem.run_bind,run_underlying hT,Result.andThen_ok,getObj,Sem.run,hw,Sem.run_pure,hk.chk,n2,hz1]
 ·have hg0:gw l k=some p.2:=by rw[gw,n1,Option.bind_some,n3];rfl
  have hval:HV us p.2 β e.val:=by
   obtain⟨q,g3,g4⟩:=hva.get (j:=i) (d:=p.2) (by rw[List.getElem?_map,List.getElem?_map,n3];rfl)
   rw[List.getElem?_map,n2]at g3;cases g3;exact g4
  refine⟨_,fun w hu=>?_,fin e.val p.2 true hval (by rw[hg0];rfl) (by rw[hg0];rfl)⟩
  have hw:=hu _ _ hg bL;simp only[mv,Instr.lookup,Sem.run_bind,run_underlying hT,Result.andThen_ok,getObj,Sem.run,hw,Sem.run_pure,hk.chk,n6]
theorem aas{r clock:Nat}{k v:Value}{ents:List MapEntry}{w:World}(hT:P.underlying T=some (.map Kt E))(hw:w.heap[r]? =some (.map ents.toArray clock))
  (c1:(Instr.checkKey false 10000 Kt k).run P w= .ok () w) {q:Option (Nat×Value)} (c2:(Instr.findKey Kt k ents).run P w= .ok q w):
  (∀i x e,q=some (i,x)->ents[i]? =some e->Instr.sameBits 10000 e.key k=true->(mX T (.map (some r)) k v).run P w= .ok () { w with heap:=w.heap.setIfInBounds r (.map (ents.set i { e with key:=k,val:=v }).toArray clock) })/\
  (q=none->(mX T (.map (some r)) k v).run P w= .ok () { w with heap:=w.heap.setIfInBounds r (.map (ents++([{ key:=k,val:=v,born:=clock }]:List MapEntry)).toArray (clock+1)) }):=by
 constructor
 ·rintro i x e rfl he hs
  simp[mX,Instr.mapUpdate,run_underlying hT,getObj,Sem.run,hw,c1,c2,setObj,Instr.keyThatStays,he,hs];rw[sB _ _ e _ he]
 ·rintro rfl
  simp[mX,Instr.mapUpdate,run_underlying hT,getObj,Sem.run,hw,c1,c2,setObj]
theorem ae1(hk:s9 P Kt kv)(hT:P.underlying T=some (.map Kt E))(hy:ds.sv y= .d (.mr id))(hkz:ds.sv z= .d kd)(hkd:dV kd=some (kv k))(hvd:ds.sv t= .d vd)(hlk:lk ds.H id=some (mpRow kv l))
  (hK:K ((⟨ds.ρ,ds.σ,setH id (mpRow kv (kI l k vd)) ds.H,ds.nx,ds.nb⟩:DS).put d (.d undefD))):bJ P false ⟨d,.mapUpdate T y z t,ty,pos,aft,g⟩ K ds:=by
 intro u0 β0 β us s u h;obtain⟨va,e1,r,hb,rfl⟩:=h.sv_d hy;obtain⟨vb,e2,hvb⟩:=h.sv_d hkz;obtain⟨vc,e4,hvc⟩:=h.sv_d hvd;have e3:=fu kd β vb _ hvb hkd;subst e3;show match s.sv y,s.sv z,s.sv t with| .v a,.v b,.v c=>AtDo false P (mX T a b c) u0 u (l9 s d (LiftR u0 β0 K))|_,_,_=>False
 rw[e1,e2,e4];obtain⟨r',clock,ents,hb',hg,hf0,hfs,hke,hva,hbo,hcl⟩:=(h.row id _ hlk).2;rw[hb]at hb';cases hb';have hlen:ents.length=l.length:=by simpa using congrArg List.length hke
 rcases uX hk hke k with ⟨n1,n2⟩|⟨i,e,p,n1,n2,n3,n4,n5,n6⟩
 ·have hs:kI l k vd=l++[(k,vd)]:=by rw[kI,n1]
  rw[hs]at hK
  have hrel:=h.setMp (l':=(l++[(k,vd)]).map fun p=>(kv p.1,p.2)) (ents':=ents++[{ key:=kv k,val:=vc,born:=clock }]) (clock':=clock+1) hlk hb hg hf0 hfs
   (by rw[List.map_append,List.map_append,List.map_append,hke];rfl)
   (by rw[List.map_append,List.map_append,List.map_append];exact hva.append (HVs.one hvc))
   (by rw[List.map_append,hbo,List.length_append,List.length_singleton,List.range_succ,hcl];rfl)
   (by rw[List.length_append,hcl];rfl)
  intro w hu h0;have hw:=hu _ _ hg bL;exact⟨_,_,(aas hT hw (hk.chk _ _ w) (n2 w)).2 rfl,nR hu hg hf0,β,us,_,hrel.put_d d (x:=.tup []) ⟨[],rfl,rfl⟩,hK⟩
 ·have hs:kI l k vd=l.set i (k,vd):=by rw[kI,n1]
  rw[hs]at hK
  have hrel:=h.setMp (l':=(l.set i (k,vd)).map fun p=>(kv p.1,p.2)) (ents':=ents.set i { e with key:=kv k,val:=vc }) (clock':=clock) hlk hb hg hf0 hfs
   (by rw[List.map_set,List.map_set,List.map_set,hke])
   (by rw[List.map_set,List.map_set,List.map_set];exact hva.setI i hvc)
   (by
    have hi:i<ents.length:=by rcases Nat.lt_or_ge i ents.length with h|h;exact h;simp[List.getElem?_eq_none h]at n2
    rw[List.map_set,hbo,List.length_set,show e.born=i from anB hbo n2,aca hi])
   (by rw[List.length_set];exact hcl)
  intro w hu h0;have hw:=hu _ _ hg bL;exact⟨_,_,(aas hT hw (hk.chk _ _ w) (n6 w)).1 i _ e rfl n2 (by rw[n5];exact hk.bits _),nR hu hg hf0,β,us,_,hrel.put_d d (x:=.tup []) ⟨[],rfl,rfl⟩,hK⟩
theorem yc(hk:s9 P Kt kv)(hT:P.underlying T=some (.map Kt E))(hy:ds.sv y= .d (.mr id))(hkz:ds.sv z= .d kd)(hkd:dV kd=some (kv k))(hvd:ds.sv t= .d vd)(hlk:lk ds.H id=some (mpRow kv l))
  (hK:K ((⟨ds.ρ,ds.σ,setH id (mpRow kv (kI l k vd)) ds.H,ds.nx,ds.nb⟩:DS).put d (.d undefD))):bJ P false ⟨d,.insert T y z t,ty,pos,aft,g⟩ K ds:=
 ae1 (ty:=ty) (pos:=pos) (aft:=aft) (g:=g) hk hT hy hkz hkd hvd hlk hK
end
end Go.Eng
namespace Go.Proofs.YtmhmahcdanclnaaGreat
open Go.Eng
theorem ai2(x y:GID)(w:World):(Op.equal 54 x.val y.val).run Tryz.prog w= .ok (decide (x=y)) w:=by
 have h:=Ty.eqRun54 x.node.toNat x.inc.toNat x.seq.toNat y.node.toNat y.inc.toNat y.seq.toNat w;rw[amE]at h;have h2:(binOp .eql 54 x.val y.val).run Tryz.prog w=(Op.equal 54 x.val y.val >>= fun b=>pure (Value.bool b)).run Tryz.prog w:=rfl
 have h3:(binOp .eql 54 x.val y.val).run Tryz.prog w= .ok (.bool (decide (x=y))) w:=h;rw[h2,Sem.run_bind]at h3;cases hr:(Op.equal 54 x.val y.val).run Tryz.prog w with
 |ok b w'=>rw[hr]at h3;simp only[Result.andThen_ok,Sem.run_pure,Result.ok.injEq,Value.bool.injEq]at h3;rw[h3.1,h3.2]
 |_=>rw[hr]at h3;cases h3
theorem arQ(b:Bool)(x:GID)(w:World):(Instr.checkKey b 10000 54 x.val).run Tryz.prog w= .ok () w:=by
 unfold GID.val;kernel_rfl
theorem aol(x:GID):Instr.sameBits 10000 x.val x.val=true:=by
 simp[Instr.sameBits,GID.val]
theorem akI:s9 Tryz.prog 54 GID.val:=aaJ Tryz.underlying54 ai2 arQ aol
end Go.Proofs.YtmhmahcdanclnaaGreat
namespace Go.Eng
section
variable {A:List GID} {k:GID} {z:DV}
def jY(z:DV)(A:List GID):List (GID×DV):=A.map fun x=>(x,z)
theorem yB:z0 (jY z A) k=A.findIdx? fun y=>decide (k=y):=by
 unfold z0 jY;rw[List.map_map]
 congr 1
 exact List.map_id _
theorem agf:gw (jY z A) k=if k∈A then some z else none:=by
 unfold gw;rw[yB];cases h:A.findIdx? fun y=>decide (k=y)with
 |none=>
  rw[List.findIdx?_eq_none_iff]at h;rw[if_neg (fun hm=>by have:=h k hm;simp at this)]
  rfl
 |some i=>
  obtain⟨hi,hb,_⟩:=List.findIdx?_eq_some_iff_getElem.1 h;have e:k=A[i]:=by simpa using hb
  rw[if_pos (by rw[e];exact List.getElem_mem hi),Option.bind_some,jY,List.getElem?_map,List.getElem?_eq_getElem hi]
  rfl
theorem j7{r:Nat->Option Rn}{kv:GID->Value}:wkRow r (mpRow kv (jY (.agg []) A)) (some (mpRow kv (jY (.agg []) A)))=True:=by
 refine eq_true ⟨rfl,?_⟩
 induction A with
 |nil=>exact rfl
 |cons a l ih=>exact⟨rfl,ih⟩
theorem ahI(h:k∉A):kI (jY z A) k z=jY z (A++[k]):=by
 unfold kI;rw[yB]
 have:A.findIdx? (fun y=>decide (k=y))=none:=by
  rw[List.findIdx?_eq_none_iff];intro x hx;simp
  rintro rfl
  exact h hx
 rw[this];simp[jY]
end
end Go.Eng
namespace Go.Proofs.YtmhmahcdanclnaaGreat.V
open Go.Eng
attribute [local go_sem] aS ah fzD plR ba aL aR aC aE ak az aU z8 z16 z32 z64 encMg aN b_ aA aH a_ gj
theorem kz(p:af)(kind to:UInt8):Con2 Tryz.prog 97 [.agg (ak p),.v (.int .u8 kind.toNat),.v (.int .u8 to.toNat)] (· =plR (.agg (encMg (pMsg p kind to)))):=by
 refine Con2.ofEmb ?_;refine en_ Tryz.func97 [.cell 6 60] (g2_ ?_);refine g2_ ?_;refine ae ?_ rfl;exact wf_ (c3_ @encMg.eq_1 @pMsg.eq_1 @zEvt.eq_1)
theorem aea(c:ar)(x:GID):Con2 Tryz.prog 321 [.agg (aE c),.agg (aN x)] (· =plR (.v (.bool (nt x c.nodes c.last)))):=by
 refine Con2.ofEmb ?_;refine en_ Tryz.func321 [.tmp 4] (g2_ ?_);refine g2_ ?_;refine ce_ (aeC x c.nodes c.last) (g2_ ?_);refine ae ?_ rfl;exact ws_
theorem abD(dr:List UInt32)(n:Int)(hdr:dr.length<=4000000):Con2 Tryz.prog 165 [.fz 1 (dr.map aH),.v (.int .i64 n)] (· =plR (.fz 1 ((gK dr n).map aH))):=by
 refine Con2.ofEmb ?_;unfold gK;refine en_ Tryz.func165 [.tmp 4] (g2_ ?_);refine gx_ ?_
 have e: ∀k:Int,(if (dr.length:Int)<(if n<0 then 0 else n)then (dr.length:Int)else if n<0 then 0 else n)=k->List.take (dr.length-k.toNat) (List.drop k.toNat (dr.map aH))=(dr.drop n.toNat).map aH:=by
  rintro k rfl
  rw[List.take_of_length_le (by rw[List.length_drop,List.length_map];omega), <-List.map_drop]
  by_cases h1:(dr.length:Int)<(if n<0 then 0 else n)
  ·rw[if_pos h1,Int.toNat_natCast,List.drop_length,List.drop_eq_nil_of_le (by split at h1<;>omega)]
  ·rw[if_neg h1]
   congr 2
   split<;>omega
 rw[e _ rfl];refine ae ?_ rfl;exact ws_
theorem agy:al6 Tryz.prog 356 (.agg []):=⟨.agg #[],fun w=>by kernel_rfl,fun us β=>⟨[],rfl,rfl⟩⟩
theorem oN(rows:List GRow)(w:Int): ∀(l:List GID) (acc:List GID),(l.foldl (kK rows w) acc).length<=acc.length+l.length
 |[],acc=>Nat.le_refl _
 | x::l,acc=>by
  rw[List.foldl_cons];have h:=oN rows w l (kK rows w acc x)
  have h2:(kK rows w acc x).length<=acc.length+1:=by
   unfold kK;split
   ·omega
   ·split
    ·rw[List.length_append];exact Nat.le_refl _
    ·omega
  rw[List.length_cons];omega
theorem ait(ids:List GID)(rows:List GRow)(w:Int)(hi:ids.length<=4000000)(hr:rows.length<=4000000):Con2 Tryz.prog 320 [.fz 3 (ids.map aN),.fz 3 (rows.map aC),.v (.int .i64 w)] (· =plR (.fz 3 ((fE ids rows w).map aN))):=by
 refine Con2.ofEmb ?_;obtain⟨A,hA⟩: ∃A:Nat->List GID,A=fun k=>(ids.take k).foldl (kK rows w) []:=⟨_,rfl⟩
 have hA0:A 0=[]:=by rw[hA];rfl
 have hAe:A ids.length=fE ids rows w:=by rw[hA];simp only;rw[List.take_length];rfl
 have hAl: ∀k,k<=ids.length->(A k).length<=4000000:=fun k hk=>by
  rw[hA];have:=oN rows w (ids.take k) [];rw[List.length_take]at this;simp only[List.length_nil]at this ⊢;omega
 have hAn: ∀k (hk:k<ids.length),A (k+1)=kK rows w (A k) ids[k]:=fun k hk=>by
  rw[hA];simp only;rw[List.take_add_one,List.getElem?_eq_getElem hk,Option.toList_some,List.foldl_append];rfl
 rw[<-hAe];clear hA hAe;refine en_ Tryz.func320 [.tmp 6] (g2_ ?_);refine g2_ ?_;refine zQ (κ:=GID) (kv:=GID.val) ?_;refine gx_ ?_;refine aq ids.length (fun k=>[(7,.d (.rf 1 0 (A k).length))]) (fun _=>[]) (fun k=>[(1,.arr 54 3 ((A k).map aN) false),(0,mpRow GID.val (jY (.agg []) (A k)))]) 2 (fun _=>True) (aa [(1,.nil 3),(0,.to 0)] ?_) trivial (fun g k=>ws_) (by omega) (fun g=>ws_) (fun k hk _=>?_) (fun _=>?_)
 ·rw[hA0];refine gx_ ?_;exact⟨rfl,cast (j7 (A:=[])).symm trivial⟩
 ·have h1:=hAl k (by omega)
  have h2:=hAn k hk;have h3:=hAl (k+1) (by omega)
  generalize A k=B at h1 h2;unfold kK at h2;have hx:=ids[k].bd;refine gf_ (mE_ hk) ?_;refine .inl ⟨[oF 0,oF 3,oF 1,oF 4,oF 2,oF 5,oF 6,oF 7,oF 8,oF 12,oF 13,oF 9,oF 10,oF 11,oF 14,oF 15,oF 16],by kernel_rfl,gf_ (mE_ hk) ?_⟩
  by_cases g1:ids[k].node.toNat<rows.length
  case neg=>
   rw[decide_eq_true (show(rows.length:Int)<=ids[k].node.toNat by omega)]
   rw[List.getElem?_eq_none (by omega)]at h2
   simp only at h2;refine g2_ ?_;refine⟨k+1,aa [(1,.to 1)] ?_,rfl⟩;exact wg_ h2 @j7
  rw[decide_eq_false (show ¬(rows.length:Int)<=ids[k].node.toNat by omega)]
  rw[List.getElem?_eq_getElem g1]at h2;simp only at h2;have hm:=qF rows[ids[k].node.toNat] ids[k] w;refine gf_ (mE_ g1) ?_;refine ce_ hm (g2_ ?_);cases g2:iJ rows[ids[k].node.toNat] ids[k] w with
  |false=>
   rw[if_neg (by rw[g2];simp)]at h2
   refine g2_ ?_;refine⟨k+1,aa [(1,.to 1)] ?_,rfl⟩;exact wg_ h2 @j7
  |true=>
  refine g2_ ?_;refine afB (E:=356) (zd:=.agg []) (l:=jY (.agg []) B) (k:=ids[k]) akI Tryz.underlying355 agy true ws_ ws_ rfl rfl ?_;rw[agf]
  by_cases g3:ids[k]∈B
  ·rw[if_neg (by simp[g3])]at h2
   rw[if_pos g3];refine x0_ ?_;refine⟨k+1,aa [(1,.to 1)] ?_,rfl⟩;exact wg_ h2 @j7
  ·rw[if_pos ⟨g2,g3⟩]at h2;rw[if_neg g3];refine gf_ (c2_ @Option.getD_none.{0} @Option.isSome_none.{0}) ?_;refine ae1 (id:=0) (kd:=.agg (aN ids[k])) (l:=jY (.agg []) B) (k:=ids[k]) (vd:=.agg []) akI Tryz.underlying355 ws_ ws_ rfl ws_ rfl ?_;rw[ahI g3];refine gx_ ?_;refine⟨k+1,aa [(1,.to 3)] ?_,rfl⟩;exact y1_ (c2_ h2 @j7)
 ·have h3:=hAl ids.length (Nat.le_refl _);refine g2_ ?_;refine ae ?_ rfl;exact wf_ @an
end Go.Proofs.YtmhmahcdanclnaaGreat.V
namespace Go.Proofs.YtmhmahcdanclnaaGreat.V
open Go.Eng
attribute [local go_sem] aS ah fzD plR ba aL aR aC aE ak az aU z8 z16 z32 z64 encMg
theorem adO(p:af)(t:List au)(hp:okP p)(ht:p.table.length<=256)(htt:t.length<=4000000)(hr:fQ p.reports):Con2 Tryz.prog 254 [.agg (ak p),.fz 3 (t.map aR)] (· =plR (.agg (ak (bx p t)))):=by
 refine Con2.ofEmb ?_;have hme:=rZ p.table t p.node (by omega) htt
 have hlen:(eA p.table t p.node).length=p.table.length:=by simp[eA]
 unfold bx;generalize eA p.table t p.node=T at hme hlen;refine en_ Tryz.func254 [.cell 4 49] (g2_ ?_);refine gf_ @ao ?_;refine ce_ hme ?_;refine gg_ @ao hlen ?_;rw[show(if (p.table.length:Int)<(p.table.length:Int)then (p.table.length:Int)else (p.table.length:Int))=(p.table.length:Int)by split<;>rfl]
 refine aq p.table.length (fun k=>[]) (fun k=>[(2,⟨ak { p with table:=T,reports:=lrnK p.table T p.reports k },49⟩)]) (fun k=>[]) 0 (fun _=>True) (aa [] ?_) trivial (fun g k=>ws_) (by omega) (fun g=>ws_) (fun k hk _=>?_) (fun _=>?_)
 ·refine gf_ (c4_ @lrnK.eq_1 @List.range_zero @List.foldl_nil.{0,0} @ao) ?_;rfl
 ·have hk2:k<T.length:=by omega
  have hok:=i_ (a:=p.table) (b:=T) hr k;have hsu:=uH (r:=p.reports) hk hk2;refine gf_ @ao ?_;refine .inl ⟨[oF 0,oF 2,oF 6,oF 7,oF 1,oF 8,oF 3,oF 9,oF 4,oF 10,oF 5,oF 11],by kernel_rfl,gf_ (c3_ (mE_ hk) (mE_ hk2) @ao) ?_⟩
  have hku:((UInt8.ofNat k).toNat:Int)=k:=by rw[UInt8.toNat_ofNat'];omega
  have hfo:=jI (lrnK p.table T p.reports k) (UInt8.ofNat k) hok;rw[hku]at hfo
  by_cases h:p.table[k].inc<T[k].inc
  ·have h2:(p.table[k].inc.toNat:Int)<(T[k].inc.toNat:Int):=(gD _ _).2 h;rw[if_pos h]at hsu;rw[decide_eq_true h2];refine gf_ @ao ?_;refine gF (by omega) ?_
   refine gf_ @ao ?_;refine ce_ hfo (gf_ @ao ?_);refine⟨k+1,aa [] ?_,rfl⟩;exact wg_ hsu @ao
  ·have h2: ¬(p.table[k].inc.toNat:Int)<(T[k].inc.toNat:Int):=fun h3=>h ((gD _ _).1 h3)
   rw[if_neg h]at hsu;rw[decide_eq_false h2];refine gf_ @ao ?_;refine⟨k+1,aa [] ?_,rfl⟩;exact wg_ hsu @ao
 ·refine gf_ @ao ?_;refine ae ?_ rfl;exact wf_ @ao
