import Derived.Test.YthoihfighiolmaaGreatPt31
set_option linter.unusedSectionVars false
set_option linter.unusedSimpArgs false
set_option linter.unusedVariables false
set_option maxRecDepth 10000
set_option maxHeartbeats 4000000
namespace Go.Eng
theorem akR{a:Int}{K:Value->Prop}(h:0<=a/\a<=18446744073709551615)(hk:K (.int .u64 a)):bq .u64 a K:=by rw[mz h];exact hk
def ixN(l:List GDesc)(nd:UInt8):Int:=match cd l nd with|some i=>(i:Int)|none=> -1
theorem xk{l:List GDesc}{nd:UInt8}(h:cd l nd=none):ixN l nd= -1:=by unfold ixN;rw[h]
theorem xP{l:List GDesc}{nd:UInt8}{i:Nat}(h:cd l nd=some i):ixN l nd=i:=by unfold ixN;rw[h]
theorem ahx{l:List GDesc}{nd:UInt8}{k:Nat}(hk:k<l.length)(h1: ∀j (hj:j<k),(l[j]'(by omega)).node≠nd)(h2:l[k].node=nd):cd l nd=some k:=
 List.findIdx?_eq_some_iff_getElem.2 ⟨hk,by simpa using h2,fun j hj=>by simpa using h1 j hj⟩
def fl(l:List GDesc)(nd:UInt8)(j:Nat):List GDesc:=(l.take j).filter fun d=> !decide (d.node=nd)
def flR(l:List GDesc)(nd:UInt8)(j:Nat):List GDesc:=fl l nd j++l.drop (fl l nd j).length
theorem akL(l:List GDesc)(nd:UInt8)(j:Nat):(fl l nd j).length<=j:=Nat.le_trans (List.length_filter_le _ _) (by rw[List.length_take];omega)
theorem tu{l:List GDesc}{nd:UInt8}{j:Nat}(h:j<l.length):fl l nd (j+1)=fl l nd j++(if l[j].node=nd then []else [l[j]]):=by
 unfold fl;rw[List.take_add_one,List.getElem?_eq_getElem h,List.filter_append]
 by_cases e:l[j].node=nd<;>simp[e]
theorem aii{l:List GDesc}{nd:UInt8}{j:Nat}(h:j<=l.length):(flR l nd j).length=l.length:=by
 have:=akL l nd j;rw[flR,List.length_append,List.length_drop];omega
theorem aeP{l:List GDesc}{nd:UInt8}{j i:Nat}(h1:(fl l nd j).length<=i):(flR l nd j)[i]? =l[i]?:=by grind [flR]
theorem ajH{l:List GDesc}{nd:UInt8}{j:Nat}(h:j<l.length)(he:l[j].node≠nd):(flR l nd j).set (fl l nd j).length l[j]=flR l nd (j+1):=by
 have hc:(fl l nd j).length<l.length:=Nat.lt_of_le_of_lt (akL l nd j) h;rw[flR,flR,tu h,if_neg he];generalize fl l nd j=C at hc;rw[List.set_append_right _ _ (Nat.le_refl _),Nat.sub_self,List.drop_eq_getElem_cons hc,List.set_cons_zero,List.append_assoc,List.length_append];rfl
theorem vQ{l:List GDesc}{nd:UInt8}{i:Nat}(h:cd l nd=some i):fl l nd (i+1)=l.take i:=by
 obtain⟨hi,h1,h2⟩:=List.findIdx?_eq_some_iff_getElem.1 h;have e:l[i].node=nd:=by simpa using h1
 rw[tu hi,if_pos e,List.append_nil];refine List.filter_eq_self.2 fun x hx=>?_
 obtain⟨j,hj,rfl⟩:=List.mem_iff_getElem.1 hx;rw[List.length_take]at hj;rw[List.getElem_take];simpa using h2 j (by omega)
theorem aed{l:List GDesc}{nd:UInt8}(h1: ∀j (hj:j<l.length),l[j].node≠nd):cd l nd=none:=
 List.findIdx?_eq_none_iff.2 fun x hx=>by obtain⟨j,hj,rfl⟩:=List.mem_iff_getElem.1 hx;simpa using h1 j hj
end Go.Eng
namespace Go.Proofs.YthoihfighiolmaaGreat.V
open Go.Eng
attribute [local go_sem] aP af fzD plR bb eI z8 z16 z32 z64 List.map_cons List.map_nil
theorem ixf(l:List GDesc)(nd:UInt8)(S:DV)(H:List (Nat×Row))(nx j:Nat)(hS:lenD S=some l.length)(hg: ∀k (hk:k<l.length),eltD H 4 k S=some (af l[k]))(hv:lk H j=some (.var 5 [.v (.int .u8 nd.toNat)]))(hl:l.length<=4000000)
  {ρ σ nb K} (hk:K (.v (.int .i64 (ixN l nd))) ⟨ρ,σ,H,nx,nb⟩):
  CallS Tryz.prog false 388 [S,.fn 389 [] [.pt j 0]] ⟨ρ,σ,H,nx,nb⟩ K:=by
 refine im_ Tryz.func388 [.tmp 4] (g2_ ?_);refine gf_ hS ?_;refine ay l.length (fun k=>[]) (fun _=>[]) (fun k=>H) nx (fun k=> ∀i (hi:i<k) (hi2:i<l.length),l[i].node≠nd) (akT (by simp-implicitDefEqProofs only[go_sem,ab];rfl) rfl rfl rfl rfl) (fun i hi=>absurd hi (Nat.not_lt_zero _)) (fun g k=>by first|rfl|(repeat first|simp-implicitDefEqProofs only[go_sem,ab]|with_reducible refine gl_ ?_)) (by omega) (fun g=>ws_) (fun k hk2 hF=>?_) (fun hF=>?_)
 ·have hgk:=hg k hk2;refine gg_ hS hgk ?_;refine im_ Tryz.func389 [.tmp 3] (g2_ ?_);refine gf_ hv ?_;rw[bt]
  by_cases h:l[k].node=nd
  ·rw[decide_eq_true h];refine g2_ ?_;rw[xP (ahx hk2 (fun i hi=>hF i hi (by omega)) h)]at hk
   exact hk
  ·rw[decide_eq_false h];refine g2_ ?_;refine⟨k+1,akT ws_ rfl rfl rfl rfl,rfl,fun i hi hi2=>?_⟩
   by_cases e:i=k
   ·subst e;exact h
   ·exact hF i (by omega) hi2
 ·rw[xk (aed fun i hi=>hF i hi hi)]at hk
  refine g2_ ?_;exact hk
theorem dlf(l:List GDesc)(nd:UInt8)(hl:l.length<=4000000){ρ σ nb K}(hk:K (.rf 0 0 (aD l nd).length) ⟨ρ,σ,[(1,.var 5 [.v (.int .u8 nd.toNat)]),(0,.arr 34 4 ((aD l nd).map af) false)],2,nb⟩):
  CallS Tryz.prog false 351 [.rf 0 0 l.length,.fn 389 [] [.pt 1 0]] ⟨ρ,σ,[(1,.var 5 [.v (.int .u8 nd.toNat)]),(0,.arr 34 4 (l.map af) false)],2,nb⟩ K:=by
 refine im_ Tryz.func351 [.tmp 4] (g2_ ?_);refine g2_ ?_;refine ixf l nd (.rf 0 0 l.length) [(1,.var 5 [.v (.int .u8 nd.toNat)]),(0,.arr 34 4 (l.map af) false)] 2 1 rfl (fun k hk=>by have:=aX (f:=af) hk;repeat first|simp-implicitDefEqProofs only[go_sem,ab,this]|with_reducible refine gl_ ?_) rfl hl ?_
 cases hi:cd l nd with
 |none=>
  rw[sJ hi]at hk;rw[xk hi];refine g2_ ?_;exact hk
 | some i=>
  obtain⟨hil,_⟩:=List.findIdx?_eq_some_iff_getElem.1 hi;rw[xP hi];have e1:(i:Int)+1=((i+1:Nat):Int):=by omega
  refine g2_ ?_;rw[show((i:Int)== -1)=false from beq_eq_false_iff_ne.2 (by omega)]
  refine gf_ e1 ?_;have f0:(fl l nd (i+1)).length=i:=by rw[vQ hi,List.length_take];omega
  have f1:flR l nd (i+1)=l:=by rw[flR,f0,vQ hi,List.take_append_drop]
  refine av (γ:=Nat) (fun j=>[(6,.d (.v (.int .i64 (j:Nat)))),(5,.d (.v (.int .i64 ((fl l nd j).length:Nat))))]) (fun _=>[]) (fun j=>[(1,.var 5 [.v (.int .u8 nd.toNat)]),(0,.arr 34 4 ((flR l nd j).map af) false)]) 2 (fun j=>i+1<=j/\j<=l.length/\(fl l nd j).length<j) (fun j=>l.length-j) (i+1) (aa [] ?_) ⟨Nat.le_refl _,hil,by omega⟩ (fun j hj=>?_)
  ·exact v1_ (c2_ f0 f1)
   first|done|rfl|exact⟨rfl,rfl⟩
  obtain⟨hj1,hj2,hj3⟩:=hj;have hRl:((flR l nd j).map af).length=l.length:=by rw[List.length_map,aii hj2]
  refine g2_ ?_
  by_cases hlt:j<l.length
  ·rw[decide_eq_true (show(j:Int)<(l.length:Int)by omega)]
   have g1:((flR l nd j).map af)[j]? =some (af l[j]):=by rw[List.getElem?_map,aeP (by omega),List.getElem?_eq_getElem hlt];rfl
   have g2: ∃o:GDesc,((flR l nd j).map af)[(fl l nd j).length]? =some (af o):=⟨l[(fl l nd j).length],by rw[List.getElem?_map,aeP (Nat.le_refl _),List.getElem?_eq_getElem (by omega)];rfl⟩
   obtain⟨o,g2⟩:=g2;have e2:(j:Int)+1=((j+1:Nat):Int):=by omega
   have hs:=tu (nd:=nd) hlt;have hset:=ajH (nd:=nd) hlt;have hRe:l[j].node=nd->flR l nd (j+1)=flR l nd j:=fun h=>by rw[flR,flR,hs,if_pos h,List.append_nil]
   generalize l[j]=x at g1 hs hset hRe;refine gf_ g1 ?_;refine im_ Tryz.func389 [.tmp 3] (g2_ ?_);refine g2_ ?_;rw[bt]
   by_cases h:x.node=nd
   ·rw[if_pos h,List.append_nil]at hs;rw[decide_eq_true h];refine gf_ e2 ?_;refine⟨j+1,aa [] ?_,⟨by omega,by omega,by rw[hs];omega⟩,by omega⟩
    exact v1_ (c2_ hs (hRe h))
    first|done|rfl|exact⟨rfl,rfl⟩
   ·rw[if_neg h]at hs;have hs1:(fl l nd (j+1)).length=(fl l nd j).length+1:=by rw[hs,List.length_append];rfl
    have hsm:((flR l nd j).map af).set (fl l nd j).length (af x)=(flR l nd (j+1)).map af:=by rw[<-List.map_set,hset h]
    have e3:((fl l nd j).length:Int)+1=(((fl l nd j).length+1:Nat):Int):=by omega
    simp only[af]at g2 hsm;rw[decide_eq_false h];refine gf_ (c4_ g2 e2 e3 (c2_ hRl hsm)) ?_;refine⟨j+1,aa [] ?_,⟨by omega,by omega,by rw[hs1];omega⟩,by omega⟩
    exact v1_ (c2_ hs1 hsm)
    first|done|rfl|exact⟨rfl,rfl⟩
  ·have hjn:j=l.length:=by omega
   subst hjn;have hD:fl l nd l.length=aD l nd:=by rw[fl,List.take_length];rfl
   rw[hD]at hj3;have hT:List.take (aD l nd).length ((flR l nd l.length).map af)=(aD l nd).map af:=by rw[<-List.map_take,flR,hD,List.take_left]
   rw[hD,decide_eq_false (show ¬((l.length:Nat):Int)<(l.length:Int)by omega)]
   refine gg_ hRl hT ?_;refine⟨by kernel_rfl,⟨Int.le_refl _,by omega⟩,?_⟩
   exact hk
theorem ahf(l:List GDesc)(many:Int)(not:UInt8)(dr:List UInt32)(hl:ok8 l)(hd:dr.length<=4000000):Con2 Tryz.prog 308 [fzD l,.v (.int .i64 many),.v (.int .u8 not.toNat),.fz 1 (dr.map aZ)] (· =plR (fzD (bP many (aD l not) [] dr))):=by
 refine Con2.ofEmb ?_;have hl1:=hl.1;obtain⟨R,hR⟩: ∃R,bP many (aD l not) [] dr=R:=⟨_,rfl⟩;rw[hR];have hA:(aD l not).length<=1100000:=Nat.le_trans (List.length_filter_le _ _) hl1;refine en_ Tryz.func308 [.tmp 8] ?_;refine g2_ ?_;refine ce_ (gy l hl.toDs) ?_;refine g2_ ?_;refine im_ Tryz.func352 [.tmp 2] ?_;refine g2_ ?_;refine g2_ ?_;refine dlf l not (by omega) ?_
 refine gx_ ?_;generalize aD l not=A0 at hR hA;refine gq (γ:=List GDesc×List GDesc) (ρ:=[(20,.d (.v (.int .i64 dr.length))),(19,.d (.fz 1 (dr.map aZ))),(1,.d (.v (.int .i64 many)))]) dr.length (fun g=>[(9,.d (.rf 0 0 g.1.length)),(10,.d (.rf 1 0 g.2.length))]) (fun _=>[]) (fun g=>[(1,.arr 34 4 (g.2.map af) false),(0,.arr 34 4 (g.1.map af) false)]) 2 (fun k g=>bP many g.1 g.2 (dr.drop k)=R/\g.1.length<=1100000/\g.2.length<=k) (A0,[]) (aa [(1,.nil 4),(0,.to 0)] ?_) ⟨hR,hA,Nat.le_refl _⟩ (fun g k=>by first|rfl|(repeat first|simp-implicitDefEqProofs only[go_sem,ab]|with_reducible refine gl_ ?_)) (by omega) (fun g=>ws_) (fun k g hk hF=>Vc2.of ?_) (fun g hF=>?_)
 ·repeat first|simp-implicitDefEqProofs only[go_sem,ab,List.length_map,List.map_nil,List.length_nil]|with_reducible refine gl_ ?_
  first|done|rfl|exact⟨rfl,rfl⟩
 ·obtain⟨A,B⟩:=g;obtain⟨hc,ha,hb⟩:=hF;simp only at hc ha hb ⊢;have hdg:(dr.map aZ)[k]? =some [.v (.int .u32 dr[k].toNat)]:=by rw[List.getElem?_map,List.getElem?_eq_getElem hk];rfl
  rw[xF (List.getElem?_eq_getElem hk)]at hc;generalize dr[k]=x at hdg hc;have hx:=x.toNat_lt;refine gf_ hdg ?_
  by_cases h1:many<=(B.length:Int)
  ·rw[sa h1]at hc;subst hc;rw[decide_eq_true h1];refine g2_ ?_;refine ae ?_ rfl;exact wf_ @List.take_of_length_le.{0}
  rw[decide_eq_false h1];refine gx_ ?_
  by_cases hA2:A=[]
  ·rw[hA2,x_]at hc;subst hc;rw[show((A.length:Int)==0)=true by rw[hA2];rfl]
   refine g2_ ?_;refine ae ?_ rfl;exact wf_ @List.take_of_length_le.{0}
  have hp:=List.length_pos_iff.2 hA2;have hm:x.toNat % A.length<A.length:=Nat.mod_lt _ hp
  have hn:bP many (A.eraseIdx (x.toNat % A.length)) (B++[A[x.toNat % A.length]]) (dr.drop (k+1))=R:=by
   rw[<-hc,bP,if_neg h1,List.getElem?_eq_getElem hm,List.eraseIdx_eq_take_drop_succ]
  rw[show((A.length:Int)==0)=false from beq_eq_false_iff_ne.2 (by omega)]
  refine g2_ ?_;refine akR (by omega) ?_
  refine gx_ ?_;refine akR (by omega) ?_
  refine g2_ ?_;rw[jt (a:=x.toNat) (b:=A.length) rfl rfl hp];have hx2:x.toNat % A.length<=1100000:=by omega
  generalize x.toNat % A.length=j at hm hn hx2;have hgm:=aX (f:=af) hm;generalize A[j]=o at hn hgm;have hea:(A.eraseIdx j).length=A.length-1:=List.length_eraseIdx_of_lt hm;simp only[af]at hgm;refine gf_ hgm ?_;refine CallS.del nM rfl (by simp) (by simpa using hm) (by simp;omega) ?_
  refine gf_ @rU ?_;refine⟨(A.eraseIdx j,B++[o]),aa [(1,.to 3),(0,.to 0)] ?_,hn,by rw[hea];omega,by simp;omega⟩
  repeat first|simp-implicitDefEqProofs only[go_sem,ab,hea,List.length_append,List.map_append,List.map_cons,List.map_nil,List.length_cons,List.length_nil]|with_reducible refine gl_ ?_
  trace_state
 ·obtain⟨A,B⟩:=g;obtain⟨hc,ha,hb⟩:=hF;simp only at hc ha hb ⊢;rw[List.drop_eq_nil_of_le (Nat.le_refl _)]at hc;have hc:B=R:=hc;subst hc;refine g2_ ?_;refine ae ?_ rfl;exact wf_ @List.take_of_length_le.{0}
theorem ss{many:Int}: ∀(dr:List UInt32) (A B:List GDesc),(bP many A B dr).length<=B.length+dr.length
 |[],A,B=>Nat.le_refl _
 | x::r,A,B=>by
  rw[bP];split
  ·omega
  ·split
   ·exact Nat.le_trans (ss r _ _) (by simp;omega)
   ·omega
theorem ann(l:List GDesc)(self:GDesc)(many:Int)(dr:List UInt32)(hl:ok8 l)(hs:self.filter.length<=8)(hd:dr.length<=4000000)(hm:many<=9223372036854775807):
  Con2 Tryz.prog 218 [fzD l,.agg (af self),.v (.int .i64 many),.fz 1 (dr.map aZ)] (· =plR (.tup [.v (.int .u8 (dZ l self many dr).1.toNat),fzD (dZ l self many dr).2.1,.v (.bool (dZ l self many dr).2.2)])):=by
 refine Con2.ofEmb ?_;have hl1:=hl.1;obtain⟨R,hR⟩: ∃R,dZ l self many dr=R:=⟨_,rfl⟩;rw[hR];unfold dZ at hR;have k4:=oX l (by omega)
 unfold eb at k4;refine en_ Tryz.func218 [.tmp 8,.tmp 9,.tmp 10] ?_;refine g2_ ?_;refine cw_ k4 ?_;refine g2_ ?_;cases hO:m3 l with
 |none=>
  rw[hO]at hR;simp only at hR;subst hR;refine g2_ ?_;rw[show decide ((-1:Int)<0)=true from rfl]
  refine g2_ ?_;refine ae ?_ rfl;exact ws_
 | some i=>
  obtain⟨hi,_⟩:=List.findIdx?_eq_some_iff_getElem.1 hO;rw[hO]at hR;simp only at hR;rw[List.getElem?_eq_getElem hi]at hR;simp only at hR;refine g2_ ?_
  by_cases h1:1<=many
  ·rw[if_pos h1]at hR;subst hR;rw[decide_eq_false (show ¬many<1 by omega)]
   have k5:=gy [self] ⟨by simp,fun d hd=>by rw[List.mem_singleton.1 hd];omega⟩
   have k6:=ahf l (many-1) l[i].node dr hl hd;have hpl:=ss (many:=many-1) dr (aD l l[i].node) [];unfold aco;generalize bP (many-1) (aD l l[i].node) [] dr=P at k6 hpl ⊢;simp only[List.length_nil]at hpl;refine gf_ (mE_ hi) ?_;generalize l[i]=o at k6 ⊢;refine ce_ k5 (gx_ ?_);refine cw_ k6 (gx_ ?_);refine ae ?_ rfl;exact wf_ (c4_ (Nat.add_comm 1 P.length) @Nat.le_refl decide_true (c2_ @List.take_succ_cons.{0} @aF))
  ·rw[if_neg h1]at hR;subst hR;rw[decide_eq_true (show many<1 by omega)]
   refine g2_ ?_;refine ae ?_ rfl;exact ws_
theorem jJ{L:List GDesc}{node:UInt8}:decide ((0:Int)<=fb L node)=decide (cd L node≠none):=by
 congr 1
 have:=find_neg (L:=L) (node:=node);exact propext ⟨fun h1 h2=>by have:=this.2 h2;omega,fun h=>Int.not_lt.1 (fun h2=>h (this.1 h2))⟩
theorem aj6{L:List GDesc}{node:UInt8}:decide ((0:Int)<=ixN L node)=decide (cd L node≠none):=by grind [ixN,cd]
theorem alq(node:UInt8):Con2 Tryz.prog 352 [.v (.int .u8 node.toNat)] (· =⟨.fn 389 [] [.pt 0 0],[(0,.var 5 [.v (.int .u8 node.toNat)])],1⟩):=by
 refine en_ Tryz.func352 [.tmp 2] (g2_ ?_);refine g2_ ?_;exact⟨_,rfl,aa [(0,.to 0)] ws_⟩
theorem abN(L got:List GDesc): ∀S:List GDesc,(cw L got S).1=L\/ ∃nd,(cw L got S).1=aD L nd
 |[]=>.inl rfl
 |s::r=>by
  rw[cw];split
  ·exact .inr ⟨_,rfl⟩
  ·exact abN L got r
theorem abo(l got sent:List GDesc)(self:UInt8)(room:Int)(hl:ok8 l)(hg:ok8 got)(hs:ok8 sent)(hv:Vw self l):Con2 Tryz.prog 353 [fzD l,fzD got,fzD sent,.v (.int .u8 self.toNat),.v (.int .i64 room)] (· =plR (fzD (cC got self room l sent got))):=by
 refine Con2.ofEmb ?_;have hl1:=hl.1;have hg1:=hg.1;have hs1:=hs.1;obtain⟨R,hR⟩: ∃R,cC got self room l sent got=R:=⟨_,rfl⟩;rw[hR];refine en_ Tryz.func353 [.tmp 10] ?_;refine g2_ ?_;refine cw_ (bh l hl.toDs) ?_;refine g2_ ?_;refine im_ Tryz.func390 [.tmp 4] ?_;refine g2_ ?_;refine gx_ ?_;refine gq (γ:=List GDesc×Nat) (ρ:=[(23,.d (.v (.int .i64 got.length))),(22,.d (fzD got)),(3,.d (.v (.int .u8 self.toNat))),(4,.d (.v (.int .i64 room))),(12,.d (.fn 402 [] [.pt 0 0,.pt 1 0,.pt 2 0]))]) got.length (fun g=>[(11,.d (fzD g.1))]) (fun _=>[]) (fun g=>[(2,.var 32 [fzD got]),(1,.var 32 [fzD sent]),(0,.var 3 [.v (.int .i64 (g.2:Nat))])]) 3 (fun k g=>cC got self room g.1 (sent.drop g.2) (got.drop k)=R/\Vw self g.1/\(∀x∈g.1,x.filter.length<=8)/\g.1.length<=1100000+k/\g.2<=sent.length) (l,0) (aa [(2,.to 2),(1,.to 1),(0,.to 0)] ?_) ⟨hR,hv,hl.2,by simp only[];omega,Nat.zero_le _⟩ (fun g k=>by first|rfl|(repeat first|simp-implicitDefEqProofs only[go_sem,ab]|with_reducible refine gl_ ?_)) (by omega) (fun g=>ws_) (fun k g hk hF=>?_) (fun g hF=>?_)
 ·refine gx_ ?_
  first|done|rfl|exact⟨rfl,rfl⟩
 ·obtain⟨L,a⟩:=g;obtain⟨hc,h1,h2,h3,h4⟩:=hF;simp only at hc h1 h2 h3 h4 ⊢;have hd8:=hg.2 _ (List.getElem_mem hk);have hgk:=aX (f:=af) hk;rw[List.drop_eq_getElem_cons hk]at hc;generalize got[k]=d at hd8 hgk hc;have hLo:aR L:=⟨by omega,fun x hx=>by have:=h2 x hx;omega⟩
  have kp:=jz L h1.2 d self room hLo (by omega)
  have kf:=fun nd=>xl L h1.2 nd (by omega)
  have kd: ∀nd:UInt8,Con2 Tryz.prog 117 [fzD L,.v (.int .u8 nd.toNat)] (· =plR (fzD (aD L nd))):=fun nd=>ep (qo L h1.2 nd hLo)
  simp only[af]at hgk;refine Vc2.sq (gf_ hgk ?_);refine Vc2.sq (g2_ ?_);refine cw_ kp (g2_ ?_);refine Vc2.sq (g2_ ?_);rw[cC]at hc;cases hP:(bH L d self room).2 with
  | true=>
   rw[if_pos hP]at hc;refine g2_ ?_;refine⟨((bH L d self room).1,a),aa [(2,.to 2),(1,.to 1),(0,.to 0)] ?_,hc,mG h1 d room,fun x hx=>?_,?_,h4⟩
   ·exact v0_
    first|done|rfl|exact⟨rfl,rfl⟩
   ·exact(put_mem x hx).elim (h2 x) (fun e=>e▸hd8)
   ·have:=hX (self:=self) (l:=L) d room;show(bH L d self room).1.length<=1100000+(k+1);omega
  |false=>
  rw[if_neg (by rw[hP];decide)]at hc
  refine g2_ ?_;refine Vc2.sq (g2_ ?_);rw[bt]
  by_cases c1:d.node=self
  ·rw[if_pos (.inl c1)]at hc;rw[decide_eq_true c1];refine g2_ ?_;refine⟨(L,a),aa [(2,.to 2),(1,.to 1),(0,.to 0)] ?_,hc,h1,h2,by simp only[];omega,h4⟩
   exact v0_
   first|done|rfl|exact⟨rfl,rfl⟩
  rw[decide_eq_false c1];refine g2_ ?_;rw[ga]
  by_cases c2:d.inc=0
  ·rw[if_pos (.inr (.inl c2))]at hc;rw[decide_eq_true c2];refine g2_ ?_;refine⟨(L,a),aa [(2,.to 2),(1,.to 1),(0,.to 0)] ?_,hc,h1,h2,by simp only[];omega,h4⟩
   exact v0_
   first|done|rfl|exact⟨rfl,rfl⟩
  rw[decide_eq_false c2];refine g2_ ?_;refine cw_ (kf d.node) (g2_ ?_);rw[jJ]
  by_cases c3:cd L d.node≠none
  ·rw[if_pos (.inr (.inr c3))]at hc;rw[decide_eq_true c3];refine g2_ ?_;refine⟨(L,a),aa [(2,.to 2),(1,.to 1),(0,.to 0)] ?_,hc,h1,h2,by simp only[];omega,h4⟩
   exact v0_
   first|done|rfl|exact⟨rfl,rfl⟩
  rw[decide_eq_false c3];rw[if_neg (fun h=>h.elim c1 fun h=>h.elim c2 c3)]at hc
  refine g2_ ?_
  refine Vc2.seqJ (γ:=Nat×List GDesc×Bool) (fun g=>⟨[(15,.d (fzD g.2.1)),(16,.d (.v (.bool g.2.2))),(14,.loc 14 0),(11,.d (fzD L)),(24,.d (.v (.int .i64 k))),(23,.d (.v (.int .i64 got.length))),(22,.d (fzD got)),(3,.d (.v (.int .u8 self.toNat))),(4,.d (.v (.int .i64 room))),(12,.d (.fn 402 [] [.pt 0 0,.pt 1 0,.pt 2 0]))],[(14,⟨af d,34⟩)],[(2,.var 32 [fzD got]),(1,.var 32 [fzD sent]),(0,.var 3 [.v (.int .i64 (g.1:Nat))])],3,0⟩)
   (fun g=>cw L got (sent.drop a)=(g.2.1,g.2.2,sent.drop g.1)/\g.1<=sent.length) ?_ (fun g hG=>?_)
  ·refine g2_ ?_;refine im_ Tryz.func402 [.tmp 5,.tmp 6] (g2_ ?_);refine g2_ ?_;refine vj (γ:=Nat) (fun b=>⟨[(0,.d (fzD L)),(1,.d (.pt 0 0)),(2,.d (.pt 1 0)),(3,.d (.pt 2 0))],[],[(2,.var 32 [fzD got]),(1,.var 32 [fzD sent]),(0,.var 3 [.v (.int .i64 (b:Nat))])],3,3⟩) (fun b=>cw L got (sent.drop b)=cw L got (sent.drop a)/\b<=sent.length) (fun b=>sent.length-b) a (aa [] ?_) ⟨rfl,h4⟩ (fun b hb=>?_)
   ·exact v0_
    first|done|rfl|exact⟨rfl,rfl⟩
   obtain⟨hb1,hb2⟩:=hb;refine gx_ ?_
   by_cases hbl:b<sent.length
   ·rw[decide_eq_true (show(b:Int)<(sent.length:Int)by omega)]
    have hsb:=aX (f:=af) hbl;rw[List.drop_eq_getElem_cons hbl,cw]at hb1;generalize sent[b]=o at hsb hb1;simp only[af]at hsb;have e1:(b:Int)+1=((b+1:Nat):Int):=by omega
    refine gg_ hsb e1 ?_;refine .inl ⟨[oF 0,oF 1,oF 2,oF 3,oF 4,oF 5,oF 6,oT 7,oF 8,oF 9,oF 10],by kernel_rfl,g2_ ?_⟩
    refine cw_ (kf o.node) (g2_ ?_);rw[jJ]
    by_cases q1:cd L o.node≠none
    ·rw[decide_eq_true q1];refine g2_ ?_;refine ce_ (alq o.node) (g2_ ?_);refine im_ Tryz.func403 [.tmp 4] (g2_ ?_);refine g2_ ?_;refine ixf got o.node (fzD got) ((3,.var 5 [.v (.int .u8 o.node.toNat)])::[(2,.var 32 [fzD got]),(1,.var 32 [fzD sent]),(0,.var 3 [.v (.int .i64 ((b+1):Nat))])]) 4 3 (by simp[fzD,lenD]) (fun k hk=>by have:=aX (f:=af) hk;repeat first|simp-implicitDefEqProofs only[go_sem,ab,this]|with_reducible refine gl_ ?_) rfl (by omega) ?_
     refine g2_ ?_;rw[aj6]
     by_cases q2:cd got o.node=none
     ·rw[decide_eq_false (fun h=>h q2)]
      rw[if_pos ⟨q1,q2⟩]at hb1;refine g2_ ?_;refine cw_ (kd o.node) (g2_ ?_);refine⟨(b+1,aD L o.node,true),aa [(2,.to 2),(1,.to 1),(0,.to 0)] ?_,hb1.symm,by omega⟩
      exact v0_
      first|done|rfl|exact⟨rfl,rfl⟩
     ·rw[decide_eq_true q2];rw[if_neg (fun h=>q2 h.2)]at hb1
      refine g2_ ?_;refine⟨b+1,aa [] ?_,⟨hb1,by omega⟩,by omega⟩
      exact v0_
      first|done|rfl|exact⟨rfl,rfl⟩
    ·rw[decide_eq_false q1];rw[if_neg (fun h=>q1 h.1)]at hb1
     refine g2_ ?_;refine⟨b+1,aa [] ?_,⟨hb1,by omega⟩,by omega⟩
     exact v0_
     first|done|rfl|exact⟨rfl,rfl⟩
   ·rw[decide_eq_false (show ¬(b:Int)<(sent.length:Int)by omega)]
    rw[List.drop_eq_nil_of_le (by omega),cw]at hb1
    refine g2_ ?_;refine⟨(b,L,false),aa [(2,.to 2),(1,.to 1),(0,.to 0)] ?_,?_,hb2⟩
    ·exact v0_
     first|done|rfl|exact⟨rfl,rfl⟩
    ·rw[<-hb1,List.drop_eq_nil_of_le (by omega)]
  obtain⟨a',L',ok⟩:=g;obtain⟨hG,ha'⟩:=hG;simp only at hG ha'⊢
  have hL':L'=L\/ ∃nd,L'=aD L nd:=by
   have:=abN L got (sent.drop a);rw[hG]at this;exact this
  have hV':Vw self L':=by
   rcases hL' with rfl|⟨nd,rfl⟩
   ·exact h1
   ·exact og h1 nd
  have hs': ∀x∈L',x∈L:=by
   rcases hL' with rfl|⟨nd,rfl⟩
   ·exact fun x h=>h
   ·exact fun x h=>(List.mem_filter.1 h).1
  have hl':L'.length<=L.length:=by
   rcases hL' with rfl|⟨nd,rfl⟩
   ·exact Nat.le_refl _
   ·exact List.length_filter_le _ _
  rw[hG]at hc;simp only at hc;have kq:=jz L' hV'.2 d self ((L'.length:Int)+1) ⟨by omega,fun x hx=>by have:=h2 x (hs' x hx);omega⟩ (by omega)
  refine Vc2.of ?_;refine g2_ ?_;cases ok with
  | true=>
   rw[if_pos rfl]at hc;refine gx_ ?_;refine cw_ kq (g2_ ?_);refine⟨((bH L' d self ((L'.length:Int)+1)).1,a'),aa [(2,.to 2),(1,.to 1),(0,.to 0)] ?_,hc,mG hV' d _,fun x hx=>?_,?_,ha'⟩
   ·exact v0_
    first|done|rfl|exact⟨rfl,rfl⟩
   ·exact(put_mem x hx).elim (fun h=>h2 x (hs' x h)) (fun e=>e▸hd8)
   ·have:=hX (self:=self) (l:=L') d ((L'.length:Int)+1);show(bH L' d self ((L'.length:Int)+1)).1.length<=1100000+(k+1);omega
  |false=>
   rw[if_neg (by decide)]at hc
   refine g2_ ?_;refine⟨(L,a'),aa [(2,.to 2),(1,.to 1),(0,.to 0)] ?_,hc,h1,h2,by simp only[];omega,ha'⟩
   exact v0_
   first|done|rfl|exact⟨rfl,rfl⟩
 ·obtain⟨L,a⟩:=g;obtain⟨hc,h1,h2,h3,h4⟩:=hF;simp only at hc h1 h2 h3 h4 ⊢;rw[List.drop_eq_nil_of_le (Nat.le_refl _)]at hc;have hc:L=R:=hc;subst hc;refine g2_ ?_;refine ae ?_ rfl;exact ws_
end Go.Proofs.YthoihfighiolmaaGreat.V
namespace Go.Proofs.YthoihfighiolmaaGreat.V
open Go.Eng
def fF:List (UInt8×Nat):=[(1,206),(2,207),(3,208),(4,209),(5,210),(6,211),(7,210),(8,212),(9,213)]
theorem za(u:World):Con Tryz.prog 112 [] u (fun r u'=> ∃id,r= .map (some id)/\MapIs u' kv8 id (mpE fF)):=by
 refine iM Ty.mixed Tryz.func112 rfl (by kernel_rfl) (by kernel_rfl) rfl [.tmp 0] rfl ?_
 refine vs_ ?_;refine ag4 (kv:=kv8) ?_;intro r u1 h1 hs1 hf1 hf2;refine vs_ ?_;refine map_set (k:=1) (fK Tryz.underlying5) Tryz.underlying173 h1 hf2 ?_;intro w1 g1 q1;refine vs_ ?_;refine map_set (k:=2) (fK Tryz.underlying5) Tryz.underlying173 g1 hf2 ?_;intro w2 g2 q2;refine vs_ ?_;refine map_set (k:=3) (fK Tryz.underlying5) Tryz.underlying173 g2 hf2 ?_;intro w3 g3 q3;refine vs_ ?_;refine map_set (k:=4) (fK Tryz.underlying5) Tryz.underlying173 g3 hf2 ?_;intro w4 g4 q4;refine vs_ ?_;refine map_set (k:=5) (fK Tryz.underlying5) Tryz.underlying173 g4 hf2 ?_;intro w5 g5 q5;refine vs_ ?_;refine map_set (k:=6) (fK Tryz.underlying5) Tryz.underlying173 g5 hf2 ?_;intro w6 g6 q6;refine vs_ ?_;refine map_set (k:=7) (fK Tryz.underlying5) Tryz.underlying173 g6 hf2 ?_;intro w7 g7 q7;refine vs_ ?_;refine map_set (k:=8) (fK Tryz.underlying5) Tryz.underlying173 g7 hf2 ?_;intro w8 g8 q8;refine vs_ ?_;refine map_set (k:=9) (fK Tryz.underlying5) Tryz.underlying173 g8 hf2 ?_;intro w9 g9 q9;refine vs_ ?_;have hS:Sub u w9:=(q9.sub (q8.sub (q7.sub (q6.sub (q5.sub (q4.sub (q3.sub (q2.sub (q1.sub hs1 hf1) hf1) hf1) hf1) hf1) hf1) hf1) hf1) hf1);exact⟨hS,r,rfl,g9⟩
theorem afi:akx Tryz.prog 173:=⟨5,171,Tryz.underlying173,Tryz.underlying5,fun w=>by kernel_rfl⟩
theorem adr:Con2 Tryz.prog 112 [] (· =plR (.mp fF)):=by
 rintro u vs rfl
 have h:=za u;refine⟨h.1,fun w hw=>(h.2 w hw).mono ?_⟩
 rintro e w' ⟨r,u',rfl,h3,h4,id,rfl,h5⟩
 exact⟨_,u',rfl,h3,h4,_,rfl,uy ⟨id,rfl,h5⟩ h4 (Sub.refl _)⟩
theorem q0_{p q:Prop}(k:q)(e:Lf2 q->p:=by intro k;refine .inl ⟨[oF 1,oF 2,oT 0,oF 3,oF 4,oF 5,oF 6,oF 7,oF 8],by kernel_rfl,g2_ ?_⟩;refine cw_ adr (g2_ ?_);exact⟨afi,_,rfl,k.out⟩):p:=e ⟨k⟩
end Go.Proofs.YthoihfighiolmaaGreat.V
namespace Go.Eng
def fq(inc:UInt16)(m:an):an:=if m.inc<inc then ⟨inc,3,0⟩else if inc=m.inc/\0<inc then { m with state:=3 }else m
def eA(l:List an)(i:UInt8)(inc:UInt16):List an:=l.modify i.toNat (fq inc)
end Go.Eng
namespace Go.Proofs.YthoihfighiolmaaGreat.V
open Go.Eng
attribute [local go_sem] aP af fzD plR bb a_ aE bj aC ak bk cR z8 z16 z32 z64 encMg
theorem acU(l:List an)(i:UInt8)(inc:UInt16)(hl:l.length<=4000000):Con2 Tryz.prog 311 [.fz 3 (l.map aE),.v (.int .u8 i.toNat),.v (.int .u16 inc.toNat)] (· =plR (.fz 3 ((eA l i inc).map aE))):=by
 refine Con2.ofEmb ?_;have hi:=i.toNat_lt;refine en_ Tryz.func311 [.tmp 6] (g2_ ?_);refine g2_ ?_;refine im_ Tryz.func231 [.tmp 6] (g2_ ?_);refine g2_ ?_;refine ce_ (fS (l.map aE) (by rw[List.length_map];omega)) (gx_ ?_)
 by_cases h1:i.toNat<l.length
 ·have e1:decide ((i.toNat:Int)<(l.length:Int))=true:=decide_eq_true (by omega)
  rw[e1];refine gf_ (mE_ h1) ?_;refine im_ Tryz.func354 [.cell 3 111] (g2_ ?_);refine g2_ ?_;have e2:eA l i inc=l.set i.toNat (fq inc l[i.toNat]):=by rw[eA,gU _ _ h1]
  rw[e2];generalize l[i.toNat]=m
  by_cases hD:(m.inc.toNat:Int)<(inc.toNat:Int)
  ·rw[decide_eq_true hD];have hD2:m.inc<inc:=by rw[UInt16.lt_iff_toNat_lt];omega
   refine gf_ (mE_ h1) ?_;refine ae ?_ rfl;have e3:fq inc m=⟨inc,3,0⟩:=if_pos hD2
   repeat first|simp-implicitDefEqProofs only[go_sem,ab,e3,List.map_set,List.length_map,List.length_set,List.take_of_length_le (Nat.le_refl _)]|with_reducible refine gl_ ?_
   rw[List.take_of_length_le (by simp)]
  ·rw[decide_eq_false hD];have hD2: ¬m.inc<inc:=by rw[UInt16.lt_iff_toNat_lt];omega
   refine g2_ ?_;rw[d4]
   by_cases hA:inc=m.inc
   ·rw[decide_eq_true hA];refine g2_ ?_
    by_cases hB:(0:Int)<(inc.toNat:Int)
    ·have hB2:0<inc:=by rw[UInt16.lt_iff_toNat_lt];have:(0:UInt16).toNat=0:=rfl;omega
     rw[decide_eq_true hB];refine gf_ (mE_ h1) ?_;refine ae ?_ rfl;have e3:fq inc m={ m with state:=3 }:=by rw[fq,if_neg hD2,if_pos ⟨hA,hB2⟩]
     repeat first|simp-implicitDefEqProofs only[go_sem,ab,e3,List.map_set,List.length_map,List.length_set,List.take_of_length_le (Nat.le_refl _)]|with_reducible refine gl_ ?_
     rw[List.take_of_length_le (by simp)]
    ·have hB2: ¬0<inc:=by rw[UInt16.lt_iff_toNat_lt];have:(0:UInt16).toNat=0:=rfl;omega
     rw[decide_eq_false hB];refine gf_ (mE_ h1) ?_;refine ae ?_ rfl;have e3:fq inc m=m:=by rw[fq,if_neg hD2,if_neg (by simp[hB2])]
     repeat first|simp-implicitDefEqProofs only[go_sem,ab,e3,List.map_set,List.length_map,List.length_set,List.take_of_length_le (Nat.le_refl _)]|with_reducible refine gl_ ?_
     rw[List.take_of_length_le (by simp)]
   ·rw[decide_eq_false hA];refine gf_ (mE_ h1) ?_;refine ae ?_ rfl;have e3:fq inc m=m:=by rw[fq,if_neg hD2,if_neg (by simp[hA])]
    repeat first|simp-implicitDefEqProofs only[go_sem,ab,e3,List.map_set,List.length_map,List.length_set,List.take_of_length_le (Nat.le_refl _)]|with_reducible refine gl_ ?_
    rw[List.take_of_length_le (by simp)]
 ·have e1:decide ((i.toNat:Int)<(l.length:Int))=false:=decide_eq_false (by omega)
  have e2:eA l i inc=l:=by rw[eA,List.modify_eq_self (by omega)]
  rw[e1,e2];refine g2_ ?_;refine ae ?_ rfl
  repeat first|simp-implicitDefEqProofs only[go_sem,ab,List.length_map,List.take_of_length_le (Nat.le_refl _),aF]|with_reducible refine gl_ ?_
end Go.Proofs.YthoihfighiolmaaGreat.V
namespace Go.Eng
def cF(l:List GDesc)(d:GDesc):Nat:=(l.takeWhile fun x=>decide (x.node<d.node)).length
def bE(l:List GDesc)(d:GDesc):List GDesc:=l.take (cF l d)++d::l.drop (cF l d)
theorem aiA{l:List GDesc}{d:GDesc}{i:Nat}(hi:i<=l.length)(h1: ∀j x,j<i->l[j]? =some x->x.node<d.node)(h2: ∀x,l[i]? =some x-> ¬x.node<d.node):cF l d=i:=by
 unfold cF
 induction l generalizing i with
 |nil=>simp at hi;subst hi;rfl
 | cons y r ih=>
  cases i with
  |zero=>
   have:=h2 y rfl;simp[List.takeWhile_cons,this]
  |succ i=>
   have h:=h1 0 y (by omega) rfl
   simp only[List.takeWhile_cons,h,decide_true,if_true,List.length_cons];rw[ih (i:=i) (by simpa using hi) (fun j x hj hx=>h1 (j+1) x (by omega) (by simpa using hx)) (fun x hx=>h2 x (by simpa using hx))]
end Go.Eng
namespace Go.Proofs.YthoihfighiolmaaGreat.V
open Go.Eng
attribute [local go_sem] aP af fzD plR bb a_ aE bj aC ak bk cR z8 z16 z32 z64 encMg
theorem mm(l:List GDesc)(d:GDesc)(hl:aR l)(hd:d.filter.length<=4000000):Con2 Tryz.prog 220 [fzD l,.agg (af d)] (· =plR (fzD (bE l d))):=by
 refine Con2.ofEmb ?_;have hb:=hl.1;refine en_ Tryz.func220 [.tmp 4] (g2_ ?_);refine g2_ ?_;refine ce_ (gy l hl) (gx_ ?_);refine av (γ:=Nat) (fun i=>[(5,.d (.v (.int .i64 (i:Nat))))]) (fun _=>[]) (fun i=>[(0,.arr 34 4 (l.map af) false)]) 1 (fun i=>i<=l.length/\ ∀j x,j<i->l[j]? =some x->x.node<d.node) (fun i=>l.length-i) 0 (aa [] ?_) ⟨by omega,fun j x h=>by omega⟩ (fun i hi=>?_)
 ·refine g2_ ?_
  first|rfl|exact⟨rfl,rfl⟩|trace_state
 obtain⟨hi1,hi2⟩:=hi
 have fin: ∀(hx: ∀x,l[i]? =some x-> ¬x.node<d.node),l.take i++d::l.drop i=bE l d:=fun hx=>by
  rw[bE,aiA hi1 hi2 hx]
 have hM:List.take i (l.map af)++[af d]++List.drop i (l.map af)=(l.take i++d::l.drop i).map af:=by simp[List.map_take,List.map_drop]
 have hN:(l.take i++d::l.drop i).length=l.length+1:=by simp;omega
 simp only[af]at hM;refine g2_ ?_;refine .inl ⟨[oF 0,oF 1,oF 2,oF 3,oF 4,oF 5,oF 6,oF 10,oF 7,oF 11,oF 8,oF 9,oF 12,oF 13],by kernel_rfl,g2_ ?_⟩
 by_cases h:i<l.length
 ·rw[decide_eq_true (show(i:Int)<(l.length:Int)by omega)]
  have hg:=List.getElem?_eq_getElem h;refine gf_ (mE_ h) ?_
  by_cases h2:(l[i].node.toNat:Int)<(d.node.toNat:Int)
  ·rw[decide_eq_true h2];refine g2_ ?_;refine⟨i+1,aa [] (by simp-implicitDefEqProofs only[go_sem,ab];rfl),⟨by omega,?_⟩,by omega⟩
   intro j x hj hx
   by_cases e:j=i
   ·subst e;rw[hg]at hx;cases hx;exact(dH _ _).1 h2
   ·exact hi2 j x (by omega) hx
  ·have hf:=fin fun x hx=>by rw[hg]at hx;cases hx;exact fun h3=>h2 ((dH _ _).2 h3)
   rw[decide_eq_false h2, <-hf];refine g2_ ?_;refine CallS.ins jm i_ (l:=l.map af) (x:=af d) rfl rfl (by decide) (by simp) (by simpa using hi1) (by simp;omega) ?_
   refine gx_ ?_;refine ae ?_ rfl;refine gx_ ?_;rw[hM]
   repeat first|simp-implicitDefEqProofs only[go_sem,ab,hN,List.length_map,List.take_of_length_le (Nat.le_refl _)]|with_reducible refine gl_ ?_
   exact(List.take_of_length_le (by rw[List.length_map,hN];omega)).symm
 ·have hf:=fin fun x hx=>by rw[List.getElem?_eq_none (by omega)]at hx;cases hx
  rw[decide_eq_false (show ¬(i:Int)<(l.length:Int)by omega), <-hf]
  refine g2_ ?_;refine CallS.ins jm i_ (l:=l.map af) (x:=af d) rfl rfl (by decide) (by simp) (by simpa using hi1) (by simp;omega) ?_
  refine gx_ ?_;refine ae ?_ rfl;refine gx_ ?_;rw[hM]
  repeat first|simp-implicitDefEqProofs only[go_sem,ab,hN,List.length_map,List.take_of_length_le (Nat.le_refl _)]|with_reducible refine gl_ ?_
  exact(List.take_of_length_le (by rw[List.length_map,hN];omega)).symm
end Go.Proofs.YthoihfighiolmaaGreat.V
namespace Go.Eng
def dd(s p:GDesc):List GDesc:=
 if s.node<p.node then [s,p]else if p.node<s.node then [p,s]else if s.inc<p.inc\/(p.inc=s.inc/\p.age<s.age)then [p]else [s]
def aw(r:b9):List GDesc:=if r.hs=true/\r.hp=true then dd r.succ r.pred else if r.hs=true then [r.succ]else if r.hp=true then [r.pred]else []
theorem fX{a:Int}{K:Value->Prop}(h:0<=a/\a<=18446744073709551615)(hk:K (.int .u64 a)):bq .u64 a K:=by rw[mz h];exact hk
theorem j0{l:List GDesc}(h1:l.length<=4000000)(h2: ∀d∈l,d.filter.length<=4000000):aR l:=⟨h1,h2⟩
end Go.Eng
namespace Go.Proofs.YthoihfighiolmaaGreat.V
open Go.Eng
attribute [local go_sem] aP af fzD plR bb a_ aE bj aC ak bk cR z8 z16 z32 z64 encMg aH
theorem agX(s p:GDesc)(hs:s.filter.length<=4000000)(hp:p.filter.length<=4000000):Con2 Tryz.prog 154 [.agg (af s),.agg (af p)] (· =plR (fzD (dd s p))):=by
 refine Con2.ofEmb ?_;have c1:=bh [s,p] (j0 (by simp) (by simp[hs,hp]))
 have c2:=bh [p,s] (j0 (by simp) (by simp[hs,hp]))
 have c3:=bh [p] (j0 (by simp) (by simp[hp]))
 have c4:=bh [s] (j0 (by simp) (by simp[hs]))
 refine en_ Tryz.func154 [.tmp 4] (g2_ ?_);refine g2_ ?_
 by_cases h1:(s.node.toNat:Int)<(p.node.toNat:Int)
 ·have e:dd s p=[s,p]:=if_pos ((dH _ _).1 h1);rw[e,decide_eq_true h1];refine g2_ ?_;refine CallS.eq c1 wx_ (.inl ws_) ?_;refine g2_ ?_;refine ae ?_ rfl;exact ws_
 have h1': ¬s.node<p.node:=fun h=>h1 ((dH _ _).2 h)
 rw[decide_eq_false h1];refine g2_ ?_
 by_cases h2:(p.node.toNat:Int)<(s.node.toNat:Int)
 ·have e:dd s p=[p,s]:=by rw[dd,if_neg h1',if_pos ((dH _ _).1 h2)]
  rw[e,decide_eq_true h2];refine g2_ ?_;refine CallS.eq c2 wx_ (.inl ws_) ?_;refine g2_ ?_;refine ae ?_ rfl;exact ws_
 have h2': ¬p.node<s.node:=fun h=>h2 ((dH _ _).2 h)
 rw[decide_eq_false h2];refine g2_ ?_
 by_cases h3:(s.inc.toNat:Int)<(p.inc.toNat:Int)
 ·have e:dd s p=[p]:=by rw[dd,if_neg h1',if_neg h2',if_pos (.inl ((cZ _ _).1 h3))]
  rw[e,decide_eq_true h3];refine g2_ ?_;refine CallS.eq c3 wx_ (.inl ws_) ?_;refine g2_ ?_;refine ae ?_ rfl;exact ws_
 have h3': ¬s.inc<p.inc:=fun h=>h3 ((cZ _ _).2 h)
 rw[decide_eq_false h3];refine g2_ ?_;rw[d4]
 by_cases h4:p.inc=s.inc
 ·rw[decide_eq_true h4];refine g2_ ?_
  by_cases h5:(p.age.toNat:Int)<(s.age.toNat:Int)
  ·have e:dd s p=[p]:=by rw[dd,if_neg h1',if_neg h2',if_pos (.inr ⟨h4,(dH _ _).1 h5⟩)]
   rw[e,decide_eq_true h5];refine g2_ ?_;refine CallS.eq c3 wx_ (.inl ws_) ?_;refine g2_ ?_;refine ae ?_ rfl;exact ws_
  ·have h5': ¬p.age<s.age:=fun h=>h5 ((dH _ _).2 h)
   have e:dd s p=[s]:=by rw[dd,if_neg h1',if_neg h2',if_neg (by simp[h3',h5'])]
   rw[e,decide_eq_false h5];refine g2_ ?_;refine CallS.eq c4 wx_ (.inl ws_) ?_;refine g2_ ?_;refine ae ?_ rfl;exact ws_
 ·have e:dd s p=[s]:=by rw[dd,if_neg h1',if_neg h2',if_neg (by simp[h3',h4])]
  rw[e,decide_eq_false h4];refine g2_ ?_;refine CallS.eq c4 wx_ (.inl ws_) ?_;refine g2_ ?_;refine ae ?_ rfl;exact ws_
theorem j7(r:b9)(hs:r.succ.filter.length<=4000000)(hp:r.pred.filter.length<=4000000):Con2 Tryz.prog 78 [.agg (aH r)] (· =plR (fzD (aw r))):=by
 refine Con2.ofEmb ?_;have c1:=agX r.succ r.pred hs hp;have c3:=bh [r.pred] (j0 (by simp) (by simp[hp]))
 have c4:=bh [r.succ] (j0 (by simp) (by simp[hs]))
 obtain⟨a,b,s,p⟩:=r;simp only at c1 c3 c4;refine en_ Tryz.func78 [.tmp 2] (g2_ ?_);refine g2_ ?_;cases a with
 | true=>
  cases b with
  |true=>
   have e:aw ⟨true,true,s,p⟩=dd s p:=by simp[aw]
   rw[e];refine g2_ ?_;refine CallS.eq c1 wx_ (.inl ws_) ?_;refine g2_ ?_;refine ae ?_ rfl;exact ws_
  |false=>
   have e:aw ⟨true,false,s,p⟩=[s]:=by simp[aw]
   rw[e];refine g2_ ?_;refine CallS.eq c4 wx_ (.inl ws_) ?_;refine g2_ ?_;refine ae ?_ rfl;exact ws_
 | false=>
  cases b with
  |true=>
   have e:aw ⟨false,true,s,p⟩=[p]:=by simp[aw]
   rw[e];refine g2_ ?_;refine CallS.eq c3 wx_ (.inl ws_) ?_;refine g2_ ?_;refine ae ?_ rfl;exact ws_
  |false=>
   have e:aw ⟨false,false,s,p⟩=[]:=by simp[aw]
   rw[e];refine g2_ ?_;refine ae ?_ rfl;exact wx_
theorem yg(a b:GDesc):Con2 Tryz.prog 332 [.agg (af a),.agg (af b)] (· =plR (.v (.bool (cK a b)))):=by
 refine en_ Tryz.func332 [.tmp 4] ?_;refine g2_ ?_;rw[jL]
 by_cases h:a.inc=b.inc
 ·rw[decide_eq_true h];refine g2_ ?_;exact⟨_,rfl,aa [] (by simp-implicitDefEqProofs only[go_sem,ab,cK,h,dH,if_true])⟩
 ·rw[decide_eq_false h];refine g2_ ?_;exact⟨_,rfl,aa [] (by simp-implicitDefEqProofs only[go_sem,ab,cK,h,cZ,if_false])⟩
theorem ah2(s:GSpan)(hs:okS s):Con2 Tryz.prog 334 [.agg (aP s)] (· =plR (.v (.int .u32 (sLen s)))):=by
 obtain⟨h1,h2,h3,h4⟩:=hs;refine en_ Tryz.func334 [.tmp 2] (g2_ ?_);refine g2_ ?_;refine ce_ (lx s) (g2_ ?_);refine ce_ gX (gf_ @mT ?_);cases h:cY s with
 |true=>
  have e:sLen s=0:=if_pos (by simpa[cY]using h)
  rw[e];refine g2_ ?_;exact⟨_,rfl,aa [] (by simp-implicitDefEqProofs only[go_sem,ab];rfl)⟩
 |false=>
  have hn: ¬s.b<s.a:=by simpa[cY]using h
  have e:(sLen s:Int)=min (s.b-s.a+1) 4294967295:=by rw[sLen,if_neg hn];omega
  refine g2_ ?_;rw[show(if (4294967295:Int)<s.b-s.a+1 then (4294967295:Int)else s.b-s.a+1)=(sLen s:Int)by rw[e];split<;>omega]
  refine kU (by omega) ?_
  refine g2_ ?_;exact⟨_,rfl,aa [] ws_⟩
def ovK(l:List GSpan)(k:Nat):Nat:=(l.take k).foldl (fun a s=>min (a*sLen s) 4294967295) 1
def dP(f g:List GSpan):Nat:=if bV f g=[]then 0 else ovK (bV f g) (bV f g).length
theorem vS{l:List GSpan}{k:Nat}(h:k<l.length):ovK l (k+1)=min (ovK l k*sLen l[k]) 4294967295:=by
 rw[ovK,List.take_add_one,List.getElem?_eq_getElem h,List.foldl_append];rfl
theorem uT{l:List GSpan}{k:Nat}:ovK l k<=4294967295:=by
 rw[ovK];generalize hL:(l.take k).reverse=L;have:l.take k=L.reverse:=by rw[<-hL,List.reverse_reverse]
 rw[this];cases L with
 |nil=>decide
 |cons x r=>rw[List.reverse_cons,List.foldl_append];exact Nat.min_le_right _ _
theorem abv(s:GSpan):sLen s<=4294967295:=by
 unfold sLen;split
 ·omega
 ·exact Nat.min_le_right _ _
theorem aj_(f g:List GSpan)(n1:f.length<=1000000000)(n2:g.length<=1000000000)(hf: ∀s∈f,okS s)(hg: ∀s∈g,okS s):Con2 Tryz.prog 274 [fzS f,fzS g] (· =plR (.v (.int .u32 (dP f g)))):=by
 have hm:=o6 f g n1 n2;have hl:=m_ f g
 have hok: ∀s∈bV f g,okS s:=by
  intro s hs;unfold bV at hs;split at hs
  ·obtain⟨x,hx,rfl⟩:=List.mem_map.1 hs;exact qn (hf _ (List.of_mem_zip hx).1) (hg _ (List.of_mem_zip hx).2)
  ·cases hs
 unfold dP;generalize bV f g=m at hm hl hok;refine en_ Tryz.func274 [.tmp 4] (g2_ ?_);refine g2_ ?_;refine ce_ hm (g2_ ?_);refine fO (fun h=>?_) (fun h=>?_)
 ·have e:m=[]:=List.eq_nil_of_length_eq_zero (by omega)
  rw[if_pos e];refine g2_ ?_;exact⟨_,rfl,aa [] (by simp-implicitDefEqProofs only[go_sem,ab];rfl)⟩
 ·have e: ¬m=[]:=fun e=>h (by rw[e];rfl)
  rw[if_neg e];refine g2_ ?_;refine ay m.length (fun k=>[]) (fun _=>[]) (fun k=>[(0,.var 102 [.v (.int .u64 (ovK m k))])]) 1 (fun _=>True) (aa [] ?_) trivial (fun g k=>ws_) (by omega) (fun g=>ws_) (fun k hk _=>?_) (fun _=>?_)
  ·refine x1_ (c2_ @ovK.eq_1 @List.foldl_nil.{0,0}) ?_
   first|rfl|exact⟨rfl,rfl⟩
  ·have hs:=ah2 m[k] (hok _ (List.getElem_mem hk));have hsu:=vS hk;have b1:=uT (l:=m) (k:=k);have b2:=abv m[k];refine gf_ (mE_ hk) ?_;refine ce_ hs (g2_ ?_);refine im_ Tryz.func333 [] (g2_ ?_);refine g2_ ?_;have hb:ovK m k*sLen m[k]<=4294967295*4294967295:=Nat.mul_le_mul b1 b2;refine fX (by omega) ?_
   refine g2_ ?_;rw[show(ovK m k:Int)*(sLen m[k]:Int)=((ovK m k*sLen m[k]:Nat):Int)by simp]
   generalize ovK m k*sLen m[k]=q at hsu hb;refine fX (by omega) ?_
   refine g2_ ?_;rw[show(if (4294967295:Int)<(q:Int)then (4294967295:Int)else (q:Int))=((min q 4294967295:Nat):Int)by split<;>omega, <-hsu]
   refine⟨k+1,aa [(0,.to 0)] ?_,rfl⟩;exact ws_
  ·have b1:=uT (l:=m) (k:=m.length);refine g2_ ?_;refine kU (by omega) ?_
   refine g2_ ?_;exact⟨_,rfl,aa [] ws_⟩
end Go.Proofs.YthoihfighiolmaaGreat.V
namespace Go.Eng
def fQ(c:ar)(p:ah):ah:={ bM c p.node with inc:=p.inc }
end Go.Eng
namespace Go.Proofs.YthoihfighiolmaaGreat.V
open Go.Eng
attribute [local go_sem] aP af fzD plR bb a_ aE bj aC ak bk cR z8 z16 z32 z64 encMg aH
theorem sX(c:ar)(p:ah):Con2 Tryz.prog 55 [.agg (aC c),.agg (ak p)] (· =plR (.agg (ak (fQ c p)))):=by
 refine Con2.ofEmb ?_;have hn:=pC c p.node;unfold fQ;generalize bM c p.node=q at hn;refine en_ Tryz.func55 [.cell 4 49] (g2_ ?_);refine g2_ ?_;refine ce_ hn (g2_ ?_);refine ae ?_ rfl;exact ws_
theorem re(c:ar)(p:ah)(m:bo)(dr:List UInt32)(hp:okP p)(hu:p.up=false):Con2 Tryz.prog 44 [.agg (aC c),.agg (ak p),.agg (encMg m),.fz 1 (dr.map aZ)] (· =plR (.tup [.agg (ak p),.fz 17 []])):=by
 refine Con2.ofEmb ?_;have hf:=bn p hp;refine en_ Tryz.func44 [.cell 8 49,.tmp 9] (g2_ ?_);refine g2_ ?_;refine ce_ hf (g2_ ?_);rw[hu];refine g2_ ?_;refine ae ?_ rfl;exact wf_ hu
theorem acT(c:ar)(p:ah)(dr:List UInt32)(hp:okP p)(hu:p.up=false):Con2 Tryz.prog 45 [.agg (aC c),.agg (ak p),.fz 1 (dr.map aZ)] (· =plR (.tup [.agg (ak p),.fz 17 []])):=by
 refine Con2.ofEmb ?_;have hf:=bn p hp;refine en_ Tryz.func45 [.cell 6 49,.tmp 7] (g2_ ?_);refine g2_ ?_;refine ce_ hf (g2_ ?_);rw[hu];refine g2_ ?_;refine ae ?_ rfl;exact wf_ hu
theorem acX(c:ar)(p:ah)(f:List GSpan)(hp:okP p)(hu:p.up=false):Con2 Tryz.prog 34 [.agg (aC c),.agg (ak p),fzS f] (· =plR (.tup [.agg (ak p),.v (.int .i64 53)])):=by
 refine Con2.ofEmb ?_;have hf:=bn p hp;refine en_ Tryz.func34 [.cell 6 49,.tmp 7] (g2_ ?_);refine g2_ ?_;refine ce_ hf (g2_ ?_);rw[hu];refine g2_ ?_;refine ae ?_ rfl;exact wf_ hu
theorem aaX(c:ar)(p:ah)(hp:okP p)(hu:p.up=false):Con2 Tryz.prog 56 [.agg (aC c),.agg (ak p)] (· =plR (.tup [.agg (ak p),.fz 17 [],.v (.int .i64 53)])):=by
 refine Con2.ofEmb ?_;have hf:=bn p hp;refine en_ Tryz.func56 [.cell 4 49,.tmp 5,.tmp 6] (g2_ ?_);refine g2_ ?_;rw[hu];refine g2_ ?_;refine CallS.eq hf (wf_ hu) (.inl ws_) ?_;refine g2_ ?_;refine ae ?_ rfl;exact wf_ hu
attribute[local go_sem] dE
end Go.Proofs.YthoihfighiolmaaGreat.V
namespace Go.Proofs.YthoihfighiolmaaGreat.Ty
open Go.Eng
theorem zb:Tryz.prog.eqGuardType Tryz.prog.depth 111=false:=by kernel_rfl
theorem af0(a0 a1 a2 b0 b1 b2:Int)(w:World):(binOp .neq 111 (.agg #[.int .u16 a0,.int .u8 a1,.int .u8 a2]) (.agg #[.int .u16 b0,.int .u8 b1,.int .u8 b2])).run Tryz.prog w= .ok (.bool (!(a0==b0&&(a1==b1&&(a2==b2))))) w:=by
 go_simp
 by_cases h0:a0=b0<;>by_cases h1:a1=b1<;>by_cases h2:a2=b2<;>simp[*]
@[go_sem] theorem anV{a0 a1 a2 b0 b1 b2:Int}{y z:Operand}{K:Value->Prop}:AtPure Tryz.prog (bm .neq 111 y z (.agg #[.int .u16 a0,.int .u8 a1,.int .u8 a2]) (.agg #[.int .u16 b0,.int .u8 b1,.int .u8 b2])) K=K (.bool (!(a0==b0&&(a1==b1&&(a2==b2))))):=
 aA fun w=>by simp only[bm,eqGuard,Sem.run_bind,Sem.run_pure,Result.andThen_ok,Bool.not_true,Bool.false_eq_true,if_false,run_program,zb,Bool.not_false,if_true,af0]
theorem sj:Tryz.prog.eqGuardType Tryz.prog.depth 57=false:=by kernel_rfl
theorem ajw(a0 a1 a2 b0 b1 b2:Int)(w:World):(binOp .eql 57 (.agg #[.int .u8 a0,.int .u16 a1,.int .u32 a2]) (.agg #[.int .u8 b0,.int .u16 b1,.int .u32 b2])).run Tryz.prog w= .ok (.bool (a0==b0&&(a1==b1&&(a2==b2)))) w:=by
 go_simp
 by_cases h0:a0=b0<;>by_cases h1:a1=b1<;>by_cases h2:a2=b2<;>simp[*]
theorem ajk(a0 a1 a2 b0 b1 b2:Int)(w:World):(binOp .neq 57 (.agg #[.int .u8 a0,.int .u16 a1,.int .u32 a2]) (.agg #[.int .u8 b0,.int .u16 b1,.int .u32 b2])).run Tryz.prog w= .ok (.bool (!(a0==b0&&(a1==b1&&(a2==b2))))) w:=by
 go_simp
 by_cases h0:a0=b0<;>by_cases h1:a1=b1<;>by_cases h2:a2=b2<;>simp[*]
@[go_sem] theorem an1{a0 a1 a2 b0 b1 b2:Int}{y z:Operand}{K:Value->Prop}:AtPure Tryz.prog (bm .eql 57 y z (.agg #[.int .u8 a0,.int .u16 a1,.int .u32 a2]) (.agg #[.int .u8 b0,.int .u16 b1,.int .u32 b2])) K=K (.bool (a0==b0&&(a1==b1&&(a2==b2)))):=
 aA fun w=>by simp only[bm,eqGuard,Sem.run_bind,Sem.run_pure,Result.andThen_ok,Bool.not_true,Bool.false_eq_true,if_false,run_program,sj,Bool.not_false,if_true,ajw]
@[go_sem] theorem an3{a0 a1 a2 b0 b1 b2:Int}{y z:Operand}{K:Value->Prop}:AtPure Tryz.prog (bm .neq 57 y z (.agg #[.int .u8 a0,.int .u16 a1,.int .u32 a2]) (.agg #[.int .u8 b0,.int .u16 b1,.int .u32 b2])) K=K (.bool (!(a0==b0&&(a1==b1&&(a2==b2))))):=
 aA fun w=>by simp only[bm,eqGuard,Sem.run_bind,Sem.run_pure,Result.andThen_ok,Bool.not_true,Bool.false_eq_true,if_false,run_program,sj,Bool.not_false,if_true,ajk]
theorem acC:Tryz.prog.eqGuardType Tryz.prog.depth 104=false:=by kernel_rfl
theorem aiM(a0 a1 a2 b0 b1 b2:Int)(w:World):(binOp .neq 104 (.agg #[.int .u16 a0,.int .u32 a1,.int .u64 a2]) (.agg #[.int .u16 b0,.int .u32 b1,.int .u64 b2])).run Tryz.prog w= .ok (.bool (!(a0==b0&&(a1==b1&&(a2==b2))))) w:=by
 go_simp
 by_cases h0:a0=b0<;>by_cases h1:a1=b1<;>by_cases h2:a2=b2<;>simp[*]
@[go_sem] theorem an5{a0 a1 a2 b0 b1 b2:Int}{y z:Operand}{K:Value->Prop}:AtPure Tryz.prog (bm .neq 104 y z (.agg #[.int .u16 a0,.int .u32 a1,.int .u64 a2]) (.agg #[.int .u16 b0,.int .u32 b1,.int .u64 b2])) K=K (.bool (!(a0==b0&&(a1==b1&&(a2==b2))))):=
 aA fun w=>by simp only[bm,eqGuard,Sem.run_bind,Sem.run_pure,Result.andThen_ok,Bool.not_true,Bool.false_eq_true,if_false,run_program,acC,Bool.not_false,if_true,aiM]
end Go.Proofs.YthoihfighiolmaaGreat.Ty
namespace Go.Proofs.YthoihfighiolmaaGreat.V
open Go.Eng
attribute [local go_sem] aP af fzD plR bb a_ aE bj aC ak bk cR z8 z16 z32 z64 encMg aH dE
theorem lD(l:List an)(hl:l.length<=9223372036854775807):Con2 Tryz.prog 69 [.fz 3 (l.map aE),.fz 3 (l.map aE)] (· =plR (.v (.bool true))):=by
 refine en_ Tryz.func69 [.tmp 4] ?_;refine g2_ ?_;refine cu (fun h=>(h rfl).elim) (fun h=>?_)
 refine g2_ ?_;refine ay l.length (fun k=>[]) (fun _=>[]) (fun k=>[]) 0 (fun k=>True) (aa [] ?_) trivial (fun g k=>ws_) (by omega) (fun g=>ws_) (fun k hk hF=>?_) (fun hF=>?_)
 ·refine g2_ ?_
  first|rfl|exact⟨rfl,rfl⟩
 ·refine g2_ ?_;refine .inl ⟨[oF 0,oF 1,oF 4,oF 5,oF 2,oF 6,oF 3,oF 7,oF 8],by kernel_rfl,?_⟩
  repeat first|simp-implicitDefEqProofs only[go_sem,ab,aX hk,beq_self_eq_true,bne_self_eq_false,Bool.and_self,Bool.not_true,bne]|with_reducible first|refine gl_ ?_|refine ga_ ?_|refine gn_ ?_
  exact⟨k+1,aa [] ws_,rfl⟩
 ·refine g2_ ?_;exact⟨_,rfl,aa [] ws_⟩
theorem k_(l:List cO)(hl:l.length<=9223372036854775807):Con2 Tryz.prog 71 [.fz 3 (l.map a_),.fz 3 (l.map a_)] (· =plR (.v (.bool true))):=by
 refine en_ Tryz.func71 [.tmp 4] ?_;refine g2_ ?_;refine cu (fun h=>(h rfl).elim) (fun h=>?_)
 refine g2_ ?_;refine ay l.length (fun k=>[]) (fun _=>[]) (fun k=>[]) 0 (fun k=>True) (aa [] ?_) trivial (fun g k=>ws_) (by omega) (fun g=>ws_) (fun k hk hF=>?_) (fun hF=>?_)
 ·refine g2_ ?_
  first|rfl|exact⟨rfl,rfl⟩
 ·refine g2_ ?_;refine .inl ⟨[oF 0,oF 1,oF 4,oF 5,oF 2,oF 6,oF 3,oF 7,oF 8],by kernel_rfl,?_⟩
  repeat first|simp-implicitDefEqProofs only[go_sem,ab,aX hk,beq_self_eq_true,bne_self_eq_false,Bool.and_self,Bool.not_true,bne]|with_reducible first|refine gl_ ?_|refine ga_ ?_|refine gn_ ?_
  exact⟨k+1,aa [] ws_,rfl⟩
 ·refine g2_ ?_;exact⟨_,rfl,aa [] ws_⟩
theorem ab7(l:List Int)(hl:l.length<=9223372036854775807):Con2 Tryz.prog 145 [.fz 1 (l.map dE),.fz 1 (l.map dE)] (· =plR (.v (.bool true))):=by
 refine en_ Tryz.func145 [.tmp 4] ?_;refine g2_ ?_;refine cu (fun h=>(h rfl).elim) (fun h=>?_)
 refine g2_ ?_;refine ay l.length (fun k=>[]) (fun _=>[]) (fun k=>[]) 0 (fun k=>True) (aa [] ?_) trivial (fun g k=>ws_) (by omega) (fun g=>ws_) (fun k hk hF=>?_) (fun hF=>?_)
 ·refine g2_ ?_
  first|rfl|exact⟨rfl,rfl⟩
 ·refine g2_ ?_;refine .inl ⟨[oF 0,oF 1,oF 4,oF 5,oF 2,oF 6,oF 3,oF 7,oF 8],by kernel_rfl,?_⟩
  repeat first|simp-implicitDefEqProofs only[go_sem,ab,aX hk,beq_self_eq_true,bne_self_eq_false,Bool.and_self,Bool.not_true,bne]|with_reducible first|refine gl_ ?_|refine ga_ ?_|refine gn_ ?_
  exact⟨k+1,aa [] ws_,rfl⟩
 ·refine g2_ ?_;exact⟨_,rfl,aa [] ws_⟩
theorem gG(l:List GDesc)(hl:l.length<=9223372036854775807)(hf: ∀d∈l,d.filter.length<=9223372036854775807):Con2 Tryz.prog 25 [fzD l,fzD l] (· =plR (.v (.bool true))):=by
 refine en_ Tryz.func25 [.tmp 4] ?_;refine g2_ ?_;refine cu (fun h=>(h rfl).elim) (fun h=>?_)
 refine g2_ ?_;refine ay l.length (fun k=>[]) (fun _=>[]) (fun k=>[]) 0 (fun k=>True) (aa [] ?_) trivial (fun g k=>ws_) (by omega) (fun g=>ws_) (fun k hk hF=>?_) (fun hF=>?_)
 ·refine g2_ ?_
  first|rfl|exact⟨rfl,rfl⟩
 ·refine g2_ ?_;refine .inl ⟨[oF 0,oF 1,oF 4,oF 5,oF 2,oF 6,oF 3,oF 7,oF 8,oF 9],by kernel_rfl,gf_ (mE_ hk) ?_⟩
  refine ce_ (kj l[k] l[k] (hf _ (List.getElem_mem hk))) (g2_ ?_);exact⟨k+1,aa [] ws_,rfl⟩
 ·refine g2_ ?_;exact⟨_,rfl,aa [] ws_⟩
theorem ou(e:aaA)(h1:e.vals.length<=9223372036854775807):Con2 Tryz.prog 70 [.agg (bk e),.agg (bk e)] (· =plR (.v (.bool true))):=by
 have hv:=ab7 e.vals h1;refine en_ Tryz.func70 [.tmp 4] (g2_ ?_);refine x0_ ?_;refine ce_ hv (g2_ ?_);exact⟨_,rfl,aa [] ws_⟩
theorem vY(l:List aaA)(hl:l.length<=9223372036854775807)(hf: ∀e∈l,e.vals.length<=9223372036854775807):Con2 Tryz.prog 32 [.fz 5 (l.map bk),.fz 5 (l.map bk)] (· =plR (.v (.bool true))):=by
 refine en_ Tryz.func32 [.tmp 4] ?_;refine g2_ ?_;refine cu (fun h=>(h rfl).elim) (fun h=>?_)
 refine g2_ ?_;refine ay l.length (fun k=>[]) (fun _=>[]) (fun k=>[]) 0 (fun k=>True) (aa [] ?_) trivial (fun g k=>ws_) (by omega) (fun g=>ws_) (fun k hk hF=>?_) (fun hF=>?_)
 ·refine g2_ ?_
  first|rfl|exact⟨rfl,rfl⟩
 ·refine g2_ ?_;refine .inl ⟨[oF 0,oF 1,oF 4,oF 5,oF 2,oF 6,oF 3,oF 7,oF 8,oF 9],by kernel_rfl,gf_ (mE_ hk) ?_⟩
  refine ce_ (ou l[k] (hf _ (List.getElem_mem hk))) (g2_ ?_);exact⟨k+1,aa [] ws_,rfl⟩
 ·refine g2_ ?_;exact⟨_,rfl,aa [] ws_⟩
theorem ac_(w:GW)(h:aR w.sent):Con2 Tryz.prog 144 [.agg (eI w),.agg (eI w)] (· =plR (.v (.bool true))):=by
 have hd:=gG w.sent (by have:=h.1;omega) (fun d hd=>by have:=h.2 d hd;omega)
 unfold eI;refine en_ Tryz.func144 [.tmp 4] (g2_ ?_);refine x0_ ?_;refine ce_ hd (g2_ ?_);exact⟨_,rfl,aa [] ws_⟩
theorem adZ(r:b9)(h1:r.succ.filter.length<=4000000)(h2:r.pred.filter.length<=4000000):Con2 Tryz.prog 143 [.agg (aH r),.agg (aH r)] (· =plR (.v (.bool true))):=by
 have hd1:=kj r.succ r.succ (by omega)
 have hd2:=kj r.pred r.pred (by omega)
 rw[decide_eq_true rfl]at hd1 hd2;refine en_ Tryz.func143 [.tmp 4] (g2_ ?_);refine x0_ ?_;refine ce_ hd1 (g2_ ?_);refine ce_ hd2 (g2_ ?_);exact⟨_,rfl,aa [] ws_⟩
theorem acn(p:ah)(hp:okP p):Con2 Tryz.prog 67 [.agg (ak p),.agg (ak p)] (· =plR (.v (.bool true))):=by
 have h1:=gG p.view (by have:=hp.view.1;omega) (fun d hd=>by have:=hp.view.2 d hd;omega)
 have h2:=gG p.near (by have:=hp.near.1;omega) (fun d hd=>by have:=hp.near.2 d hd;omega)
 have h3:=adZ p.ring hp.succ hp.pred;have h4:=ac_ p.wait hp.sent;have h5:=lD p.table (by have:=hp.table;omega)
 unfold eI at h4;refine en_ Tryz.func67 [.tmp 4] (g2_ ?_);refine g2_ ?_;refine ce_ h1 (g2_ ?_);refine ce_ h2 (g2_ ?_);refine ce_ h3 (g2_ ?_);refine ce_ h4 (g2_ ?_);refine ce_ h5 (g2_ ?_);exact⟨_,rfl,aa [] ws_⟩
theorem u9(p:ah)(hp:okP p):Con2 Tryz.prog 68 [.agg (ak p),.agg (ak p)] (· =plR (.v (.bool true))):=by
 have hrw:=hp.rows;have hpu:=hp.pulls;have hhe:=hp.heard;obtain⟨hre,hre2⟩:=hp.reports;obtain⟨hev,hev2⟩:=hp.evs;have he:=vY p.buf.evs (by omega) (fun e h=>by have:=(hev2 e h).1;omega)
 have hm:=k_ p.heard (by omega)
 have hge0: ∀k (hk:k<p.reports.length),(cp p.reports)[k]? =some [DV.fz 3 (p.reports[k].map a_)]:=fun k hk=>by rw[cp,List.getElem?_map,List.getElem?_eq_getElem hk];rfl
 have hLl:(cp p.reports).length=p.reports.length:=by rw[cp,List.length_map]
 refine en_ Tryz.func68 [.tmp 4] (g2_ ?_);refine gg_ @ao hLl ?_;refine ay p.rows.length (fun k=>[]) (fun _=>[]) (fun k=>[]) 0 (fun k=>True) (aa [] ?_) trivial (fun g k=>ws_) (by omega) (fun g=>ws_) (fun k hk hF=>?_) (fun hF=>?_)
 ·refine g2_ ?_
  first|rfl|exact⟨rfl,rfl⟩
 ·refine gf_ @ao ?_;refine .inl ⟨[oF 0,oF 2,oF 5,oF 7,oF 1,oF 6,oF 3,oF 8,oF 4,oF 9,oF 10],by kernel_rfl,x1_ (c2_ (mE_ hk) @ao) ?_⟩
  exact⟨k+1,aa [] ws_,rfl⟩
 refine gg_ @ao hLl ?_;refine ay p.reports.length (fun k=>[]) (fun _=>[]) (fun k=>[]) 0 (fun k=>True) (aa [] ?_) trivial (fun g k=>ws_) (by omega) (fun g=>ws_) (fun k hk hF=>?_) (fun hF=>?_)
 ·refine g2_ ?_
  first|rfl|exact⟨rfl,rfl⟩
 ·have hge:=hge0 k hk;have hmk:=k_ p.reports[k] (by have:=hre2 _ (List.getElem_mem hk);omega)
  refine gf_ @ao ?_;refine .inl ⟨[oF 0,oF 2,oF 5,oF 7,oF 1,oF 6,oF 3,oF 8,oF 4,oF 9,oF 10,oF 11],by kernel_rfl,?_⟩
  refine gg_ hge @ao ?_;refine ce_ hmk (g2_ ?_);exact⟨k+1,aa [] ws_,rfl⟩
 refine gg_ @ao hLl ?_;refine ay p.pulls.length (fun k=>[]) (fun _=>[]) (fun k=>[]) 0 (fun k=>True) (aa [] ?_) trivial (fun g k=>ws_) (by omega) (fun g=>ws_) (fun k hk hF=>?_) (fun hF=>?_)
 ·refine g2_ ?_
  first|rfl|exact⟨rfl,rfl⟩
 ·refine gf_ @ao ?_;refine .inl ⟨[oF 0,oF 2,oF 5,oF 7,oF 1,oF 6,oF 3,oF 8,oF 4,oF 9,oF 10],by kernel_rfl,x1_ (c2_ (mE_ hk) @ao) ?_⟩
  exact⟨k+1,aa [] ws_,rfl⟩
 refine gf_ @ao ?_;refine ce_ he (gf_ @ao ?_);refine ce_ hm (x1_ @ao ?_);exact⟨_,rfl,aa [] ws_⟩
theorem kx(p:ah)(hp:okP p):Con2 Tryz.prog 15 [.agg (ak p),.agg (ak p)] (· =plR (.v (.bool true))):=by
 have h1:=oZ p.filter p.filter (by have:=hp.filter;omega)
 rw[decide_eq_true rfl]at h1;have h2:=acn p hp;have h3:=u9 p hp;refine en_ Tryz.func15 [.tmp 4] (g2_ ?_);refine x0_ ?_;refine ce_ h1 (g2_ ?_);refine ce_ h2 (g2_ ?_);refine ce_ h3 (g2_ ?_);exact⟨_,rfl,aa [] ws_⟩
theorem c00:((0:Nat):Int)=0:=rfl
attribute[local go_sem] c00
end Go.Proofs.YthoihfighiolmaaGreat.V
namespace Go.Eng
structure GOp where
 what:UInt8
 node:UInt8
 inc:UInt16
 filter:List GSpan
 m:bo
 draws:List UInt32
def nW(m:an):Bool:=decide ((3:Int)<(m.state.toNat:Int))||((decide (m.inc=0) !=decide (m.state=0))||(decide (m.inc=0)&&decide ((0:Int)<(m.quiet.toNat:Int))))
def pq(x:GOp):Bool:=(x.m.list.all fun d=> !decide ((8:Int)<(d.filter.length:Int)))&&(x.m.table.all fun m=> !nW m)&&
 (decide ((x.filter.length:Int)<=8)&&(decide ((x.m.list.length:Int)<=20)&&(decide ((x.m.table.length:Int)<=20)&&decide ((x.draws.length:Int)<=30))))
theorem anE(x:UInt8):((x.toNat:Int)==0)=decide (x=0):=bt x 0
theorem wY{α:Type}{f:α->Bool}{l:List α}{k:Nat}(h:k<l.length):(l.take (k+1)).all f=((l.take k).all f&&f l[k]):=by
 rw[List.take_add_one,List.getElem?_eq_getElem h,List.all_append];simp
theorem rR{α:Type}{f:α->Bool}{l:List α}{k:Nat}(h:k<l.length)(hf:f l[k]=false):l.all f=false:=List.all_eq_false.2 ⟨l[k],List.getElem_mem h,by simp[hf]⟩
end Go.Eng
namespace Go.Proofs.YthoihfighiolmaaGreat.V
open Go.Eng
attribute [local go_sem] aP af fzD plR bb a_ aE bj aC ak bk cR z8 z16 z32 z64 encMg aH dE
def bc(x:GOp):List DV:=[.v (.int .u8 x.what.toNat),.v (.int .u8 x.node.toNat),.v (.int .u16 x.inc.toNat),fzS x.filter]++encMg x.m++[.fz 1 (x.draws.map aZ)]
theorem ajf(x:GOp)(h1:x.m.list.length<=9223372036854775807)(h2:x.m.table.length<=9223372036854775807):Con2 Tryz.prog 11 [.agg (bc x)] (· =plR (.v (.bool (pq x)))):=by
 unfold bc;refine en_ Tryz.func11 [.tmp 2] (g2_ ?_);refine gx_ ?_;refine ay x.m.list.length (fun k=>[]) (fun _=>[]) (fun k=>[]) 0 (fun k=>(x.m.list.take k).all (fun d=> !decide ((8:Int)<(d.filter.length:Int)))=true) (aa [] ?_) rfl (fun g k=>ws_) (by omega) (fun g=>ws_) (fun k hk hF=>?_) (fun hF=>?_)
 ·refine g2_ ?_
  first|done|rfl|exact⟨rfl,rfl⟩
 ·refine gf_ (mE_ hk) ?_;refine aq (fun h3=>?_) (fun h3=>?_)
  ·have e:pq x=false:=by
    rw[pq,rR hk (by simp;omega)];rfl
   rw[e];refine g2_ ?_;exact⟨_,rfl,aa [] ws_⟩
  ·refine g2_ ?_;refine⟨k+1,aa [] ws_,rfl,?_⟩;rw[wY hk,hF];simp;omega
 rw[List.take_of_length_le (Nat.le_refl _)]at hF;refine g2_ ?_;refine ay x.m.table.length (fun k=>[]) (fun _=>[]) (fun k=>[]) 0 (fun k=>(x.m.table.take k).all (fun m=> !nW m)=true) (aa [] ?_) rfl (fun g k=>ws_) (by omega) (fun g=>ws_) (fun k hk hG=>?_) (fun hG=>?_)
 ·refine g2_ ?_
  first|done|rfl|exact⟨rfl,rfl⟩
 ·have hno:nW x.m.table[k]=true->pq x=false:=fun h=>by
   rw[pq,rR hk (f:=fun m=> !nW m) (by simp[h])];simp
  have hyes:nW x.m.table[k]=false->(x.m.table.take (k+1)).all (fun m=> !nW m)=true:=fun h=>by rw[wY hk,hG,h];rfl
  refine gf_ (mE_ hk) ?_;generalize x.m.table[k]=m at hno hyes
  by_cases hA:(3:Int)<(m.state.toNat:Int)
  ·rw[decide_eq_true hA];rw[hno (by simp[nW,hA])]
   refine g2_ ?_;exact⟨_,rfl,aa [] ws_⟩
  rw[decide_eq_false hA];refine g2_ ?_;simp only[sC,anE]
  by_cases i0:m.inc=0
  ·rw[decide_eq_true i0]
   by_cases s0:m.state=0
   ·rw[decide_eq_true s0];refine gx_ ?_;simp only[sC];rw[decide_eq_true i0];refine g2_ ?_
    by_cases hQ:(0:Int)<(m.quiet.toNat:Int)
    ·rw[decide_eq_true hQ];rw[hno (by simp[nW,i0];omega)]
     refine g2_ ?_;exact⟨_,rfl,aa [] ws_⟩
    ·rw[decide_eq_false hQ];refine g2_ ?_;exact⟨k+1,aa [] ws_,rfl,hyes (by simp[nW,i0,s0];omega)⟩
   ·rw[decide_eq_false s0];rw[show(!(true==false))=true from rfl]
    rw[hno (by simp[nW,i0,s0])]
    refine g2_ ?_;exact⟨_,rfl,aa [] ws_⟩
  ·rw[decide_eq_false i0]
   by_cases s0:m.state=0
   ·rw[decide_eq_true s0];rw[show(!(false==true))=true from rfl]
    rw[hno (by simp[nW,i0,s0])]
    refine g2_ ?_;exact⟨_,rfl,aa [] ws_⟩
   ·rw[decide_eq_false s0];refine gx_ ?_;simp only[sC];rw[decide_eq_false i0];refine g2_ ?_;exact⟨k+1,aa [] ws_,rfl,hyes (by simp[nW,hA,i0,s0])⟩
 ·rw[List.take_of_length_le (Nat.le_refl _)]at hG
  have e:pq x=(decide ((x.filter.length:Int)<=8)&&(decide ((x.m.list.length:Int)<=20)&&(decide ((x.m.table.length:Int)<=20)&&decide ((x.draws.length:Int)<=30)))):=by
   rw[pq,hF,hG];rfl
  rw[e];refine g2_ ?_;cases g0:decide ((x.filter.length:Int)<=8)
  ·refine g2_ ?_;exact⟨_,rfl,aa [] (wf_ @Bool.false_and)⟩
  refine gx_ ?_;cases g1:decide ((x.m.list.length:Int)<=20)
  ·refine g2_ ?_;exact⟨_,rfl,aa [] (wf_ @Bool.false_and)⟩
  refine gx_ ?_;cases g2:decide ((x.m.table.length:Int)<=20)
  ·refine g2_ ?_;exact⟨_,rfl,aa [] (wf_ @Bool.false_and)⟩
  refine gx_ ?_;exact⟨_,rfl,aa [] (by simp-implicitDefEqProofs only[go_sem,ab,Bool.true_and,aZ,List.length_map])⟩
end Go.Proofs.YthoihfighiolmaaGreat.V
namespace Go.Eng
theorem uc{c:ar}(h:aB c=true):2<=c.nodes/\c.nodes<=12:=by grind [aB,inR]
end Go.Eng
namespace Go.Proofs.YthoihfighiolmaaGreat.V
open Go.Eng
attribute [local go_sem] aP af fzD plR bb a_ aE bj aC ak bk cR z8 z16 z32 z64 encMg aH dE
end Go.Proofs.YthoihfighiolmaaGreat.V
namespace Go.Eng
theorem ajy{a b:UInt16}{K:Value->Prop}:bq .u16 ((b.toNat:Int)-(a.toNat:Int)) K=K (.int .u16 ((b-a).toNat:Nat)):=by
 unfold bq
 have:IntKind.u16.wrap ((b.toNat:Int)-(a.toNat:Int))=((b-a).toNat:Nat):=by
  have ha:=a.toNat_lt;have hb:=b.toNat_lt;rw[UInt16.toNat_sub];show((b.toNat:Int)-(a.toNat:Int)).emod 65536=(((65536-a.toNat+b.toNat) % 65536:Nat):Int);show((b.toNat:Int)-(a.toNat:Int)) % 65536=_;omega
 rw[this]
end Go.Eng
namespace Go.Proofs.YthoihfighiolmaaGreat.V
open Go.Eng
attribute [local go_sem] aP af fzD plR bb z8 z16 z32 z64
theorem aht(d:GDesc)(hd:d.filter.length<=4000000):Con2 Tryz.prog 283 [.agg (af d)] (· =plR (.agg (af d))):=by
 refine Con2.ofEmb ?_;have hc:=bh [d] ⟨by simp,by simp[hd]⟩
 refine en_ Tryz.func283 [.cell 2 34] (g2_ ?_);refine g2_ ?_;refine CallS.eq hc wx_ (.inl ws_) ?_;refine gx_ ?_;rw[show(((1:Nat):Int)==1)=true from rfl]
 refine gf_ @List.getElem?_cons_zero.{0} ?_;refine ae ?_ rfl;exact ws_
theorem wC(a b:UInt16):Con2 Tryz.prog 285 [.v (.int .u16 a.toNat),.v (.int .u16 b.toNat)] (· =plR (.v (.int .u16 (b-a).toNat))):=by
 refine en_ Tryz.func285 [.tmp 4] (g2_ ?_);refine g2_ ?_;rw[ajy];refine g2_ ?_;exact⟨_,rfl,aa [] ws_⟩
end Go.Proofs.YthoihfighiolmaaGreat.V
namespace Go.Eng
def sQ(d s:GSpan):Int:=if d.b-d.a+1<=0 then 0 else (4*((s.a+s.b).fdiv 2-d.a)).tdiv (d.b-d.a+1)
end Go.Eng
namespace Go.Proofs.YthoihfighiolmaaGreat.V
open Go.Eng
attribute [local go_sem] aP plR
theorem wS(d s:GSpan)(hd:okS d)(hs:okS s):Con2 Tryz.prog 379 [.agg (aP d),.agg (aP s)] (· =plR (.v (.int .i64 (sQ d s)))):=by
 obtain⟨a1,a2,a3,a4⟩:=hd;obtain⟨b1,b2,b3,b4⟩:=hs;refine en_ Tryz.func379 [.tmp 4] (g2_ ?_);refine g2_ ?_;refine .inl ⟨[oF 0,oF 3,oF 6,oF 1,oF 4,oF 7,oF 2,oF 5,oF 8,oF 9,oF 11,oF 10,oF 12],by kernel_rfl,g2_ ?_⟩
 refine aq (fun h=>?_) (fun h=>?_)
 ·have e:sQ d s=0:=if_pos h;rw[e];refine g2_ ?_;exact⟨_,rfl,aa [] ws_⟩
 ·have e:sQ d s=(4*((s.a+s.b).fdiv 2-d.a)).tdiv (d.b-d.a+1):=if_neg h;rw[e];refine g2_ ?_;rw[tE (by omega),show(2:Int)^min (Int.toNat 1) IntKind.i64.bits=2 from rfl]
  have hm: -2147483648<=(s.a+s.b).fdiv 2/\(s.a+s.b).fdiv 2<=2147483647:=by
   rw[Int.fdiv_eq_ediv_of_nonneg _ (by decide)];omega
  generalize (s.a+s.b).fdiv 2=m at hm;refine g2_ ?_;rw[ud (by omega)]
  have hq:((4*(m-d.a)).tdiv (d.b-d.a+1)).natAbs<=(4*(m-d.a)).natAbs:=by
   rw[Int.natAbs_tdiv];exact Nat.div_le_self _ _
  generalize (4*(m-d.a)).tdiv (d.b-d.a+1)=q at hq;refine f6 (by omega) ?_
  refine g2_ ?_;exact⟨_,rfl,aa [] ws_⟩
end Go.Proofs.YthoihfighiolmaaGreat.V
namespace Go.Eng
def jI(dom f:List GSpan)(k:Nat):Int:=((dom.zip f).take k).foldl (fun a x=>4*a+sQ x.1 x.2) 0
def mN(dom f:List GSpan):UInt8:=UInt8.ofNat ((jI dom f (dom.zip f).length) % 256).toNat
theorem mn{dom f:List GSpan}{k:Nat}(h1:k<dom.length)(h2:k<f.length):jI dom f (k+1)=4*jI dom f k+sQ dom[k] f[k]:=by grind [jI,List.take_add_one,List.getElem?_eq_getElem]
theorem akP{d s:GSpan}(hd:okS d)(hs:okS s):(sQ d s).natAbs<=34359738368:=by
 obtain⟨a1,a2,a3,a4⟩:=hd;obtain⟨b1,b2,b3,b4⟩:=hs;unfold sQ;split
 ·decide
 ·rw[Int.natAbs_tdiv]
  have hm: -2147483648<=(s.a+s.b).fdiv 2/\(s.a+s.b).fdiv 2<=2147483647:=by
   rw[Int.fdiv_eq_ediv_of_nonneg _ (by decide)];omega
  generalize (s.a+s.b).fdiv 2=m at hm;exact Nat.le_trans (Nat.div_le_self _ _) (by omega)
theorem uM{dom f:List GSpan}(hd: ∀s∈dom,okS s)(hf: ∀s∈f,okS s): ∀k,k<=4->(jI dom f k).natAbs<=34359738368*(if k=0 then 0 else if k=1 then 1 else if k=2 then 5 else if k=3 then 21 else 85)
 |0,_=>by simp[jI]
 | k+1,h=>by
  have ih:=uM hd hf k (by omega)
  by_cases hk:k<dom.length/\k<f.length
  ·rw[mn hk.1 hk.2];have hq:=akP (hd _ (List.getElem_mem hk.1)) (hf _ (List.getElem_mem hk.2));generalize sQ dom[k] f[k]=q at hq;generalize jI dom f k=a at ih
   match k,h with
   |0,_=>simp at ih ⊢; omega
   |1,_=>simp at ih ⊢; omega
   |2,_=>simp at ih ⊢; omega
   |3,_=>simp at ih ⊢; omega
  ·have:jI dom f (k+1)=jI dom f k:=by
    rw[jI,jI,List.take_of_length_le (by simp;omega),List.take_of_length_le (by simp;omega)]
   rw[this];refine Nat.le_trans ih ?_
   match k,h with
   |0,_=>decide
   |1,_=>decide
   |2,_=>decide
   |3,_=>decide
theorem ae8{a:Int}{K:Value->Prop}:bq .u8 a K=K (.int .u8 ((UInt8.ofNat (a % 256).toNat).toNat:Nat)):=by
 unfold bq
 have:IntKind.u8.wrap a=((UInt8.ofNat (a % 256).toNat).toNat:Nat):=by
  rw[UInt8.toNat_ofNat'];show a % 256=_;omega
 rw[this]
end Go.Eng
namespace Go.Proofs.YthoihfighiolmaaGreat.V
open Go.Eng
attribute [local go_sem] aP plR
theorem aiS(dom f:List GSpan)(h4:dom.length<=4)(hf4:f.length<=1000000000)(hd: ∀s∈dom,okS s)(hf: ∀s∈f,okS s):Con2 Tryz.prog 339 [fzS dom,fzS f] (· =plR (.v (.int .u8 (mN dom f).toNat))):=by
 refine en_ Tryz.func339 [.tmp 4] (g2_ ?_);refine g2_ ?_;obtain⟨n,hn⟩: ∃n,n=(dom.zip f).length:=⟨_,rfl⟩;have hnm:n=min dom.length f.length:=by rw[hn,List.length_zip]
 rw[show(if (f.length:Int)<(dom.length:Int)then (f.length:Int)else (dom.length:Int))=(n:Int)by split<;>omega]
 refine ay n (fun k=>[(5,.d (.v (.int .i64 (jI dom f k))))]) (fun _=>[]) (fun k=>[]) 0 (fun _=>True) (aa [] ?_) trivial (fun g k=>ws_) (by omega) (fun g=>ws_) (fun k hk _=>?_) (fun _=>?_)
 ·refine g2_ ?_;exact⟨rfl,rfl,rfl,rfl⟩
 ·have hk1:k<dom.length:=by omega
  have hk2:k<f.length:=by omega
  have hs:=mn hk1 hk2;have hb:=uM hd hf k (by omega)
  have hq:=wS dom[k] f[k] (hd _ (List.getElem_mem hk1)) (hf _ (List.getElem_mem hk2));have hql:=akP (hd _ (List.getElem_mem hk1)) (hf _ (List.getElem_mem hk2));have hb2:(jI dom f k).natAbs<=34359738368*85:=Nat.le_trans hb (by split;omega;split;omega;split;omega;split<;>omega)
  refine g2_ ?_;refine .inl ⟨[oF 0,oF 2,oF 3,oF 6,oF 7,oF 1,oF 4,oF 8,oF 5,oF 9,oF 10,oF 11,oF 12],by kernel_rfl,gf_ (c2_ (mE_ hk1) (mE_ hk2)) ?_⟩
  refine ce_ hq (g2_ ?_);refine⟨k+1,aa [] ?_,rfl⟩;exact wf_ hs
 ·refine g2_ ?_;rw[ae8];refine g2_ ?_;exact⟨_,rfl,aa [] (by simp-implicitDefEqProofs only[go_sem,ab,mN, <-hn])⟩
end Go.Proofs.YthoihfighiolmaaGreat.V
namespace Go.Eng
def bw(dom:List GSpan)(d:GDesc):UInt16:=UInt16.ofNat ((mN dom d.filter).toNat*256+d.node.toNat)
end Go.Eng
namespace Go.Proofs.YthoihfighiolmaaGreat.V
open Go.Eng
attribute [local go_sem] aP af fzD plR
theorem kW(dom:List GSpan)(d:GDesc)(h4:dom.length<=4)(hf4:d.filter.length<=1000000000)(hd: ∀s∈dom,okS s)(hf: ∀s∈d.filter,okS s):Con2 Tryz.prog 281 [fzS dom,.agg (af d)] (· =plR (.v (.int .u16 (bw dom d).toNat))):=by
 have hk:=aiS dom d.filter h4 hf4 hd hf;have k1:=(mN dom d.filter).toNat_lt;have k2:=d.node.toNat_lt
 have e:((bw dom d).toNat:Int)=((mN dom d.filter).toNat:Int)*256+(d.node.toNat:Int):=by
  rw[bw,UInt16.toNat_ofNat'];omega
 rw[e];generalize mN dom d.filter=key at hk k1;refine en_ Tryz.func281 [.tmp 4] (g2_ ?_);refine g2_ ?_;refine .inl ⟨[oF 0,oF 1,oF 6,oF 2,oF 7,oF 8,oT 3,oF 4,oF 5,oF 9,oF 10],by kernel_rfl,g2_ ?_⟩
 refine iR (by omega) ?_
 refine g2_ ?_;refine ce_ hk (g2_ ?_);refine iR (by omega) ?_
 refine g2_ ?_;refine iR (by omega) ?_
 refine g2_ ?_;refine iR (by omega) ?_
 refine g2_ ?_;exact⟨_,rfl,aa [] ws_⟩
