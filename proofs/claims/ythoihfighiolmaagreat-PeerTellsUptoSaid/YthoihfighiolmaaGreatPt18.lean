import Derived.Test.YthoihfighiolmaaGreatPt17
set_option linter.unusedSectionVars false
set_option linter.unusedSimpArgs false
set_option linter.unusedVariables false
set_option maxRecDepth 10000
namespace Go.Proofs.YthoihfighiolmaaGreat.V
open Go.Eng
attribute [local go_sem] aP af fzD plR
theorem aad(a b:GDesc):Con2 Tryz.prog 387 [.agg (af a),.agg (af b)] (· =plR (.v (.bool (cK a b)))):=by
 refine en_ Tryz.func387 [.tmp 4] ?_;refine g2_ ?_;rw[jL]
 by_cases h:a.inc=b.inc
 ·rw[decide_eq_true h];refine g2_ ?_;exact⟨_,rfl,aa [] (by simp-implicitDefEqProofs only[go_sem,ab,cK,h,dH,if_true])⟩
 ·rw[decide_eq_false h];refine g2_ ?_;exact⟨_,rfl,aa [] (by simp-implicitDefEqProofs only[go_sem,ab,cK,h,cZ,if_false])⟩
theorem lv(a b:GDesc):Con2 Tryz.prog 157 [.agg (af a),.agg (af b)] (· =plR (.v (.bool (cK a b)))):=by
 refine en_ Tryz.func157 [.tmp 4] ?_;refine g2_ ?_;rw[jL]
 by_cases h:a.inc=b.inc
 ·rw[decide_eq_true h];refine g2_ ?_;exact⟨_,rfl,aa [] (by simp-implicitDefEqProofs only[go_sem,ab,cK,h,dH,if_true])⟩
 ·rw[decide_eq_false h];refine g2_ ?_;exact⟨_,rfl,aa [] (by simp-implicitDefEqProofs only[go_sem,ab,cK,h,cZ,if_false])⟩
theorem amY(i j:Nat):Int.fdiv ((i:Int)+j) (2^min (Int.toNat 1) IntKind.u64.bits)=(((i+j) / 2:Nat):Int):=by
 rw[show min (Int.toNat 1) IntKind.u64.bits=1 from rfl,Int.fdiv_eq_ediv_of_nonneg _ (by decide)]
 omega
theorem aaa(n k:Nat)(hk:k<=n)(f:FuncId)(c1 c2:List DV)(hn:n<=1000000000)(hf: ∀h:Nat,h<n->Con2 Tryz.prog f [.v (.int .i64 h),.fp c1,.fp c2] (· =plR (.v (.bool (decide (k<=h)))))):
  Con2 Tryz.prog 312 [.v (.int .i64 n),.fn f [] [.fp c1,.fp c2]] (· =plR (.v (.int .i64 k))):=by
 refine en_ Tryz.func312 [.tmp 4] (g2_ ?_);refine av (γ:=Nat×Nat) (fun g=>[(5,.d (.v (.int .i64 g.1))),(6,.d (.v (.int .i64 g.2)))]) (fun _=>[]) (fun _=>[]) 0 (fun g=>g.1<=k/\k<=g.2/\g.2<=n) (fun g=>g.2-g.1) (0,n) (aa [] ?_) ⟨Nat.zero_le _,hk,Nat.le_refl _⟩ (fun g hF=>?_)
 ·refine g2_ ?_
  first|rfl|exact⟨rfl,rfl⟩
 ·obtain⟨i,j⟩:=g;obtain⟨h1,h2,h3⟩:=hF;simp only at h1 h2 h3;refine g2_ ?_;refine aq (fun h=>?_) (fun h=>?_)
  ·have hij:i<j:=by omega
   refine g2_ ?_;rw[mz (by omega)]
   refine g2_ ?_;rw[tE (by omega),amY]
   obtain⟨m,hm⟩: ∃m,(i+j) / 2=m:=⟨_,rfl⟩;rw[hm];refine g2_ ?_;refine CallS.eq (hf m (by omega)) ws_ (.inr rfl) ?_
   refine g2_ ?_;refine aq (fun h4=>?_) (fun h4=>?_)
   ·refine g2_ ?_;exact⟨(i,m),aa [] ws_,⟨h1,h4,by simp only;omega⟩,by simp only;omega⟩
   ·refine g2_ ?_;exact⟨(m+1,j),aa [] (by simp-implicitDefEqProofs only[go_sem,ab];rfl),⟨by simp only;omega,h2,h3⟩,by simp only;omega⟩
  ·refine g2_ ?_;have:i=k:=by omega
   subst this;exact⟨_,rfl,aa [] ws_⟩
theorem aaf(l:List GDesc)(hu:Up bS l)(node:UInt8)(h:Nat)(hh:h<l.length):Con2 Tryz.prog 313 [.v (.int .i64 h),.fp [fzD l],.fp [.v (.int .u8 node.toNat)]] (· =plR (.v (.bool (decide (aU l node<=h))))):=by
 refine en_ Tryz.func313 [.tmp 4] (g2_ ?_);refine .inl ⟨[oF 0,oF 1,oF 5,oF 2,oF 3,oF 4,oF 6,oF 7],by kernel_rfl,gf_ (mE_ hh) ?_⟩
 refine⟨_,rfl,aa [] ?_⟩
 have e:decide (aU l node<=h)=decide ((node.toNat:Int)<=(l[h].node.toNat:Int)):=by
  rw[decide_eq_decide,amK,jN hu (List.getElem?_eq_getElem hh)]
 exact wf_ e
theorem mY(l:List GDesc)(hu:Up bS l)(node:UInt8)(hn:l.length<=5000000):Con2 Tryz.prog 216 [fzD l,.v (.int .u8 node.toNat)] (· =plR (.tup [.v (.int .i64 (aU l node)),.v (.bool (d5 l node))])):=by
 have hle:=pZ l node;refine en_ Tryz.func216 [.tmp 4,.tmp 5] ?_;refine g2_ ?_;refine CallS.eq (aaa l.length (aU l node) hle 313 [fzD l] [.v (.int .u8 node.toNat)] (by omega) (fun h hh=>aaf l hu node h hh)) ws_ (.inr rfl) ?_
 refine g2_ ?_;refine .inl ⟨[oF 0,oF 1,oF 2,oF 3,oF 4,oF 5,oF 6,oF 7,oF 11,oF 14,oF 8,oF 9,oF 10,oF 12,oF 13,oF 15],by kernel_rfl,?_⟩
 obtain⟨k,hk⟩: ∃k,aU l node=k:=⟨_,rfl⟩;rw[hk]
 by_cases hkl:k<l.length
 ·have e1:decide ((k:Int)<(l.length:Int))=true:=by simpa using hkl
  refine gf_ (c2_ e1 (mE_ hkl)) ?_;rw[bt, <-wu hu (by rw[hk];exact List.getElem?_eq_getElem hkl:l[aU l node]? =some l[k])]
  refine g2_ ?_;exact⟨_,rfl,aa [] ws_⟩
 ·have e1:decide ((k:Int)<(l.length:Int))=false:=by simpa using hkl
  refine gf_ e1 ?_;exact⟨_,rfl,aa [] (by simp-implicitDefEqProofs only[go_sem,ab,adX hu (by rw[hk];omega)])⟩
theorem xl(l:List GDesc)(hu:Up bS l)(node:UInt8)(hn:l.length<=5000000):Con2 Tryz.prog 350 [fzD l,.v (.int .u8 node.toNat)] (· =plR (.v (.int .i64 (fb l node)))):=by
 refine en_ Tryz.func350 [.tmp 4] ?_;refine g2_ ?_;refine ce_ (mY l hu node hn) ?_;unfold fb;cases hi:cd l node with
 |none=>
  have hT:d5 l node=false:=by unfold d5;rw[hi];rfl
  refine gf_ hT ?_;exact⟨_,rfl,aa [] ws_⟩
 |some i=>
  have hT:d5 l node=true:=by unfold d5;rw[hi];rfl
  refine gf_ hT ?_;exact⟨_,rfl,aa [] (wf_ (fC hu hi))⟩
end Go.Proofs.YthoihfighiolmaaGreat.V
namespace Go.Eng
def aR(l:List GDesc):Prop:=l.length<=4000000/\ ∀d∈l,d.filter.length<=4000000
def zDD:List DV:=[.v (.int .u8 0),.v (.int .u16 0),.v (.int .u8 0),.v (.slice none 0 0)]
def ja(l:List GDesc)(k:Nat):List (List DV):=(l.take k).map af++List.replicate (l.length-k) zDD
theorem af4{l:List GDesc}{k:Nat}(h:k<=l.length):((l.take k).map af).length=k:=by rw[List.length_map,List.length_take,Nat.min_eq_left h]
theorem acJ{l:List GDesc}{k:Nat}(h:k<=l.length):(ja l k).length=l.length:=by grind [ja]
theorem ajS{l:List GDesc}:ja l 0=List.replicate l.length zDD:=by simp[ja]
theorem acq{l:List GDesc}:ja l l.length=l.map af:=by simp[ja]
theorem aev{l:List GDesc}{k:Nat}(h:k<l.length):(ja l k)[k]? =some zDD:=by grind [ja]
theorem adI{l:List GDesc}{k:Nat}(h:k<l.length):(ja l k).set k (af l[k])=ja l (k+1):=by
 have hl:=af4 (Nat.le_of_lt h);unfold ja;rw[List.set_append_right _ _ (by omega),hl,Nat.sub_self,show l.length-k=(l.length-(k+1))+1 from by omega,List.replicate_succ,List.set_cons_zero,List.take_add_one,List.getElem?_eq_getElem h,List.map_append,List.append_assoc]
 rfl
end Go.Eng
namespace Go.Proofs.YthoihfighiolmaaGreat.V
open Go.Eng
attribute [local go_sem] aP af fzD plR bb
theorem ahJ(d:GDesc)(hd:d.filter.length<=5000000):Con2 Tryz.prog 234 [.agg (af d)] (· =⟨.agg [.v (.int .u8 d.node.toNat),.v (.int .u16 d.inc.toNat),.v (.int .u8 d.age.toNat),.rf 0 0 d.filter.length],[(0,.arr 138 2 (d.filter.map aP) false)],1⟩):=by
 refine en_ Tryz.func234 [.cell 2 34] (g2_ ?_);refine g2_ ?_;exact⟨_,rfl,aa [] ws_⟩
theorem tT(d:GDesc)(hd:d.filter.length<=5000000):Con2 Tryz.prog 234 [.agg (af d)] (· =plR (.agg (af d))):=
 (ahJ d hd).emb (by simp[af,embD,embDs,embC,lk,rfD,aF]) rfl
attribute [local go_sem] zDD
theorem gy(l:List GDesc)(hl:aR l):Con2 Tryz.prog 148 [fzD l] (· =bb 34 4 (l.map af)):=by
 have hb:=hl.1;refine en_ Tryz.func148 [.tmp 2] (g2_ ?_);refine g2_ ?_;refine ay l.length (fun k=>[]) (fun _=>[]) (fun k=>[(0,.arr 34 4 (ja l k) false)]) 1 (fun _=>True) (aa [] ?_) trivial (fun g k=>ws_) (by omega) (fun g=>ws_) (fun k hk _=>?_) (fun _=>?_)
 ·refine gf_ @ajS ?_
  first|rfl|exact⟨rfl,rfl⟩
 ·refine gf_ (mE_ hk) ?_;refine ce_ (tT l[k] (by have:=hl.2 _ (List.getElem_mem hk);omega)) ?_
  refine gg_ (aev hk) (acJ (Nat.le_of_lt hk)) ?_;refine⟨k+1,aa [] ?_,rfl⟩;refine g2_ ?_;exact(adI hk).symm
 ·refine g2_ ?_;exact⟨_,rfl,aa [] (wf_ @acq)⟩
end Go.Proofs.YthoihfighiolmaaGreat.V
namespace Go.Eng
theorem ag1{α:Type}{l:List α}{k:Nat}{x:α}(h:l[k]? =some x):l.set k x=l:=by
 apply List.ext_getElem?;intro i;rw[List.getElem?_set];split
 ·rename_i e;subst e;split
  ·exact h.symm
  ·rename_i h2;rw[List.getElem?_eq_none (by omega)]at h;cases h
 ·rfl
def oldL(l:List GDesc)(k:Nat):List GDesc:=(l.take k).map GDesc.older++l.drop k
theorem po{l:List GDesc}{k:Nat}:(oldL l k).length=l.length:=by simp[oldL];omega
theorem lX{l:List GDesc}{k:Nat}(h:k<l.length):((oldL l k).map af)[k]? =some (af l[k]):=by grind [oldL]
theorem vL{l:List GDesc}{k:Nat}(h:k<l.length):((oldL l k).map af).set k (af l[k].older)=(oldL l (k+1)).map af:=by
 have hl:((l.take k).map GDesc.older).length=k:=by rw[List.length_map,List.length_take,Nat.min_eq_left (Nat.le_of_lt h)]
 rw[<-List.map_set]
 congr 1
 unfold oldL;rw[List.set_append_right _ _ (by omega),hl,Nat.sub_self,List.drop_eq_getElem_cons h,List.set_cons_zero,List.take_add_one,List.getElem?_eq_getElem h,List.map_append,List.append_assoc]
 rfl
theorem mo{d:GDesc}(h:d.age.toNat<255):af d.older=[.v (.int .u8 d.node.toNat),.v (.int .u16 d.inc.toNat),.v (.int .u8 ((d.age.toNat:Int)+1)),.fz 2 (d.filter.map aP)]:=by
 have:d.age≠255:=fun e=>by rw[e]at h;exact absurd h (by decide)
 unfold GDesc.older;rw[if_neg this];have e:(d.age+1).toNat=d.age.toNat+1:=by rw[UInt8.toNat_add];show(d.age.toNat+1) % 256=_;omega
 simp[af,e]
theorem pS{d:GDesc}(h: ¬d.age.toNat<255):d.older=d:=by
 have hb:=d.age.toNat_lt;have:d.age=255:=UInt8.toNat_inj.1 (by show d.age.toNat=255;omega)
 unfold GDesc.older;rw[if_pos this]
end Go.Eng
namespace Go.Proofs.YthoihfighiolmaaGreat.V
open Go.Eng
attribute [local go_sem] aP af fzD plR bb
theorem mW(l:List GDesc)(hl:aR l):Con2 Tryz.prog 113 [fzD l] (· =bb 34 4 ((bf l).map af)):=by
 have hb:=hl.1;refine en_ Tryz.func113 [.tmp 2] ?_;refine g2_ ?_;refine ce_ (gy l hl) ?_;refine gx_ ?_;refine ay l.length (fun k=>[]) (fun _=>[]) (fun k=>[(0,.arr 34 4 ((oldL l k).map af) false)]) 1 (fun _=>True) (aa [] ?_) trivial (fun g k=>ws_) (by omega) (fun g=>ws_) (fun k hk _=>?_) (fun _=>?_)
 ·refine gf_ @oldL.eq_1 ?_
  first|rfl|exact⟨rfl,rfl⟩
 ·refine gg_ (lX hk) @po ?_;refine aq (fun h=>?_) (fun h=>?_)
  ·refine gg_ (lX hk) @po ?_;refine dx (by omega) ?_
   refine gg_ (lX hk) @po ?_;refine⟨k+1,aa [] ?_,rfl⟩;refine g2_ ?_;rw[<-vL hk,mo (by omega)]
  ·refine g2_ ?_;refine⟨k+1,aa [] ?_,rfl⟩;refine g2_ ?_;rw[<-vL hk,pS (by omega),ag1 (lX hk)]
 ·refine g2_ ?_;have he:oldL l l.length=bf l:=by simp[oldL,bf]
  have hlen:(bf l).length=l.length:=by simp[bf]
  exact⟨_,rfl,aa [] (wg_ he hlen)⟩
theorem ep{f:FuncId}{args:List DV}{l:List GDesc}(h:Con2 Tryz.prog f args (· =bb 34 4 (l.map af))):Con2 Tryz.prog f args (· =plR (fzD l)):=
 Con2.emb h (by simp[fzD,embD,lk,rfD,aF]) rfl
def adJ(e:Nat)(p:List GDesc×Bool):Res:=⟨.tup [.rf 0 0 p.1.length,.v (.bool p.2)],[(0,.arr e 4 (p.1.map af) false)],1⟩
end Go.Proofs.YthoihfighiolmaaGreat.V
namespace Go.Proofs.YthoihfighiolmaaGreat.V
open Go.Eng
theorem nM:amp Tryz.prog 217 34 4:=by
 intro xs p n c i u0 u ho h1 hi hn K hK;have hcap:=ho.sl.cap;refine .inl (gM Ty.mixed Tryz.func217 rfl (by kernel_rfl) (by kernel_rfl) rfl [.tmp 6] rfl ?_)
 refine vs_ ?_;rw[ajd (l:=i) (h:=i+1) (m:=n) Ty.el32 rfl (by omega) rfl (by omega) (by omega) (by omega)]
 refine vs_ ?_;rw[show((i:Int)==(i:Int)+1)=false from by simp;omega]
 refine vs_ ?_;refine .inl ⟨[oF 0,oF 1,oF 3,oF 4,oF 2,oF 5,oF 6,oF 7],by kernel_rfl,?_⟩
 refine vs_ ?_;rw[adT (k0:=i) Ty.el32 rfl (by omega)]
 refine vs_ ?_;rw[vn (k0:=i+1) Ty.el32 (by omega) (by omega)]
 refine vs_ ?_;refine nX Ty.el32 (ho.take (k:=i) (by omega)) (ho.sl.drop (l:=i+1) (by omega)) (fun y hy=>h1 y (List.mem_of_mem_drop hy)) (by omega) ?_
 intro u1 o1 x1;rw[show i+(n-(i+1))=n-1 by omega]at o1⊢
 refine vs_ ?_;rw[aa5 (l:=n-1) (h:=n) Ty.el32 (by omega) rfl (by omega) (by omega)]
 refine vs_ ?_;refine rT Ty.el32 Ty.zero34 rfl o1 (by omega) (by omega) ?_
 intro u2 o2 x2;refine vs_ ?_;refine hK u2 o2 (fun b o hb h hn=>x2 b o hb (x1 b o hb h hn) hn)
def am9(T φ ψ:Nat):Op->Op
 | .slice _ x l h m=>.slice T x l h m
 | .call ⟨.value (.func k),a,ts⟩=>.call ⟨.value (.func (bif k==355 then φ else ψ)),a,ts.map fun t=>bif t==3 then 3 else T⟩
 | .call ⟨c,a,ts⟩=>.call ⟨c,a,ts.map fun t=>bif t==3 then 3 else T⟩
 |o=>o
def amS(T φ ψ:Nat)(o:Oper):Oper:={ o with op:=am9 T φ ψ o.op,type:=bif o.type==32 then T else o.type }
def ren(T φ ψ:Nat):Code->Code
 | .region i ops d=>.region i (ops.map (amS T φ ψ)) d
 | .seq a b=>.seq (ren T φ ψ a) (ren T φ ψ b)
 | .cond c a b=>.cond c (ren T φ ψ a) (ren T φ ψ b)
 |c=>c
set_option maxHeartbeats 1000000 in
theorem ajv {f e sz bytes T φ ψ:Nat} {fn:Func} {z:List Value} (hf:Tryz.prog.funcs[f]? =some fn) (hB:fn.body=Tryz.f315.body.map (ren T φ ψ)) (hh:cW Tryz.prog f=true) (hn:fn.ntmps=95) (hr:fn.results.toList=[.tmp 6]) (hT:cU Tryz.prog T e sz bytes=true) (hz:dK Tryz.prog e=some z) (ho0:xB Tryz.prog φ=some (Extern.SlicesOverlaps.overlaps #[T,T] #[4])) (h0:0<sz) (hy:0<bytes) (hy2:bytes<=99):ai3 Tryz.prog f e sz bytes/\aby Tryz.prog f e sz:=by
 replace hB:fn.body=some (ren T φ ψ _):=hB
 simp only[ren,amS,am9,List.map_toArray,List.map_cons,List.map_nil,Nat.reduceBEq,cond_true,cond_false]at hB
 have hS:eu Tryz.prog T=true:=by grind [eu,cU]
 constructor
 ·intro xs x i n c c2 p q u0 u ho hi ho2 hx1 hxs hne0 hb K hK
  have hn1:n+1<=140737488355328:=Nat.le_trans (Nat.le_mul_of_pos_right _ hy) hb
  have hvs:Sl u sz q 1 c2 [x]:=ho2.sl
  have hx:x.length=sz:=ho2.each x (List.mem_singleton.2 rfl)
  rcases ho2.at_ with ⟨_,hh,_⟩|⟨gv,cv,hq0,hv,hv1,_,hv3s,_,_⟩
  ·cases hh
  subst hq0
  have hne: ∀a,p=some a->gv≠a.block:=fun a ha e=>hne0 a _ ha rfl e.symm
  have hvc: ∀(u':World),Sl u' sz (some ⟨gv,0,none⟩) 1 c2 [x]-> ∀j v,x[j]? =some v->u'.cell? ((⟨gv,0,none⟩:Addr).add j)=some v:=fun u' h j v hj=>h.cells j v (by simpa using hj)
  have hsl:=ho.sl
  have hcap:=hsl.cap
  have hlen:=ho.len
  have hlA:(xs.take i).flatten.length=i*sz:=by rw[aM (sz:=sz) _ (fun y hy=>ho.each y (List.mem_of_mem_take hy))];simp[hlen,Nat.min_eq_left hi]
  have hlB:(xs.drop i).flatten.length=(n-i)*sz:=by rw[aM (sz:=sz) _ (fun y hy=>ho.each y (List.mem_of_mem_drop hy))];simp[hlen]
  have hfin:(xs.take i++[x]++xs.drop i).flatten=(xs.take i).flatten++x++(xs.drop i).flatten:=by simp
  have hfl:(xs.take i++[x]++xs.drop i).length=n+1:=by simp[hlen];omega
  have hfe: ∀y∈xs.take i++[x]++xs.drop i,y.length=sz:=by
   intro y hy
   simp only[List.append_assoc,List.mem_append,List.mem_singleton]at hy
   rcases hy with hy|rfl|hy
   ·exact ho.each y (List.mem_of_mem_take hy)
   ·exact hx
   ·exact ho.each y (List.mem_of_mem_drop hy)
  have hxs2:xs.flatten=(xs.take i).flatten++(xs.drop i).flatten:=by rw[<-List.flatten_append,List.take_append_drop]
  refine .inl (gM Ty.mixed hf hB hh (by rw[hn];rfl) (by rw[hn];rfl) _ hr ?_)
  clear hB
  refine vs_ ?_
  rw[cN hT (by omega) (by omega)]
  refine vs_ ?_
  rw[gl hS]
  refine vs_ ?_
  refine od (fun h=>absurd h (by omega)) (fun _=>?_)
  refine vs_ ?_
  rw[gl hS]
  refine vs_ ?_
  refine od (fun h=>?_) (fun h=>?_)
  ·-- at the end
   have hin:i=n:=by omega
   subst hin
   refine vs_ ?_
   refine iV hT ho hvs (by intro y hy;simp at hy;subst hy;exact hx1) hb (by omega) ?_
   intro p' c' u' ho' hs' hq'
   refine vs_ ?_
   refine hK p' c' u' ?_ hs' hq'
   have:xs.take i++[x]++xs.drop i=xs++[x]:=by rw[List.take_of_length_le (by omega),List.drop_eq_nil_of_le (by omega)];simp
   rw[this];exact ho'
  have hlt:i<n:=by omega
  have hi2:(i+1)*sz=i*sz+sz:=Nat.succ_mul i sz
  have hi3:i*sz<=n*sz:=Nat.mul_le_mul_right _ hi
  have hin:i*sz+sz+(n-i)*sz=(n+1)*sz:=by rw[<-Nat.succ_mul, <-Nat.add_mul];congr 1;omega
  obtain⟨a,hp⟩: ∃a,p=some a:=by cases p with|none=>have:=hsl.some_ hlt;cases this|some a=>exact⟨a,rfl⟩
  subst hp
  rcases ho.at_ with ⟨hh,_⟩|⟨g,cur,hg0,hg,h1,h2,h3,h4,h5⟩
  ·cases hh
  cases hg0
  have hgne:gv≠g:=hne _ rfl
  have hB1: ∀v∈(xs.drop i).flatten,v.oneCell'=true:=fun v hv=>fY hxs v (by rw[hxs2];exact List.mem_append_right _ hv)
  refine vs_ ?_
  rw[dQ (by omega)]
  refine vs_ ?_
  rw[mH hS]
  refine vs_ ?_
  refine xR (fun h=>?_) (fun h=>?_)
  ·-- a new block
   refine vs_ ?_
   rw[mR hT (by omega) (by omega)]
   refine vs_ ?_
   rw[dQ (by omega)]
   refine vs_ ?_
   rw[dQ (by omega)]
   refine vs_ ?_
   have e0:((i:Int).toNat)=i:=by omega
   have e1:((n:Int)+(1:Nat)-(i:Int)).toNat=n+1-i:=by omega
   (try rw[e0])
   have e3:i+((n:Int)+(1:Nat)-(i:Int)).toNat=n+1:=by omega
   refine ng hT Ty.intK3 hz (hsl.take hi) (by omega) (by omega) (by rw[e3];exact hb) (by omega) ?_
   rw[e3]
   intro p2 c2 u2 ho2 hs2 hf2
   rcases ho2.at_ with ⟨_,hh,_⟩|⟨g2,cur2,hg20,hg2,k1,k2,k3,k4,k5⟩
   ·omega
   subst hg20
   have hg2f:Fresh u g2:=hf2 _ rfl
   have hg2g:g2≠g:=fun e=>ax (hg2f _ (e▸hg))
   have hg2v:g2≠gv:=fun e=>ax (hg2f _ (e▸hv))
   refine vs_ ?_
   rw[cN hT (by omega) (by omega)]
   refine vs_ ?_
   (try rw[e0])
   rw[fI (by omega)]
   have hcc:(n+1)*sz<=c2*sz:=Nat.mul_le_mul_right _ k1
   have hv2:=hvc u2 (hvs.mono hs2)
   refine ji (news:=x) hT hg2 k5 (by rw[hx,show Nat.min 1 (n+1-i)=1 from by simp only[Nat.min_def];split<;>omega,Nat.one_mul]) hv2 (dp hx1) (by rw[k3,hx];omega) ?_
   intro u3 hg3 hs3
   refine vs_ ?_
   refine .inl ⟨[oF 0,oF 1,oF 2,oF 5,oF 6,oF 3,oF 7,oF 4,oF 8],by kernel_rfl,?_⟩
   refine vs_ ?_
   rw[dQ (by omega)]
   refine vs_ ?_
   have e2:((i:Int)+((1:Nat):Int)).toNat=i+1:=by omega
   rw[cN hT (by omega) (by omega)]
   refine vs_ ?_
   rw[cN hT (by omega) (by omega)]
   refine vs_ ?_
   (try rw[e0])
   rw[e2,fI (by omega),fI (by omega)]
   have hold: ∀j v,(xs.drop i).flatten[j]? =some v->u3.cell? ((⟨g,0+i*sz,none⟩:Addr).add j)=some v:=by
    intro j v hj
    have hsl3:Sl u3 sz (some ⟨g,0,none⟩) n c xs:=(hsl.mono hs2).subX hs3 (by intro a b ha hb;cases ha;cases hb;exact fun e=>hg2g e.symm)
    have hd:=hsl3.drop hi
    rw[fI (by omega)]at hd
    exact hd.cells j v hj
   have hmin:Nat.min (n-i) (n+1-(i+1))=n-i:=by simp only[Nat.min_def];split<;>omega
   refine ji (news:=(xs.drop i).flatten) hT hg3 k5 (by rw[hlB,hmin]) hold hB1 ?_ ?_
   ·simp only[List.size_toArray,List.length_append,List.length_take,List.length_drop,Array.length_toList,k3,hx,hlB]
    omega
   intro u4 hg4 hs4
   refine vs_ ?_
   refine hK _ c2 u4 ⟨hfl,hfe,.inr ⟨g2,_,rfl,hg4,k1,k2,?_,?_,k5⟩⟩ ?_ (.inr (fun a ha=>by cases ha;exact hg2f))
   ·simp only[List.size_toArray,List.length_append,List.length_take,List.length_drop,Array.length_toList,k3,hx,hlB]
    omega
   ·have hk:(cur2.toList.take (i*sz))=(xs.take i).flatten:=by
     have:=congrArg (List.take (i*sz)) k4
     rw[List.take_take,Nat.min_eq_left (by omega),List.flatten_append]at this
     rw[this]
     apply List.take_left' hlA
    have:=ah9 (s:=sz) (b:=(n-i)*sz) hk hlA hx hlB (by simp only[Array.length_toList,k3];omega)
    simp only[hx,hlB,hfin]
    rw[show 0+i*sz=i*sz from by omega,show 0+(i+1)*sz=i*sz+sz from by omega,show(n+1)*sz=i*sz+sz+(n-i)*sz from by omega]
    exact this
   ·intro b o hbn hbo hoj
    have hb2:b≠g2:=fun e=>hoj (hg2f o (e▸hbo))
    exact hs4 b o (fun a ha=>by cases ha;exact hb2) (hs3 b o (fun a ha=>by cases ha;exact hb2) (hs2 b o hbo hoj) hoj) hoj
  ·-- in place
   refine vs_ ?_
   rw[dQ (by omega)]
   refine vs_ ?_
   rw[mR hT (by omega) (by omega)]
   refine vs_ ?_
   rw[dQ (by omega)]
   refine vs_ ?_
   have e0:((i:Int).toNat)=i:=by omega
   have e1:((n:Int)+((1:Nat):Int)).toNat=n+1:=by omega
   have e2:((i:Int)+((1:Nat):Int)).toNat=i+1:=by omega
   rw[e1,cN hT (by omega) (by omega)]
   refine vs_ ?_
   rw[e2,fI (by omega)]
   refine uX (R:=4) hT ho0 hgne hv hg (by rw[h3];intro h0;rcases Nat.mul_eq_zero.1 h0 with h0|h0<;>omega) ?_
   refine vs_ ?_
   refine .inl ⟨[oF 0,oF 1,oF 2,oF 5,oF 6,oF 3,oF 7,oF 4,oF 8],by kernel_rfl,?_⟩
   refine vs_ ?_
   rw[dQ (by omega)]
   refine vs_ ?_
   rw[cN hT (by omega) (by omega)]
   refine vs_ ?_
   rw[cN hT (by omega) (by omega)]
   refine vs_ ?_
   (try rw[e0])
   rw[e2,fI (by omega),fI (by omega)]
   have hold: ∀j v,(xs.drop i).flatten[j]? =some v->u.cell? ((⟨g,0+i*sz,none⟩:Addr).add j)=some v:=by
    intro j v hj
    have hd:=hsl.drop hi
    rw[fI (by omega)]at hd
    exact hd.cells j v hj
   have hmin:Nat.min (n+1-i) (n+1-(i+1))=n-i:=by simp only[Nat.min_def];split<;>omega
   have hcc:(n+1)*sz<=c*sz:=Nat.mul_le_mul_right _ (by omega)
   refine ji (news:=(xs.drop i).flatten) hT hg h5 (by rw[hlB,hmin]) hold hB1 (by rw[h3,hlB];omega) ?_
   intro u3 hg3 hs3
   refine vs_ ?_
   rw[cN hT (by omega) (by omega)]
   refine vs_ ?_
   (try rw[e0])
   rw[fI (by omega)]
   have hv2:=hvc u3 (hvs.subX hs3 (by intro a b ha hb;cases ha;cases hb;exact hgne))
   refine ji (news:=x) hT hg3 h5 (by rw[hx,show Nat.min 1 (n+1-i)=1 from by simp only[Nat.min_def];split<;>omega,Nat.one_mul]) hv2 (dp hx1) ?_ ?_
   ·simp only[List.size_toArray,List.length_append,List.length_take,List.length_drop,Array.length_toList,h3,hx,hlB]
    omega
   intro u4 hg4 hs4
   refine vs_ ?_
   refine hK _ c u4 ⟨hfl,hfe,.inr ⟨g,_,rfl,hg4,by omega,h2,?_,?_,h5⟩⟩ ?_ (.inl rfl)
   ·simp only[List.size_toArray,List.length_append,List.length_take,List.length_drop,Array.length_toList,h3,hx,hlB]
    omega
   ·have hk:(cur.toList.take (i*sz))=(xs.take i).flatten:=by
     have:=congrArg (List.take (i*sz)) h4
     rw[List.take_take,Nat.min_eq_left (by omega),hxs2]at this
     rw[this]
     apply List.take_left' hlA
    have:=alM (s:=sz) (b:=(n-i)*sz) hk hlA hx hlB (by simp only[Array.length_toList,h3];omega)
    simp only[hx,hlB,hfin]
    rw[show 0+i*sz=i*sz from by omega,show 0+(i+1)*sz=i*sz+sz from by omega,show(n+1)*sz=i*sz+sz+(n-i)*sz from by omega]
    exact this
   ·intro b o hbn hbo hoj
    have hb2:=hbn _ rfl
    exact hs4 b o (fun a ha=>by cases ha;exact hb2) (hs3 b o (fun a ha=>by cases ha;exact hb2) hbo hoj) hoj
 ·intro x c2 p q u0 u ho2 hx1 K hK
  have hvs:Sl u sz q 1 c2 [x]:=ho2.sl
  refine .inl (gM Ty.mixed hf hB hh (by rw[hn];rfl) (by rw[hn];rfl) _ hr ?_)
  clear hB
  refine vs_ ?_
  rw[cN hT (by omega) (by omega)]
  refine vs_ ?_
  rw[gl hS]
  refine vs_ ?_
  refine od (fun h=>absurd h (by omega)) (fun _=>?_)
  refine vs_ ?_
  rw[gl hS]
  refine vs_ ?_
  refine od (fun _=>?_) (fun h=>absurd h (by omega))
  refine vs_ ?_
  refine ju hT hvs (by intro y hy;simp at hy;subst hy;exact hx1) (by omega) (by omega) (fun h=>absurd h (by omega)) ?_
  intro p' c' u' _ ho' hs' hf'
  refine vs_ ?_
  exact hK p' c' u' ho' hs' hf'
theorem p_:ai3 Tryz.prog 315 34 4 32/\aby Tryz.prog 315 34 4:=ajv (φ:=355) (ψ:=356) Tryz.func315 (by kernel_rfl) (by kernel_rfl) rfl rfl Ty.el32 Ty.zero34 (by kernel_rfl) (by decide) (by decide) (by decide)
theorem jm:ai3 Tryz.prog 315 34 4 32:=p_.1
theorem i_:aby Tryz.prog 315 34 4:=p_.2
attribute[local go_sem] aP af fzD plR bb adJ
theorem yR{α β:Type}{f:α->β}(l:List α)(i:Nat):(l.map f).take i++(l.map f).drop (i+1)=(l.take i++l.drop (i+1)).map f:=by simp
theorem rU{α β:Type}{f:α->β}: ∀(l:List α) (i:Nat),(l.map f).eraseIdx i=(l.eraseIdx i).map f:=by grind [List.eraseIdx_eq_take_drop_succ,yR]
theorem qo(l:List GDesc)(hu:Up bS l)(node:UInt8)(hl:aR l):Con2 Tryz.prog 117 [fzD l,.v (.int .u8 node.toNat)] (· =bb 34 4 ((aD l node).map af)):=by
 have hb:=hl.1;refine en_ Tryz.func117 [.tmp 4] ?_;refine g2_ ?_;refine ce_ (gy l hl) ?_;refine gx_ ?_;refine ce_ (mY l hu node (by omega)) ?_
 refine g2_ ?_;cases hi:cd l node with
 |none=>
  have hT:d5 l node=false:=by unfold d5;rw[hi];rfl
  refine gf_ hT ?_;exact⟨_,rfl,aa [] (wf_ (sJ hi))⟩
 |some i=>
  have hT:d5 l node=true:=by unfold d5;rw[hi];rfl
  obtain⟨o,ho,_⟩:=dS hi;obtain⟨hil,_⟩:=List.getElem?_eq_some_iff.1 ho;rw[fC hu hi];refine gf_ hT ?_;refine CallS.del nM rfl (by simp) (by simpa using hil) (by simp;omega) ?_
  refine gf_ @rU ?_;have hlen:(aD l node).length=l.length-1:=by rw[wQ hu hi];simp;omega
  refine⟨_,rfl,aa [] ?_⟩;refine gf_ hlen ?_;rw[wQ hu hi,List.eraseIdx_eq_take_drop_succ]
theorem aiE(l:List GDesc)(hu:Up bS l)(d:GDesc)(self:UInt8)(room:Int)(hl:aR l)(hd:d.filter.length<=4000000):Con2 Tryz.prog 349 [fzD l,.agg (af d),.v (.int .u8 self.toNat),.v (.int .i64 room)] (· =adJ 34 (bH l d self room)):=by
 have hb:=hl.1;refine en_ Tryz.func349 [.tmp 8,.tmp 9] ?_;refine g2_ ?_;refine ce_ (gy l hl) ?_;refine gx_ ?_;rw[bt];unfold bH
 by_cases h1:d.node=self
 ·rw[decide_eq_true h1,if_pos (.inl h1)];refine g2_ ?_;exact⟨_,rfl,aa [] ws_⟩
 rw[decide_eq_false h1];refine g2_ ?_;rw[ga]
 by_cases h2:d.inc=0
 ·rw[decide_eq_true h2,if_pos (.inr h2)];refine g2_ ?_;exact⟨_,rfl,aa [] ws_⟩
 rw[decide_eq_false h2,if_neg (not_or.2 ⟨h1,h2⟩)];refine g2_ ?_;refine ce_ (mY l hu d.node (by omega)) (g2_ ?_)
 cases hi:cd l d.node with
 | some i=>
  have hT:d5 l d.node=true:=by unfold d5;rw[hi];rfl
  obtain⟨o,ho,_⟩:=dS hi;obtain⟨hil,rfl⟩:=List.getElem?_eq_some_iff.1 ho;rw[fC hu hi];refine gf_ hT ?_;refine .inl ⟨[oF 0,oF 1,oF 2,oF 3,oF 4,oF 5,oF 6],by kernel_rfl,gf_ (mE_ hil) ?_⟩
  refine ce_ (aad d l[i]) (g2_ ?_);simp only[ho];cases hnw:cK d l[i]with
  |false=>
   simp only[Bool.false_eq_true,if_false];refine g2_ ?_;exact⟨_,rfl,aa [] ws_⟩
  |true=>
   simp only[if_true];refine g2_ ?_;refine ce_ (tT d (by omega)) ?_
   repeat first|simp-implicitDefEqProofs only[go_sem,ab,aX hil,List.length_map,List.contains_nil]|with_reducible first|refine gl_ ?_|refine ga_ ?_|refine gn_ ?_
   refine⟨_,rfl,aa [] ?_⟩;refine g2_ ?_;exact⟨by simp,by rw[List.map_set];rfl⟩
 | none=>
  have hT:d5 l d.node=false:=by unfold d5;rw[hi];rfl
  refine gf_ hT ?_;refine aq (fun h=>?_) (fun h=>?_)
  ·rw[if_pos h];refine g2_ ?_;exact⟨_,rfl,aa [] ws_⟩
  ·rw[if_neg h];refine g2_ ?_;refine ce_ (tT d (by omega)) (g2_ ?_)
   have hple:=pZ l d.node;refine CallS.ins jm i_ (l:=l.map af) (x:=af d) rfl rfl (by decide) (by simp) (by simpa using hple) (by simp;omega) ?_
   refine gx_ ?_;refine⟨_,rfl,aa [(0,.to 2)] ?_⟩;refine gf_ @o_ ?_;simp[m9,sB hi,af]
end Go.Proofs.YthoihfighiolmaaGreat.V
namespace Go.Eng
section
variable {l:List GDesc} {self:UInt8}
theorem ahy{i:Nat}{x:GDesc}(hx:l[i]? =some x)(h1: ∀e∈l,e.age<=x.age)(h2: ∀j y,j<i->l[j]? =some y->y.age<x.age):m3 l=some i:=by
 obtain⟨hi,rfl⟩:=List.getElem?_eq_some_iff.1 hx;unfold m3;rw[List.findIdx?_eq_some_iff_getElem];refine⟨hi,by simpa using h1,fun j hj=>?_⟩
 have h3:=h2 j l[j] hj (List.getElem?_eq_getElem (by omega))
 simp only[decide_eq_true_eq];intro h4;have h5:=h4 l[i] (List.getElem_mem hi);rw[UInt8.lt_iff_toNat_lt]at h3;rw[UInt8.le_iff_toNat_le]at h5;omega
theorem vg(h:l≠[]): ∃i,m3 l=some i:=by
 cases hd:m3 l with
 |some i=>exact⟨i,rfl⟩
 | none=>
  exfalso;unfold m3 at hd;rw[List.findIdx?_eq_none_iff]at hd
  have key: ∀m:List GDesc,m≠[]-> ∃d∈m, ∀e∈m,e.age<=d.age:=by
   intro m
   induction m with
   |nil=>intro h;exact absurd rfl h
   | cons a r ih=>
    intro _
    by_cases hr:r=[]
    ·exact⟨a,List.mem_cons_self,by intro e he;rw[hr]at he;simp at he;subst he;exact UInt8.le_refl _⟩
    ·obtain⟨d,hd1,hd2⟩:=ih hr
     by_cases hle:a.age<=d.age
     ·refine⟨d,List.mem_cons_of_mem _ hd1,fun e he=>?_⟩
      rcases List.mem_cons.1 he with rfl|he
      ·exact hle
      ·exact hd2 e he
     ·refine⟨a,List.mem_cons_self,fun e he=>?_⟩
      rcases List.mem_cons.1 he with rfl|he
      ·exact UInt8.le_refl _
      ·have:=hd2 e he;rw[UInt8.le_iff_toNat_le]at *;omega
  obtain⟨d,h1,h2⟩:=key l h;have:=hd d h1;simp at this;obtain⟨e,he,hlt⟩:=this;have:=h2 e he;rw[UInt8.le_iff_toNat_le]at this;rw[UInt8.lt_iff_toNat_lt]at hlt;omega
theorem vZ{i:Nat}(h:m3 l=some i): ∃x,l[i]? =some x/\(∀e∈l,e.age<=x.age)/\ ∀j y,j<i->l[j]? =some y->y.age<x.age:=by
 obtain⟨hi,h1,h2⟩:=List.findIdx?_eq_some_iff_getElem.1 h;simp only[decide_eq_true_eq]at h1;refine⟨l[i],List.getElem?_eq_getElem hi,h1,fun j y hj hy=>?_⟩
 obtain⟨hj',rfl⟩:=List.getElem?_eq_some_iff.1 hy;have h3:=h2 j hj;rw[UInt8.lt_iff_toNat_lt];rcases Nat.lt_or_ge l[j].age.toNat l[i].age.toNat with h4|h4
 ·exact h4
 ·exfalso;apply h3;simp only[decide_eq_true_eq];intro e he;have:=h1 e he;rw[UInt8.le_iff_toNat_le]at *;omega
end
end Go.Eng
namespace Go.Proofs.YthoihfighiolmaaGreat.V
open Go.Eng
attribute [local go_sem] aP af fzD plR bb adJ
theorem oX(l:List GDesc)(hn:l.length<=9223372036854775807):Con2 Tryz.prog 314 [fzD l] (· =plR (.v (.int .i64 (eb l)))):=by
 refine en_ Tryz.func314 [.tmp 2] ?_;refine g2_ ?_
 refine rX (γ:=Int) l.length (fun g=>[(3,.d (.v (.int .i64 g)))]) (fun _=>[]) (fun k=>[]) 0
  (fun k g=>(k=0/\g= -1)\/ ∃i:Nat,g=i/\ ∃(hi:i<l.length),i<k/\(∀j y,j<k->l[j]? =some y->y.age<=l[i].age)/\ ∀j y,j<i->l[j]? =some y->y.age<l[i].age) (-1) (aa [] ?_) (.inl ⟨rfl,rfl⟩) (fun g k=>ws_) (by omega) (fun g=>ws_) (fun k g hk hF=>?_) (fun g hF=>?_)
 ·refine g2_ ?_
  first|rfl|exact⟨rfl,rfl⟩
 ·have hx:l[k]? =some l[k]:=List.getElem?_eq_getElem hk;refine gf_ (mE_ hk) ?_;refine .inl ⟨[oF 0,oF 1,oF 2,oF 3,oF 5,oF 6,oF 4,oF 7,oF 8,oF 9,oF 10,oF 11],by kernel_rfl,g2_ ?_⟩
  rcases hF with ⟨rfl,rfl⟩|⟨i,rfl,hi,hik,hm,hlt⟩
  ·rw[decide_eq_true (show(-1:Int)<0 by omega)]
   refine g2_ ?_;refine⟨((0:Nat):Int),aa [] ws_,.inr ⟨0,rfl,hk,by omega,fun j y hj hy=>?_,fun j y hj=>by omega⟩⟩
   obtain rfl:j=0:=by omega
   obtain rfl:=Option.some.inj (hx.symm.trans hy);exact UInt8.le_refl _
  ·rw [decide_eq_false (show ¬(i:Int)<0 by omega)]
   refine gf_ (mE_ hi) ?_;refine aq (fun h=>?_) (fun h=>?_)
   ·refine g2_ ?_;refine⟨((k:Nat):Int),aa [] ws_,.inr ⟨k,rfl,hk,by omega,fun j y hj hy=>?_,fun j y hj hy=>?_⟩⟩
    ·by_cases hjk:j=k
     ·subst hjk;obtain rfl:=Option.some.inj (hx.symm.trans hy);exact UInt8.le_refl _
     ·have:=hm j y (by omega) hy
      rw[UInt8.le_iff_toNat_le]at this ⊢;omega
    ·have:=hm j y hj hy;rw[UInt8.le_iff_toNat_le]at this;rw[UInt8.lt_iff_toNat_lt];omega
   ·refine g2_ ?_;refine⟨((i:Nat):Int),aa [] ws_,.inr ⟨i,rfl,hi,by omega,fun j y hj hy=>?_,hlt⟩⟩
    by_cases hjk:j=k
    ·subst hjk;obtain rfl:=Option.some.inj (hx.symm.trans hy);rw[UInt8.le_iff_toNat_le];omega
    ·exact hm j y (by omega) hy
 ·refine g2_ ?_
  have e:g=eb l:=by
   rcases hF with ⟨h0,rfl⟩|⟨i,rfl,hi,_,hm,hlt⟩
   ·have:l=[]:=List.eq_nil_of_length_eq_zero h0;subst this;rfl
   ·unfold eb
    rw[ahy (List.getElem?_eq_getElem hi) (fun e he=>by
     obtain⟨j,hj,rfl⟩:=List.getElem_of_mem he
     exact hm j _ hj (List.getElem?_eq_getElem hj)) hlt]
  exact⟨_,rfl,aa [] (wf_ e)⟩
