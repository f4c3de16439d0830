import Derived.Test.YthoihfighiolmaaGreatPt9
import Derived.Laws.MakeOwn
set_option linter.unusedSectionVars false
set_option linter.unusedSimpArgs false
set_option linter.unusedVariables false
namespace Go.Eng
theorem lL(z:Array Value)(n:Nat):(madeCells z (n*z.size)).toList=(List.replicate n z.toList).flatten:=by
 rw[<-d3];apply List.ext_getElem?;intro j;simp only[madeCells,Builtin.zeroCells]
theorem iN{z:List Value}{sz:Nat}(hz:z.length=sz): ∀(l c:Nat),l<=c->((List.replicate c z).flatten).take (l*sz)=(List.replicate l z).flatten:=by
 intro l
 induction l with
 |zero=>intro c _;simp
 |succ l ih=>
  intro c hc;obtain⟨c,rfl⟩: ∃d,c=d+1:=⟨c-1,by omega⟩
  rw[List.replicate_succ,List.replicate_succ,List.flatten_cons,List.flatten_cons,Nat.add_mul,Nat.one_mul,Nat.add_comm];rw[List.take_append,List.take_of_length_le (by omega),hz]
  rw[show sz+l*sz-sz=l*sz by omega,ih c (by omega)]
theorem af5{x:Bool}{P:Program}{T e sz bytes:Nat}(hT:cU P T e sz bytes=true){z:List Value}(hz0:dK P e=some z){u0 u:World}{kl kc:IntKind}{l c:Int}{ln cn:Nat}(hl:l=ln)(hc:c=cn)
  (hlc:ln<=cn) (hb:cn*bytes<=140737488355328) (hm:cn<=9223372036854775807) {K:Value->World->Prop}
  (hK: ∀p u',Own u0 u' e sz p ln cn (List.replicate ln z)->Sub u u'->dk u p->p.isSome=true->K (.slice p ln cn) u'):
  AtEff x P (nJ T (.int kl l) (.int kc c)) u0 u K:=by
 obtain⟨ht,hsz,i,zv,hi,rfl,rfl,hz,hzs⟩:=bC hT
 have hzz:zv.cells.toList=z:=by
  simp only[dK,hi,hz,Option.map_some,Option.some.injEq]at hz0;exact hz0
 subst hl;subst hc;intro w hu h0
 have hb':(i.bytes:Int)*(cn:Int)<=281474976710656:=by
  have h:((i.bytes*cn:Nat):Int)<=281474976710656:=by rw[Nat.mul_comm];omega
  rwa[Int.natCast_mul]at h
 have hr:=run_make (P:=P) w T e i zv ht hi hz kl kc ln cn (by omega) (by omega) hb' (by omega)
 simp only[Int.toNat_natCast]at hr;have hzl:z.length=i.size:=by rw[<-hzz];simpa using hzs
 have hcells:(madeCells zv.cells (cn*i.size)).toList=(List.replicate cn z).flatten:=by
  rw[<-hzz, <-lL, <-hzs]
 refine⟨_,_,_,hr,iD hu rfl,hK _ _ ⟨by simp,?_,.inr ⟨w.heap.size,_,rfl,bL _ _ _,hlc,?_,?_,?_,aO h0 (Nat.le_refl _)⟩⟩ (dR (aO hu (Nat.le_refl _))) (fun a ha=>by cases ha;exact aO hu (Nat.le_refl _)) rfl⟩
 ·intro y hy;rw[(List.mem_replicate.1 hy).2];exact hzl
 ·simp only[maxLen];omega
 ·simp[madeCells]
 ·rw[hcells,iN hzl ln cn hlc]
section
variable {P:Program} {T:TypeId} {y z:Operand} {Kv:Value->Prop} {k k2:IntKind}
theorem abQ{a b:Int}(h:b≠0):AtPure P (bm .rem T y z (.int k a) (.int k b)) Kv=Kv (.int k (a.tmod b)):=aA fun w=>by simp[bm,eqGuard,binOp,Op.intDiv,h]
theorem ud{a b:Int}(h:b≠0):AtPure P (bm .quo T y z (.int k a) (.int k b)) Kv=bq k (a.tdiv b) Kv:=aA fun w=>by simp[bm,eqGuard,binOp,Op.intDiv,h]
theorem ab2{a b:Int}(h:0<=b):AtPure P (bm .shl T y z (.int k a) (.int k2 b)) Kv=bq k (a*2^min b.toNat k.bits) Kv:=aA fun w=>by
 have: ¬b<0:=by omega
 simp[bm,eqGuard,binOp,Op.shift,this]
theorem tE{a b:Int}(h:0<=b):AtPure P (bm .shr T y z (.int k a) (.int k2 b)) Kv=Kv (.int k (a.fdiv (2^min b.toNat k.bits))):=aA fun w=>by
 have: ¬b<0:=by omega
 simp[bm,eqGuard,binOp,Op.shift,this]
theorem adT{e sz bytes n c k0:Nat}{i:Int}{p:Option Addr}(hT:cU P T e sz bytes=true)(hi:i=(k0:Nat))(h:k0<=c):AtPure P (cD T (.slice p n c) none (some (.int k i)) none) Kv=Kv (.slice p k0 c):=by
 subst hi;rw[mR hT (by omega) (by omega)];rfl
theorem vn{e sz bytes n c k0:Nat}{i:Int}{p:Option Addr}(hT:cU P T e sz bytes=true)(hi:i=(k0:Nat))(h:k0<=n):AtPure P (cD T (.slice p n c) (some (.int k i)) none none) Kv=Kv (.slice (fo p c k0 sz) (n-k0) (c-k0)):=by
 subst hi;rw[cN hT (by omega) (by omega)];rfl
theorem jt{a b:Nat}{ai bi:Int}(ha:ai=a)(hb:bi=b)(h:0<b):AtPure P (bm .rem T y z (.int k ai) (.int k bi)) Kv=Kv (.int k (a % b:Nat)):=by
 subst ha;subst hb;rw[abQ (by omega)]
 rfl
theorem fc{a b:Nat}{ai bi:Int}(ha:ai=a)(hb:bi=b)(h:0<b):AtPure P (bm .quo T y z (.int k ai) (.int k bi)) Kv=bq k (a / b:Nat) Kv:=by
 subst ha;subst hb;rw[ud (by omega)]
 rfl
end
section
variable {P:Program} {Kv:Value->Prop} {T e sz bytes:Nat} {p:Option Addr} {n c:Nat} {k k2 k3:IntKind}
theorem aa5{lo hi:Int}{l h:Nat}(hT:cU P T e sz bytes=true)(hl:lo=(l:Nat))(hh:hi=(h:Nat))(h1:l<=h)(h2:h<=c):
  AtPure P (cD T (.slice p n c) (some (.int k lo)) (some (.int k2 hi)) none) Kv=Kv (.slice (fo p c l sz) (h-l) (c-l)):=by
 obtain⟨ht,hsz,info,z,hi',rfl,rfl,hz,hzs⟩:=bC hT;subst hl;subst hh
 exact aA fun w=>by
  have a1:(0:Int)<=(h:Int)/\(h:Int)<=(c:Int):=by omega
  have a2:(0:Int)<=(l:Int)/\(l:Int)<=(h:Int):=by omega
  simp[cD,Instr.sliceAt,Instr.slice,Instr.sliceBounds,Instr.sliceBound,run_underlying ht,asIntOf,sizeOf,typeInfo,hi',fo,h1,h2]
theorem ajd{lo hi mx:Int}{l h m:Nat}(hT:cU P T e sz bytes=true)(hl:lo=(l:Nat))(hh:hi=(h:Nat))(hm:mx=(m:Nat))(h1:l<=h)(h2:h<=m)(h3:m<=c):
  AtPure P (cD T (.slice p n c) (some (.int k lo)) (some (.int k2 hi)) (some (.int k3 mx))) Kv=Kv (.slice (fo p m l sz) (h-l) (m-l)):=by
 obtain⟨ht,hsz,info,z,hi',rfl,rfl,hz,hzs⟩:=bC hT;subst hl;subst hh;subst hm
 exact aA fun w=>by
  simp[cD,Instr.sliceAt,Instr.slice,Instr.sliceBounds,Instr.sliceBound,run_underlying ht,asIntOf,sizeOf,typeInfo,hi',fo,h1,h2,h3]
end
theorem Own.take{u0 u:World}{e sz:Nat}{p:Option Addr}{n c:Nat}{xs:List (List Value)}(h:Own u0 u e sz p n c xs){k:Nat}(hk:k<=n):Own u0 u e sz p k c (xs.take k):=by
 have hl:=h.len;refine⟨by simp;omega,fun x hx=>h.each x (List.mem_of_mem_take hx),?_⟩
 rcases h.at_ with ⟨h1,h2,h3⟩|⟨g,cur,h1,h2,h3,h4,h5,h6,h7⟩
 ·exact .inl ⟨h1,by omega,h3⟩
 ·refine .inr ⟨g,cur,h1,h2,by omega,h4,h5,?_,h7⟩
  have e1:cur.toList.take (k*sz)=(cur.toList.take (n*sz)).take (k*sz):=by
   rw[List.take_take,Nat.min_eq_left (Nat.mul_le_mul_right _ hk)]
  rw[e1,h6]
  have hfl:(xs.take k).flatten.length=k*sz:=by
   rw[aM (sz:=sz) _ (fun x hx=>h.each x (List.mem_of_mem_take hx))]
   rw[List.length_take,Nat.min_eq_left (by omega)]
  conv=>lhs;rw[<-List.take_append_drop k xs,List.flatten_append]
  rw[List.take_append_of_le_length (by omega),List.take_of_length_le (by omega)]
theorem nX{P:Program}{T e sz bytes ty:Nat}(hT:cU P T e sz bytes=true){u0 u:World}{p q:Option Addr}{n c m d:Nat}{xs ys:List (List Value)}
  (ho:Own u0 u e sz p n c xs) (hs:Sl u sz q m d ys) (h1:bl ys) (hroom:n+m<=c) {K:Value->World->Prop}
  (hK: ∀u',Own u0 u' e sz p (n+m) c (xs++ys)->SubX p u u'->K (.slice p (n+m) c) u'):
  AtEff false P (iW #[T,T] ty #[.slice p n c,.slice q m d]) u0 u K:=by
 obtain⟨ht,hsz,i,z,hi,rfl,rfl,hz,hzs⟩:=bC hT;unfold iW;intro w hu h0;have hlen:(xs++ys).length=n+m:=by rw[List.length_append,ho.len,hs.len]
 have heach: ∀x∈xs++ys,x.length=i.size:=fun x hx=>(List.mem_append.1 hx).elim (ho.each x) (hs.each x)
 have hfl:(xs++ys).flatten=xs.flatten++ys.flatten:=by simp
 have hnews:ys.flatten.length=m*i.size:=by rw[aM ys hs.each,hs.len]
 have holds:xs.flatten.length=n*i.size:=by rw[aM xs ho.each,ho.len]
 cases q with
 | none=>
  obtain⟨rfl,rfl⟩:=hs.nil rfl;have hys:ys=[]:=List.eq_nil_of_length_eq_zero hs.len;subst hys;have hcap:n<=c:=ho.sl.cap;refine⟨.slice p n c,w,u,?_,⟨hu,fun b o h=>.inl h,fun b _ h=>h,⟨Nat.le_refl _,rfl,rfl⟩⟩,?_⟩
  ·cases p with
   |none=>simp[Builtin.append_,run_underlying ht,sizeOf,typeInfo,hi,Builtin.lenOf,Builtin.firstCells,hcap]
   |some a=>simp[Builtin.append_,run_underlying ht,sizeOf,typeInfo,hi,Builtin.lenOf,Builtin.firstCells,hcap,storeCells]
  ·have:=hK u (by simpa using ho) (SubX.of_sub (Sub.refl u))
   simpa using this
 | some a=>
  have hcells: ∀j v,ys.flatten[j]? =some v->w.cell? (a.add j)=some v:=fun j v hv=>hu.cell (hs.cells j v hv)
  rcases ho.at_ with ⟨rfl,rfl,rfl⟩|⟨g,cur,rfl,hg,hnc,hcm,hcs,htake,hfr⟩
  ·have hm0:m=0:=by omega
   subst hm0;have hxs:xs=[]:=List.eq_nil_of_length_eq_zero ho.len;subst hxs;have hys:ys=[]:=List.eq_nil_of_length_eq_zero hs.len;subst hys;refine⟨.slice none 0 0,w,u,?_,⟨hu,fun b o h=>.inl h,fun b _ h=>h,⟨Nat.le_refl _,rfl,rfl⟩⟩,?_⟩
   ·simp[Builtin.append_,run_underlying ht,sizeOf,typeInfo,hi,Builtin.lenOf,Builtin.firstCells,loadCells,loadCellsFrom]
   ·exact hK u (Own.nil_ _ _ _ _) (SubX.of_sub (Sub.refl u))
  ·have hgw:=hu g _ hg ax;have hfit:n*i.size+ys.flatten.length<=cur.size:=by rw[hnews,hcs, <-Nat.add_mul];exact Nat.mul_le_mul_right _ hroom
   have hr:=run_append_room (P:=P) w T ty e i ht hi g n c cur hgw a m d ys.flatten hnews hcells (fY h1) hroom hfit;refine⟨_,_,_,hr,jl hu hg hfr,hK _ ⟨hlen,heach,.inr ⟨g,_,rfl,bL _ _ _,hroom,hcm,?_,?_,hfr⟩⟩ (fu rfl)⟩
   ·simp only[List.size_toArray,List.length_append,List.length_take,List.length_drop,Array.length_toList];omega
   ·simp only[];rw[htake,hfl,Nat.add_mul, <-holds, <-hnews, <-List.length_append];exact List.take_left
theorem acS{z:Array Value}(hz: ∀v∈z.toList,v.oneCell'=true)(n:Nat): ∀v∈(Builtin.zeroCells z n).toList,v.oneCell'=true:=by grind [d3,List.mem_flatten]
theorem rT{P:Program}{T e sz bytes ty:Nat}(hT:cU P T e sz bytes=true){z:List Value}(hz0:dK P e=some z)(hz1:bF z=true){u0 u:World}{p:Option Addr}{m c old:Nat}{xs:List (List Value)}
  (ho:Own u0 u e sz p m c xs) (h1:m<=old) (h2:old<=c) {K:Value->World->Prop} (hK: ∀u',Own u0 u' e sz p m c xs->SubX p u u'->K (.tuple #[]) u'):
  AtEff false P (t0 #[T] ty #[.slice (fo p c m sz) (old-m) (c-m)]) u0 u K:=by
 obtain⟨ht,hsz,i,zv,hi,rfl,rfl,hz,hzs⟩:=bC hT
 have hzz:zv.cells.toList=z:=by
  simp only[dK,hi,hz,Option.map_some,Option.some.injEq]at hz0;exact hz0
 unfold t0;intro w hu h0
 by_cases hmo:old=m
 ·subst hmo;refine⟨.tuple #[],w,u,?_,⟨hu,fun b o h=>.inl h,fun b _ h=>h,⟨Nat.le_refl _,rfl,rfl⟩⟩,hK u ho (SubX.of_sub (Sub.refl u))⟩
  simp only[Nat.sub_self];cases fo p c old i.size with
  |none=>simp[Builtin.clear_,run_underlying ht]
  |some a=>simp[Builtin.clear_,run_underlying ht]
 ·rcases ho.at_ with ⟨rfl,rfl,rfl⟩|⟨g,cur,rfl,hg,hnc,hcm,hcs,htake,hfr⟩
  ·omega
  ·have hgw:=hu g _ hg ax;have hcut:fo (some ⟨g,0,none⟩) c m i.size=some ⟨g,m*i.size,none⟩:=by rw[fI (by omega)];simp
   rw[hcut]
   have hnl:(Builtin.zeroCells zv.cells (old-m)).toList.length=(old-m)*i.size:=by
    rw[d3,aM (sz:=i.size) _ (by intro x hx;rw[(List.mem_replicate.1 hx).2];simpa using hzs)]
    simp
   have hfit:m*i.size+(Builtin.zeroCells zv.cells (old-m)).toList.length<=cur.size:=by
    rw[hnl,hcs, <-Nat.add_mul];exact Nat.mul_le_mul_right _ (by omega)
   have hst:=run_storeCells_at P g (m*i.size) e (Builtin.zeroCells zv.cells (old-m)).toList 0 cur w hgw (by simpa using hfit) (acS (by rw[hzz];exact dp hz1) _)
   simp only[Nat.add_zero]at hst;obtain⟨j,hj⟩: ∃j,old-m=j+1:=⟨old-m-1,by omega⟩
   refine⟨.tuple #[],_,_,?_,jl (cs:=(cur.toList.take (m*i.size)++(Builtin.zeroCells zv.cells (old-m)).toList++cur.toList.drop (m*i.size+(Builtin.zeroCells zv.cells (old-m)).toList.length)).toArray) hu hg hfr,
    hK _ ⟨ho.len,ho.each,.inr ⟨g,_,rfl,bL _ _ _,hnc,hcm,?_,?_,hfr⟩⟩ (fu rfl)⟩
   ·rw[hj]at hst ⊢;simp[Builtin.clear_,run_underlying ht,zeroValue,typeInfo,hi,hz,hst]
   ·simp only[List.size_toArray,List.length_append,List.length_take,List.length_drop,Array.length_toList];rw[Array.length_toList]at hfit;omega
   ·simp only[];rw[List.append_assoc,List.take_append_of_le_length (by rw[List.length_take,Array.length_toList,hcs];have:=Nat.mul_le_mul_right i.size hnc;omega),List.take_take,Nat.min_self]
    exact htake
def am8{γ:Type}(pre:γ->List (Nat×SV))(loc:γ->List (Nat×Loc))(ρ:List (Nat×SV))(σ:List (Nat×Loc))(F:γ->World->Prop)(s:S)(u:World):Prop:= ∃g,(⟨pre g++ρ,loc g++σ⟩:S).le s/\F g u
theorem ahL{γ:Type}{pre:γ->List (Nat×SV)}{loc:γ->List (Nat×Loc)}{ρ:List (Nat×SV)}{σ:List (Nat×Loc)}{F:γ->World->Prop}{s:S}{u:World}:am8 pre loc ρ σ F s u= ∃g,(⟨pre g++ρ,loc g++σ⟩:S).le s/\F g u:=rfl
attribute [go_sem] ahL
