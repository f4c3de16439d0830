import Derived.Test.YthoihfighiolmaaGreatPt7
import Derived.Lib.Overlaps
set_option linter.unusedSectionVars false
set_option linter.unusedSimpArgs false
set_option linter.unusedVariables false
namespace Go.Eng
theorem fI{g o c l sz:Nat}(h:l<c):fo (some ⟨g,o,none⟩) c l sz=some ⟨g,o+l*sz,none⟩:=by
 unfold fo;rw[if_neg (by omega)]
 simp[Addr.add_lit]
theorem ji{P:Program}{T T2 e sz bytes ty:Nat}(hT:cU P T e sz bytes=true){u0 u:World}{g o dl dc:Nat}{a:Addr}{sl sc:Nat}{cur:Array Value}{e':TypeId}{news:List Value}
  (hg:u.heap[g]? =some (.cells cur e' (0,0))) (hf:Fresh u0 g) (hlen:news.length=Nat.min sl dl*sz) (hsrc: ∀j v,news[j]? =some v->u.cell? (a.add j)=some v)
  (h1: ∀v∈news,v.oneCell'=true) (hfit:o+news.length<=cur.size) {K:Value->World->Prop}
  (hK: ∀u',u'.heap[g]? =some (.cells (cur.toList.take o++news++cur.toList.drop (o+news.length)).toArray e' (0,0))->SubX (some ⟨g,0,none⟩) u u'->K (.int .i64 (Nat.min sl dl:Nat)) u'):
  AtEff false P (jF #[T,T2] ty #[.slice (some ⟨g,o,none⟩) dl dc,.slice (some a) sl sc]) u0 u K:=by
 obtain⟨ht,hsz,i,z,hi,rfl,rfl,hz,hzs⟩:=bC hT;unfold jF;intro w hu h0;have hgw:=hu g _ hg ax;have hld:=run_loadCells_list (P:=P) w a news (fun j v hv=>hu.cell (hsrc j v hv))
 have hst:=run_storeCells_at P g o e' news 0 cur w hgw (by simpa using hfit) h1
 simp only[Nat.add_zero]at hst;refine⟨.int .i64 (Nat.min sl dl:Nat),_,_,?_,jl (cs:=(cur.toList.take o++news++cur.toList.drop (o+news.length)).toArray) hu hg hf,hK _ (bL _ _ _) (fu rfl)⟩;rw[hlen]at hld;simp only[Nat.min_def]at hld ⊢;simp[Builtin.copy_,run_underlying ht,Builtin.lenOf,Builtin.firstCells,sizeOf,typeInfo,hi,hld,hst,goInt,Nat.min_def]
theorem d3(z:Array Value)(n:Nat):(Builtin.zeroCells z n).toList=(List.replicate n z.toList).flatten:=by
 have hfl:(List.replicate n z.toList).flatten.length=n*z.size:=by
  rw[aM (sz:=z.size) _ (by intro x hx;rw[(List.mem_replicate.1 hx).2];simp),List.length_replicate]
 apply List.ext_getElem?;intro j
 by_cases hj:j<n*z.size
 ·have hs:0<z.size:=by
   rcases Nat.eq_zero_or_pos z.size with h|h
   ·rw[h]at hj;omega
   ·exact h
  have hm:=Nat.mod_lt j hs;have hd:j / z.size<n:=(Nat.div_lt_iff_lt_mul hs).2 hj;have h1:=kV (sz:=z.size) (List.replicate n z.toList) (by intro x hx;rw[(List.mem_replicate.1 hx).2];simp) (j / z.size) z.toList (by simp[hd]) (j % z.size) z[j % z.size] (by simp[hm])
  rw[Nat.mul_comm,Nat.div_add_mod]at h1;rw[h1];simp[Builtin.zeroCells,hj,hm]
 ·rw[List.getElem?_eq_none (by simp[Builtin.zeroCells];omega),List.getElem?_eq_none (by rw[hfl];omega)]
theorem ng{P:Program}{T T2 e sz bytes ty:Nat}(hT:cU P T e sz bytes=true){k2:IntKind}(h2:lP P T2=some k2){z:List Value}(hz0:dK P e=some z){u0 u:World}{p:Option Addr}{n c:Nat}{k:IntKind}{m:Int}
  {xs:List (List Value)} (hs:Sl u sz p n c xs) (hm:0<m) (hgrow:c<n+m.toNat) (hb:(n+m.toNat)*bytes<=140737488355328) (hmax:n+m.toNat<=9223372036854775807) {K:Value->World->Prop}
  (hK: ∀p' c' u',Own u0 u' e sz p' (n+m.toNat) c' (xs++List.replicate m.toNat z)->Sub u u'->dk u p'->K (.slice p' (n+m.toNat) c') u'):
  AtEff false P (iW #[T,T2] ty #[.slice p n c,.int k m]) u0 u K:=by
 obtain⟨ht,hsz,i,zv,hi,rfl,rfl,hz,hzs⟩:=bC hT;have hzz:zv.cells.toList=z:=by simp[dK,hi,hz]at hz0;exact hz0
 unfold iW;intro w hu h0;obtain⟨q,hq⟩: ∃q:Nat,m=q:=⟨m.toNat,by omega⟩
 subst hq;simp only[Int.toNat_natCast]at *;have hw:IntKind.i64.wrap (q:Int)=q:=IntWalk.i64_in _ (by omega)
 have hn: ¬(n+q<=c):=by omega
 have hq0: ¬(q=0):=by omega
 have h63': ¬(9223372036854775807<((n:Int)+(q:Int))):=by omega
 have hgs:=growslice_fits (need:=n+q) (old:=c) (by omega) hb
 have h48': ¬(281474976710656<Builtin.nextslicecap (n+q) c*i.bytes):=by omega
 have hqb: ¬((281474976710656:Int)<(q:Int)*(i.bytes:Int)):=by
  have:q*i.bytes<=(n+q)*i.bytes:=Nat.mul_le_mul_right _ (by omega)
  have h3:q*i.bytes<=140737488355328:=Nat.le_trans this hb;have h4:((q*i.bytes:Nat):Int)<=140737488355328:=by omega
  rw[Int.natCast_mul]at h4;omega
 have hneg: ¬((q:Int)<0):=by omega
 have hqs: ¬(q*i.size=0):=by
  intro h;rcases Nat.mul_eq_zero.1 h with h|h<;>omega
 have hfl:xs.flatten.length=n*i.size:=by rw[aM xs hs.each,hs.len]
 have hfirst:(Builtin.firstCells i.size n (.slice p n c)).run P w.drew= .ok xs.flatten.toArray w.drew:=by
  cases p with
  |none=>
   obtain⟨rfl,rfl⟩:=hs.nil rfl;have:xs=[]:=List.eq_nil_of_length_eq_zero hs.len;subst this;simp[Builtin.firstCells]
  |some a=>
   have:=run_loadCells_list (P:=P) w.drew a xs.flatten (fun j v hv=>hu.cell (hs.cells j v hv))
   rw[hfl]at this;simpa[Builtin.firstCells]using this
 have hge:=grownCap_ge w (n+q) c e
 have hrun:(Builtin.append_ #[T,T2] ty #[.slice p n c,.int k (q:Int)]).run P w= .ok (.slice (some ⟨w.heap.size,0,none⟩) (n+q) (grownCap w (n+q) c e))
   (w.drew.alloc (.cells (xs.flatten.toArray++Builtin.zeroCells zv.cells q++Builtin.zeroCells zv.cells (grownCap w (n+q) c e-(n+q))) e)):=by
  simp[Builtin.append_,run_underlying ht,run_underlying (mP h2),sizeOf,typeInfo,zeroValue,hi,hz,asInt,asIntOf,hw,hqb,hn,h63',h48',hq0,hneg,hfirst,hqs,Question.forced,newRow,grownCap]
  try (congr 2;apply Array.ext';simp[List.append_assoc])
 refine⟨_,_,_,hrun,iD hu rfl,hK _ _ _ ⟨by simp[hs.len],?_,.inr ⟨w.heap.size,_,rfl,bL _ _ _,hge,grownCap_le_maxLen w (n+q) c e (by simp only[maxLen];omega),?_,?_,aO h0 (Nat.le_refl _)⟩⟩ (dR (aO hu (Nat.le_refl _))) (fun a ha=>by cases ha;exact aO hu (Nat.le_refl _))⟩
 ·intro x hx;rcases List.mem_append.1 hx with hx|hx
  ·exact hs.each x hx
  ·rw[(List.mem_replicate.1 hx).2, <-hzz];simpa using hzs
 ·simp only[Array.size_append,List.size_toArray,size_zeroCells,hzs,hfl, <-Nat.add_mul]
  congr 1
  omega
 ·simp only[Array.toList_append,d3,hzz];rw[List.flatten_append]
  have hl2:(xs.flatten++(List.replicate q z).flatten).length=(n+q)*i.size:=by
   rw[List.length_append,hfl,aM (sz:=i.size) _ (by intro x hx;rw[(List.mem_replicate.1 hx).2, <-hzz];simpa using hzs),List.length_replicate,Nat.add_mul]
  rw[<-hl2];exact List.take_left
theorem uX{P:Program}{f:FuncId}{T R e sz bytes:Nat}(hT:cU P T e sz bytes=true)(hf:xB P f=some (Extern.SlicesOverlaps.overlaps #[T,T] #[R])){x:Bool}{u0 u:World}{a b:Addr}{la ca lb cb:Nat}{cA cB:Array Value}{tA tB:TypeId}
  (hne:a.block≠b.block) (hA:u.heap[a.block]? =some (.cells cA tA (0,0))) (hB:u.heap[b.block]? =some (.cells cB tB (0,0))) (hk:cB.size≠0) {K:Value->World->Prop} (hK:K (.bool false) u):
  AtCall x P f [.slice (some a) la ca,.slice (some b) lb cb] u0 u K:=by
 obtain⟨ht,hsz,i,zv,hi,rfl,rfl,hz,hzs⟩:=bC hT;refine .inr ⟨_,hf,fun w hu h0=>?_⟩
 have hAw:=hu _ _ hA ax;have hBw:=hu _ _ hB ax
 have hr:=Lib.run_overlaps_apart (P:=P) w T R e ht i.size (fun w=>by simp[sizeOf,typeInfo,hi]) a b la ca lb cb hne tA tB cA.size cB.size (by simp[World.shape?,hAw]) (by simp[World.shape?,hBw]) hk
  (by simp[World.frozen?,hAw]) (by simp[World.frozen?,hAw])
 exact⟨_,w,u,hr,⟨hu,fun b o h=>.inl h,fun b _ h=>h,⟨Nat.le_refl _,rfl,rfl⟩⟩,hK⟩
section
variable {P:Program} {Kv:Value->Prop} {T e sz bytes:Nat} {p:Option Addr} {n c:Nat} {k:IntKind} {i:Int}
theorem mR(hT:cU P T e sz bytes=true)(h0:0<=i)(h1:i<=c):AtPure P (cD T (.slice p n c) none (some (.int k i)) none) Kv=Kv (.slice p i.toNat c):=by
 obtain⟨ht,hsz,info,z,hi,rfl,rfl,hz,hzs⟩:=bC hT;exact agZ ht hi h0 h1
theorem cN(hT:cU P T e sz bytes=true)(h0:0<=i)(h1:i<=n):AtPure P (cD T (.slice p n c) (some (.int k i)) none none) Kv=Kv (.slice (fo p c i.toNat sz) (n-i.toNat) (c-i.toNat)):=by
 obtain⟨ht,hsz,info,z,hi,rfl,rfl,hz,hzs⟩:=bC hT;exact yD ht hi h0 h1
end
theorem Sl.subX{u u':World}{sz:Nat}{p q:Option Addr}{n c:Nat}{xs:List (List Value)}(hs:SubX q u u')(hne: ∀a b,p=some a->q=some b->a.block≠b.block)(h:Sl u sz p n c xs):Sl u' sz p n c xs:=
 ⟨h.len,h.cap,h.each,h.nil,fun a ha=>⟨(h.at_ a ha).1,fun i x hx j v hv=>by
  obtain⟨c',t,f,hb,hsp,hv'⟩:=fx ((h.at_ a ha).2 i x hx j v hv)
  exact fm (hs _ _ (fun b hq=>hne a b ha hq) hb ax) hv'⟩⟩
theorem alM{l A B x:List Value}{a s b:Nat}(hA:l.take a=A)(ha:A.length=a)(hx:x.length=s)(hB:B.length=b)(hl:a+s+b<=l.length):
  ((l.take (a+s)++B++l.drop (a+s+b)).take a++x++(l.take (a+s)++B++l.drop (a+s+b)).drop (a+s)).take (a+s+b)=A++x++B:=by
 have e1:(l.take (a+s)++B++l.drop (a+s+b)).take a=A:=by
  rw[List.append_assoc,List.take_append_of_le_length (by simp;omega),List.take_take,Nat.min_eq_left (by omega)];exact hA
 have e2:(l.take (a+s)++B++l.drop (a+s+b)).drop (a+s)=B++l.drop (a+s+b):=by
  rw[List.append_assoc];apply List.drop_left';simp;omega
 rw[e1,e2, <-List.append_assoc];apply List.take_left';simp;omega
theorem ah9{l A B x:List Value}{a s b:Nat}(hA:l.take a=A)(ha:A.length=a)(hx:x.length=s)(hB:B.length=b)(hl:a+s+b<=l.length):
  ((l.take a++x++l.drop (a+s)).take (a+s)++B++(l.take a++x++l.drop (a+s)).drop (a+s+b)).take (a+s+b)=A++x++B:=by
 have e1:(l.take a++x++l.drop (a+s)).take (a+s)=A++x:=by
  rw[hA];apply List.take_left';simp;omega
 rw[e1];apply List.take_left';simp;omega
theorem xX{P:Program}{T n b off:Nat}{ag:Bool}(hl:lay P T=some (ag,n)){u0 u:World}{cs:List Value}{T':TypeId}{a:Value}(hg:u.heap[b]? =some (.cells cs.toArray T' (0,0)))(hf:Fresh u0 b)
  (hn:a.cells.toList.length=n) (hfit:off+n<=cs.length) (h1:bF a.cells.toList=true) {K:World->Prop}
  (hK: ∀u',u'.heap[b]? =some (.cells (splice cs off a.cells.toList).toArray T' (0,0))->SubX (some ⟨b,0,none⟩) u u'->K u'):AtDo false P (fG T (.pointer (some ⟨b,off,none⟩)) a) u0 u K:=by
 unfold fG;intro w hu h0;have hgw:=hu b _ hg ax;have hst:=run_storeCells_at P b off T' a.cells.toList 0 cs.toArray w hgw (by simp only[Nat.add_zero,List.size_toArray];rw[hn];exact hfit) (dp h1)
 simp only[Nat.add_zero]at hst;have hsz:=(jU hl w).2;have hc:a.cells.size=n:=by simpa using hn
 refine⟨_,_,?_,jl (cs:=(splice cs off a.cells.toList).toArray) hu hg hf,hK _ (bL _ _ _) (fu rfl)⟩;simp[Instr.storeAt,Instr.sureAddr,storeVar,hsz,hc,hst,splice]
theorem vJ{sz:Nat}: ∀(xs:List (List Value)) (i:Nat) (x y:List Value),(∀z∈xs,z.length=sz)->xs[i]? =some x->y.length=sz->
  (xs.set i y).flatten=xs.flatten.take (i*sz)++y++xs.flatten.drop (i*sz+sz):=by
 intro xs
 induction xs with
 |nil=>intro i x y _ h;simp at h
 | cons z r ih=>
  intro i x y hl hx hy;have hz:=hl z List.mem_cons_self;cases i with
  |zero=>
   simp only[List.set_cons_zero,List.flatten_cons,Nat.zero_mul,List.take_zero,List.nil_append,Nat.zero_add]
   congr 1
   exact(List.drop_left' hz).symm
  |succ i=>
   simp only[List.set_cons_succ,List.flatten_cons];rw[ih i x y (fun w hw=>hl w (List.mem_cons_of_mem _ hw)) (by simpa using hx) hy]
   have e1:(i+1)*sz=sz+i*sz:=by rw[Nat.add_mul];omega
   rw[e1,List.take_append,List.drop_append,hz];rw[List.take_of_length_le (l:=z) (by omega),List.drop_eq_nil_of_le (as:=z) (by omega)]
   rw[show sz+i*sz-sz=i*sz from by omega,show sz+i*sz+sz-sz=i*sz+sz from by omega]
   simp
theorem xS{L vs:List Value}{A off m sz N:Nat}(hA:A+sz<=N)(hoff:off+m<=sz)(hm:vs.length=m)(hN:N<=L.length):
  (splice L (A+off) vs).take N=(L.take N).take A++splice ((L.drop A).take sz) off vs++(L.take N).drop (A+sz):=by
 obtain⟨a,b,c,d,r,rfl,ha,hb,hc,hd⟩: ∃a b c d r:List Value,L=a++(b++(c++(d++r)))/\a.length=A/\b.length=off/\c.length=m/\d.length=sz-off-m:=by
  refine⟨L.take A,(L.drop A).take off,(L.drop (A+off)).take m,(L.drop (A+off+m)).take (sz-off-m),L.drop (A+off+m+(sz-off-m)),?_,?_,?_,?_,?_⟩
  ·have e1:(L.drop (A+off+m)).take (sz-off-m)++L.drop (A+off+m+(sz-off-m))=L.drop (A+off+m):=by
    have:=List.take_append_drop (sz-off-m) (L.drop (A+off+m));rwa[List.drop_drop]at this
   have e2:(L.drop (A+off)).take m++L.drop (A+off+m)=L.drop (A+off):=by have:=List.take_append_drop m (L.drop (A+off));rwa[List.drop_drop]at this
   have e3:(L.drop A).take off++L.drop (A+off)=L.drop A:=by have:=List.take_append_drop off (L.drop A);rwa[List.drop_drop]at this
   rw[e1,e2,e3,List.take_append_drop]
  all_goals (simp;omega)
 subst ha hb hc;have hdl:b.length+c.length+d.length=sz:=by omega
 obtain⟨k,rfl⟩: ∃k,N=a.length+sz+k:=⟨N-(a.length+sz),by omega⟩
 subst hdl
 have t1:splice (a++(b++(c++(d++r)))) (a.length+b.length) vs=a++(b++(vs++(d++r))):=by
  unfold splice
  rw[show a++(b++(c++(d++r)))=(a++b)++(c++(d++r))from by simp,List.take_left' (by simp),
   show(a++b)++(c++(d++r))=(a++b++c)++(d++r)from by simp,List.drop_left' (by simp[hm];omega)]
  simp
 have t2:(a++(b++(c++(d++r)))).drop a.length=b++(c++(d++r)):=List.drop_left' rfl
 have t3:(b++(c++(d++r))).take (b.length+c.length+d.length)=b++(c++d):=by
  rw[show b++(c++(d++r))=(b++(c++d))++r from by simp];exact List.take_left' (by simp;omega)
 have t4:splice (b++(c++d)) b.length vs=b++(vs++d):=by
  unfold splice;rw[List.take_left' rfl,show b++(c++d)=(b++c)++d from by simp,List.drop_left' (by simp[hm])]
  simp
 have t5:(a++(b++(c++(d++r)))).take (a.length+(b.length+c.length+d.length)+k)=(a++(b++(c++d)))++r.take k:=by
  rw[show a++(b++(c++(d++r)))=(a++(b++(c++d)))++r from by simp,List.take_append,List.take_of_length_le (by simp;omega)]
  congr 2
  simp;omega
 have t6:(a++(b++(vs++(d++r)))).take (a.length+(b.length+c.length+d.length)+k)=(a++(b++(vs++d)))++r.take k:=by
  rw[show a++(b++(vs++(d++r)))=(a++(b++(vs++d)))++r from by simp,List.take_append,List.take_of_length_le (by simp;omega)]
  congr 2
  simp;omega
 rw[t1,t6,t2,t3,t4,t5]
 rw[show(a++(b++(c++d))++r.take k).take a.length=a from by rw[List.append_assoc];exact List.take_left' rfl,
  show(a++(b++(c++d))++r.take k).drop (a.length+(b.length+c.length+d.length))=r.take k from List.drop_left' (by simp;omega)]
 try simp
theorem rK{P:Program}{T m e sz:Nat}{ag:Bool}(hl:lay P T=some (ag,m)){u0 u:World}{p:Option Addr}{n c i off:Nat}{xs:List (List Value)}{x:List Value}{a:Value}(ho:Own u0 u e sz p n c xs)
  (hx:xs[i]? =some x) (hn:a.cells.toList.length=m) (hfit:off+m<=sz) (h1:bF a.cells.toList=true) {K:World->Prop}
  (hK: ∀u',Own u0 u' e sz p n c (xs.set i (splice x off a.cells.toList))->SubX p u u'->K u'):oR false P u0 T (.slice p n c) sz i off a u K:=by
 have hlt:i<xs.length:=by rcases Nat.lt_or_ge i xs.length with h|h;exact h;simp[List.getElem?_eq_none h]at hx
 have hxl:=ho.each x (List.mem_of_getElem? hx);have hlen:=ho.len;rcases ho.at_ with ⟨_,h,_⟩|⟨g,cur,rfl,hg,k1,k2,k3,k4,k5⟩
 ·omega
 have had:bT (.slice (some ⟨g,0,none⟩) n c) sz i off=some ⟨g,i*sz+off,none⟩:=by
  simp[bT,Addr.add_lit]
 unfold oR;rw[had];have hfl:xs.flatten.length=n*sz:=by rw[aM xs ho.each,hlen]
 have hin:i*sz+sz<=n*sz:=by
  have:(i+1)*sz<=n*sz:=Nat.mul_le_mul_right _ (by omega)
  rw[Nat.add_mul]at this;omega
 have hcs:n*sz<=c*sz:=Nat.mul_le_mul_right _ k1;refine xX (cs:=cur.toList) hl (by simpa using hg) k5 hn (by simp[k3];omega) h1 ?_
 intro u' hg' hs';have hsp:(splice x off a.cells.toList).length=sz:=by rw[kA (by rw[hn,hxl];exact hfit)];exact hxl
 refine hK u' ⟨by simpa using hlen,?_,.inr ⟨g,_,rfl,hg',k1,k2,?_,?_,k5⟩⟩ ?_
 ·intro y hy;rcases List.mem_or_eq_of_mem_set hy with hy|rfl
  ·exact ho.each y hy
  ·exact hsp
 ·rw[List.size_toArray,kA (by rw[hn];simp[k3];omega)]
  simpa using k3
 ·-- the cells
  simp only[];rw[vJ xs i x _ ho.each hx hsp, <-k4]
  have hxat:x=(cur.toList.drop (i*sz)).take sz:=by
   apply List.ext_getElem?;intro j
   by_cases hj:j<sz
   ·have h1:=kV xs ho.each i x hx j (x[j]'(by omega)) (by simp[hxl,hj])
    rw[<-k4,List.getElem?_take,if_pos (by omega)]at h1
    rw[List.getElem?_take,if_pos hj,List.getElem?_drop,h1];simp[hxl,hj]
   ·rw[List.getElem?_eq_none (by omega),List.getElem?_take,if_neg hj]
  rw[hxat];exact xS hin hfit hn (by simp[k3];omega)
 ·exact hs'
