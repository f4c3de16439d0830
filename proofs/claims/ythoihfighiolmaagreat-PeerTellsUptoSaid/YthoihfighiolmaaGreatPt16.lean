import Derived.Test.YthoihfighiolmaaGreatPt15
set_option linter.unusedSectionVars false
set_option linter.unusedSimpArgs false
set_option linter.unusedVariables false
namespace Go.Eng
def amp(P:Program)(f:FuncId)(e sz:Nat):Prop:= ∀(xs:List (List Value)) (p:Option Addr) (n c i:Nat) (u0 u:World),Own u0 u e sz p n c xs->bl xs->i<n->n<=5000000-> ∀K:Value->World->Prop,
 (∀u',Own u0 u' e sz p (n-1) c (xs.take i++xs.drop (i+1))->SubX p u u'->K (.slice p (n-1) c) u')->AtCall false P f [.slice p n c,.int .i64 i,.int .i64 ((i:Int)+1)] u0 u K
theorem CallS.del{P:Program}{f:FuncId}{e sz:Nat}(hc:amp P f e sz){ds:DS}{K:DV->DS->Prop}{id i len:Nat}{l:List (List DV)}(hlk:lk ds.H id=some (.arr e sz l false))(hlen:len=l.length)(hi:i<l.length)(hn:l.length<=5000000)
  (hK:K (.rf id 0 (l.length-1)) ⟨ds.ρ,ds.σ,setH id (.arr e sz (l.eraseIdx i) false) ds.H,ds.nx,ds.nb⟩):CallS P false f [.rf id 0 len,.v (.int .i64 i),.v (.int .i64 ((i:Int)+1))] ds K:=by
 subst hlen
 rintro u0 β0 β us s u vs h ⟨w1,V1,rfl,⟨p,c,sz',q,hb,rfl,hle,hq,hsm⟩,w2,V2,rfl,⟨rfl,_⟩,w3,V3,rfl,⟨rfl,_⟩,rfl⟩
 obtain⟨p',c',g1,g2,g3⟩:=(h.row id _ hlk).2;rw[hb]at g1;cases g1;rcases g3 with ⟨rfl,rfl⟩|⟨h0,V,h4,h5,h6,h7⟩
 ·simp at hi
 have hq':q=p:=by rw[hq (by omega),nV]
 subst hq';have hVl:=h7.length;refine hc V q l.length c i u0 u h4 h6 hi hn _ (fun u' ho hx=>?_)
 have hn:=h.set (r:=.arr e sz (l.eraseIdx i) false) hlk hx (fun a ha=>by rw[hb,aN h0,ha];rfl)
  ⟨q,c,hb,by rw[List.length_eraseIdx_of_lt hi];omega,.inr ⟨h0,V.take i++V.drop (i+1),by rw[List.length_eraseIdx_of_lt hi];exact ho,h5,fun y hy=>?_,?_⟩⟩ (by rw[hb,aN h0,aN h0])
 ·exact⟨β,us,_,.rf id 0 (l.length-1),hn,⟨q,c,sz,q,hb,by rw[Nat.sub_zero],by omega,hq,hsm⟩,hK⟩
 ·rcases List.mem_append.1 hy with hy|hy
  ·exact h6 y (List.mem_of_mem_take hy)
  ·exact h6 y (List.mem_of_mem_drop hy)
 ·rw[List.eraseIdx_eq_take_drop_succ];exact(h7.take i).append (h7.drop (i+1))
def ai3(P:Program)(f:FuncId)(e sz bytes:Nat):Prop:= ∀(xs:List (List Value)) (x:List Value) (i n c c2:Nat) (p q:Option Addr) (u0 u:World),Own u0 u e sz p n c xs->i<=n->Own u0 u e sz q 1 c2 [x]->bF x=true->bl xs->NEP p q->(n+1)*bytes<=140737488355328->
 ∀K:Value->World->Prop,(∀p' c' u',Own u0 u' e sz p' (n+1) c' (xs.take i++[x]++xs.drop i)->SubX p u u'->(p'=p\/dk u p')->K (.slice p' (n+1) c') u')->AtCall false P f [.slice p n c,.int .i64 i,.slice q 1 c2] u0 u K
def aby(P:Program)(f:FuncId)(e sz:Nat):Prop:= ∀(x:List Value) (c2:Nat) (p q:Option Addr) (u0 u:World),Own u0 u e sz q 1 c2 [x]->bF x=true->
 ∀K:Value->World->Prop,(∀p' c' u',Own u0 u' e sz p' 1 c' [x]->Sub u u'->dk u p'->K (.slice p' 1 c') u')->AtCall false P f [.slice p 0 0,.int .i64 0,.slice q 1 c2] u0 u K
theorem CallS.ins{P:Program}{f:FuncId}{e sz bytes:Nat}(hc:ai3 P f e sz bytes)(hc0:aby P f e sz){ds:DS}{K:DV->DS->Prop}{id id2 i len:Nat}{l:List (List DV)}{x:List DV}(hlk:lk ds.H id=some (.arr e sz l false))(hlk2:lk ds.H id2=some (.arr e sz [x] false))(hne:id≠id2)
  (hlen:len=l.length) (hi:i<=l.length) (hn:(l.length+1)*bytes<=140737488355328)
  (hK:K (.rf ds.nx 0 (l.length+1)) ⟨ds.ρ,ds.σ,(ds.nx,.arr e sz (l.take i++[x]++l.drop i) false)::dropH id ds.H,ds.nx+1,ds.nb⟩):CallS P false f [.rf id 0 len,.v (.int .i64 i),.rf id2 0 1] ds K:=by
 subst hlen
 rintro u0 β0 β us s u vs h ⟨w1,V1,rfl,⟨p,c,sz',q,hb,rfl,hle,hq,hsm⟩,w2,V2,rfl,⟨rfl,_⟩,w3,V3,rfl,⟨p2,c2,sz2,q2,hb2,rfl,hle2,hq2,hsm2⟩,rfl⟩
 obtain⟨p',c',g1,g2,g3⟩:=(h.row id _ hlk).2;rw[hb]at g1;cases g1;obtain⟨p2',c2',k1,k2,k3⟩:=(h.row id2 _ hlk2).2;rw[hb2]at k1;cases k1;rcases k3 with ⟨_,hh⟩|⟨h02,V2,h42,h52,h62,h72⟩
 ·cases hh
 have hq2':q2=p2:=by rw[hq2 h02,nV]
 subst hq2'
 obtain⟨vx,rfl⟩: ∃vx,V2=[vx]:=by
  have:=h72.length
  match V2,this with
  |[a],_=>exact⟨a,rfl⟩
 have hvx:HVss us [x] [vx]:=h72;have hvx1:=h62 vx (List.mem_singleton.2 rfl);have hll:(l.take i++[x]++l.drop i).length=l.length+1:=by simp;omega
 rcases g3 with ⟨rfl,rfl⟩|⟨h0,V,h4,h5,h6,h7⟩
 ·have hi0:i=0:=by simpa using hi
  subst hi0;refine hc0 vx (c2-0) q q2 u0 u (by simpa using h42) hvx1 _ (fun p3 c3 u' ho hx hf=>?_)
  obtain⟨β',k1,k2⟩:=(h.drop id).newOwn (l:=[x]) hx ho hf rfl (fun y hy=>by simp at hy;subst hy;exact hvx1) hvx
  exact⟨β',us,_,.rf ds.nx 0 1,k1,k2,hK⟩
 ·have hq':q=p:=by rw[hq h0,nV]
  subst hq';have hVl:=h7.length
  have hnep:NEP q q2:=fun a b ha hb' e=>by
   subst ha;subst hb';refine h.dist id id2 _ _ a.block hne hlk hlk2 (by rw[hb,aN h0];rfl) (by rw[hb2,aN h02,e];rfl)
  refine hc V vx i l.length (c-0) (c2-0) q q2 u0 u (by simpa using h4) hi (by simpa using h42) hvx1 h6 hnep hn _ (fun p' c' u' ho hs hf=>?_)
  have hcap':=ho.sl.cap;have hsub:Sub us u':=hs.sub h.sub h5
  have hok:RowOk u0 u' us (upd β ds.nx (.arr p' c' sz)) (.arr p' c' sz) (.arr e sz (l.take i++[x]++l.drop i) false):=by
   refine⟨p',c',rfl,by rw[hll];exact hcap',.inr ⟨by omega,V.take i++[vx]++V.drop i,by rw[hll];exact ho,fun a0 h00=>?_,fun y hy=>?_,((h7.take i).append hvx).append (h7.drop i)⟩⟩
   ·rcases hf with rfl|hf
    ·exact h5 a0 h00
    ·exact Fresh.anti h.sub (hf a0 h00)
   ·simp only[List.append_assoc,List.mem_append,List.mem_singleton]at hy;rcases hy with hy|rfl|hy
    ·exact h6 y (List.mem_of_mem_take hy)
    ·exact hvx1
    ·exact h6 y (List.mem_of_mem_drop hy)
  have ht:=h.turn hlk hs (fun a ha=>by rw[hb,aN h0,ha];rfl) (.arr p' c' sz) _ hok (fun b hb'=>by
   rw[aN (by omega)]at hb'
   obtain⟨a0,h00,rfl⟩:=Option.map_eq_some_iff.1 hb';rcases hf with rfl|hf
   ·exact .inl (by rw[hb,aN h0,h00];rfl)
   ·exact .inr (hf a0 h00))
  refine⟨_,us,_,.rf ds.nx 0 (l.length+1),ht,⟨p',c',sz,p',ei _ _ _,rfl,by omega,fun _=>(nV p' sz).symm,fun hc=>?_⟩,hK⟩
  obtain⟨g,cur,rfl,_⟩:=ho.none_iff hc;rfl
section
variable {P:Program} {T:TypeId} {y z:Operand} {Kv:Value->Prop} {k:IntKind}
theorem ajX{a b:Int}:AtPure P (bm .and T y z (.int k a) (.int k b)) Kv=Kv (.int k (k.wrap (BitVec.ofInt k.bits a &&& BitVec.ofInt k.bits b).toNat)):=aA fun w=>by simp[bm,eqGuard,binOp,Op.intBits]
theorem aiw{a b:Int}:AtPure P (bm .xor T y z (.int k a) (.int k b)) Kv=Kv (.int k (k.wrap (BitVec.ofInt k.bits a ^^^ BitVec.ofInt k.bits b).toNat)):=aA fun w=>by simp[bm,eqGuard,binOp,Op.intBits]
end
def CoI(k:Option IntKind)(P:Program)(src dst:TypeId)(v:Value)(a:Int)(Kv:Value->Prop)(ks:Option IntKind):Prop:=
 match ks,k with
 |some _,some k=>bq k a Kv
 |_,_=>AtPure P (dO src dst v) Kv
theorem alX{P:Program}{src dst:TypeId}{k:IntKind}{a:Int}{Kv:Value->Prop}:AtPure P (dO src dst (.int k a)) Kv=CoI (lP P dst) P src dst (.int k a) a Kv (lP P src):=by
 unfold CoI;split
 ·rename_i k1 k' hs hd;exact aA fun w=>by simp[dO,convert,run_underlying (mP hs),run_underlying (mP hd),Conv.intToInt]
 ·rfl
theorem afu{P:Program}{src dst:TypeId}{v:Value}{a:Int}{k' k2:IntKind}{Kv:Value->Prop}:CoI (some k') P src dst v a Kv (some k2)=bq k' a Kv:=rfl
attribute [go_sem] alX afu
def eqR(ds1 ds:DS):List (Nat×DSV)->Prop
 |[]=>True
 |(t,_)::l=>(ds1.get t= .unk\/ds.get t=ds1.get t)/\eqR ds1 ds l
theorem abt{ds1 ds:DS}: ∀{l:List (Nat×DSV)},eqR ds1 ds l-> ∀p∈l,ds1.get p.1= .unk\/ds.get p.1=ds1.get p.1
 |[],_,p,hp=>by cases hp
 |(t,x)::l,h,p,hp=>by
  rcases List.mem_cons.1 hp with rfl|hp
  ·exact h.1
  ·exact abt h.2 p hp
theorem akT{ds1 ds:DS}(h1:eqR ds1 ds ds1.ρ)(h2:ds1.σ=ds.σ)(h3:ds1.H=ds.H)(h4:ds1.nx=ds.nx)(h5:ds1.nb=ds.nb):leD ds1 ds:=
 kP (fun t=>by
  cases hl:lk ds1.ρ t with
  |none=>exact .inl (by unfold DS.get;rw[hl];rfl)
  |some x=>exact abt h1 (t,x) (de hl)) h2 h3 h4 h5
theorem ajp{ds1 ds:DS}:eqR ds1 ds []=True:=rfl
theorem ahC{ds1 ds:DS}{t:Nat}{x:DSV}{l:List (Nat×DSV)}:eqR ds1 ds ((t,x)::l)=((ds1.get t= .unk\/ds.get t=ds1.get t)/\eqR ds1 ds l):=rfl
attribute [go_sem] ajp ahC
theorem Con2.args{P:Program}{f:FuncId}{fargs args:List DV}{Q:Res->Prop}(h:Con2 P f fargs Q)(hw:wkDs (fun _=>none) fargs args):Con2 P f args Q:=fun u vs hv=>by
 have:=di (us:=u) (β:=noB) fargs args vs hw hv;exact h u vs this
def wkO(fargs:List DV):Option (List DV)->Prop
 |some a=>wkDs (fun _=>none) fargs a
 |none=>False
theorem agW{fargs a:List DV}:wkO fargs (some a)=wkDs (fun _=>none) fargs a:=rfl
attribute [go_sem] agW
theorem CallS.eqW{P:Program}{x:Bool}{f:FuncId}{args fargs:List DV}{r:Res}{K:DV->DS->Prop}{ds:DS}(hc:Con2 P f fargs (· =r))(he:wkO fargs (embDs ds.H args))
  (hp:noPts args=true\/cE r.d=true) (hk:K (bif cE r.d then r.d else shD ds.nx r.d) (aftC ds args r)):CallS P x f args ds K:=by
 cases ha:embDs ds.H args with
 |none=>rw[ha]at he;exact he.elim
 |some a=>rw[ha]at he;exact CallS.eq (hc.args he) ha hp hk
theorem cw_{P:Program}{x:Bool}{f:FuncId}{args fargs:List DV}{r:Res}{K:DV->DS->Prop}{ds:DS}(hc:Con2 P f fargs (· =r))(hk:K (bif cE r.d then r.d else shD ds.nx r.d) (aftC ds args r))(he:wkO fargs (embDs ds.H args):=by simp-implicitDefEqProofs only[go_sem,ab])
  (hp:noPts args=true:=by simp-implicitDefEqProofs only[go_sem,ab]):CallS P x f args ds K:=CallS.eqW hc he (.inl hp) hk
theorem Con2.emb{P:Program}{f:FuncId}{args:List DV}{d d':DV}{H:List (Nat×Row)}{nx:Nat}(h:Con2 P f args (· =⟨d,H,nx⟩))(he:embD H d=some d')(hp:fP d=true):Con2 P f args (· =plR d'):=by
 intro u vs hv;obtain⟨hb,hc⟩:=h u vs hv;refine⟨hb,fun w hu=>(hc w hu).mono ?_⟩
 rintro e' w' ⟨r,u',h1,h2,h3,r2,rfl,β,us,s,hr,hs⟩
 obtain⟨us',g1,g2,g3⟩:=hr.ros (idsD H d);have h0:=hr.slot 0;rw[hs]at h0;obtain⟨w0,e0,hd⟩: ∃w,SV.v r= .v w/\HV us d β w:=h0;cases e0;have h4:=fB (H:=H) g1 d d' r g3 (.inl hp) hd he;refine⟨r,u',h1,h2,h3,_,rfl,noB,us',⟨[(0,.v r)],[]⟩,⟨⟨hr.base.1.trans g1,hr.base.2.trans g1⟩,g2.sub,fun t=>?_,fun k=>rfl,(fun id r hr=>by cases hr),fun id _=>rfl,fun id hi=>rfl,Nat.le_refl _,(fun i j ri rj b _ hi=>by cases hi)⟩,rfl⟩
 show HS us' noB ((lk [(0,DSV.d d')] t).getD DSV.unk) ((lk [(0,SV.v r)] t).getD SV.unk)
 by_cases e:0=t
 ·subst e;exact⟨r,rfl,h4⟩
 ·rw[aj e];trivial
structure Lft(q:Prop):Prop where
 out:q
section
variable {P:Program} {x:Bool} {f:FuncId} {args fargs:List DV} {r:Res} {K:DV->DS->Prop} {ds:DS}
end
section
variable {P:Program} {Q:Exit->DS->Prop} {ds:DS} {a b:Code} {c:Bool}
variable {x:Bool} {o:Oper} {K:DS->Prop} {w:Bool}
end
theorem akV{P:Program}{ops:Array Oper}{K:DS->Prop}{ds:DS}(t:OT)(pre:List (Nat×DSV)){q:Prop}(hw:gO P ops.toList (fun d=>leD ⟨pre++ds.ρ,ds.σ,ds.H,ds.nx,ds.nb⟩ d) t ds)(k:q)(ht:fH ops m0 t=true:=by kernel_rfl)
  (e:Lft q->K ⟨pre++ds.ρ,ds.σ,ds.H,ds.nx,ds.nb⟩:=by intro k;(repeat (first|(simp-implicitDefEqProofs only[go_sem,ab,List.cons_append,List.nil_append])|(with_reducible refine aK ?_)|(with_reducible refine f6 (by omega) ?_)|(with_reducible refine And.intro (by omega) ?_)));exact k.out):AtDraw2 P ops K ds:=
 .inr (.inl ⟨t,ht,fE (fun d hd=>.inr ⟨_,hd,e ⟨k⟩⟩) t ds hw⟩)
theorem zj{P:Program}{ops:Array Oper}{K:DS->Prop}{ds:DS}(t:OT)(pre:List (Nat×DSV))(loc:List (Nat×ek)){q:Prop}(hw:gO P ops.toList (fun d=>leD ⟨pre++ds.ρ,loc++ds.σ,ds.H,ds.nx,ds.nb⟩ d) t ds)(k:q)(ht:fH ops m0 t=true:=by kernel_rfl)
  (e:Lft q->K ⟨pre++ds.ρ,loc++ds.σ,ds.H,ds.nx,ds.nb⟩:=by intro k;(repeat (first|(simp-implicitDefEqProofs only[go_sem,ab,List.cons_append,List.nil_append])|(with_reducible refine aK ?_)|(with_reducible refine f6 (by omega) ?_)|(with_reducible refine And.intro (by omega) ?_)));exact k.out):AtDraw2 P ops K ds:=
 .inr (.inl ⟨t,ht,fE (fun d hd=>.inr ⟨_,hd,e ⟨k⟩⟩) t ds hw⟩)
theorem mE_{α:Type}{l:List α}{k:Nat}(h:k<l.length)(f:α->List DV):(l.map f)[k]? =some (f l[k]):=aX h
theorem c2_{a b:Prop}(x:a)(y:b):a/\b:=⟨x,y⟩
theorem c3_{a b c:Prop}(x:a)(y:b)(z:c):a/\b/\c:=⟨x,y,z⟩
theorem c4_{a b c d:Prop}(x:a)(y:b)(z:c)(w:d):a/\b/\c/\d:=⟨x,y,z,w⟩
theorem x1_{p q a:Prop}(h:a)(k:q)(e:a->Lf2 q->p:=by intro h k;(repeat first|simp-implicitDefEqProofs only[go_sem,ab,List.length_map,List.contains_nil,Int.toNat_natCast,bne_self_eq_false,List.cons_append,List.nil_append,List.append_eq,List.length_nil,List.length_cons,List.map_cons,List.map_nil,List.length_replicate,List.length_set,List.set_cons_zero,List.set_cons_succ,if_true,if_false,Bool.false_eq_true,Bool.true_and,List.length_append,List.take_zero,List.append_nil,List.map_append,Int.natCast_add,Int.natCast_one,List.map_set,Bool.not_true,Bool.not_false,Bool.and_self,Option.getD_some,List.filter_nil,Option.isSome_some,beq_self_eq_true,List.take_length,h]|with_reducible first|refine gl_ ?_|refine ga_ ?_|refine gn_ ?_);exact k.out):p:=e h ⟨k⟩
theorem y1_{p a:Prop}(h:a)(e:a->p:=by intro h;(repeat first|simp-implicitDefEqProofs only[go_sem,ab,List.length_map,List.contains_nil,Int.toNat_natCast,bne_self_eq_false,List.cons_append,List.nil_append,List.append_eq,List.length_nil,List.length_cons,List.map_cons,List.map_nil,List.length_replicate,List.length_set,List.set_cons_zero,List.set_cons_succ,if_true,if_false,Bool.false_eq_true,Bool.true_and,List.length_append,List.take_zero,List.append_nil,List.map_append,Int.natCast_add,Int.natCast_one,List.map_set,Bool.not_true,Bool.not_false,Bool.and_self,Option.getD_some,List.filter_nil,Option.isSome_some,beq_self_eq_true,List.take_length,h]|with_reducible refine gl_ ?_)):p:=e h
theorem x0_{p q:Prop}(k:q)(e:Lf2 q->p:=by intro k;exact x1_ trivial k.out):p:=e ⟨k⟩
theorem ce_{P:Program}{x:Bool}{f:FuncId}{args fargs:List DV}{r:Res}{K:DV->DS->Prop}{ds:DS}(hc:Con2 P f fargs (· =r))(hk:K (bif cE r.d then r.d else shD ds.nx r.d) (aftC ds args r))(he:embDs ds.H args=some fargs:=by simp-implicitDefEqProofs only[go_sem,ab])
  (hp:noPts args=true:=by simp-implicitDefEqProofs only[go_sem,ab]):CallS P x f args ds K:=CallS.eq hc he (.inl hp) hk
theorem cx_{P:Program}{x:Bool}{f:FuncId}{args fargs:List DV}{r:Res}{K:DV->DS->Prop}{ds:DS}(hc:Con2 P f fargs (· =r))(he:wkO fargs (embDs ds.H args))(hk:K (bif cE r.d then r.d else shD ds.nx r.d) (aftC ds args r))
  (hp:noPts args=true:=by simp-implicitDefEqProofs only[go_sem,ab]):CallS P x f args ds K:=CallS.eqW hc he (.inl hp) hk
end Go.Eng
namespace Go.Proofs.YthoihfighiolmaaGreat.V
open Go.Eng
theorem en_{f:FuncId}{fn:Func}(hf:Tryz.prog.funcs[f]? =some fn){c:Code}{args:List DV}(rs:List ResultVar){Q:Res->Prop}(h:vc2 Tryz.prog c (rl Tryz.prog rs Q) ⟨initD 0 args,[],[],0,0⟩)(hb:fn.body=some c:=by rfl)(h1:cW Tryz.prog f=true:=by kernel_rfl)
  (h2:fits fn.ntmps c=true:=by kernel_rfl) (hn:Nat.ble args.length fn.ntmps=true:=by rfl) (hr:fn.results.toList=rs:=by rfl):Con2 Tryz.prog f args Q:=tX Ty.mixed hf hb h1 h2 hn rs hr h
theorem ev_{f:FuncId}{fn:Func}(hf:Tryz.prog.funcs[f]? =some fn){c:Code}{args:List DV}(rs:List ResultVar){Q:Res->Prop}(h:Vc2 Tryz.prog c (rl Tryz.prog rs Q) ⟨initD 0 args,[],[],0,0⟩)(hb:fn.body=some c:=by rfl)(h1:cW Tryz.prog f=true:=by kernel_rfl)
  (h2:fits fn.ntmps c=true:=by kernel_rfl) (hn:Nat.ble args.length fn.ntmps=true:=by rfl) (hr:fn.results.toList=rs:=by rfl):Con2 Tryz.prog f args Q:=nS Ty.mixed hf hb h1 h2 hn rs hr h
theorem il_{f:FuncId}{fn:Func}(hf:Tryz.prog.funcs[f]? =some fn){c:Code}{args:List DV}(rs:List ResultVar){ds:DS}{K:DV->DS->Prop}(h:Vc2 Tryz.prog c (agw Tryz.prog rs ds K) ⟨initD 0 args,[],ds.H,ds.nx,ds.nx⟩)(hb:fn.body=some c:=by rfl)(h1:cW Tryz.prog f=true:=by kernel_rfl)
  (h2:fits fn.ntmps c=true:=by kernel_rfl) (hn:Nat.ble args.length fn.ntmps=true:=by rfl) (hr:fn.results.toList=rs:=by rfl):CallS Tryz.prog false f args ds K:=CallS.inline Ty.mixed hf hb h1 h2 hn rs hr h
theorem im_{f:FuncId}{fn:Func}(hf:Tryz.prog.funcs[f]? =some fn){c:Code}{args:List DV}(rs:List ResultVar){ds:DS}{K:DV->DS->Prop}(h:vc2 Tryz.prog c (agw Tryz.prog rs ds K) ⟨initD 0 args,[],ds.H,ds.nx,ds.nx⟩)(hb:fn.body=some c:=by rfl)(h1:cW Tryz.prog f=true:=by kernel_rfl)
  (h2:fits fn.ntmps c=true:=by kernel_rfl) (hn:Nat.ble args.length fn.ntmps=true:=by rfl) (hr:fn.results.toList=rs:=by rfl):CallS Tryz.prog false f args ds K:=CallS.inline Ty.mixed hf hb h1 h2 hn rs hr (Vc2.of h)
