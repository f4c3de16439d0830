import Derived.Test.YthoihfighiolmaaGreatPt3
import Derived.RangeFuncLeaves
set_option linter.unusedSectionVars false
set_option linter.unusedSimpArgs false
set_option linter.unusedVariables false
namespace Go.Eng
def im:List Oper->Nat->Option Nat
 |[],_=>none
 |o::_,0=>o.dst
 |_::r,j+1=>im r j
def bx:List Oper->Nat->Option Oper
 |[],_=>none
 |o::_,0=>some o
 |_::r,j+1=>bx r j
def vcG(P:Program)(x:Bool)(u0:World)(all:List Oper)(o:Oper)(K:S->World->Prop)(s:S)(u:World):Prop:=
 match o.guard with
 |none=>cj P x u0 o K s u
 | some (j,want)=>
  match im all j with
  |some d=>
   match s.get d with
   | .v (.bool c)=>(c=want->cj P x u0 o K s u)/\(c= !want->K (s.put o.dst (.v undef)) u)
   | .v (.tuple _)=>K (s.put o.dst (.v undef)) u
   |_=>False
  |none=>False
def kH(P:Program)(u0:World)(all:List Oper)(K:S->World->Prop):List Oper->S->World->Prop
 |[],s,u=>K s u
 |o::r,s,u=>vcG P false u0 all o (kH P u0 all K r) s u
def abb:Op->Bool
 | .store .. =>true
 |_=>false
def aeQ(kl:List Nat)(o:Oper)(s:S):Prop:=
 match o.op with
 | .load _ y=>(match s.sv y with
  | .loc k _=>cV kl k=true
  |_=>False)
 |_=>False
def rQ(s s':S):List Nat->Prop
 |[]=>True
 |k::r=>s'.find k=s.find k/\rQ s s' r
structure Md where
 b:Bool
 ls:List Nat
 kl:List Nat
 ks:List Nat
def m0:Md:=⟨false,[],[],[]⟩
def XOk(m:Md)(x:Bool)(i:Nat)(o:Oper)(s:S):Prop:=(cV m.ls i=true->aeQ m.kl o s)/\(cV m.ls i=false->aab m.ks o s)/\(m.b=true->x=true->aiG m.ks o s)
def XK(m:Md)(o:Oper)(s s':S):Prop:=keepL s s' (iv o) m.ks/\rQ s s' m.kl
def LeK(K:S->World->Prop)(s:S)(u:World):Prop:=K s u\/ ∃s1:S,s1.le s/\K s1 u
def vcT(P:Program)(u0:World)(all:List Oper)(m:Md)(K:S->World->Prop):OT->S->World->Prop
 | .done,s,u=>K s u
 | .no,_,_=>True
 | .fl i t,s,u=>
  match bx all i with
  |some o=>XOk m false i o s/\vcG P false u0 all o (fun s' u'=>XK m o s s'/\vcT P u0 all m K t s' u') s u
  |none=>False
 | .eff i x t alt,s,u=>
  (match bx all i with
  |some o=>XOk m x i o s/\vcG P x u0 all o (fun s' u'=>XK m o s s'/\vcT P u0 all m K t s' u') s u
  |none=>False)/\vcT P u0 all m K alt s u
def gS(ops:Array Oper)(A:List (List Nat))(m:Md):List Nat->OT->Bool
 |_,.done=>true
 |_,.no=>true
 |acc,.fl i t=>
  match ops[i]? with
  |some o=>bK o.op&&gS ops A m (bif mL o.op||cV m.ls i then acc else i::acc) t
  |none=>false
 |acc,.eff i x t alt=>
  match ops[i]? with
  |some o=>(bK o.op||((x&&(m.b|| !abb o.op))||(!x&&acc.all fun y=>(A.getD i []).contains y)))&&gS ops A m acc t&&gS ops A m acc alt
  |none=>false
def fH(ops:Array Oper)(m:Md)(t:OT):Bool:=yS ops t&&gS ops (aeY ops.toList []) m [] t
def af8(ops:Array Oper)(ord:List (Nat×Bool)):Bool:=fH ops m0 (lin ops ord)
def yh(P:Program)(u0:World)(ops:Array Oper)(K:S->World->Prop)(s:S)(u:World):Prop:=
 (∃ord,af8 ops ord=true/\vcT P u0 ops.toList m0 K (lin ops ord) s u)\/ ∃t m,fH ops m t=true/\vcT P u0 ops.toList m (LeK K) t s u
theorem ahu: ∀(l:List Oper) (j:Nat),im l j=(l[j]?).bind (·.dst):=by
 intro l
 induction l with
 |nil=>intro j;rfl
 |cons o r ih=>intro j;cases j with
  |zero=>rfl
  |succ j=>simpa[im]using ih j
theorem rS: ∀(l:List Oper) (j:Nat),bx l j=l[j]?:=by
 intro l
 induction l with
 |nil=>intro j;rfl
 |cons o r ih=>intro j;cases j with
  |zero=>rfl
  |succ j=>simpa[bx]using ih j
section
variable {P:Program} {C:Ctx} {s:S} {u:World} {a:Act} {w:World} {K:S->World->Prop}
theorem aeb(hs:Sim C s u a w){d:Nat}{c:Bool}(h:s.get d= .v (.bool c)):a.tmps[d]? =some (.bool c):=by
 have h1:=hs.slots d (.bool c) (by rw[h];rfl)
 cases hx:a.tmps[d]? with
 |none=>simp[hx,undef]at h1
 |some v=>simp[hx]at h1;rw[h1]
theorem z9(hs:Sim C s u a w){d:Nat}{vs:Array Value}(h:s.get d= .v (.tuple vs)): ∀c,a.tmps[d]?≠some (.bool c):=by
 have h1:=hs.slots d (.tuple vs) (by rw[h];rfl)
 intro c hx;simp[hx]at h1
theorem mD{x:Bool}{ops:Array Oper}{o:Oper}(hs:Sim C s u a w)(h:vcG P x C.u0 ops.toList o K s u):
  (Region.wanted o (yielded ops a.tmps)=true/\cj P x C.u0 o K s u)\/(Region.wanted o (yielded ops a.tmps)=false/\K (s.put o.dst (.v undef)) u):=by
 unfold vcG at h;split at h
 ·rename_i hg;exact .inl ⟨by simp[Region.wanted,hg],h⟩
 ·rename_i j want hg;split at h
  ·rename_i d hd;rw[ahu]at hd;have hd':(ops[j]?).bind (·.dst)=some d:=by simpa using hd
   split at h
   ·rename_i c hc;have hy:yielded ops a.tmps j=some c:=by simp[yielded,hd',aeb hs hc]
    by_cases hcw:c=want
    ·exact .inl ⟨by simp[Region.wanted,hg,hy,hcw],h.1 hcw⟩
    ·refine .inr ⟨by simp[Region.wanted,hg,hy,hcw],h.2 ?_⟩
     cases c<;>cases want<;>simp_all
   ·rename_i vs hc
    have hy:yielded ops a.tmps j=none:=by
     unfold yielded;rw[hd'];simp only[Option.bind_some];split
     ·rename_i b hb;exact(z9 hs hc b hb).elim
     ·rfl
    exact .inr ⟨by simp[Region.wanted,hg,hy],h⟩
   ·exact h.elim
  ·exact h.elim
def LiftN(C:Ctx)(K:S->World->Prop)(a:Act)(w:World):Prop:= ∃s u,Sim C s u a w/\K s u
theorem LiftN.of_le(h:LiftN C (LeK K) a w):LiftN C K a w:=by
 obtain⟨s,u,hs,h⟩:=h;rcases h with h|⟨s1,hle,h⟩
 ·exact⟨s,u,hs,h⟩
 ·exact⟨s1,u,hs.le_of hle,h⟩
def jO(n:Nat)(l:List Oper):Bool:=l.all fun o=>dC n o.dst
theorem xq{ops:Array Oper}{Q:Exit->Act->World->Prop}(hQ: ∀a w,LiftN C K a w->Q .normal a w): ∀(l:List Oper) (s:S) (u:World) (a:Act) (w:World),
  jO C.n l=true->kH P C.u0 ops.toList K l s u->Sim C s u a w->fM P ops Q l a w:=by
 intro l
 induction l with
 |nil=>intro s u a w _ h hs;exact hQ a w ⟨s,u,hs,h⟩
 | cons o r ih=>
  intro s u a w hf h hs;simp only[jO,List.all_cons,Bool.and_eq_true]at hf;rcases mD hs h with ⟨hw,h⟩|⟨hw,h⟩
  ·unfold fM;rw[if_pos hw];cases hfl:bK o.op with
   |true=>
    obtain⟨v,s',u',hK,hs',hr⟩:=agC hfl hs hf.1 h;refine .inl ?_;simp only[Oper.wp,hr,Oper.upon];exact ih s' u' _ w hf.2 hK hs'
   |false=>
    refine iu ?_ (oU hfl (fun h=>by cases h) hs hf.1 h Q)
    rintro a' w' ⟨_,s',u',hs',hK⟩
    exact ih s' u' a' w' hf.2 hK hs'
  ·refine uE hw (ih _ _ _ _ hf.2 h (hs.put_v hf.1))
theorem pf{n:Nat}{ops:Array Oper}(h:jO n ops.toList=true){i:Nat}{o:Oper}(hi:ops[i]? =some o):dC n o.dst=true:=by grind [jO]
theorem x0{ks:List Nat}{d:Option Nat}{x:SV}: ∀k l',cV ks k=true->(s.put d x).find k=some l'-> ∃l,s.find k=some l/\l.b=l'.b:=fun k l' _ h=>⟨l',by rw[S.find_put]at h;exact h,rfl⟩
theorem oJ{s s':S}: ∀{kl:List Nat},rQ s s' kl-> ∀k,cV kl k=true->s'.find k=s.find k:=by
 intro kl
 induction kl with
 |nil=>intro _ k h;cases h
 |cons j r ih=>
  intro h k hm;simp only[cV]at hm
  by_cases hjk:j=k
  ·subst hjk;exact h.1
  ·refine ih h.2 k ?_;simpa[hjk]using hm
def Held(m:Md)(s:S)(acc:List Nat)(w:World)(e:Nat×(World->Prop)):Prop:=
 (∀w',e.2 w')\/(e.1∈acc/\HInv m.ks s w e.2)\/ ∃k l,cV m.kl k=true/\s.find k=some l/\ ∀w':World,w'.heap[l.b]? =some (.cells l.cells.toArray l.T (0,0))->e.2 w'
theorem Held.to{m:Md}{s':S}{acc acc':List Nat}{w':World}{e:Nat×(World->Prop)}(hac: ∀x∈acc,x∈acc')(hf:rQ s s' m.kl)(hi:e.1∈acc->HInv m.ks s w e.2->HInv m.ks s' w' e.2)(h:Held m s acc w e):Held m s' acc' w' e:=
 h.imp id (Or.imp (fun h1=>⟨hac _ h1.1,hi h1.1 h1.2⟩) fun ⟨k,l,h1,h2,h3⟩=>⟨k,l,h1,by rw[oJ hf k h1];exact h2,h3⟩)
theorem Held.holds{m:Md}{acc:List Nat}{e:Nat×(World->Prop)}(h:Held m s acc w e)(hs:Sim C s u a w):e.2 w:=by
 rcases h with h|h|⟨k,l,_,h2,h3⟩
 ·exact h w
 ·exact h.2.holds
 ·exact h3 w (hs.locs k l h2).1
theorem ag_{o:Oper}{x:Bool}{kl:List Nat}(hl:aeQ kl o s)(hs:Sim C s u a w)(hd:dC C.n o.dst=true)(h:cj P x C.u0 o K s u):
  ∃v s' u' k l,K s' u'/\Sim C s' u' (a.put o.dst v) w/\cV kl k=true/\s.find k=some l/\ ∀w':World,w'.heap[l.b]? =some (.cells l.cells.toArray l.T (0,0))->(execOp a.eval o).run P w'= .ok (.value v) w':=by
 unfold aeQ at hl;split at hl
 ·rename_i T y hop;split at hl
  ·rename_i k off hv;unfold cj at h;simp only[hop]at h;obtain⟨v,hK,hr⟩:=sd hs h;cases hk:s.find k with
   |none=>exact(sv_loc hs hv hk).elim
   |some l=>exact⟨v,_,u,k,l,hK,hs.put_v hd,hl,hk,fun w' he=>by simp[execOp,hop,hr w' (by rw[hv];intro l' hl';rw[hk]at hl';cases hl';exact he)]⟩
  ·exact hl.elim
 ·exact hl.elim
theorem adK{ops:Array Oper}{Q:Exit->Act->World->Prop}(hQ: ∀a w,LiftN C K a w->Q .normal a w)(A:List (List Nat))(hfit:jO C.n ops.toList=true){m:Md}:
  ∀(t:OT) (acc:List Nat) (dyn:List (Nat×(World->Prop))) (s:S) (u:World) (a:Act) (w:World),gS ops A m acc t=true->vcT P C.u0 ops.toList m K t s u->Sim C s u a w->
   (∀e∈dyn,Held m s acc w e)->wpT P ops A Q dyn t a w:=by
 intro t
 induction t with
 |done=>intro acc dyn s u a w _ h hs _;exact hQ a w ⟨s,u,hs,h⟩
 |no=>intro acc dyn s u a w _ _ _ _;trivial
 | fl i t ih=>
  intro acc dyn s u a w hfl h hs hdyn;simp only[vcT,rS,Array.getElem?_toList]at h;simp only[gS]at hfl;simp only[wpT];cases hi:ops[i]? with
  |none=>simp[hi]at h
  | some o=>
   simp only[hi,Bool.and_eq_true]at h hfl ⊢;obtain⟨⟨hl1,hl2,_⟩,h⟩:=h;obtain⟨hff,hfl⟩:=hfl;have hd:=pf hfit hi;have hnd:iv o=none:=by unfold iv;split<;>first|rfl|(rename_i hop;rw[hop]at hff;cases hff)
   have fin: ∀{v:Value} {R:World->Prop} {s':S} {u':World},R w->YieldsIf P ops R o v a->rQ s s' m.kl->(∀k l',cV m.ks k=true->s'.find k=some l'-> ∃l,s.find k=some l/\l.b=l'.b)->
     vcT P C.u0 ops.toList m K t s' u'->Sim C s' u' (a.put o.dst v) w->Held m s' (bif mL o.op||cV m.ls i then acc else i::acc) w (i,R)->
     ∃v R,R w/\YieldsIf P ops R o v a/\wpT P ops A Q ((i,R)::dyn) t (a.put o.dst v) w:=fun h1 h2 h3 h4 h5 h6 h7=>⟨_,_,h1,h2,ih _ _ _ _ _ w hfl h5 h6 fun e he=>by
    rcases List.mem_cons.1 he with rfl|he
    ·exact h7
    ·refine(hdyn e he).to (fun y hy=>?_) h3 fun _ h=>h.ext (Ext.refl w) fun k l' hm hf=>.inl (h4 k l' hm hf)
     cases mL o.op||cV m.ls i
     ·exact List.mem_cons_of_mem _ hy
     ·exact hy⟩
   have kl: ∀{s':S},keepL s s' (iv o) m.ks-> ∀k l',cV m.ks k=true->s'.find k=some l'-> ∃l,s.find k=some l/\l.b=l'.b:=fun hk k l' hm hf=>(kS hk k l' hm hf).resolve_left (by rw[hnd];intro h;cases h)
   rcases mD hs h with ⟨hw,h⟩|⟨hw,h⟩
   ·cases hls:cV m.ls i with
    |true=>
     obtain⟨v,s',u',k,l,⟨hkp,hK⟩,hs',hk,hf,hr⟩:=ag_ (hl1 hls) hs hd h;exact fin (R:=fun w'=>w'.heap[l.b]? =some (.cells l.cells.toArray l.T (0,0))) (hs.locs k l hf).1 (.inl ⟨hw,hr⟩) hkp.2 (kl hkp.1) hK hs' (.inr (.inr ⟨k,l,hk,by rw[oJ hkp.2 k hk];exact hf,fun _ h=>h⟩))
    |false=>
     obtain⟨v,s',u',⟨hkp,hK⟩,hs',hr⟩:=x8 hff (hl2 hls) hs hd h;rcases hr with hr|⟨hp,hr⟩
     ·exact fin (R:=fun _=>True) trivial (.inl ⟨hw,fun w' _=>hr w'⟩) hkp.2 (kl hkp.1) hK hs' (.inl fun _=>trivial)
     ·exact fin (R:=Near m.ks s u) (mX hs) (.inl ⟨hw,hr⟩) hkp.2 (kl hkp.1) hK hs' (.inr (.inl ⟨by simp[hp,hls],(HInv.self hs).ext (Ext.refl w) fun k l' hm hf=>.inl (kl hkp.1 k l' hm hf)⟩))
   ·exact fin (R:=fun _=>True) trivial (.inr ⟨hw,rfl⟩) h.1.2 x0 h.2 (hs.put_v hd) (.inl fun _=>trivial)
 | eff i x t alt iht iha=>
  intro acc dyn s u a w hfl h hs hdyn;simp only[vcT,rS,Array.getElem?_toList]at h;simp only[gS]at hfl;simp only[wpT];obtain⟨h,halt⟩:=h;cases hi:ops[i]? with
  |none=>simp[hi]at h
  | some o=>
   simp only[hi,Bool.and_eq_true,Bool.or_eq_true,Bool.not_eq_true']at h hfl ⊢;have hd:=pf hfit hi;obtain⟨⟨hx1,hft⟩,hfa⟩:=hfl;obtain⟨⟨_,_,hso⟩,h⟩:=h;refine⟨?_,iha acc dyn s u a w hfa halt hs hdyn⟩
   have next: ∀{a':Act} {w':World} {s':S} {u':World},Sim C s' u' a' w'->XK m o s s'/\vcT P C.u0 ops.toList m K t s' u'->(∀e∈dyn,(A.getD i []).contains e.1=true\/(e.1∈acc->HInv m.ks s w e.2->HInv m.ks s' w' e.2))->
     (∀e∈dyn,(A.getD i []).contains e.1=true\/e.2 w')/\wpT P ops A Q (dyn.filter fun e=> !(A.getD i []).contains e.1) t a' w':=by
    intro a' w' s' u' hs' hK hd';have hd2: ∀e∈dyn,(A.getD i []).contains e.1=true\/Held m s' acc w' e:=fun e he=>(hd' e he).imp id fun hi=>(hdyn e he).to (fun _ h=>h) hK.1.2 hi
    refine⟨fun e he=>(hd2 e he).imp id fun h=>h.holds hs',iht acc _ s' u' a' w' hft hK.2 hs' fun e he=>?_⟩
    obtain⟨he,hne⟩:=List.mem_filter.1 he;rcases hd2 e he with h1|h1
    ·rw[h1]at hne;cases hne
    ·exact h1
   unfold eV;simp only[hi];rcases mD hs h with ⟨hw,h⟩|⟨hw,h⟩
   rotate_left
   ·rw[if_neg (by simp[hw])]
    exact next (hs.put_v hd) h fun e he=>.inr fun _ h=>h.ext (Ext.refl w) fun k l' hm hf=>.inl (x0 k l' hm hf)
   rw[if_pos hw]
   by_cases hnd:iv o=none
   rotate_left
   ·refine iu ?_ (.inl (ahk hnd hs hd h Q))
    rintro a' w' ⟨hx,d,cs,T,hnd',hs',hK⟩
    refine next hs' hK fun e he=>.inr fun _ h=>h.ext hx fun k l' hm hf=>?_
    rcases kS hK.1.1 k l' hm hf with h2|h2
    ·right;rw[hnd']at h2;cases h2;rw[dB]at hf;cases hf;exact Nat.le_refl _
    ·exact .inl h2
   have kl: ∀{s':S},keepL s s' (iv o) m.ks-> ∀k l',cV m.ks k=true->s'.find k=some l'-> ∃l,s.find k=some l/\l.b=l'.b:=fun hk k l' hm hf=>(kS hk k l' hm hf).resolve_left (by rw[hnd];intro h;cases h)
   cases hff:bK o.op with
   |true=>
    obtain⟨v,s',u',hK,hs',hr⟩:=agC hff hs hd h;refine .inl ?_;simp only[Oper.wp,hr,Oper.upon];exact next hs' hK fun e he=>.inr fun _ h=>h.ext (Ext.refl w) fun k l' hm hf=>.inl (kl hK.1.1 k l' hm hf)
   | false=>
    replace hx1:=hx1.resolve_left (by rw[hff];simp)
    rcases hx1 with ⟨rfl,hb⟩|⟨rfl,hall⟩
    ·by_cases hsto: ∃T y z,o.op= .store T y z
     ·obtain⟨T,y,z,hop⟩:=hsto;have hso':=hso (hb.resolve_right (by rw[hop];simp[abb])) rfl
      simp only[aiG,hop]at hso';simp only[cj,hop]at h;refine iu ?_ (.inl (adb hop hso' hs hd h Q))
      rintro a' w' ⟨k,l,hm,hk,ho,s',u',hs',hK⟩
      exact next hs' hK fun e he=>.inr fun _ h=>h.store hm hk ho (kl hK.1.1)
     ·refine iu ?_ (oU hff (fun _ T y z ho=>hsto ⟨T,y,z,ho⟩) hs hd h Q)
      rintro a' w' ⟨hx,s',u',hs',hK⟩
      exact next hs' hK fun e he=>.inr fun _ h=>h.ext (hx rfl) fun k l' hm hf=>.inl (kl hK.1.1 k l' hm hf)
    ·refine iu ?_ (oU hff (fun h=>by cases h) hs hd h Q)
     rintro a' w' ⟨_,s',u',hs',hK⟩
     exact next hs' hK fun e he=>(Classical.em ((A.getD i []).contains e.1=true)).imp id fun hc hm=>(hc (by simpa using(List.all_eq_true.1 hall) e.1 hm)).elim
end
def fi(id:Nat)(Q:Exit->S->World->Prop)(e:Exit)(s:S)(u:World):Prop:=
 match e with
 | .exit j=>bif j==id then Q .normal s u else Q (.exit j) s u
 |e=>Q e s u
def fh(id:Nat)(Q:Exit->S->World->Prop)(e:Exit)(s:S)(u:World):Prop:=
 match e with
 | .exit j=>bif j==id then LeK (Q .normal) s u else Q (.exit j) s u
 | .normal=>LeK (Q .normal) s u
 |e=>Q e s u
def abd{γ:Type}(st:γ->S)(F:γ->World->Prop)(μ:γ->Nat)(g:γ)(Q:Exit->S->World->Prop)(e:Exit)(s:S)(u:World):Prop:=
 match e with
 | .normal=> ∃g',(st g').le s/\F g' u/\μ g'<μ g
 |e=>Q e s u
def fits(n:Nat):Code->Bool
 | .region _ ops _=>jO n ops.toList&&gx ops.toList
 | .seq x y=>fits n x&&fits n y
 | .cond _ x y=>fits n x&&fits n y
 | .block _ x=>fits n x
 | .loop x=>fits n x
 | .rangeFunc _ ps x y=>(ps.toList.all fun t=>decide (t<n))&&fits n x&&fits n y
 |_=>true
def abW(C:Ctx)(Q:Exit->S->World->Prop):Exit->Act->World->Prop
 | .normal,a,w=>LiftN C (Q .normal) a w
 | .ret,a,w=>LiftN C (Q .ret) a w
 | .exit id,a,w=>LiftN C (Q (.exit id)) a w
 |_,_,_=>False
def Vc(P:Program)(u0:World)(c:Code)(Q:Exit->S->World->Prop)(s:S)(u:World):Prop:=
 P.follows .mixedOrders=true-> ∀(C:Ctx) (a:Act) (w:World),C.u0=u0->fits C.n c=true->Sim C s u a w->cwp C.rd P c (abW C Q) a w
def vc(P:Program)(u0:World):Code->(Exit->S->World->Prop)->S->World->Prop
 | .skip,Q,s,u=>Q .normal s u
 | .region _ ops false,Q,s,u=>kH P u0 ops.toList (Q .normal) ops.toList s u
 | .region _ ops true,Q,s,u=>yh P u0 ops (Q .normal) s u
 | .seq x y,Q,s,u=>vc P u0 x (fun e s u=>match e with| .normal=>vc P u0 y Q s u|e=>Q e s u) s u
 | .cond c x y,Q,s,u=>
  match s.sv c with
  | .v (.bool t)=>(t=true->vc P u0 x Q s u)/\(t=false->vc P u0 y Q s u)
  |_=>False
 | .block id x,Q,s,u=>vc P u0 x (fh id Q) s u
 | .loop x,Q,s,u=> ∃(γ:Type) (st:γ->S) (F:γ->World->Prop) (μ:γ->Nat),(∃g,(st g).le s/\F g u)/\ ∀g u,F g u->Vc P u0 x (abd st F μ g Q) (st g) u
 | .exit id,Q,s,u=>Q (.exit id) s u
 | .ret,Q,s,u=>Q .ret s u
 | .rangeFunc g ps x y,Q,s,u=>Vc P u0 (.rangeFunc g ps x y) Q s u
 |_,_,_,_=>False
def aiR(P:Program)(u0:World)(y:Code)(Q:Exit->S->World->Prop)(e:Exit)(s:S)(u:World):Prop:=
 match e with
 | .normal=>vc P u0 y Q s u
 |e=>Q e s u
theorem ae_{P:Program}(hm:P.follows .mixedOrders=true){C:Ctx}: ∀(c:Code) (Q:Exit->S->World->Prop) (s:S) (u:World) (a:Act) (w:World),
  fits C.n c=true->vc P C.u0 c Q s u->Sim C s u a w->cwp C.rd P c (abW C Q) a w:=by
 intro c
 induction c with
 |skip=>intro Q s u a w _ h hs;exact aga ⟨s,u,hs,h⟩
 | region id ops draw=>
  intro Q s u a w hf h hs;simp only[fits,Bool.and_eq_true]at hf;obtain⟨hf,hnd⟩:=hf;have hlo: ¬LetsOut (abW C Q):=fun ⟨_,_,h⟩=>h
  cases draw with
  |false=>exact nZ hnd (xq (fun a w h=>h) _ s u a w hf h hs)
  | true=>
   have key: ∀(t:OT) (m:Md) (K:S->World->Prop),(∀a w,LiftN C K a w->LiftN C (Q .normal) a w)->fH ops m t=true->vcT P C.u0 ops.toList m K t s u->cwp C.rd P (.region id ops true) (abW C Q) a w:=by
    intro t m K hK hok h;simp only[fH,Bool.and_eq_true]at hok;exact n6 hm hok.1 hnd ⟨fun c a w d v h=>h,hlo⟩ (adK hK _ hf t [] [] s u a _ hok.2 h (hs.ext (adN w _) ⟨Nat.le_refl _,rfl,rfl⟩) fun e he=>by cases he)
   rcases h with ⟨ord,hok,h⟩|⟨t,m,hok,h⟩
   ·exact key _ _ _ (fun _ _ h=>h) hok h
   ·exact key _ _ _ (fun _ _ h=>h.of_le) hok h
 |seq x y ihx ihy=>
  intro Q s u a w hf h hs;simp only[fits,Bool.and_eq_true]at hf;refine abX (gP (ihx _ s u a w hf.1 h hs) ?_);intro e a w hl;cases e with
  |normal=>obtain⟨s,u,hs,h⟩:=hl;exact ihy Q s u a w hf.2 h hs
  |exit id=>exact hl
  |goto l=>exact hl
  |ret=>exact hl
  |panic c=>exact hl
  |outgrown=>exact hl
 |cond c x y ihx ihy=>
  intro Q s u a w hf h hs;simp only[fits,Bool.and_eq_true]at hf;simp only[vc]at h;split at h
  ·rename_i t ht;exact jw (hs.eval_v ht) (fun e=>ihx Q s u a w hf.1 (h.1 e) hs) (fun e=>ihy Q s u a w hf.2 (h.2 e) hs)
  ·exact h.elim
 | block id x ih=>
  intro Q s u a w hf h hs;refine mh (gP (ih _ s u a w hf h hs) ?_);intro e a w hl;cases e with
  |normal=>exact LiftN.of_le hl
  | exit j=>
   obtain⟨s,u,hs,h⟩:=hl;simp only[fh]at h
   by_cases hj:j=id
   ·subst hj;simp only[beq_self_eq_true,cond_true]at h;simp only[Exit.inBlock,if_true];exact LiftN.of_le ⟨s,u,hs,h⟩
   ·have hb:(j==id)=false:=by simpa using hj
    simp only[hb,cond_false]at h;simp only[Exit.inBlock,hj,if_false];exact⟨s,u,hs,h⟩
  |goto l=>exact hl
  |ret=>exact hl
  |panic c=>exact hl
  |outgrown=>exact hl
 | loop x ih=>
  intro Q s u a w hf h hs;obtain⟨γ,st,F,μ,⟨g0,hle,hF⟩,hround⟩:=h;refine ae5 (fun g a w=> ∃u,Sim C (st g) u a w/\F g u) μ ⟨g0,u,hs.le_of hle,hF⟩ ?_
  rintro g a w ⟨u,hs,hF⟩
  refine gP (hround g u hF hm C a w rfl hf hs) ?_;intro e a1 w1 hq;cases e with
  |normal=>
   obtain⟨s',u',hs',g',hle',hF',hlt⟩:=hq;exact⟨g',⟨u',hs'.le_of hle',hF'⟩,hlt⟩
  |exit id=>exact hq
  |goto l=>exact hq.elim
  |ret=>exact hq
  |panic c=>exact hq.elim
  |outgrown=>exact hq.elim
 |exit id=>intro Q s u a w _ h hs;exact af2 ⟨s,u,hs,h⟩
 |ret=>intro Q s u a w _ h hs;exact ah_ ⟨s,u,hs,h⟩
 |rangeFunc f ps x y=>intro Q s u a w hf h hs;exact h hm C a w rfl hf hs
 |scope x=>intro Q s u a w _ h _;exact h.elim
 |label l=>intro Q s u a w _ h _;exact h.elim
 |goto l=>intro Q s u a w _ h _;exact h.elim
 |refuse w=>intro Q s u a w _ h _;exact h.elim
theorem Vc.of{P:Program}{u0:World}{c:Code}{Q:Exit->S->World->Prop}{s:S}{u:World}(h:vc P u0 c Q s u):Vc P u0 c Q s u:=by
 intro hm C a w hu hf hs;subst hu;exact ae_ hm c Q s u a w hf h hs
def ft:Nat->List Value->List (Nat×SV)
 |_,[]=>[]
 |i,v::r=>(i,.v v)::ft (i+1) r
def bW(P:Program)(s:S):ResultVar->Option Value
 | .tmp t=>s.val (s.get t)
 | .cell t T=>
  match s.get t,lay P T with
  | .loc k off,some (ag,n)=>match s.find k with
   |some l=>if (n=1\/ag=true)/\off+n<=l.cells.length then some (ld ag n off l.cells)else none
   |none=>none
  |_,_=>none
def cL(P:Program)(s:S):List ResultVar->Option Value
 |[]=>some (.tuple #[])
 |[x]=>bW P s x
 |[x,y]=>match bW P s x,bW P s y with
  |some a,some b=>some (.tuple #[a,b])
  |_,_=>none
 |[x,y,z]=>match bW P s x,bW P s y,bW P s z with
  |some a,some b,some c=>some (.tuple #[a,b,c])
  |_,_,_=>none
 |[x,y,z,t]=>match bW P s x,bW P s y,bW P s z,bW P s t with
  |some a,some b,some c,some d=>some (.tuple #[a,b,c,d])
  |_,_,_,_=>none
 |[x,y,z,t,q]=>match bW P s x,bW P s y,bW P s z,bW P s t,bW P s q with
  |some a,some b,some c,some d,some e=>some (.tuple #[a,b,c,d,e])
  |_,_,_,_,_=>none
 |_=>none
abbrev kC(Post:Value->World->Prop)(r:Option Value)(u:World):Prop:=
 match r with
 |some v=>Post v u
 |none=>False
def ab9(P:Program)(rs:List ResultVar)(Post:Value->World->Prop)(e:Exit)(s:S)(u:World):Prop:=
 match e with
 | .normal=>kC Post (cL P s rs) u
 | .ret=>kC Post (cL P s rs) u
 |_=>False
section
variable {P:Program} {C:Ctx} {s:S} {u:World} {a:Act} {w:World}
def uY(tmps:Array Value):ResultVar->Sem Value
 | .tmp t=>pure (tmps.getD t undef)
 | .cell x t=>do loadVar t (<-asAddr (tmps.getD x undef))
theorem bQ(hs:Sim C s u a w){x:ResultVar}{v:Value}(h:bW P s x=some v):(uY a.tmps x).run P w= .ok v w:=by
 cases x with
 |tmp t=>simp only[uY,Sem.run_pure];rw[hs.slots t v h]
 | cell t T=>
  simp only[bW]at h;split at h
  ·rename_i k off ag n hg hl;split at h
   ·rename_i l hk;split at h
    ·rename_i hc;cases h;have h1:=hs.slots t (.pointer (some ⟨l.b,off,none⟩)) (by rw[hg];simp[S.val,hk])
     have h2:=gZ hl hc.1 hc.2 (nQ (hs.locs k l hk).1);rw[Addr.add_lit,Nat.zero_add]at h2;simp only[uY,h1,asAddr,Sem.run_bind,Sem.run_pure,Result.andThen_ok];exact h2
    ·cases h
   ·cases h
  ·cases h
theorem aa6(fn:Func)(tmps:Array Value):results fn tmps=(do let vs <-fn.results.mapM (uY tmps);pure (if h:vs.size=1 then vs[0]else .tuple vs)):=by
 unfold results
 congr 2
theorem zy{fn:Func}(hs:Sim C s u a w){v:Value}(h:cL P s fn.results.toList=some v):(results fn a.tmps).run P w= .ok v w:=by
 rw[aa6];obtain⟨l,hr⟩: ∃l:List ResultVar,fn.results=l.toArray:=⟨fn.results.toList,by simp⟩
 rw[hr]at h ⊢;simp only at h
 match l,h with
 |[],h=>simp[cL]at h;simp[h]
 |[x],h=>simp[cL]at h;simp[bQ hs h]
 |[x,y],h=>
  simp only[cL]at h;split at h
  ·rename_i v1 v2 h1 h2;cases h;simp[bQ hs h1,bQ hs h2]
  ·cases h
 |[x,y,z],h=>
  simp only[cL]at h;split at h
  ·rename_i v1 v2 v3 h1 h2 h3;cases h;simp[bQ hs h1,bQ hs h2,bQ hs h3]
  ·cases h
 |[x,y,z,t],h=>
  simp only[cL]at h;split at h
  ·rename_i v1 v2 v3 v4 h1 h2 h3 h4;cases h;simp[bQ hs h1,bQ hs h2,bQ hs h3,bQ hs h4]
  ·cases h
 |[x,y,z,t,q],h=>
  simp only[cL]at h;split at h
  ·rename_i v1 v2 v3 v4 v5 h1 h2 h3 h4 h5;cases h;simp[bQ hs h1,bQ hs h2,bQ hs h3,bQ hs h4,bQ hs h5]
  ·cases h
 |_::_::_::_::_::_::_,h=>simp[cL]at h
end
theorem ahl: ∀(vs:List Value) (i t:Nat) (x:SV),lk (ft i vs) t=some x-> ∃j v,t=i+j/\vs[j]? =some v/\x= .v v:=by
 intro vs
 induction vs with
 |nil=>intro i t x h;cases h
 |cons v r ih=>
  intro i t x h;simp only[ft]at h
  by_cases hit:i=t
  ·subst hit;rw[au]at h;cases h;exact⟨0,v,rfl,rfl,rfl⟩
  ·rw[aj hit]at h;obtain⟨j,v',h1,h2,h3⟩:=ih (i+1) t x h;exact⟨j+1,v',by omega,by simpa using h2,h3⟩
theorem agT{n:Nat}{args:List Value}(hn:args.length<=n){w u u0:World}(hu:Sub u w)(h0:Sub u0 w):
  Sim ⟨n,w,u,u0,none,[]⟩ ⟨ft 0 args,[]⟩ u { tmps:=args.toArray++Array.replicate (n-args.toArray.size) undef,defers:=[] } w:=by
 have hget: ∀t x,(⟨ft 0 args,[]⟩:S).get t=x->x≠ .unk-> ∃v,args[t]? =some v/\x= .v v:=by
  intro t x h hx;simp only[S.get]at h;cases hl:lk (ft 0 args) t with
  |none=>rw[hl]at h;exact absurd h.symm hx
  |some y=>
   rw[hl]at h;obtain⟨j,v,h1,h2,h3⟩:=ahl args 0 t y hl;simp at h h1;subst h1;exact⟨v,h2,by rw[<-h];exact h3⟩
 refine⟨by simp;omega,⟨List.nodup_nil,(fun d hd=>by cases hd),(fun l hl=>by cases hl),fun p hp=>by cases hp⟩,?_,?_,?_,hu,?_,?_,fun b o h=>.inl h,fun b hb h=>h,⟨Nat.le_refl _,rfl,rfl⟩,h0,h0⟩
 ·intro t v hv;have hx:(⟨ft 0 args,[]⟩:S).get t≠ .unk:=by intro h;rw[h]at hv;cases hv
  obtain⟨v',h1,h2⟩:=hget t _ rfl hx;rw[h2]at hv;simp[S.val]at hv;subst hv;have hlt:t<args.length:=by rcases Nat.lt_or_ge t args.length with h|h;exact h;simp[List.getElem?_eq_none h]at h1
  have h3:args[t]=v':=by simpa[hlt]using h1
  simp[Array.getElem?_append,hlt,h3]
 ·intro t k off ht;obtain⟨v,_,h2⟩:=hget t _ ht (by intro h;cases h)
  cases h2
 ·intro t sv sz i off ht;obtain⟨v,_,h2⟩:=hget t _ ht (by intro h;cases h)
  cases h2
 ·intro k l h;cases h
 ·intro k k' l l' h;cases h
def Con(P:Program)(f:FuncId)(args:List Value)(u:World)(Post:Value->World->Prop):Prop:=
 cW P f=true/\ ∀w,Sub u w->Calls P f args.toArray w fun e w'=> ∃r u',e= .returned r/\Step true u u w u' w'/\Sub u u'/\Post r u'
theorem AtCall.of_spec{x:Bool}{P:Program}{f:FuncId}{args:List Value}{u0 u:World}{Post K:Value->World->Prop}(h:Con P f args u Post)
  (hk: ∀r u',Sub u u'->Post r u'->K r u'):AtCall x P f args u0 u K:=by
 refine .inl ⟨h.1,fun w hu _=>(h.2 w hu).mono ?_⟩
 rintro e w' ⟨r,u',rfl,hst,hsub,hp⟩
 exact⟨r,u',rfl,⟨hst.sub,fun b o hb=>.inl (hst.ext b o hb),hst.dom,hst.le⟩,hk r u' hsub hp⟩
theorem Sim.shut{C:Ctx}{s:S}{u:World}{a:Act}{w:World}(h:Sim C s u a w){d:Deferred}{ds:List Deferred}(hd:a.defers=d::ds){D:Nat}(e:d={ target:=.collected D,args:=#[] })(h1:w.heap[D]? =some (.deferred (some [])))(h2:Fresh u D)(h3:C.w0.heap.size<=D)(hx: ∀p∈C.held,p.1≠D):
  Sim C s u { tmps:=a.tmps,defers:=ds } (w.putObj D (.deferred none)):=by
 have hm:=h.defers;rw[hd]at hm;have hoth: ∀b,b≠D->(w.putObj D (.deferred none)).heap[b]? =w.heap[b]?:=fun b hb=>World.putObj_heap_other hb
 have hsub: ∀{v:World},Sub v w->Fresh v D->Sub v (w.putObj D (.deferred none)):=fun hv hf b o hb ho=>by
  rw[hoth b (fun e=>by subst e;exact ho (hf o hb))]
  exact hv b o hb ho
 have h0:Fresh C.u0 D:=fun o ho=>Classical.byContradiction fun hn=>by
  have:=ba (h.sub00 D o ho hn);omega
 refine⟨h.size,⟨(List.nodup_cons.1 hm.nd).2,fun d' hd'=>?_,hm.rcd,fun p hp=>?_⟩,h.slots,h.wfl,h.wfe,hsub h.sub h2,fun k l hk=>?_,h.dist,fun b o hb=>?_,h.dom,⟨by have:=h.le.size;simpa using this,h.le.os,h.le.output⟩,hsub h.sub0 h0,h.sub00⟩
 ·obtain⟨D',e',g1,g2,g3⟩:=hm.mks d' (List.mem_cons_of_mem _ hd');refine⟨D',e',?_,g2,g3⟩;rw[hoth D' (fun e2=>(List.nodup_cons.1 hm.nd).1 (by rw[e, <-e2, <-e'];exact hd'))]
  exact g1
 ·obtain⟨g1,g2,g3⟩:=hm.hld p hp;refine⟨?_,g2,g3⟩;rw[hoth p.1 (fun e2=>hx p hp e2)]
  exact g1
 ·obtain⟨g1,g2,g3⟩:=h.locs k l hk;refine⟨?_,g2,g3⟩;rw[hoth l.b (fun e2=>by rw[e2,h1]at g1;cases g1)]
  exact g1
 ·rw[hoth b (fun e2=>by have:=ba hb;omega)]
  exact h.keep b o hb
theorem Sim.leaves{P:Program}{fn:Func}{C:Ctx}{s:S}{u:World}{R:Ending->World->Prop}{t:Array Value}(hh:C.held=[]): ∀{ds:List Deferred} {w:World},Sim C s u ⟨t,ds⟩ w->
  (∀w2,Sim C s u ⟨t,[]⟩ w2-> ∃v,(results fn t).run P w2= .ok v w2/\R (.returned v) w2)->LeavesInM Fence.wide 0 P fn t R ds .returning w
 |[],w,h,k=>k w h
 |d::ds,w,h,k=>by
  obtain⟨D,e,h1,h2,h3⟩:=h.defers.mks d List.mem_cons_self;exact⟨(fun h=>by cases h),.inl ⟨D,_,by rw[e],run_takeDeferred h1,Sim.leaves hh (h.shut rfl e h1 h2 h3 (fun p hp=>by rw[hh]at hp;cases hp)) k⟩⟩
theorem kN{P:Program}(hm:P.follows .mixedOrders=true){f:FuncId}{fn:Func}{c:Code}(hf:P.funcs[f]? =some fn)(hb:fn.body=some c)(hbody:cW P f=true)
  (hfit:fits fn.ntmps c=true) {args:List Value} (hn:Nat.ble args.length fn.ntmps=true) (rs:List ResultVar) (hrs:fn.results.toList=rs) {u0 u:World} {Post:Value->World->Prop}
  (h:Vc P u0 c (ab9 P rs Post) ⟨ft 0 args,[]⟩ u):aa_ false P f args u0 u Post:=by
 subst hrs;refine⟨hbody,fun w hu h0=>callsIn_wide.1 (callsIn_of_wp_marks (F:=Fence.wide) (n:=0) hf hb trivial ?_)⟩
 have hsim:=agT (Nat.le_of_ble_eq_true hn) hu h0;refine wpIn_mono (h hm ⟨fn.ntmps,w,u,u0,none,[]⟩ _ w rfl hfit hsim 0) ?_
 have fin: ∀a w',(∃s u',Sim ⟨fn.ntmps,w,u,u0,none,[]⟩ s u' a w'/\kC Post (cL P s fn.results.toList) u')->
   LeavesInM Fence.wide 0 P fn a.tmps (fun e w'=> ∃r u',e= .returned r/\Step false u0 u w u' w'/\Post r u') a.defers .returning w':=by
  rintro a w' ⟨s,u',hs,hd⟩
  unfold kC at hd;split at hd
  ·rename_i v hv;refine hs.leaves rfl fun w2 h2=>⟨v,zy h2 hv,v,u',rfl,⟨h2.sub,fun b o hb=>(h2.keep b o hb).imp id (fun h=>⟨rfl,h⟩),h2.dom,h2.le⟩,hd⟩
  ·exact hd.elim
 intro e a w' hl;cases e with
 |normal=>exact fin a w' hl
 |ret=>exact fin a w' hl
 |exit id=>obtain⟨s,u',_,h⟩:=hl;exact h.elim
 |goto l=>exact hl.elim
 |panic c=>exact hl.elim
 |outgrown=>exact hl.elim
theorem gM{P:Program}(hm:P.follows .mixedOrders=true){f:FuncId}{fn:Func}{c:Code}(hf:P.funcs[f]? =some fn)(hb:fn.body=some c)(hbody:cW P f=true)
  (hfit:fits fn.ntmps c=true) {args:List Value} (hn:Nat.ble args.length fn.ntmps=true) (rs:List ResultVar) (hrs:fn.results.toList=rs) {u0 u:World} {Post:Value->World->Prop}
  (h:vc P u0 c (ab9 P rs Post) ⟨ft 0 args,[]⟩ u):aa_ false P f args u0 u Post:=
 kN hm hf hb hbody hfit hn rs hrs (Vc.of h)
theorem iM{P:Program}(hm:P.follows .mixedOrders=true){f:FuncId}{fn:Func}{c:Code}(hf:P.funcs[f]? =some fn)(hb:fn.body=some c)(hbody:cW P f=true)
  (hfit:fits fn.ntmps c=true) {args:List Value} (hn:Nat.ble args.length fn.ntmps=true) (rs:List ResultVar) (hrs:fn.results.toList=rs) {u:World} {Post:Value->World->Prop}
  (h:vc P u c (ab9 P rs (fun r u'=>Sub u u'/\Post r u')) ⟨ft 0 args,[]⟩ u):Con P f args u Post:=by
 obtain⟨h1,h2⟩:=gM hm hf hb hbody hfit hn rs hrs h;refine⟨h1,fun w hu=>(h2 w hu hu).mono ?_⟩
 rintro e w' ⟨r,u',he,hst,hsub,hp⟩
 exact⟨r,u',he,⟨hst.sub,fun b o hb=>.inl ((hst.keep b o hb).resolve_right (fun h=>h.2.1 h.2.2)),hst.dom,hst.le⟩,hsub,hp⟩
theorem yH{P:Program}(hm:P.follows .mixedOrders=true){f:FuncId}{fn:Func}{c:Code}(hf:P.funcs[f]? =some fn)(hb:fn.body=some c)(hbody:cW P f=true)
  (hfit:fits fn.ntmps c=true) {args:List Value} (hn:Nat.ble args.length fn.ntmps=true) (rs:List ResultVar) (hrs:fn.results.toList=rs) {u:World} {Post:Value->World->Prop}
  (h:Vc P u c (ab9 P rs (fun r u'=>Sub u u'/\Post r u')) ⟨ft 0 args,[]⟩ u):Con P f args u Post:=by
 obtain⟨h1,h2⟩:=kN hm hf hb hbody hfit hn rs hrs h;refine⟨h1,fun w hu=>(h2 w hu hu).mono ?_⟩
 rintro e w' ⟨r,u',he,hst,hsub,hp⟩
 exact⟨r,u',he,⟨hst.sub,fun b o hb=>.inl ((hst.keep b o hb).resolve_right (fun h=>h.2.1 h.2.2)),hst.dom,hst.le⟩,hsub,hp⟩
