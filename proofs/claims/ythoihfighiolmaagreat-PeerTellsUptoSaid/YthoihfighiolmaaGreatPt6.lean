import Derived.Test.YthoihfighiolmaaGreatPt4
set_option linter.unusedSectionVars false
set_option linter.unusedSimpArgs false
set_option linter.unusedVariables false
namespace Go.Eng
def Kept(s s':S)(d:Option Nat):Prop:= ∀k,d=some k\/mb s' k=none\/mb s' k=mb s k
theorem Kept.keepL{s s':S}{d:Option Nat}(h:Kept s s' d): ∀ks,keepL s s' d ks
 |[]=>trivial
 |k::r=>⟨h k,Kept.keepL h r⟩
def KeptF(s s':S)(d e:Option Nat):Prop:= ∀k,(d=some k/\(e=some k\/mb s' k=mb s k))\/s'.find k=none\/s'.find k=s.find k
theorem KeptF.kept{s s':S}{d e:Option Nat}(h:KeptF s s' d e):Kept s s' e:=fun k=>(h k).elim (fun g=>g.2.imp id .inr) fun g=>.inr (by unfold mb;rcases g with g|g<;>simp[g])
theorem KeptF.of(s s':S)(d e:Option Nat)(h: ∀k,s'.find k=s.find k):KeptF s s' d e:=fun k=>.inr (.inr (h k))
theorem KeptF.put(s:S)(e:Option Nat)(x:SV)(d f:Option Nat):KeptF s (s.put e x) d f:=KeptF.of _ _ _ _ fun k=>S.find_put
theorem KeptF.trans{s s1 s2:S}{d e:Option Nat}(h:KeptF s s1 d e)(h': ∀k,s2.find k=s1.find k):KeptF s s2 d e:=fun k=>by have:=h k;unfold mb at this ⊢; rw[h' k];exact this
def tq(o:Oper)(s:S):Option Nat:=
 match o.op with
 | .alloc _=>o.dst
 | .box _ _=>o.dst
 | .store _ y _=>(match s.sv y with
  | .loc k _=>some k
  |_=>none)
 |_=>none
section
variable {P:Program} {u0:World}
theorem AtPure.mono{e:Sem Value}{K K':Value->Prop}(h: ∀r,K r->K' r):AtPure P e K->AtPure P e K':=fun ⟨r,h1,h2⟩=>⟨r,h1,h r h2⟩
theorem AtRead.mono{e:Sem Value}{u:World}{K K':Value->Prop}(h: ∀r,K r->K' r):AtRead P e u K->AtRead P e u K':=fun ⟨r,h1,h2⟩=>⟨r,h1,h r h2⟩
theorem AtEff.mono{x:Bool}{e:Sem Value}{u:World}{K K':Value->World->Prop}(h: ∀r u,K r u->K' r u):AtEff x P e u0 u K->AtEff x P e u0 u K':=fun hh w h1 h2=>
 let ⟨r,w',u',h3,h4,h5⟩:=hh w h1 h2;⟨r,w',u',h3,h4,h r u' h5⟩
theorem AtDo.mono{x:Bool}{e:Sem Unit}{u:World}{K K':World->Prop}(h: ∀u,K u->K' u):AtDo x P e u0 u K->AtDo x P e u0 u K':=fun hh w h1 h2=>
 let ⟨w',u',h3,h4,h5⟩:=hh w h1 h2;⟨w',u',h3,h4,h u' h5⟩
theorem AtYield.mono{x:Bool}{l:Nat}{args:List Value}{u:World}{K K':Value->World->Prop}(h: ∀r u,K r u->K' r u)(hh:AtYield x P l args u0 u K):AtYield x P l args u0 u K':=fun w h1 h2=>
 let ⟨f,t,a,b,hy,hR⟩:=hh w h1 h2
 ⟨f,t,a,b,hy,hR.mono fun _ _ ⟨r,u',e,hst,hk⟩=>⟨r,u',e,hst,h r u' hk⟩⟩
theorem AtCall.mono{x:Bool}{f:FuncId}{args:List Value}{u:World}{K K':Value->World->Prop}(h: ∀r u,K r u->K' r u):AtCall x P f args u0 u K->AtCall x P f args u0 u K'
 | .inl ⟨hb,hh⟩=>.inl ⟨hb,fun w h1 h2=>(hh w h1 h2).mono fun _ _ ⟨r,u',h3,h4,h5⟩=>⟨r,u',h3,h4,h r u' h5⟩⟩
 | .inr ⟨e,he,hh⟩=>.inr ⟨e,he,AtEff.mono h hh⟩
theorem kJ{d e:Option Nat}{s0:S}: ∀(l:List Operand) (s:S) (u:World) (K K':List Value->S->World->Prop),KeptF s0 s d e->(∀vs s u,KeptF s0 s d e->K vs s u->K' vs s u)->f_ u0 l s u K->f_ u0 l s u K':=by
 intro l
 induction l with
 |nil=>intro s u K K' hk h hh;exact h _ _ _ hk hh
 | cons x r ih=>
  intro s u K K' hk h hh;simp only[f_]at hh ⊢;split
  ·rename_i v hv;simp only[hv]at hh;exact ih _ _ _ _ hk (fun vs s u hs hk=>h _ _ _ hs hk) hh
  ·rename_i k off hv;simp only[hv]at hh;split
   ·rename_i l hl;simp only[hl]at hh;intro u' h1 h2 h3 h4 h5;refine ih _ _ _ _ ?_ (fun vs s u hs hk=>h _ _ _ hs hk) (hh u' h1 h2 h3 h4 h5)
    intro j
    by_cases ej:j=k
    ·subst ej;exact .inr (.inl (by rw[S.find_pub];simp))
    ·have:=hk j;unfold mb at this ⊢; rw[S.find_pub,if_neg ej];exact this
   ·rename_i hl;simp only[hl]at hh
  ·rename_i h1 h2;split at hh
   ·rename_i v hv;exact(h1 _ hv).elim
   ·rename_i k off hv;exact(h2 _ _ hv).elim
   ·exact hh
theorem kQ{x:Bool}{o:Oper}{K K':S->World->Prop}{s:S}{u:World}(h: ∀s' u,KeptF s s' (tq o s) (iv o)->K s' u->K' s' u)(hh:cj P x u0 o K s u):cj P x u0 o K' s u:=by
 have hp: ∀(e:Option Tmp) (y:SV) u,K (s.put e y) u->K' (s.put e y) u:=fun e y u hk=>h _ _ (KeptF.put s e y _ _) hk
 have ha: ∀{d b:Nat} {cs:List Value} {T:TypeId},tq o s=some d->iv o=some d->KeptF s (addLoc s d b cs T) (tq o s) (iv o):=fun {d b cs T} h1 h2 k=>by
  by_cases e:d=k
  ·subst e;exact .inl ⟨h1,.inl h2⟩
  ·exact .inr (.inr (by unfold addLoc;show lk _ k=_;rw[aj e];rfl))
 unfold cj at hh ⊢;cases hop:o.op<;>simp only[hop]at hh⊢
 case convert src dst y=>
  split at hh
  ·cases hsd:efc src dst with
   |true=>simp only[hsd,cond_true]at hh ⊢; exact AtEff.mono (fun r u hk=>hp _ _ _ hk) hh
   |false=>simp only[hsd,cond_false]at hh ⊢; exact AtRead.mono (fun r hk=>hp _ _ _ hk) hh
  ·exact hh.elim
 case makeFunc=>exact kJ _ _ _ _ _ (KeptF.of s s _ _ fun _=>rfl) (fun vs s1 u hs hk=>h _ _ (hs.trans fun k=>S.find_put) hk) hh
 case alloc=>split at hh<;>first|exact⟨hh.1,fun b=>h _ _ (ha (by simp[tq, *]) (by simp[iv, *])) (hh.2 b)⟩|exact hh.elim
 case box=>split at hh<;>first|exact⟨hh.1,fun b=>h _ _ (ha (by simp[tq, *]) (by simp[iv, *])) (hh.2 b)⟩|exact hh.elim
 case store=>
  unfold fN at hh ⊢;split at hh
  ·split at hh
   ·split at hh
    ·rename_i k off _ _ _ l ag n hk hl;refine⟨hh.1,hh.2.1,hh.2.2.1,h _ _ (fun j=>?_) hh.2.2.2⟩
     by_cases e:k=j
     ·subst e;refine .inl ⟨by simp[tq,hop, *],.inr ?_⟩
      unfold mb setLoc;rw[S.find_put];unfold S.find at hk ⊢;rw[au,hk];rfl
     ·refine .inr (.inr ?_);unfold setLoc;rw[S.find_put];unfold S.find;rw[aj e]
    ·exact hh.elim
   ·exact AtDo.mono (fun u hk=>hp _ _ _ hk) hh
   ·split at hh
    ·exact AtDo.mono (fun u hk=>hp _ _ _ hk) hh
    ·exact hh.elim
   ·exact hh.elim
  ·exact hh.elim
 case call c=>
  unfold lu at hh ⊢;split at hh
  case h_9=>
   split at hh
   ·exact kJ _ _ _ _ _ (KeptF.of s s _ _ fun _=>rfl) (fun vs s1 u hs hk=>AtCall.mono (fun r u hk=>h _ _ (hs.trans fun k=>S.find_put) hk) hk) hh
   ·exact kJ _ _ _ _ _ (KeptF.of s s _ _ fun _=>rfl) (fun vs s1 u hs ⟨l,e,hk⟩=>⟨l,e,AtYield.mono (fun r u hk=>h _ _ (hs.trans fun k=>S.find_put) hk) hk⟩) hh
   ·exact hh.elim
  all_goals first
   |exact hh.elim
   |(split at hh<;>first|exact AtRead.mono (fun r hk=>hp _ _ _ hk) hh|exact AtPure.mono (fun r hk=>hp _ _ _ hk) hh|exact AtEff.mono (fun r u hk=>hp _ _ _ hk) hh|exact hh.elim)
 all_goals repeat' first|exact hh|exact hp _ _ _ hh|exact hh.elim|exact AtPure.mono (fun r hk=>hp _ _ _ hk) hh|exact AtRead.mono (fun r hk=>hp _ _ _ hk) hh|exact AtEff.mono (fun r u hk=>hp _ _ _ hk) hh|exact AtDo.mono (fun u hk=>hp _ _ _ hk) hh|refine And.imp id (fun hh=>?_) hh|refine Exists.imp (fun _ hh=>?_) hh|split at hh|unfold mu at hh⊢ |unfold ke at hh⊢ |unfold ry at hh⊢ |unfold ag0 at hh⊢
theorem na{x:Bool}{all:List Oper}{o:Oper}{K K':S->World->Prop}{s:S}{u:World}(h: ∀s' u,KeptF s s' (tq o s) (iv o)->K s' u->K' s' u)(hh:vcG P x u0 all o K s u):vcG P x u0 all o K' s u:=by
 unfold vcG at hh ⊢;split at hh
 ·exact kQ h hh
 ·split at hh
  ·split at hh
   ·exact⟨fun e=>kQ h (hh.1 e),fun e=>h _ _ (KeptF.put s _ _ _ _) (hh.2 e)⟩
   ·exact h _ _ (KeptF.put s _ _ _ _) hh
   ·exact hh.elim
  ·exact hh.elim
theorem afH{x:Bool}{all:List Oper}{o:Oper}{K K':S->World->Prop}{s:S}{u:World}(h: ∀s' u,Kept s s' (iv o)->K s' u->K' s' u)(hh:vcG P x u0 all o K s u):vcG P x u0 all o K' s u:=na (fun s' u hk=>h s' u hk.kept) hh
theorem aei{x:Bool}{o:Oper}{K K':S->World->Prop}{s:S}{u:World}(h: ∀s u,K s u->K' s u)(hh:cj P x u0 o K s u):cj P x u0 o K' s u:=kQ (fun s' u _ hk=>h s' u hk) hh
theorem gN{x:Bool}{all:List Oper}{o:Oper}{K K':S->World->Prop}{s:S}{u:World}(h: ∀s u,K s u->K' s u)(hh:vcG P x u0 all o K s u):vcG P x u0 all o K' s u:=na (fun s' u _ hk=>h s' u hk) hh
theorem yl{all:List Oper}{K K':S->World->Prop}(h: ∀s u,K s u->K' s u): ∀(l:List Oper) (s:S) (u:World),kH P u0 all K l s u->kH P u0 all K' l s u:=by
 intro l
 induction l with
 |nil=>intro s u hh;exact h _ _ hh
 |cons o r ih=>intro s u hh;exact gN (fun s u hk=>ih s u hk) hh
theorem jo{all:List Oper}{m:Md}{K K':S->World->Prop}(h: ∀s u,K s u->K' s u): ∀(t:OT) (s:S) (u:World),vcT P u0 all m K t s u->vcT P u0 all m K' t s u:=by
 intro t
 induction t with
 |done=>intro s u hh;exact h _ _ hh
 |no=>intro s u _;trivial
 |fl i t ih=>
  intro s u hh;simp only[vcT]at hh ⊢;split at hh
  ·exact⟨hh.1,gN (fun s u hk=>⟨hk.1,ih s u hk.2⟩) hh.2⟩
  ·exact hh.elim
 |eff i x t alt iht iha=>
  intro s u hh;simp only[vcT]at hh ⊢;refine⟨?_,iha s u hh.2⟩;replace hh:=hh.1;split at hh
  ·exact⟨hh.1,gN (fun s u hk=>⟨hk.1,iht s u hk.2⟩) hh.2⟩
  ·exact hh.elim
theorem LeK.mono{K K':S->World->Prop}{s:S}{u:World}(h: ∀s u,K s u->K' s u):LeK K s u->LeK K' s u
 | .inl hk=>.inl (h _ _ hk)
 | .inr ⟨s1,hle,hk⟩=>.inr ⟨s1,hle,h _ _ hk⟩
theorem Vc.mono{c:Code}{Q Q':Exit->S->World->Prop}{s:S}{u:World}(h: ∀e s u,Q e s u->Q' e s u)(hh:Vc P u0 c Q s u):Vc P u0 c Q' s u:=by
 intro hm C a w hu hf hs;refine gP (hh hm C a w hu hf hs) ?_;intro e a w hl;cases e with
 |normal=>obtain⟨s,u,hs,hk⟩:=hl;exact⟨s,u,hs,h _ s u hk⟩
 |ret=>obtain⟨s,u,hs,hk⟩:=hl;exact⟨s,u,hs,h _ s u hk⟩
 |exit id=>obtain⟨s,u,hs,hk⟩:=hl;exact⟨s,u,hs,h _ s u hk⟩
 |goto l=>exact hl
 |panic c=>exact hl
 |outgrown=>exact hl
def alY(P:Program)(u0:World)(y:Code)(Q:Exit->S->World->Prop)(e:Exit)(s:S)(u:World):Prop:=
 match e with
 | .normal=>Vc P u0 y Q s u
 |e=>Q e s u
theorem jB{y:Code}{Q:Exit->S->World->Prop}{s:S}{u:World}:alY P u0 y Q .normal s u=Vc P u0 y Q s u:=rfl
theorem Vc.seq{x y:Code}{Q:Exit->S->World->Prop}{s:S}{u:World}(h:Vc P u0 x (alY P u0 y Q) s u):Vc P u0 (.seq x y) Q s u:=by
 intro hm C a w hu hf hs;simp only[fits,Bool.and_eq_true]at hf;refine abX (gP (h hm C a w hu hf.1 hs) ?_);intro e a w hl;cases e with
 |normal=>obtain⟨s,u,hs,hk⟩:=hl;exact hk hm C a w hu hf.2 hs
 |exit id=>exact hl
 |goto l=>exact hl
 |ret=>exact hl
 |panic c=>exact hl
 |outgrown=>exact hl
theorem Vc.block{id:Nat}{x:Code}{Q:Exit->S->World->Prop}{s:S}{u:World}(h:Vc P u0 x (fi id Q) s u):Vc P u0 (.block id x) Q s u:=by
 intro hm C a w hu hf hs;refine mh (gP (h hm C a w hu hf hs) ?_);intro e a w hl;cases e with
 |normal=>exact hl
 | exit j=>
  obtain⟨s,u,hs,h⟩:=hl;simp only[fi]at h
  by_cases hj:j=id
  ·subst hj;simp only[beq_self_eq_true,cond_true]at h;simp only[Exit.inBlock,if_true];exact⟨s,u,hs,h⟩
  ·have hb:(j==id)=false:=by simpa using hj
   simp only[hb,cond_false]at h;simp only[Exit.inBlock,hj,if_false];exact⟨s,u,hs,h⟩
 |goto l=>exact hl
 |ret=>exact hl
 |panic c=>exact hl
 |outgrown=>exact hl
theorem aiX: ∀(c:Code) (Q Q':Exit->S->World->Prop) (s:S) (u:World),(∀e s u,Q e s u->Q' e s u)->vc P u0 c Q s u->vc P u0 c Q' s u:=by
 intro c
 induction c with
 |skip=>intro Q Q' s u h hh;exact h _ _ _ hh
 | region id ops draw=>
  intro Q Q' s u h hh;cases draw with
  |false=>exact yl (fun s u hk=>h _ s u hk) _ s u hh
  |true=>
   exact hh.imp (fun ⟨ord,h1,h2⟩=>⟨ord,h1,jo (fun s u hk=>h _ s u hk) _ s u h2⟩) fun ⟨t,m,h1,h2⟩=>⟨t,m,h1,jo (fun s u hk=>LeK.mono (fun s u hk=>h _ s u hk) hk) _ s u h2⟩
 |seq x y ihx ihy=>
  intro Q Q' s u h hh;refine ihx _ _ s u ?_ hh;intro e s u hk;cases e with
  |normal=>exact ihy _ _ s u h hk
  |_=>exact h _ s u hk
 |cond c x y ihx ihy=>
  intro Q Q' s u h hh;simp only[vc]at hh ⊢;split at hh
  ·exact⟨fun e=>ihx _ _ s u h (hh.1 e),fun e=>ihy _ _ s u h (hh.2 e)⟩
  ·exact hh.elim
 | block id x ih=>
  intro Q Q' s u h hh;refine ih _ _ s u ?_ hh;intro e s u hk;cases e with
  |exit j=>
   simp only[fh]at hk ⊢;cases hb:(j==id)<;>simp only[hb,cond_true,cond_false]at hk⊢
   ·exact h _ s u hk
   ·exact LeK.mono (fun s u hk=>h _ s u hk) hk
  |normal=>exact LeK.mono (fun s u hk=>h _ s u hk) hk
  |_=>exact h _ s u hk
 |loop x ih=>
  intro Q Q' s u h hh;obtain⟨γ,st,F,μ,h0,h1⟩:=hh;refine⟨γ,st,F,μ,h0,fun g u hF=>Vc.mono ?_ (h1 g u hF)⟩
  intro e s u hk;cases e with
  |normal=>exact hk
  |_=>exact h _ s u hk
 |exit id=>intro Q Q' s u h hh;exact h _ _ _ hh
 |ret=>intro Q Q' s u h hh;exact h _ _ _ hh
 |rangeFunc g ps x y=>intro Q Q' s u h hh;exact Vc.mono h hh
 |_=>intros;assumption
theorem p7{id:Nat}{x:Code}{Q:Exit->S->World->Prop}{s:S}{u:World}(h:vc P u0 x (fi id Q) s u):vc P u0 (.block id x) Q s u:=by
 refine aiX x _ _ s u ?_ h;intro e s u hk;cases e with
 |exit j=>
  simp only[fi,fh]at hk ⊢;cases hb:(j==id)<;>simp only[hb,cond_true,cond_false]at hk⊢
  ·exact hk
  ·exact .inl hk
 |normal=>exact .inl hk
 |_=>exact hk
