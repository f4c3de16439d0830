import Derived.OrdersHeld
import Derived.OrdersIn
import Derived.TacticsIn
import Derived.RangeFuncCalls
import Derived.RangeFuncIn
import Derived.RangeFuncSeq
set_option linter.unusedSectionVars false
set_option linter.unusedSimpArgs false
set_option linter.unusedVariables false
namespace Go.Eng
abbrev oF(i:Nat):Nat×Bool:=(i,false)
abbrev oT(i:Nat):Nat×Bool:=(i,true)
def kB(rd:Option Nat):Fence:={ Fence.wide with round:=rd }
theorem r6{rd:Option Nat}{n:Nat}{P:Program}{f:FuncId}{args:Array Value}{w:World}{R:Ending->World->Prop}(h:Calls P f args w R):CallsIn (kB rd) n P f args w R:=(callsIn_wide (n:=n)).2 h
theorem afG{rd:Option Nat}{n:Nat}{P:Program}{row:String}{args:Array Value}{w:World}{R:Value->World->Prop}(h:Rows P row args w R):RowsIn (kB rd) n P row args w R:=
 fun c cs _=>let ⟨v,w',r,s⟩:=h c cs;⟨v,w',r,stepsIn_wide.2 s⟩
def akX:Op->Bool
 | .defer _=>false
 |_=>true
def gx(l:List Oper):Bool:=l.all fun o=>akX o.op
theorem sD{l:List Oper}(h:gx l=true){o:Oper}(ho:o∈l): ∀c,o.op≠ .defer c:=by
 intro c e;simp only[gx,List.all_eq_true]at h;have:=h o ho;rw[e]at this;cases this
theorem acA{rd:Option Nat}{n:Nat}{P:Program}{l:Nat}{f:FuncId}{tmps:Array Value}{assign body:Code}{w:World}{R:Ending->World->Prop}(h:RoundIn Fence.wide 0 P l f tmps assign body w R):RoundIn (kB rd) n P l f tmps assign body w R:=
 ⟨trivial,fun c cs _=>h.2 c cs (fun d hd=>by cases hd)⟩
def anT(o:Oper)(a:Act)(K:Act->World->Prop)(Q:Exit->Act->World->Prop):Ending->World->Prop
 | .returned v,w=>K (a.put o.dst v) w
 | .panicked c,w=>Q (.panic c) a w
 | .outgrown,_=>LetsOut Q
def owp(P:Program)(o:Oper)(a:Act)(w:World)(K:Act->World->Prop)(Q:Exit->Act->World->Prop):Prop:=
 o.wp P a w K Q\/ ∃l f tmps assign body w1,(execOp a.eval o).run P w= .ok (.round l f tmps assign body) w1/\RoundIn Fence.wide 0 P l f tmps assign body w1 (anT o a K Q)
section
variable {rd:Option Nat} {n:Nat} {P:Program} {ops:Array Oper} {Q:Exit->Act->World->Prop}
theorem iu{o:Oper}{a:Act}{w:World}{K K':Act->World->Prop}(h: ∀a w,K a w->K' a w)(hh:owp P o a w K Q):owp P o a w K' Q:=by
 rcases hh with hh|⟨l,f,tmps,as,b,w1,h1,h2⟩
 ·exact .inl (Oper.wp_mono h hh)
 ·refine .inr ⟨l,f,tmps,as,b,w1,h1,h2.mono fun e w' he=>?_⟩
  cases e with
  |returned v=>exact h _ _ he
  |panicked c=>exact he
  |outgrown=>exact he
def eV(P:Program)(ops:Array Oper)(Q:Exit->Act->World->Prop)(i:Nat)(K:Act->World->Prop)(a:Act)(w:World):Prop:=
 match ops[i]? with
 |none=>K a w
 |some o=>if Region.wanted o (yielded ops a.tmps)then owp P o a w K Q else K (a.put o.dst undef) w
theorem lg{i:Nat}{a:Act}{w:World}{K K':Act->World->Prop}(h: ∀a w,K a w->K' a w)(hh:eV P ops Q i K a w):eV P ops Q i K' a w:=by grind [eV,iu]
theorem ah4{i:Nat}{a:Act}{w:World}{K:Act->World->Prop}(hlo: ¬LetsOut Q)(h:wpOp P ops Q i K a w):eV P ops Q i K a w:=by
 unfold wpOp at h;unfold eV;split
 ·rename_i ho;simp only[ho]at h;exact h
 ·rename_i o ho;simp only[ho]at h;split
  ·rename_i hw;rw[if_pos hw]at h;exact .inl (h.resolve_right fun h=>hlo h.2)
  ·rename_i hw;rw[if_neg hw]at h;exact h
theorem p5{S:World->Prop}{i:Nat}{o:Oper}{v:Value}{a:Act}(hy:YieldsIf P ops S o v a)(hi:ops[i]? =some o){K:Act->World->Prop}{w:World}(hS:S w)(h:K (a.put o.dst v) w):eV P ops Q i K a w:=by
 unfold eV;simp only[hi];rcases hy with ⟨hw,hv⟩|⟨hw,rfl⟩
 ·simp only[hw,if_true,owp,Oper.wp,hv w hS,Oper.upon];exact .inl h
 ·simp only[hw,Bool.false_eq_true,if_false];exact h
theorem aas{j:Nat}{oi oj:Oper}{v:Value}(Y:Act->Prop)(hj:ops[j]? =some oj)(hap:oi.apart ops oj=true)(hsj: ∀cs b,oj.op≠ .select cs b)
  (hQ: ∀c a w,Q (.panic c) (a.put oi.dst v) w->Q (.panic c) a w) {K:Act->World->Prop} {a:Act} {w:World} (hlo: ¬LetsOut Q)
  (keep: ∀u,Y (a.put oj.dst u)) (hwp:wpOp P ops Q j K (a.put oi.dst v) w->wpOp P ops Q j (fun a' w'=>Y a'/\K (a'.put oi.dst v) w') a w) (h:eV P ops Q j K (a.put oi.dst v) w):
  eV P ops Q j (fun a' w'=>Y a'/\K (a'.put oi.dst v) w') a w:=by
 obtain⟨h1,h2,h3⟩:=Oper.apart_spec hap
 by_cases hd:wpOp P ops Q j K (a.put oi.dst v) w
 ·exact ah4 hlo (hwp hd)
 ·unfold eV at h ⊢;unfold wpOp at hd;simp only[hj]at h hd ⊢;rw[wanted_put oj a oi.dst v h1]at h hd;split
  ·rename_i hw;rw[if_pos hw]at h hd;rcases h with h|⟨l,f,tmps,as,b,w1,g1,g2⟩
   ·exact absurd (.inl h) hd
   ·rw[execOp_put oj hsj a oi.dst v h1]at g1;refine .inr ⟨l,f,tmps,as,b,w1,g1,g2.mono fun e w' he=>?_⟩
    cases e with
    |returned u=>exact⟨keep u,by rw[<-Act.put_comm a v u h2];exact he⟩
    |panicked c=>exact hQ _ _ _ he
    |outgrown=>exact he
  ·rename_i hw;rw[if_neg hw]at hd h;exact absurd h hd
theorem vM{S:World->Prop}{j:Nat}{oi oj:Oper}{v:Value}(hj:ops[j]? =some oj)(hap:oi.apart ops oj=true)(hsi: ∀cs b,oi.op≠ .select cs b)(hsj: ∀cs b,oj.op≠ .select cs b)
  (hQ: ∀c a w,Q (.panic c) (a.put oi.dst v) w->Q (.panic c) a w) (hlo: ¬LetsOut Q) {K:Act->World->Prop} {a:Act} {w:World} (hy:YieldsIf P ops S oi v a) (h:eV P ops Q j K (a.put oi.dst v) w):
  eV P ops Q j (fun a' w'=>YieldsIf P ops S oi v a'/\K (a'.put oi.dst v) w') a w:=by
 obtain⟨h1,h2,h3⟩:=Oper.apart_spec hap;exact aas (fun a=>YieldsIf P ops S oi v a) hj hap hsj hQ hlo (fun u=>hy.of_same (execOp_put oi hsi a oj.dst u h3) (wanted_put oi a oj.dst u h3)) (wpOp_putIf hj hap hsi hsj hQ hy) h
def kK(P:Program)(md:Region.Mode)(ops:Array Oper)(Q:Exit->Act->World->Prop):Nat->Array Bool->Act->World->Prop
 |0,listed,a,w=>Region.ready md ops listed=[]/\Q .normal a w
 |fuel+1,listed,a,w=>
  (Region.ready md ops listed=[]->Q .normal a w)/\
  ∀i∈Region.ready md ops listed,eV P ops Q i (kK P md ops Q fuel (listed.setIfInBounds i true)) a w
def fM(P:Program)(ops:Array Oper)(Q:Exit->Act->World->Prop):List Oper->Act->World->Prop
 |[],a,w=>Q .normal a w
 |o::rest,a,w=>if Region.wanted o (yielded ops a.tmps)then owp P o a w (fM P ops Q rest) Q else fM P ops Q rest (a.put o.dst undef) w
theorem uE{o:Oper}{rest:List Oper}{a:Act}{w:World}(hw:Region.wanted o (yielded ops a.tmps)=false)(h:fM P ops Q rest (a.put o.dst undef) w):fM P ops Q (o::rest) a w:=by
 simp only[fM,hw,Bool.false_eq_true,if_false];exact h
theorem aly{o:Oper}{a:Act}{w:World}{K:Act->World->Prop}(hd: ∀c,o.op≠ .defer c)(h:o.wp P a w K Q):o.wpIn (kB rd) n P a w K Q:=by
 refine⟨fun _ _=>trivial,?_⟩
 rw[Oper.semAt_eq _ _ _ hd];unfold Oper.wp at h;generalize (execOp a.eval o).run P w=r at h ⊢;cases r with
 |ok x w'=>
  cases x with
  |value v=>exact h
  |skip=>exact h
  |defer d=>exact h
  |enter f args=>exact⟨(fun h=>by cases h),r6 h⟩
  |row row args=>exact⟨(fun h=>by cases h),afG h⟩
  |_=>exact h.elim
 |halt x w'=>
  cases x with
  |panic v=>exact h
  |_=>exact h.elim
theorem akW{o:Oper}{a:Act}{w:World}{K:Act->World->Prop}(hd: ∀c,o.op≠ .defer c)(h:owp P o a w K Q):o.wpIn (kB rd) n P a w K Q:=by
 rcases h with h|⟨l,f,tmps,as,b,w1,h1,h2⟩
 ·exact aly hd h
 ·refine⟨fun _ _=>trivial,?_⟩
  rw[Oper.semAt_eq _ _ _ hd,h1];refine⟨(fun h=>by cases h),(acA h2).mono fun e w' he=>?_⟩
  cases e with
  |returned v=>exact he
  |panicked c=>exact he
  |outgrown=>exact he
theorem amj{i:Nat}{a:Act}{w:World}{K K':Act->World->Prop}(hnd:gx ops.toList=true)(hK: ∀a w,K a w->K' a w)(h:eV P ops Q i K a w):wpOpIn (kB rd) n P ops Q i K' a w:=by
 unfold eV at h;unfold wpOpIn;cases ho:ops[i]? with
 |none=>rw[ho]at h;exact hK _ _ h
 |some o=>
  rw[ho]at h;simp only at h ⊢;have hd:=sD hnd (o:=o) (by simpa using Array.mem_of_getElem? ho)
  split
  ·rename_i hw;rw[if_pos hw]at h;exact Oper.wpIn_mono hK (akW hd h)
  ·rename_i hw;rw[if_neg hw]at h;exact⟨fun _ _=>trivial,hK _ _ h⟩
theorem abA{md:Region.Mode}(hnd:gx ops.toList=true): ∀(fuel:Nat) (listed:Array Bool) (a:Act) (w:World),kK P md ops Q fuel listed a w->wpAnyIn (kB rd) n P md ops Q fuel listed a w
 |0,_,_,_,h=>h
 |fuel+1,listed,a,w,h=>⟨h.1,fun i hi=>amj hnd (abA hnd fuel _) (h.2 i hi)⟩
theorem pH: ∀(l:List Oper) (a:Act) (w:World),gx l=true->fM P ops Q l a w->wpListIn (kB rd) n P ops Q l a w
 |[],_,_,_,h=>h
 |o::r,a,w,hnd,h=>by
  have hd:=sD hnd (o:=o) List.mem_cons_self;have hnr:gx r=true:=by simp only[gx,List.all_cons,Bool.and_eq_true]at hnd ⊢; exact hnd.2
  simp only[fM]at h;simp only[wpListIn];split
  ·rename_i hw;rw[if_pos hw]at h;exact Oper.wpIn_mono (fun a w=>pH r a w hnr) (akW hd h)
  ·rename_i hw;rw[if_neg hw]at h;exact⟨fun _ _=>trivial,pH r _ _ hnr h⟩
def cwp(rd:Option Nat)(P:Program)(c:Code)(Q:Exit->Act->World->Prop)(a:Act)(w:World):Prop:= ∀n,c.wpIn (kB rd) n P Q a w
variable {a:Act} {w:World}
theorem cwp.wp{c:Code}(h:cwp none P c Q a w):c.wp P Q a w:=(wpIn_wide (n:=0)).1 (h 0)
theorem gP{c:Code}{Q':Exit->Act->World->Prop}(h:cwp rd P c Q a w)(hq: ∀e a w,Q e a w->Q' e a w):cwp rd P c Q' a w:=fun n=>wpIn_mono (h n) hq
theorem aga(h:Q .normal a w):cwp rd P .skip Q a w:=fun _=>wpIn_skip h
theorem af2{id:Nat}(h:Q (.exit id) a w):cwp rd P (.exit id) Q a w:=fun _=>wpIn_exit h
theorem ah_(h:Q .ret a w):cwp rd P .ret Q a w:=fun _=>wpIn_ret h
theorem abX{x y:Code}(h:cwp rd P x (Exit.then (cwp rd P y Q) Q) a w):cwp rd P (.seq x y) Q a w:=fun n=>wpIn_seq (wpIn_mono (h n) fun e a w hq=>by
 cases e with
 |normal=>exact hq n
 |_=>exact hq)
theorem jw{c:Operand}{x y:Code}{t:Bool}(hc:a.eval c= .bool t)(ht:t=true->cwp rd P x Q a w)(hf:t=false->cwp rd P y Q a w):cwp rd P (.cond c x y) Q a w:=fun n=>wpIn_cond_split hc (fun e=>ht e n) (fun e=>hf e n)
theorem mh{id:Nat}{c:Code}(h:cwp rd P c (Exit.inBlock id Q) a w):cwp rd P (.block id c) Q a w:=fun n=>wpIn_block (h n)
theorem ae5{c:Code}{γ:Type}(I:γ->Act->World->Prop)(μ:γ->Nat)(h₀: ∃g,I g a w)(round: ∀g a w,I g a w->cwp rd P c (Exit.then (fun a' w'=> ∃g',I g' a' w'/\μ g'<μ g) Q) a w):cwp rd P (.loop c) Q a w:=by
 intro n
 have hl: ∀a w,(∃g,I g a w)-> ∃k,(∃g,I g a w/\μ g=k)/\ ∀g,I g a w->k<=μ g:=fun a w ⟨g,hg⟩=>by
  have key: ∀k g,μ g=k->I g a w-> ∃k,(∃g,I g a w/\μ g=k)/\ ∀g,I g a w->k<=μ g:=by
   intro k
   induction k using Nat.strongRecOn with
   |_ k ih=>
    intro g e hg
    by_cases hn: ∃g',I g' a w/\μ g'<k
    ·obtain⟨g',h1,h2⟩:=hn;exact ih _ h2 g' rfl h1
    ·exact⟨k,⟨g,hg,e⟩,fun g' hg'=>Nat.le_of_not_lt fun h=>hn ⟨g',hg',h⟩⟩
  exact key _ g rfl hg
 obtain⟨m,hm⟩: ∃m:Act->World->Nat, ∀a w,(∃g,I g a w)->(∃g,I g a w/\μ g=m a w)/\ ∀g,I g a w->m a w<=μ g:=by
  refine⟨fun a w=>Classical.epsilon fun k=>(∃g,I g a w/\μ g=k)/\ ∀g,I g a w->k<=μ g,fun a w h=>Classical.epsilon_spec (hl a w h)⟩
 refine wpIn_loop (fun a w=> ∃g,I g a w) m h₀ fun a w hI=>?_
 obtain⟨⟨g,hg,hk⟩,_⟩:=hm a w hI;refine wpIn_mono (round g a w hg n) fun e a' w' hq=>?_
 cases e with
 |normal=>
  obtain⟨g',hg',hlt⟩:=hq;exact⟨⟨g',hg'⟩,by have:=(hm a' w' ⟨g',hg'⟩).2 g' hg';omega⟩
 |_=>exact hq
theorem nZ{id:Nat}(hnd:gx ops.toList=true)(h:fM P ops Q ops.toList a w):cwp rd P (.region id ops false) Q a w:=fun n=>wpIn_region_list (pH _ _ _ hnd h)
theorem pR{id:Nat}(hm:P.follows .mixedOrders=true)(hnd:gx ops.toList=true)(h:kK P .any ops Q ops.size (Array.replicate ops.size false) a { w with drawn:=w.drawn+1 }):cwp rd P (.region id ops true) Q a w:=
 fun n=>wpIn_region_any hm (abA hnd _ _ _ _ h)
