import Derived.Test.YthoihfighiolmaaGreatPt42
set_option linter.unusedSectionVars false
set_option linter.unusedSimpArgs false
set_option linter.unusedVariables false
namespace Go.Proofs.YthoihfighiolmaaGreat.V
open Go.Eng
theorem df{c:ar}(h:aB c=true):2<=c.nodes/\c.nodes<=12/\1<=c.view/\c.view<=12/\0<=c.near/\c.near<=12/\1<=c.swap/\c.swap<=12/\1<=c.schema.length/\c.schema.length<=4:=by grind [aB,inR,ch]
def TUp(a b:List an):Prop:=a.length=b.length/\ ∀(i:Nat) (x y:an),a[i]? =some x->b[i]? =some y->x.inc<=y.inc
theorem TUp.refl(a:List an):TUp a a:=⟨rfl,fun i x y h1 h2=>by rw[h1]at h2;cases h2;exact UInt16.le_refl _⟩
theorem TUp.trans{a b c:List an}(h:TUp a b)(g:TUp b c):TUp a c:=⟨h.1.trans g.1,fun i x z h1 h3=>by
 have hi:=(List.getElem?_eq_some_iff.1 h1).1;have h2:b[i]? =some (b[i]'(by rw[<-h.1];exact hi)):=List.getElem?_eq_getElem _
 exact UInt16.le_trans (h.2 i _ _ h1 h2) (g.2 i _ _ h2 h3)⟩
theorem aag{l:List an}{i:Nat}{f:an->an}(hf: ∀m,m.inc<=(f m).inc):TUp l (l.modify i f):=⟨by simp,fun j x y h1 h2=>by
 rw[List.getElem?_modify,h1]at h2;simp only[Option.map_eq_map,Option.map_some]at h2;cases h2;split
 ·exact hf x
 ·exact UInt16.le_refl _⟩
theorem pD{l:List an}{f:Nat->an->an}(hf: ∀i m,m.inc<=(f i m).inc):TUp l (l.mapIdx f):=⟨by simp,fun j x y h1 h2=>by
 rw[List.getElem?_mapIdx,h1]at h2;simp only[Option.map_some]at h2;cases h2
 exact hf j x⟩
theorem ahh(l:List an)(i:UInt8)(inc:UInt16):TUp l (eA l i inc):=aag fun m=>by
 unfold fq;split
 ·rename_i h;exact UInt16.le_of_lt h
 ·split<;>exact UInt16.le_refl _
theorem ad0(l m:List an)(self:UInt8):TUp l (ct l m self):=pD fun i x=>by
 unfold mMg;split
 ·rename_i y _;split
  ·rename_i h;have h2:=h.2;unfold eo at h2;split at h2
   ·exact UInt16.le_of_lt (of_decide_eq_true h2)
   ·rename_i h3;have h3:y.inc=x.inc:=Classical.byContradiction h3;show x.inc<=y.inc;rw[h3];exact UInt16.le_refl _
  ·exact UInt16.le_refl _
 ·exact UInt16.le_refl _
theorem agn(l:List an)(self:UInt8)(after:Int):TUp l (fg l self after):=pD fun i m=>by
 unfold mTk mQ;split
 ·exact UInt16.le_refl _
 ·split<;>(split<;>exact UInt16.le_refl _)
structure Go1(c:ar)(p q:ah):Prop where
 h:okH q
 pre:Pre c q
 node:q.node=p.node
 up:q.up=p.up
 inc:q.inc=p.inc
 ws:ok8 q.wait.sent
 f8:q.filter.length<=8
 tab:TUp p.table q.table
structure Bd(c:ar)(nd:UInt8)(p:ah):Prop where
 h:okH p
 win:Win c p
 node:p.node=nd
 ws:ok8 p.wait.sent
 f8:p.filter.length<=8
 dn:p.up=false->p.view=[]/\p.near=[]/\p.ring.hs=false/\p.ring.hp=false/\p.wait.some=false
structure MOk(c:ar)(p:ah)(m:bo):Prop where
 frm:m.frm=p.node
 inc:m.inc=p.inc
 ne:m.to≠p.node
 lt:(m.to.toNat:Int)<c.nodes
 k1:1<=m.kind.toNat
 k9:m.kind.toNat<=9
structure akU(c:ar)(p q:ah)(l:List bo):Prop where
 bd:Bd c p.node q
 inc:q.inc=p.inc
 up:q.up=p.up
 tab:TUp p.table q.table
 ms: ∀m∈l,MOk c p m
section
variable {c:ar} {nd:UInt8} {p q:ah}
theorem Bd.pre(h:Bd c nd p):Pre c p:=⟨h.win.table,h.win.rows,h.win.heard,lU h.win.view⟩
theorem Bd.stay(h:Bd c nd p):akU c p p []:=by
 obtain rfl:=h.node;exact⟨h,rfl,rfl,TUp.refl _,fun m hm=>absurd hm List.not_mem_nil⟩
theorem Go1.meet(hc:aB c=true)(g:Go1 c p q)(hu:p.up=true){l:List GDesc}(hl:aR l)(hl2: ∀d∈l,okF d){ms:List bo}(hms: ∀m∈ms,MOk c p m):akU c p (aJ c q l) ms:=by
 refine⟨⟨⟨iH g.h.g hl hl2,g.h.rs,⟨?_,?_⟩,?_⟩,pn hc g.pre,g.node,g.ws,g.f8,fun e=>?_⟩,g.inc,g.up,g.tab,hms⟩
 ·exact Nat.le_trans (List.length_filter_le _ _) g.h.v8.1
 ·exact fun d hd=>g.h.v8.2 d (List.mem_filter.1 hd).1
 ·exact(gg g.pre.view _).2
 ·have e2:q.up=false:=e;rw[g.up,hu]at e2;cases e2
theorem Go1.tab_(g:Go1 c p q){t:List an}{r:List (List cO)}(ht:TUp q.table t)(hr:jc r):Go1 c p { q with table:=t,reports:=r }:=
 ⟨oc g.h (by rw[<-ht.1];exact g.h.g.table) hr,⟨by have:=g.pre.table;rw[ht.1]at this;exact this,g.pre.rows,g.pre.heard,g.pre.view⟩,g.node,g.up,g.inc,g.ws,g.f8,g.tab.trans ht⟩
theorem Go1.learn(g:Go1 c p q)(t:List an):Go1 c p (bD q t):=g.tab_ (ad0 _ _ _) (gw g.h.rs _)
theorem Go1.left(g:Go1 c p q)(i:UInt8)(inc:UInt16):Go1 c p { q with table:=eA q.table i inc }:=g.tab_ (ahh _ _ _) g.h.rs
theorem Go1.view(g:Go1 c p q)(hc:aB c=true){V:List GDesc}(hv:Rt q.node c.view V)(h8: ∀d∈V,d.filter.length<=8)(hF: ∀d∈V,okF d):Go1 c p { q with view:=V }:=by
 have hr:=df hc;have h1:=hv.1;exact⟨⟨ix g.h.g (by omega) hF,g.h.rs,⟨by show V.length<=1100000;omega,h8⟩,hv.2⟩,⟨g.pre.table,g.pre.rows,g.pre.heard,hv⟩,g.node,g.up,g.inc,g.ws,g.f8,g.tab⟩
theorem Go1.wait(g:Go1 c p q){w:GW}(hw:ok8 w.sent):Go1 c p { q with wait:=w }:=⟨pG g.h hw.toDs,⟨g.pre.table,g.pre.rows,g.pre.heard,g.pre.view⟩,g.node,g.up,g.inc,hw,g.f8,g.tab⟩
theorem qj{n:UInt8}{i:UInt16}(h:(aI c p n i).2=false):(aI c p n i).1=p:=by grind [aI]
