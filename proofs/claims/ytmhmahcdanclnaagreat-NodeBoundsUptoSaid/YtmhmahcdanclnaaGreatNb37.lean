import Derived.Test.YtmhmahcdanclnaaGreatNb36
set_option linter.unusedSectionVars false
set_option linter.unusedSimpArgs false
set_option linter.unusedVariables false
set_option maxRecDepth 10000
namespace Go.Proofs.YtmhmahcdanclnaaGreat.V
open Go.Eng
theorem bZ{c:ao}(h:aE c=true):2<=c.nodes/\c.nodes<=12/\1<=c.view/\c.view<=12/\0<=c.near/\c.near<=12/\1<=c.swap/\c.swap<=12/\1<=c.schema.length/\c.schema.length<=4:=by grind [aE,inR,eJ]
def TUp(a b:List ar):Prop:=a.length=b.length/\ ∀(i:Nat) (x y:ar),a[i]? =some x->b[i]? =some y->x.inc<=y.inc
theorem TUp.refl(a:List ar):TUp a a:=⟨rfl,fun i x y h1 h2=>by rw[h1]at h2;cases h2;exact UInt16.le_refl _⟩
theorem TUp.trans{a b c:List ar}(h:TUp a b)(g:TUp b c):TUp a c:=⟨h.1.trans g.1,fun i x z h1 h3=>by
 have hi:=(List.getElem?_eq_some_iff.1 h1).1;have h2:b[i]? =some (b[i]'(by rw[<-h.1];exact hi)):=List.getElem?_eq_getElem _
 exact UInt16.le_trans (h.2 i _ _ h1 h2) (g.2 i _ _ h2 h3)⟩
theorem tr{l:List ar}{i:Nat}{f:ar->ar}(hf: ∀m,m.inc<=(f m).inc):TUp l (l.modify i f):=⟨by simp,fun j x y h1 h2=>by
 rw[List.getElem?_modify,h1]at h2;simp only[Option.map_eq_map,Option.map_some]at h2;cases h2;split
 ·exact hf x
 ·exact UInt16.le_refl _⟩
theorem tq{l:List ar}{f:Nat->ar->ar}(hf: ∀i m,m.inc<=(f i m).inc):TUp l (l.mapIdx f):=⟨by simp,fun j x y h1 h2=>by
 rw[List.getElem?_mapIdx,h1]at h2;simp only[Option.map_some]at h2;cases h2
 exact hf j x⟩
theorem af7(l:List ar)(i:UInt8)(inc:UInt16):TUp l (iB l i inc):=tr fun m=>by
 unfold ko;split
 ·rename_i h;rcases h with h|h
  ·exact UInt16.le_of_lt h
  ·rw[h.1];exact UInt16.le_refl _
 ·exact UInt16.le_refl _
theorem ais(l:List ar)(i:UInt8)(inc:UInt16):TUp l (i_ l i inc):=tr fun m=>by
 unfold l7;split
 ·rename_i h;exact UInt16.le_of_lt h
 ·split<;>exact UInt16.le_refl _
theorem ahR(l m:List ar)(self:UInt8):TUp l (eo l m self):=tq fun i x=>by
 unfold mMg;split
 ·rename_i y _;split
  ·rename_i h;have h2:=h.2;unfold jL at h2;split at h2
   ·exact UInt16.le_of_lt (of_decide_eq_true h2)
   ·rename_i h3;have h3:y.inc=x.inc:=Classical.byContradiction h3;show x.inc<=y.inc;rw[h3];exact UInt16.le_refl _
  ·exact UInt16.le_refl _
 ·exact UInt16.le_refl _
theorem aaA(l:List ar)(self:UInt8)(after:Int):TUp l (ju l self after):=tq fun i m=>by
 unfold mTk mQ;split
 ·exact UInt16.le_refl _
 ·split<;>(split<;>exact UInt16.le_refl _)
structure Go1(c:ao)(p q:af):Prop where
 h:okH q
 pre:Pre c q
 node:q.node=p.node
 up:q.up=p.up
 inc:q.inc=p.inc
 ws:ok8 q.wait.sent
 f8:q.filter.length<=8
 tab:TUp p.table q.table
structure Bd(c:ao)(nd:UInt8)(p:af):Prop where
 h:okH p
 win:Win c p
 node:p.node=nd
 ws:ok8 p.wait.sent
 f8:p.filter.length<=8
 dn:p.up=false->p.view=[]/\p.near=[]/\p.ring.hs=false/\p.ring.hp=false/\p.wait.some=false
structure MOk(c:ao)(p:af)(m:aJ):Prop where
 frm:m.frm=p.node
 inc:m.inc=p.inc
 ne:m.to≠p.node
 lt:(m.to.toNat:Int)<c.nodes
 k1:1<=m.kind.toNat
 k9:m.kind.toNat<=9
structure aa1(c:ao)(p q:af)(l:List aJ):Prop where
 bd:Bd c p.node q
 inc:q.inc=p.inc
 up:q.up=p.up
 tab:TUp p.table q.table
 ms: ∀m∈l,MOk c p m
section
variable {c:ao} {nd:UInt8} {p q:af}
theorem Bd.pre(h:Bd c nd p):Pre c p:=⟨h.win.table,h.win.rows,h.win.heard,sf h.win.view⟩
theorem Bd.go(h:Bd c nd p):Go1 c p p:=⟨h.h,h.pre,rfl,rfl,rfl,h.ws,h.f8,TUp.refl _⟩
theorem Bd.stay(h:Bd c nd p):aa1 c p p []:=by
 obtain rfl:=h.node;exact⟨h,rfl,rfl,TUp.refl _,fun m hm=>absurd hm List.not_mem_nil⟩
theorem Go1.meet(hc:aE c=true)(g:Go1 c p q)(hu:p.up=true){l:List GDesc}(hl:cf l)(hl2: ∀d∈l,okF d){ms:List aJ}(hms: ∀m∈ms,MOk c p m):aa1 c p (aD c q l) ms:=by
 refine⟨⟨⟨jt g.h.g hl hl2,g.h.rs,⟨?_,?_⟩,?_⟩,ajx hc g.pre,g.node,g.ws,g.f8,fun e=>?_⟩,g.inc,g.up,g.tab,hms⟩
 ·exact Nat.le_trans (List.length_filter_le _ _) g.h.v8.1
 ·exact fun d hd=>g.h.v8.2 d (List.mem_filter.1 hd).1
 ·exact(ox g.pre.view _).2
 ·have e2:q.up=false:=e;rw[g.up,hu]at e2;cases e2
theorem Go1.tab_(g:Go1 c p q){t:List ar}{r:List (List GMark)}(ht:TUp q.table t)(hr:fU r):Go1 c p { q with table:=t,reports:=r }:=
 ⟨xS g.h (by rw[<-ht.1];exact g.h.g.table) hr,⟨by have:=g.pre.table;rw[ht.1]at this;exact this,g.pre.rows,g.pre.heard,g.pre.view⟩,g.node,g.up,g.inc,g.ws,g.f8,g.tab.trans ht⟩
theorem Go1.learn(g:Go1 c p q)(t:List ar):Go1 c p (bz q t):=g.tab_ (ahR _ _ _) (jc g.h.rs _)
theorem Go1.left(g:Go1 c p q)(i:UInt8)(inc:UInt16):Go1 c p { q with table:=i_ q.table i inc }:=g.tab_ (ais _ _ _) g.h.rs
theorem Go1.view(g:Go1 c p q)(hc:aE c=true){V:List GDesc}(hv:Rt q.node c.view V)(h8: ∀d∈V,d.filter.length<=8)(hF: ∀d∈V,okF d):Go1 c p { q with view:=V }:=by
 have hr:=bZ hc;have h1:=hv.1;exact⟨⟨nh g.h.g (by omega) hF,g.h.rs,⟨by show V.length<=1100000;omega,h8⟩,hv.2⟩,⟨g.pre.table,g.pre.rows,g.pre.heard,hv⟩,g.node,g.up,g.inc,g.ws,g.f8,g.tab⟩
theorem Go1.wait(g:Go1 c p q){w:GW}(hw:ok8 w.sent):Go1 c p { q with wait:=w }:=⟨sV g.h hw.toDs,⟨g.pre.table,g.pre.rows,g.pre.heard,g.pre.view⟩,g.node,g.up,g.inc,hw,g.f8,g.tab⟩
theorem sR{n:UInt8}{i:UInt16}(h:(ax c p n i).2=false):(ax c p n i).1=p:=by grind [ax]
theorem oM{n:UInt8}{i:UInt16}(h:(ax c p n i).2=true):(n.toNat:Int)<c.nodes/\n≠p.node:=by grind [ax]
theorem Go1.hear(g:Go1 c p q)(n:UInt8)(i:UInt16):Go1 c p (ax c q n i).1:=by
 unfold ax;split
 ·exact g
 ·split
  ·exact g
  ·split
   ·exact g
   ·refine g.tab_ (af7 _ _ _) ?_;split
    ·exact kQ g.h.rs
    ·exact g.h.rs
theorem Bd.curs(h:Bd c nd p){k:List GDesc}(hk:k∈[p.view,p.near,aX p.ring]){d:GDesc}(hd:d∈k):d.node≠p.node/\(d.node.toNat:Int)<c.nodes:=by
 have h1:=h.win.cur k hk d hd;have h2:=qA h1;have h3:=h.win.table;exact⟨zf h1,by omega⟩
end
section
variable {c:ao} {nd:UInt8} {p q:af} {m:aJ} {dr:List UInt32}
theorem d_(hc:aE c=true)(hB:Bd c nd p)(hu:p.up=true){L:List GDesc}(hL:cf L)(hL2: ∀d∈L,okF d){H:af->af}{M:af->List aJ}
  (hH: ∀q,Go1 c p q->((m.frm.toNat:Int)<c.nodes/\m.frm≠p.node)->Go1 c p (H q)/\ ∀x∈M q,MOk c p x):
  aa1 c p (if (ax c p m.frm m.inc).2=true then (aD c (H (ax c p m.frm m.inc).1) L,M (ax c p m.frm m.inc).1)else ((ax c p m.frm m.inc).1,[])).1
   (if (ax c p m.frm m.inc).2=true then (aD c (H (ax c p m.frm m.inc).1) L,M (ax c p m.frm m.inc).1)else ((ax c p m.frm m.inc).1,[])).2:=by
 cases h:(ax c p m.frm m.inc).2 with
 |false=>
  rw[if_neg (by decide),sR h]
  exact hB.stay
 |true=>
  rw[if_pos rfl];obtain⟨g,ms⟩:=hH _ (hB.go.hear m.frm m.inc) (oM h);exact g.meet hc hu hL hL2 ms
theorem fA:cf []:=⟨by simp,by simp⟩
theorem iJ: ∀d∈([]:List GDesc),okF d:=by simp
theorem gG: ∀x∈([]:List aJ),MOk c p x:=by simp
theorem an8(hc:aE c=true)(g:Go1 c p q)(hm:okMg m)(hf:(m.frm.toNat:Int)<c.nodes/\m.frm≠p.node):Go1 c p (ei c q m).1/\ ∀x∈(ei c q m).2,MOk c p x:=by
 unfold ei;split
 ·rename_i d hd;have hdm:d∈m.list:=by rw[hd];exact List.mem_cons_self
  split
  ·rename_i hfi;refine⟨g.view hc (aj0 g.pre.view d) (fun x hx=>?_) (fun x hx=>?_),fun x hx=>?_⟩
   ·rcases oW hx with h|rfl
    ·exact g.h.v8.2 x h
    ·exact aax (by have:=bZ hc;omega) hfi.2.2
   ·rcases oW hx with h|rfl
    ·exact g.h.g.view x h
    ·exact hm.fs2 x hdm
   ·rw[List.mem_singleton.1 hx];exact⟨g.node,g.inc,hf.2,hf.1,Nat.le_of_ble_eq_true rfl,Nat.le_of_ble_eq_true rfl⟩
  ·exact⟨g,gG⟩
 ·exact⟨g,gG⟩
theorem acL(hc:aE c=true)(g:Go1 c p q)(hm:okMg m):Go1 c p (kW c q m):=by
 have g2:=g.learn m.table;refine g2.view hc (ae6 _ _ g2.pre.view) (fun x hx=>?_) (fun x hx=>?_)
 ·rcases rC _ _ x hx with h|h
  ·exact g2.h.v8.2 x h
  ·exact aax (by have:=bZ hc;omega) (z6 h)
 ·rcases rC _ _ x hx with h|h
  ·exact g2.h.g.view x h
  ·exact hm.fs2 x (qk h)
theorem aa7(hc:aE c=true)(g:Go1 c p q)(hm:okMg m)(sent:List GDesc):Go1 c p (iV c q m sent):=by
 refine g.view hc (kB _ _ _ g.pre.view) (fun x hx=>?_) (fun x hx=>?_)
 ·rcases eU _ _ _ x hx with h|h
  ·exact g.h.v8.2 x h
  ·exact aax (by have:=bZ hc;omega) (z6 h)
 ·rcases eU _ _ _ x hx with h|h
  ·exact g.h.g.view x h
  ·exact hm.fs2 x (qk h)
theorem ahc(hc:aE c=true)(g:Go1 c p q)(hm:okMg m):Go1 c p (ly c q m):=by
 unfold ly;simp only;split
 ·exact aa7 hc (g.wait (aep g.ws).1) hm _
 ·exact g
theorem agb(hc:aE c=true)(hB:Bd c nd p)(hm:okMg m):aa1 c p (gr dr c p m).1 (gr dr c p m).2/\(p.up=false->(gr dr c p m).2=[]):=by
 unfold gr
 by_cases h0:p.up=false\/m.to≠p.node
 ·rw[if_pos h0];exact⟨hB.stay,fun _=>rfl⟩
 rw[if_neg h0]
 have hu:p.up=true:=by
  cases h:p.up with
  |true=>rfl
  |false=>exact absurd (.inl h) h0
 refine⟨?_,fun h=>absurd (.inl h) h0⟩
 by_cases k1:m.kind=1
 ·rw[if_pos k1];exact d_ hc hB hu fA iJ (H:=fun q=>(ei c q m).1) (M:=fun q=>(ei c q m).2) fun q g hf=>an8 hc g hm hf
 rw[if_neg k1]
 by_cases k2:m.kind=2
 ·rw[if_pos k2];exact d_ hc hB hu fA iJ (H:=fun q=>kW c q m) (M:=fun _=>[]) fun q g hf=>⟨acL hc g hm,gG⟩
 rw[if_neg k2]
 by_cases k3:m.kind=3
 ·rw[if_pos k3];refine d_ hc hB hu fA iJ (H:=fun q=>iV c q m (dt c.swap (bB q.view m.frm) [] dr)) (M:=fun q=>[{ pMsg q 4 m.frm with list:=dt c.swap (bB q.view m.frm) [] dr }]) fun q g hf=>⟨aa7 hc g hm _,fun x hx=>?_⟩
  rw[List.mem_singleton.1 hx];exact⟨g.node,g.inc,hf.2,hf.1,Nat.le_of_ble_eq_true rfl,Nat.le_of_ble_eq_true rfl⟩
 rw[if_neg k3]
 by_cases k4:m.kind=4
 ·rw[if_pos k4];exact d_ hc hB hu fA iJ (H:=fun q=>ly c q m) (M:=fun _=>[]) fun q g hf=>⟨ahc hc g hm,gG⟩
 rw[if_neg k4]
 by_cases k5:m.kind=5\/m.kind=7
 ·rw[if_pos k5];exact d_ hc hB hu hm.ds hm.fs2 (H:=fun q=>q) (M:=fun _=>[]) fun q g hf=>⟨g,gG⟩
 rw[if_neg k5]
 by_cases k6:m.kind=6
 ·rw[if_pos k6];refine d_ hc hB hu hm.ds hm.fs2 (H:=fun q=>q) (M:=fun q=>[{ pMsg (aD c q m.list) 7 m.frm with list:=dP (aX (aD c q m.list).ring) (pSelf (aD c q m.list)) }]) fun q g hf=>⟨g,fun x hx=>?_⟩
  rw[List.mem_singleton.1 hx];exact⟨g.node,g.inc,hf.2,hf.1,Nat.le_of_ble_eq_true rfl,Nat.le_of_ble_eq_true rfl⟩
 rw[if_neg k6]
 by_cases k8:m.kind=8
 ·rw[if_pos k8];exact d_ hc hB hu fA iJ (H:=fun q=>bz q m.table) (M:=fun _=>[]) fun q g hf=>⟨g.learn _,gG⟩
 rw[if_neg k8]
 by_cases k9:m.kind=9
 ·rw[if_pos k9];exact d_ hc hB hu fA iJ (H:=fun q=>{ q with table:=i_ q.table m.frm m.inc }) (M:=fun _=>[]) fun q g hf=>⟨g.left _ _,gG⟩
 rw[if_neg k9];exact d_ hc hB hu fA iJ (H:=fun q=>q) (M:=fun _=>[]) fun q g hf=>⟨g,gG⟩
theorem ahK{w:GW}(h:ok8 w.sent):ok8 (gE w).1.sent:=by
 unfold gE;split
 ·split
  ·exact⟨Nat.zero_le _,fun d hd=>absurd (show d∈([]:List GDesc)from hd) List.not_mem_nil⟩
  ·exact h
 ·exact⟨Nat.zero_le _,fun d hd=>absurd (show d∈([]:List GDesc)from hd) List.not_mem_nil⟩
theorem ahS{l:List GDesc}(h:ok8 l):ok8 (bX l):=⟨by rw[bX,List.length_map];exact h.1,fun d hd=>by
 obtain⟨e,h1,rfl⟩:=lr hd
 rw[wz];exact h.2 e h1⟩
theorem acU{l:List GDesc}{f:GDesc->Bool}(h:ok8 l):ok8 (l.filter f):=⟨Nat.le_trans (List.length_filter_le _ _) h.1,fun d hd=>h.2 d (List.mem_filter.1 hd).1⟩
theorem ae5(hB:Bd c nd p):Go1 c p (cu c p):=by
 have hv:Rt p.node c.view (cu c p).view/\ok8 (cu c p).view:=by
  have h1:=amr hB.pre.view;have h2:=ahS hB.h.v8;unfold cu;simp only;split
  ·exact⟨ox h1 _,acU h2⟩
  ·exact⟨h1,h2⟩
 refine⟨⟨zJ hB.h.g hB.ws,hB.h.rs,hv.2,hv.1.2⟩,⟨?_,hB.win.rows,hB.win.heard,hv.1⟩,rfl,rfl,rfl,ahK hB.ws,hB.f8,aaA _ _ _⟩;have:=hB.win.table;rw[(aaA p.table p.node c.suspect).1]at this;exact this
theorem ajj{l:List GDesc}{self:GDesc}{many:Int}(h:(jj l self many dr).2.2=true): ∃o∈l,(jj l self many dr).1=o.node:=by grind [jj]
theorem aey{l:List GDesc}{self:GDesc}{many:Int}(hl:ok8 l)(hl9:l.length<=99)(hs:self.filter.length<=8):ok8 (jj l self many dr).2.1:=by
 have hz:ok8 []:=⟨Nat.zero_le _,by simp⟩
 unfold jj;split
 ·split
  ·split
   ·rename_i o _ _;show ok8 (amy l self many dr o.node);unfold amy;have h1:=qF (many:=many-1) dr (bB l o.node) [];have h2:=pN l o.node;have h3:=apc (many:=many-1) (nd:=o.node) (dr:=dr) hl;simp only[List.length_nil]at h1;refine⟨by rw[List.length_cons];omega,fun d hd=>?_⟩
    rcases List.mem_cons.1 hd with rfl|hd
    ·exact hs
    ·exact h3.2 d hd
   ·exact hz
  ·exact hz
 ·exact hz
theorem mG(hc:aE c=true)(hB:Bd c nd p):p.view.length<=12/\p.near.length<=12:=by
 have hr:=bZ hc;have h1:=(sf hB.win.view).1;have h2:=(sf hB.win.near).1;omega
theorem al7(hc:aE c=true)(hB:Bd c nd q)(hu:q.up=true):Bd c nd (eZ c q dr).1/\(eZ c q dr).1.inc=q.inc/\(eZ c q dr).1.up=q.up/\(eZ c q dr).1.table=q.table/\ ∀x∈(eZ c q dr).2,MOk c q x:=by
 unfold eZ;simp only;split
 ·rename_i h;have hs:=aey (dr:=dr) (many:=c.swap) (self:=pSelf q) hB.h.v8 (by have:=(mG hc hB).1;omega) hB.f8
  refine⟨⟨sV hB.h (w:=wStart _ 2 _) hs.toDs,⟨hB.win.table,hB.win.rows,hB.win.heard,hB.win.view,hB.win.near,hB.win.cur,hB.win.ovl,hB.win.ring⟩,hB.node,hs,hB.f8,fun e=>?_⟩,rfl,rfl,rfl,fun x hx=>?_⟩
  ·have e2:q.up=false:=e;rw[hu]at e2;cases e2
  ·rw[List.mem_singleton.1 hx];obtain⟨o,ho,e⟩:=ajj h.2;have h3:=hB.curs (k:=q.view) (by simp) ho
   exact⟨rfl,rfl,by rw[<-e]at h3;exact h3.1,by rw[<-e]at h3;exact h3.2,Nat.le_of_ble_eq_true rfl,Nat.le_of_ble_eq_true rfl⟩
 ·exact⟨hB,rfl,rfl,rfl,gG⟩
theorem aeW{x:UInt8}: ∀(l acc:List UInt8),x∈l.foldl nB acc->x∈l\/x∈acc
 |[],acc,h=>.inr h
 | y::r,acc,h=>by
  rcases aeW r (nB acc y) h with h|h
  ·exact .inl (List.mem_cons_of_mem _ h)
  ·unfold nB at h;split at h
   ·exact .inr h
   ·rcases List.mem_append.1 h with h|h
    ·exact .inr h
    ·exact .inl (by rw[List.mem_singleton.1 h];exact List.mem_cons_self)
theorem afJ{x:UInt8}(h:x∈aK p): ∃k∈[p.view,p.near,aX p.ring], ∃d∈k,d.node=x:=by
 rcases aeW _ _ h with h|h
 ·rcases fT h with h|h
  ·obtain⟨d,hd,e⟩:=List.mem_map.1 h;obtain⟨k,hk,hd⟩:=List.mem_flatten.1 hd;exact⟨k,hk,d,hd,e⟩
  ·cases h
 ·cases h
theorem gR(hB:Bd c nd p){x:UInt8}(h:x∈aK p):x≠p.node/\(x.toNat:Int)<c.nodes:=by
 obtain⟨k,hk,d,hd,rfl⟩:=afJ h;exact hB.curs hk hd
theorem ix(hc:aE c=true)(hB:Bd c nd p):(bU p).length<=26:=by grind [mG,fk,bU,List.length_map,List.flatten_cons,List.flatten_nil,List.length_append,List.length_nil]
theorem db(hc:aE c=true)(hB:Bd c nd p):(aK p).length<=26:=by
 have h1:=sZ (aW ltU (bU p)) (aW ltU (bU p)).length;rw[List.take_length,ch]at h1;have:=ix hc hB;show(de _).length<=26;omega
theorem uy(hc:aE c=true)(hB:Bd c nd p)(hu:p.up=true):aa1 c p (pTick c p dr (aK (eZ c (aD c (cu c p) []) dr).1)).1 (pTick c p dr (aK (eZ c (aD c (cu c p) []) dr).1)).2:=by
 have s1:=(ae5 hB).meet hc hu fA iJ (ms:=[]) gG;unfold pTick;simp only;generalize aD c (cu c p) []=q at s1;have hqu:q.up=true:=by rw[s1.up,hu]
 have hqn:q.node=p.node:=s1.bd.node;obtain⟨b1,b2,b3,b4,b5⟩:=al7 (dr:=dr) hc s1.bd hqu;generalize eZ c q dr=K at b1 b2 b3 b4 b5;obtain⟨r,M⟩:=K;simp only at b1 b2 b3 b4 b5 ⊢;have rn:r.node=p.node:=b1.node;have ri:r.inc=p.inc:=b2.trans s1.inc;have mk: ∀{k to:UInt8},to≠r.node->(to.toNat:Int)<c.nodes->1<=k.toNat->k.toNat<=9-> ∀{l:List GDesc} {t:List ar},MOk c p { pMsg r k to with list:=l,table:=t }:=fun h1 h2 h3 h4=>⟨rn,ri,by rw[<-rn];exact h1,h2,h3,h4⟩
 refine⟨b1,ri,b3.trans s1.up,by rw[b4];exact s1.tab,fun x hx=>?_⟩
 rcases List.mem_append.1 hx with hx|hx
 ·rcases List.mem_append.1 hx with hx|hx
  ·rcases List.mem_append.1 hx with hx|hx
   ·have h:=b5 x hx;exact⟨h.frm.trans hqn,h.inc.trans s1.inc,by rw[<-hqn];exact h.ne,h.lt,h.k1,h.k9⟩
   ·unfold ml at hx;split at hx
    ·cases hx
    ·rename_i hne;rw[List.mem_singleton.1 hx];have hl:0<(aK r).length:=List.length_pos_iff.2 hne;have hi:(gB c dr).toNat % (aK r).length<(aK r).length:=Nat.mod_lt _ hl;have h2:=gR b1 (x:=(aK r).getD ((gB c dr).toNat % (aK r).length) 0) (by rw[List.getD_eq_getElem?_getD,List.getElem?_eq_getElem hi];exact List.getElem_mem hi)
     exact mk h2.1 h2.2 (Nat.le_of_ble_eq_true rfl) (Nat.le_of_ble_eq_true rfl)
  ·unfold iW at hx;split at hx
   ·rename_i hs;rw[List.mem_singleton.1 hx]
    obtain⟨d,hd,hdn⟩: ∃d∈aX r.ring,d.node=r.ring.succ.node:=by
     unfold aX;split
     ·unfold gy
      by_cases h1:r.ring.succ.node<r.ring.pred.node
      ·rw[if_pos h1];exact⟨_,List.mem_cons_self,rfl⟩
      ·rw[if_neg h1]
       by_cases h2:r.ring.pred.node<r.ring.succ.node
       ·rw[if_pos h2];exact⟨_,List.mem_cons_of_mem _ List.mem_cons_self,rfl⟩
       ·rw[if_neg h2];have e:r.ring.pred.node=r.ring.succ.node:=UInt8.le_antisymm (UInt8.not_lt.1 h1) (UInt8.not_lt.1 h2);split
        ·exact⟨_,List.mem_cons_self,e⟩
        ·exact⟨_,List.mem_cons_self,rfl⟩
     ·first|exact⟨_,List.mem_cons_self,rfl⟩|(rw[if_pos hs];exact⟨_,List.mem_cons_self,rfl⟩)
    have h2:=b1.curs (k:=aX r.ring) (by simp) hd
    rw[hdn]at h2;exact mk h2.1 h2.2 (Nat.le_of_ble_eq_true rfl) (Nat.le_of_ble_eq_true rfl)
   ·cases hx
 ·obtain⟨d,hd,rfl⟩:=List.mem_map.1 hx;have h2:=b1.curs (k:=aX r.ring) (by simp) hd
  exact mk h2.1 h2.2 (Nat.le_of_ble_eq_true rfl) (Nat.le_of_ble_eq_true rfl)
end
theorem akW{f g:List GSpan}(hf: ∀s∈f,okS s)(hg: ∀s∈g,okS s): ∀s∈eh f g,okS s:=by
 intro s hs;unfold eh at hs;split at hs
 ·obtain⟨x,hx,rfl⟩:=List.mem_map.1 hs;exact aae (hf _ (List.of_mem_zip hx).1) (hg _ (List.of_mem_zip hx).2)
 ·cases hs
theorem lN{dom f:List GSpan}(hd: ∀s∈dom,okS s)(hf: ∀s∈f,okS s)(hl:dom.length<=4):(∀s∈(bA dom f).1,okS s)/\(bA dom f).1.length<=8:=by grind [bA,akW,vF,eh]
section
variable {c:ao} {nd:UInt8} {p q:af} {o:GOp}
theorem mS(h:okG p){f:List GSpan}(h1: ∀s∈f,okS s)(h2:f.length<=8):okG { p with filter:=f }:=
 ⟨⟨by show f.length<=4000000;omega,h.ok.view,h.ok.near,h.ok.succ,h.ok.pred,h.ok.sent,h.ok.table,h.ok.heard,h.ok.rows,h.ok.reports,h.ok.evs,h.ok.pulls⟩,h1,h.view,h.near,h.succ,h.pred,h.table⟩
theorem Go1.filter(g:Go1 c p q){f:List GSpan}(h1: ∀s∈f,okS s)(h2:f.length<=8):Go1 c p { q with filter:=f }:=
 ⟨⟨mS g.h.g h1 h2,g.h.rs,g.h.v8,g.h.vw⟩,⟨g.pre.table,g.pre.rows,g.pre.heard,g.pre.view⟩,g.node,g.up,g.inc,g.ws,h2,g.tab⟩
theorem o4(hc:aE c=true){node:UInt8}{inc:UInt16}{up:Bool}{t:List ar}(ht:(t.length:Int)=c.nodes):Win c { bI c node with inc:=inc,up:=up,table:=t }:=by
 have hr:=bZ hc;have hn:(((min (max c.nodes 0) 12).toNat:Nat):Int)=c.nodes:=by omega
 refine⟨ht,?_,?_,?_,?_,?_,?_,.inl rfl⟩
 ·simp only[bI,List.length_replicate];exact hn
 ·simp only[bI,List.length_replicate];exact hn
 ·exact oh ⟨by simp only[bI,List.length_nil];omega,adz _⟩ (by omega)
 ·exact oh ⟨by simp only[bI,List.length_nil];omega,adz _⟩ (by omega)
 ·intro k hk d hd;simp only[bI,List.mem_cons,List.not_mem_nil,or_false]at hk;rcases hk with rfl|rfl|rfl
  ·cases hd
  ·cases hd
  ·simp[aX]at hd
 ·intro d hd;simp[bI]at hd
theorem lx(hc:aE c=true)(node:UInt8):((bI c node).table.length:Int)=c.nodes:=by
 have hr:=bZ hc;simp only[bI,List.length_replicate];omega
theorem aju:ok8 []:=⟨Nat.zero_le _,by simp⟩
theorem akz(hc:aE c=true)(node:UInt8):Bd c node (bI c node):=
 ⟨xb c node,o4 hc (up:=false) (inc:=0) (lx hc node),rfl,aju,Nat.zero_le _,fun _=>⟨rfl,rfl,rfl,rfl,rfl⟩⟩
theorem ajr(hc:aE c=true)(hB:Bd c nd p):Bd c nd (bE c p).1/\p.inc<=(bE c p).1.inc/\(p.up=true->(bE c p).1=p):=by
 have ho:=ahk c p hB.h;unfold bE at ho ⊢;split
 ·exact⟨hB,UInt16.le_refl _,fun _=>rfl⟩
 ·rename_i hu;split
  ·exact⟨hB,UInt16.le_refl _,fun _=>rfl⟩
  ·rename_i hi;rw[if_neg hu,if_neg hi]at ho;refine⟨⟨ho,o4 hc (by rw[List.length_set];exact lx hc _),hB.node,aju,Nat.zero_le _,fun e=>by cases e⟩,?_,fun h=>absurd h hu⟩
   show p.inc<=p.inc+1;have h1:p.inc.toNat≠65535:=fun e=>hi (UInt16.toNat_inj.1 e)
   have h2:=p.inc.toNat_lt;rw[UInt16.le_iff_toNat_le,UInt16.toNat_add];show p.inc.toNat<=(p.inc.toNat+1) % 65536;omega
theorem afd(hc:aE c=true)(hB:Bd c nd p):Bd c nd (mo c p):=by
 have h:=aeC (xb c p.node) (i:=p.inc) (b:=false) (t:=(bI c p.node).table) (by have:=lx hc p.node;have:=bZ hc;omega)
 exact⟨h,o4 hc (up:=false) (inc:=p.inc) (lx hc _),hB.node,aju,Nat.zero_le _,fun _=>⟨rfl,rfl,rfl,rfl,rfl⟩⟩
structure asW(c:ao)(p:af)(r:af×List aJ×Int):Prop where
 bd:Bd c p.node r.1
 inc:p.inc<=r.1.inc
 tab:r.1.up=true->p.up=true->TUp p.table r.1.table
 ms: ∀m∈r.2.1,MOk c p m
 quiet:r.2.1≠[]->r.2.2=0/\p.up=true
end
section
variable {c:ao} {nd:UInt8} {p q:af} {o:GOp}
theorem tg(hc:aE c=true)(hB:Bd c nd p):Con2 Tryz.prog 91 [.agg (ak p)] (· =plR (.fz 1 ((aK p).map az))):=by
 have h1:=mG hc hB;have h2:=hB.h.g.ok;exact ae2 p (by omega) (by omega) h2.succ h2.pred (ix hc hB)
theorem fy{a b:af}{M:List aJ}{t:Bool}(h:M.length<=1):(if t=true then (a,M)else (b,[])).2.length<=1:=by
 cases t
 ·exact Nat.zero_le _
 ·exact h
theorem alH{m:aJ}:(ei c q m).2.length<=1:=by grind [ei]
theorem take_len{m:aJ}{dr:List UInt32}:(gr dr c p m).2.length<=1:=by
 unfold gr
 repeat' split
 ·exact Nat.zero_le _
 ·exact fy alH
 ·exact fy (Nat.zero_le _)
 ·exact fy (Nat.le_refl _)
 ·exact fy (Nat.zero_le _)
 ·exact fy (Nat.zero_le _)
 ·exact fy (Nat.le_refl _)
 ·exact fy (Nat.zero_le _)
 ·exact fy (Nat.zero_le _)
 ·exact fy (Nat.zero_le _)
theorem aaR{dr:List UInt32}{L:List UInt8}:(pTick c p dr L).2.length<=5:=by grind [pTick,eZ,aD,cu,ml,iW,fk,List.length_append,List.length_map]
theorem apX(h:qc o=true)(hf: ∀d∈o.m.list, ∀s∈d.filter,okS s):okMg o.m/\o.draws.length<=4000000/\o.filter.length<=1048576:=by
 unfold qc at h;simp only[Bool.and_eq_true,List.all_eq_true,decide_eq_true_eq,Bool.not_eq_true',decide_eq_false_iff_not]at h;obtain⟨⟨h1,h2⟩,h3,h4,h5,h6⟩:=h;exact⟨⟨by omega,fun d hd=>by have:=h1 d hd;omega,hf,by omega⟩,by omega,by omega⟩
end
end Go.Proofs.YtmhmahcdanclnaaGreat.V
namespace Go.Eng
section
variable {l:List GDesc} {self:UInt8} {d:GDesc} {room:Int}
end
end Go.Eng
namespace Go.Proofs.YtmhmahcdanclnaaGreat.V
open Go.Eng
section
variable {c:ao} {a b nd:UInt8} {p q:af} {o:GOp} {m:aJ} {dr:List UInt32}
structure as1(p q:af):Prop where
 node:q.node=p.node
 filter:q.filter=p.filter
 inc:q.inc=p.inc
 up:q.up=p.up
 own:q.table[p.node.toNat]? =p.table[p.node.toNat]?
structure Jn(c:ao)(nd:UInt8)(p:af):Prop where
 bd:Bd c nd p
 up:p.up=true
 inc:p.inc=1
 filter:p.filter=[]
 own:p.table[nd.toNat]? =some ⟨1,1,0⟩
structure as8(c:ao)(a b:UInt8)(p q:af)(M:aJ)(P:af)(W:aJ)(R:af):Prop where
 m1:apo c q a=([M],0)
 m2:okMg M
 p1:gr [] c p M=(P,[W])
 p2:Bd c a P
 p3:W.to=b
 p4:0<=kZ P.view b
 p5:p.view.length<=P.view.length
 w1:okMg W
 r1:gr [] c q W=(R,[])
 r2:Bd c b R
 r3:R.table[a.toNat]? =some ⟨1,1,0⟩
 r4:1<=R.view.length
 r5:(R.view.length:Int)<=c.view
 r6:R.view.length<=W.list.length
 r7:p.view.length=0->0<=kZ R.view a/\R.ring.hs=true/\R.ring.succ.node=a/\R.ring.pred.node=a
end
section
variable {c:ao} {p q r:af} {m:aJ} {dr:List UInt32}
structure Ev1(p q:af):Prop where
 node:q.node=p.node
 inc:q.inc=p.inc
 up:q.up=p.up
 filter:q.filter=p.filter
 rows:q.rows=p.rows
 buf:q.buf=p.buf
 pulls:q.pulls=p.pulls
 seq:q.seq=p.seq
 passed:q.passed=p.passed
 evicted:q.evicted=p.evicted
 collected:q.collected=p.collected
theorem Ev1.refl(p:af):Ev1 p p:=⟨rfl,rfl,rfl,rfl,rfl,rfl,rfl,rfl,rfl,rfl,rfl⟩
theorem Ev1.trans(h:Ev1 p q)(g:Ev1 q r):Ev1 p r:=
 ⟨g.node.trans h.node,g.inc.trans h.inc,g.up.trans h.up,g.filter.trans h.filter,g.rows.trans h.rows,g.buf.trans h.buf,g.pulls.trans h.pulls,g.seq.trans h.seq,g.passed.trans h.passed,g.evicted.trans h.evicted,g.collected.trans h.collected⟩
theorem cT(l:List GDesc):Ev1 p (aD c p l):=⟨rfl,rfl,rfl,rfl,rfl,rfl,rfl,rfl,rfl,rfl,rfl⟩
theorem d9(n:UInt8)(i:UInt16):Ev1 p (ax c p n i).1:=by
 unfold ax;split
 ·exact Ev1.refl p
 ·split
  ·exact Ev1.refl p
  ·split
   ·exact Ev1.refl p
   ·exact⟨rfl,rfl,rfl,rfl,rfl,rfl,rfl,rfl,rfl,rfl,rfl⟩
theorem als(t:List ar):Ev1 p (bz p t):=⟨rfl,rfl,rfl,rfl,rfl,rfl,rfl,rfl,rfl,rfl,rfl⟩
theorem ev_aged:Ev1 p (cu c p):=⟨rfl,rfl,rfl,rfl,rfl,rfl,rfl,rfl,rfl,rfl,rfl⟩
theorem aqg:Ev1 p (eZ c p dr).1:=by
 unfold eZ;simp only;split
 ·exact⟨rfl,rfl,rfl,rfl,rfl,rfl,rfl,rfl,rfl,rfl,rfl⟩
 ·exact Ev1.refl p
theorem afy(L:List UInt8):Ev1 p (V.pTick c p dr L).1:=(ev_aged.trans (cT [])).trans aqg
theorem gN{A:af}{B:List aJ}{Q:af×Bool}(h:Ev1 p Q.1)(g:Ev1 Q.1 A):Ev1 p (if Q.2=true then (A,B)else (Q.1,[])).1:=by
 split
 ·exact h.trans g
 ·exact h
theorem ev_take:Ev1 p (gr dr c p m).1:=by
 have hh:=d9 (c:=c) (p:=p) m.frm m.inc;unfold gr;split
 ·exact Ev1.refl p
 split
 ·refine gN hh (Ev1.trans ?_ (cT _));unfold ei;split
  ·split
   ·exact⟨rfl,rfl,rfl,rfl,rfl,rfl,rfl,rfl,rfl,rfl,rfl⟩
   ·exact Ev1.refl _
  ·exact Ev1.refl _
 split
 ·refine gN hh (Ev1.trans ?_ (cT _));exact⟨rfl,rfl,rfl,rfl,rfl,rfl,rfl,rfl,rfl,rfl,rfl⟩
 split
 ·refine gN hh (Ev1.trans ?_ (cT _));exact⟨rfl,rfl,rfl,rfl,rfl,rfl,rfl,rfl,rfl,rfl,rfl⟩
 split
 ·refine gN hh (Ev1.trans ?_ (cT _));unfold ly;simp only;split
  ·exact⟨rfl,rfl,rfl,rfl,rfl,rfl,rfl,rfl,rfl,rfl,rfl⟩
  ·exact Ev1.refl _
 split
 ·exact gN hh (cT _)
 split
 ·exact gN hh (cT _)
 split
 ·exact gN hh ((als m.table).trans (cT _))
 split
 ·refine gN hh (Ev1.trans ?_ (cT _));exact⟨rfl,rfl,rfl,rfl,rfl,rfl,rfl,rfl,rfl,rfl,rfl⟩
 ·exact gN hh (cT _)
end
section
variable {c:ao} {p q:af} {m:aJ} {dr:List UInt32} {e:GEvt} {G:List GID} {x:GID}
structure On(c:ao)(p:af)(G:List GID):Prop where
 fit: ∀r∈p.rows,fw r c.window
 seen: ∀x∈G, ∃r,p.rows[x.node.toNat]? =some r/\(apd r x=true\/x.inc.toNat<r.inc.toNat)
 own: ∀x∈G,x.node=p.node->x.inc.toNat<p.inc.toNat\/(x.inc=p.inc/\x.seq.toNat<=p.seq.toNat)
 pos: ∀x∈G,0<x.inc.toNat/\x.seq≠0
theorem On.ev(h:On c p G)(g:Ev1 p q):On c q G:=
 ⟨by rw[g.rows];exact h.fit,by rw[g.rows];exact h.seen,by rw[g.node,g.inc,g.seq];exact h.own,h.pos⟩
theorem adl:cO c.schema e=true↔jV c.schema e.vals=true/\e.data.length<=64/\e.id.node.toNat<12/\1<=e.id.inc.toNat/\1<=e.id.seq.toNat:=by simp[cO]
theorem lI(h:j4 c p e=true):cO c.schema e=true/\(e.id.node.toNat:Int)<c.nodes/\e.id.seq.toNat<=c.last.toNat/\(e.id.node=p.node->e.id.inc.toNat<p.inc.toNat)/\
  ∃r,p.rows[e.id.node.toNat]? =some r/\iM r e.id c.window=true:=by
 unfold j4 at h
 by_cases h1:cO c.schema e=false\/c.nodes<=(e.id.node.toNat:Int)\/c.last.toNat<e.id.seq.toNat
 ·rw[if_pos h1]at h;cases h
 rw[if_neg h1]at h
 by_cases h2:e.id.node=p.node/\p.inc.toNat<=e.id.inc.toNat
 ·rw[if_pos h2]at h;cases h
 rw[if_neg h2]at h
 have a1:cO c.schema e=true:=by
  cases hv:cO c.schema e with
  |true=>rfl
  |false=>exact absurd (.inl hv) h1
 refine⟨a1,Classical.byContradiction fun hc=>h1 (.inr (.inl (by omega))),Classical.byContradiction fun hc=>h1 (.inr (.inr (by omega))),fun hn=>Classical.byContradiction fun hc=>h2 ⟨hn,by omega⟩,?_⟩
 cases hr:p.rows[e.id.node.toNat]? with
 |none=>rw[hr]at h;cases h
 |some r=>rw[hr]at h;exact⟨r,rfl,h⟩
theorem nk(h:(aI c p e).2.1=true):p.up=true/\j4 c p e=true:=by grind [aI,j4]
theorem acX(h1:p.up=true)(h2:j4 c p e=true):aI c p e=({ p with
      rows:=p.rows.modify e.id.node.toNat fun r=>(cH r e.id c.window).1
      pulls:=(Eng.pDrop p.pulls e.id).filter fun a=> !cD e.id a
      buf:=(dT p.buf e).1
      passed:=if (dT p.buf e).2=52 then p.passed+1 else p.passed },true,e_ p.filter e.vals):=by
  unfold aI;rw[if_neg (by rw[h1,h2];simp)]
theorem rD(h: ¬(aI c p e).2.1=true):aI c p e=(p,false,false):=by grind [aI]
structure Nm1(p q:af):Prop where
 node:q.node=p.node
 inc:q.inc=p.inc
 up:q.up=p.up
 filter:q.filter=p.filter
 rows:q.rows=p.rows
 seq:q.seq=p.seq
theorem Nm1.refl(p:af):Nm1 p p:=⟨rfl,rfl,rfl,rfl,rfl,rfl⟩
theorem Nm1.trans{r:af}(h:Nm1 p q)(g:Nm1 q r):Nm1 p r:=⟨g.node.trans h.node,g.inc.trans h.inc,g.up.trans h.up,g.filter.trans h.filter,g.rows.trans h.rows,g.seq.trans h.seq⟩
theorem Ev1.nm(h:Ev1 p q):Nm1 p q:=⟨h.node,h.inc,h.up,h.filter,h.rows,h.seq⟩
theorem amq:Nm1 p (cj p x):=by
 unfold cj;split
 ·exact Nm1.refl p
 ·split
  ·exact⟨rfl,rfl,rfl,rfl,rfl,rfl⟩
  ·exact Nm1.refl p
theorem zq: ∀(l:List GID) (p:af),Nm1 p (l.foldl cj p)
 |[],p=>Nm1.refl p
 |x::l,p=>(amq (x:=x)).trans (zq l _)
theorem nm_tick:Nm1 p (fh c p dr).1:=by
 unfold fh;split
 ·exact Nm1.refl p
 ·have h1:Nm1 p (i9 { p with pulls:=Eng.pTick p.pulls }):=Nm1.trans (q:={ p with pulls:=Eng.pTick p.pulls }) ⟨rfl,rfl,rfl,rfl,rfl,rfl⟩ (zq _ _);have h2:=(afy (c:=c) (p:=i9 { p with pulls:=Eng.pTick p.pulls }) (dr:=dr) (aK (eZ c (aD c (cu c (i9 { p with pulls:=Eng.pTick p.pulls })) []) dr).1)).nm;have h3:=h1.trans h2;exact⟨h3.node,h3.inc,h3.up,h3.filter,h3.rows,h3.seq⟩
theorem nm_heard:Nm1 p (bG c p m).1:=by
 unfold bG;split
 ·exact Nm1.refl p
 ·split
  ·exact Nm1.refl p
  ·split
   ·exact Nm1.refl p
   ·split
    ·exact Nm1.refl p
    ·have h1:=(d9 (c:=c) (p:=p) m.origin.node m.origin.inc).nm;exact⟨h1.node,h1.inc,h1.up,h1.filter,h1.rows,h1.seq⟩
theorem qP:(jW c p m dr).1=(aI c p m.ev).1:=by grind [jW,rD]
end
section
variable {c:ao} {p q:af} {m:aJ} {dr:List UInt32} {e:GEvt} {G:List GID} {x:GID} {vals:List Int} {data:List UInt8}
def fi(p:af)(vals:List Int)(data:List UInt8):GEvt:=⟨⟨p.node,p.inc,p.seq+1⟩,vals,data⟩
def iA(p:af)(b:ee)(ev:Int):af:={ p with buf:=b,evicted:=ev,seq:=p.seq+1,rows:=p.rows.set p.node.toNat ⟨p.inc,p.seq+1,0⟩ }
theorem eA:(∃k,k≠0/\aR c p vals data dr=(p,zEvt,false,[],k))\/
  (p.up=true/\cO c.schema (fi p vals data)=true/\p.seq.toNat<c.last.toNat/\
   (decide (p.buf.room<=(p.buf.evs.length:Int))=true->(cy p.buf p.node p.inc).2.2=0)/\
   (dT (if decide (p.buf.room<=(p.buf.evs.length:Int))=true then (cy p.buf p.node p.inc).1 else p.buf) (fi p vals data)).2=0/\
   aR c p vals data dr=(iA p (dT (if decide (p.buf.room<=(p.buf.evs.length:Int))=true then (cy p.buf p.node p.inc).1 else p.buf) (fi p vals data)).1
     (if decide (p.buf.room<=(p.buf.evs.length:Int))=true then p.evicted+1 else p.evicted),fi p vals data,e_ p.filter vals,
    eH c (iA p (dT (if decide (p.buf.room<=(p.buf.evs.length:Int))=true then (cy p.buf p.node p.inc).1 else p.buf) (fi p vals data)).1
     (if decide (p.buf.room<=(p.buf.evs.length:Int))=true then p.evicted+1 else p.evicted)) (fi p vals data) (UInt8.ofNat (c.hops % 256).toNat)
     (aK (iA p (dT (if decide (p.buf.room<=(p.buf.evs.length:Int))=true then (cy p.buf p.node p.inc).1 else p.buf) (fi p vals data)).1
      (if decide (p.buf.room<=(p.buf.evs.length:Int))=true then p.evicted+1 else p.evicted))) dr,0)):=by
 unfold aR iA fi;simp only
 by_cases h1:p.up=false
 ·rw[if_pos h1];exact .inl ⟨53,by decide,rfl⟩
 rw[if_neg h1]
 by_cases h2:cO c.schema ⟨⟨p.node,p.inc,p.seq+1⟩,vals,data⟩=false
 ·rw[if_pos h2];exact .inl ⟨51,by decide,rfl⟩
 rw[if_neg h2]
 by_cases h3:c.last.toNat<=p.seq.toNat
 ·rw[if_pos h3];exact .inl ⟨55,by decide,rfl⟩
 rw[if_neg h3]
 by_cases h4:decide (p.buf.room<=(p.buf.evs.length:Int))=true/\(cy p.buf p.node p.inc).2.2≠0
 ·rw[if_pos h4];exact .inl ⟨_,h4.2,rfl⟩
 rw[if_neg h4]
 by_cases h5:(dT (if decide (p.buf.room<=(p.buf.evs.length:Int))=true then (cy p.buf p.node p.inc).1 else p.buf) ⟨⟨p.node,p.inc,p.seq+1⟩,vals,data⟩).2≠0
 ·rw[if_pos h5];exact .inl ⟨_,h5,rfl⟩
 rw[if_neg h5];exact .inr ⟨by simpa using h1,by simpa using h2,by omega,fun h=>Classical.byContradiction fun hc=>h4 ⟨h,hc⟩,Classical.byContradiction fun hc=>h5 hc,rfl⟩
end
end Go.Proofs.YtmhmahcdanclnaaGreat.V
namespace Go.Eng
structure jm where
 what:UInt8
 filter:List GSpan
 vals:List Int
 data:List UInt8
 m:aJ
 draws:List UInt32
end Go.Eng
namespace Go.Proofs.YtmhmahcdanclnaaGreat.V
open Go.Eng
def dO(c:ao)(p:af)(o:jm):af×List aJ×List GEvt×Bool×Int:=
 if o.what=0 then ((bE c p).1,[],[],false,(bE c p).2)
 else if o.what=1 then (mo c p,[],[],false,0)
 else if o.what=2 then (if p.up=false then p else if (bA c.schema o.filter).2=0 then aD c { p with filter:=(bA c.schema o.filter).1 } []else p,[],[],false,if p.up=false then 53 else (bA c.schema o.filter).2)
 else if o.what=3 then (if p.up=false then p else mo c p,if p.up=false then []else (aK p).map (pMsg p 9),[],false,if p.up=false then 53 else 0)
 else if o.what=4 then ((aR c p o.vals o.data o.draws).1,(aR c p o.vals o.data o.draws).2.2.2.1,
  if (aR c p o.vals o.data o.draws).2.2.1=true then [(aR c p o.vals o.data o.draws).2.1]else [],decide ((aR c p o.vals o.data o.draws).2.2.2.2=0),(aR c p o.vals o.data o.draws).2.2.2.2)
 else if o.what=5 then ((fh c p o.draws).1,(fh c p o.draws).2,[],false,0)
 else if o.what=6 then ((aI c p o.m.ev).1,[],if (aI c p o.m.ev).2.2=true then [o.m.ev]else [],(aI c p o.m.ev).2.1,0)
 else ((bL c p o.m o.draws).1,(bL c p o.m o.draws).2.1,(bL c p o.m o.draws).2.2,false,0)
section
variable {c:ao} {p q:af} {m:aJ} {dr:List UInt32} {e:GEvt} {G:List GID} {x:GID} {o:jm}
structure Dl(c:ao)(q:af)(G:List GID)(e:GEvt):Prop where
 up:q.up=true
 new:e.id∉G
 ok:cO c.schema e=true
 row: ∃r,q.rows[e.id.node.toNat]? =some r/\apd r e.id=true
 fits:e_ q.filter e.vals=true
 no:j4 c q e=false
 on:On c q (e.id::G)
end
section
variable {c:ao} {p q:af} {b:ee} {e:GEvt} {x:GID} {o:jm}
abbrev ahC(e:GEvt):Nat:=e.id.key
structure aq_(c:ao)(e:GEvt):Prop where
 ok:cO c.schema e=true
 node:(e.id.node.toNat:Int)<c.nodes
 seq:e.id.seq.toNat<=c.last.toNat
structure Bf(c:ao)(b:ee):Prop where
 room:b.room=c.buffer
 len:(b.evs.length:Int)<=c.buffer
 up:Up ahC b.evs
 evs: ∀e∈b.evs,aq_ c e
theorem anM(l:List GEvt)(e:GEvt):aba l e=mF ahC l e:=by
 unfold aba mF;rw[List.append_assoc];rfl
theorem akZ{l:List GEvt}:tM l x=true↔ ∃e∈l,e.id=x:=by simp[tM]
theorem fO(b:ee)(e:GEvt):(dT b e=(b,150)/\tM b.evs e.id=true)\/(dT b e=(b,52)/\tM b.evs e.id=false/\b.room<=(b.evs.length:Int))\/
  (dT b e=(⟨b.room,mF ahC b.evs e⟩,0)/\tM b.evs e.id=false/\(b.evs.length:Int)<b.room):=by grind [dT,tM,anM]
theorem alw{y:GID}(h:y≠x):y.key≠x.key:=fun e=>h (GID.key_inj e)
theorem amp(h:Bf c b)(he:aq_ c e):Bf c (dT b e).1:=by
 rcases fO b e with ⟨e1,_⟩|⟨e1,_⟩|⟨e1,e2,e3⟩
 ·rw[e1];exact h
 ·rw[e1];exact h
 ·rw[e1];refine⟨h.room,?_,xv h.up fun a ha=>?_,fun a ha=>?_⟩
  ·show((mF ahC b.evs e).length:Int)<=_;rw[(jx b.evs e).length_eq,List.length_cons];have:=h.room;omega
  ·refine alw fun e4=>?_
   rw[akZ.2 ⟨a,ha,e4⟩]at e2;cases e2
  ·rcases kz.1 ha with rfl|ha
   ·exact he
   ·exact h.evs a ha
theorem yV(h:Bf c b)(i:Nat):Bf c ⟨b.room,b.evs.eraseIdx i⟩:=by
 have hs:(b.evs.eraseIdx i).Sublist b.evs:=List.eraseIdx_sublist ..;refine⟨h.room,?_,h.up.sublist hs,fun a ha=>h.evs a (hs.subset ha)⟩
 have:=hs.length_le;have:=h.len;show((b.evs.eraseIdx i).length:Int)<=_;omega
theorem yE(h:Bf c b)(n:UInt8)(i:UInt16):Bf c (cy b n i).1:=by grind [cy,yV]
theorem ahD(h:Bf c b):Bf c (cS b x).1:=by
 unfold cS;split
 ·exact h
 ·exact yV h _
