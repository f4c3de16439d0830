import Derived.Test.YtmhmahcdanclnaaGreatNc36
set_option linter.unusedSectionVars false
set_option linter.unusedSimpArgs false
set_option linter.unusedVariables false
set_option maxRecDepth 10000
namespace Go.Proofs.YtmhmahcdanclnaaGreat.V
open Go.Eng
theorem cu{c:ao}(h:aF c=true):2<=c.nodes/\c.nodes<=12/\1<=c.view/\c.view<=12/\0<=c.near/\c.near<=12/\1<=c.swap/\c.swap<=12/\1<=c.schema.length/\c.schema.length<=4:=by grind [aF,inR,eS]
def TUp(a b:List aq):Prop:=a.length=b.length/\ ∀(i:Nat) (x y:aq),a[i]? =some x->b[i]? =some y->x.inc<=y.inc
theorem TUp.refl(a:List aq):TUp a a:=⟨rfl,fun i x y h1 h2=>by rw[h1]at h2;cases h2;exact UInt16.le_refl _⟩
theorem TUp.trans{a b c:List aq}(h:TUp a b)(g:TUp b c):TUp a c:=⟨h.1.trans g.1,fun i x z h1 h3=>by
 have hi:=(List.getElem?_eq_some_iff.1 h1).1;have h2:b[i]? =some (b[i]'(by rw[<-h.1];exact hi)):=List.getElem?_eq_getElem _
 exact UInt16.le_trans (h.2 i _ _ h1 h2) (g.2 i _ _ h2 h3)⟩
theorem q_{l:List aq}{i:Nat}{f:aq->aq}(hf: ∀m,m.inc<=(f m).inc):TUp l (l.modify i f):=⟨by simp,fun j x y h1 h2=>by
 rw[List.getElem?_modify,h1]at h2;simp only[Option.map_eq_map,Option.map_some]at h2;cases h2;split
 ·exact hf x
 ·exact UInt16.le_refl _⟩
theorem sM{l:List aq}{f:Nat->aq->aq}(hf: ∀i m,m.inc<=(f i m).inc):TUp l (l.mapIdx f):=⟨by simp,fun j x y h1 h2=>by
 rw[List.getElem?_mapIdx,h1]at h2;simp only[Option.map_some]at h2;cases h2
 exact hf j x⟩
theorem agQ(l:List aq)(i:UInt8)(inc:UInt16):TUp l (iz l i inc):=q_ fun m=>by
 unfold kZ;split
 ·rename_i h;rcases h with h|h
  ·exact UInt16.le_of_lt h
  ·rw[h.1];exact UInt16.le_refl _
 ·exact UInt16.le_refl _
theorem aiM(l:List aq)(i:UInt8)(inc:UInt16):TUp l (jg l i inc):=q_ fun m=>by
 unfold mo;split
 ·rename_i h;exact UInt16.le_of_lt h
 ·split<;>exact UInt16.le_refl _
theorem ag5(l m:List aq)(self:UInt8):TUp l (ep l m self):=sM fun i x=>by
 unfold mMg;split
 ·rename_i y _;split
  ·rename_i h;have h2:=h.2;unfold jK at h2;split at h2
   ·exact UInt16.le_of_lt (of_decide_eq_true h2)
   ·rename_i h3;have h3:y.inc=x.inc:=Classical.byContradiction h3;show x.inc<=y.inc;rw[h3];exact UInt16.le_refl _
  ·exact UInt16.le_refl _
 ·exact UInt16.le_refl _
theorem yQ(l:List aq)(self:UInt8)(after:Int):TUp l (jo l self after):=sM fun i m=>by
 unfold mTk mQ;split
 ·exact UInt16.le_refl _
 ·split<;>(split<;>exact UInt16.le_refl _)
structure Go1(c:ao)(p q:af):Prop where
 h:okH q
 pre:Pre c q
 node:q.node=p.node
 up:q.up=p.up
 inc:q.inc=p.inc
 ws:ok8 q.wait.sent
 f8:q.filter.length<=8
 tab:TUp p.table q.table
structure Bd(c:ao)(nd:UInt8)(p:af):Prop where
 h:okH p
 win:Win c p
 node:p.node=nd
 ws:ok8 p.wait.sent
 f8:p.filter.length<=8
 dn:p.up=false->p.view=[]/\p.near=[]/\p.ring.hs=false/\p.ring.hp=false/\p.wait.some=false
structure MOk(c:ao)(p:af)(m:aJ):Prop where
 frm:m.frm=p.node
 inc:m.inc=p.inc
 ne:m.to≠p.node
 lt:(m.to.toNat:Int)<c.nodes
 k1:1<=m.kind.toNat
 k9:m.kind.toNat<=9
structure aaQ(c:ao)(p q:af)(l:List aJ):Prop where
 bd:Bd c p.node q
 inc:q.inc=p.inc
 up:q.up=p.up
 tab:TUp p.table q.table
 ms: ∀m∈l,MOk c p m
section
variable {c:ao} {nd:UInt8} {p q:af}
theorem Bd.pre(h:Bd c nd p):Pre c p:=⟨h.win.table,h.win.rows,h.win.heard,qV h.win.view⟩
theorem Bd.go(h:Bd c nd p):Go1 c p p:=⟨h.h,h.pre,rfl,rfl,rfl,h.ws,h.f8,TUp.refl _⟩
theorem Bd.stay(h:Bd c nd p):aaQ c p p []:=by
 obtain rfl:=h.node;exact⟨h,rfl,rfl,TUp.refl _,fun m hm=>absurd hm List.not_mem_nil⟩
theorem Go1.meet(hc:aF c=true)(g:Go1 c p q)(hu:p.up=true){l:List GDesc}(hl:cg l)(hl2: ∀d∈l,okF d){ms:List aJ}(hms: ∀m∈ms,MOk c p m):aaQ c p (aD c q l) ms:=by
 refine⟨⟨⟨jz g.h.g hl hl2,g.h.rs,⟨?_,?_⟩,?_⟩,ake hc g.pre,g.node,g.ws,g.f8,fun e=>?_⟩,g.inc,g.up,g.tab,hms⟩
 ·exact Nat.le_trans (List.length_filter_le _ _) g.h.v8.1
 ·exact fun d hd=>g.h.v8.2 d (List.mem_filter.1 hd).1
 ·exact(o3 g.pre.view _).2
 ·have e2:q.up=false:=e;rw[g.up,hu]at e2;cases e2
theorem Go1.tab_(g:Go1 c p q){t:List aq}{r:List (List GMark)}(ht:TUp q.table t)(hr:fX r):Go1 c p { q with table:=t,reports:=r }:=
 ⟨xO g.h (by rw[<-ht.1];exact g.h.g.table) hr,⟨by have:=g.pre.table;rw[ht.1]at this;exact this,g.pre.rows,g.pre.heard,g.pre.view⟩,g.node,g.up,g.inc,g.ws,g.f8,g.tab.trans ht⟩
theorem Go1.learn(g:Go1 c p q)(t:List aq):Go1 c p (bx q t):=g.tab_ (ag5 _ _ _) (jE g.h.rs _)
theorem Go1.left(g:Go1 c p q)(i:UInt8)(inc:UInt16):Go1 c p { q with table:=jg q.table i inc }:=g.tab_ (aiM _ _ _) g.h.rs
theorem Go1.view(g:Go1 c p q)(hc:aF c=true){V:List GDesc}(hv:Rt q.node c.view V)(h8: ∀d∈V,d.filter.length<=8)(hF: ∀d∈V,okF d):Go1 c p { q with view:=V }:=by
 have hr:=cu hc;have h1:=hv.1;exact⟨⟨ow g.h.g (by omega) hF,g.h.rs,⟨by show V.length<=1100000;omega,h8⟩,hv.2⟩,⟨g.pre.table,g.pre.rows,g.pre.heard,hv⟩,g.node,g.up,g.inc,g.ws,g.f8,g.tab⟩
theorem Go1.wait(g:Go1 c p q){w:GW}(hw:ok8 w.sent):Go1 c p { q with wait:=w }:=⟨tp g.h hw.toDs,⟨g.pre.table,g.pre.rows,g.pre.heard,g.pre.view⟩,g.node,g.up,g.inc,hw,g.f8,g.tab⟩
theorem rG{n:UInt8}{i:UInt16}(h:(ax c p n i).2=false):(ax c p n i).1=p:=by grind [ax]
theorem o4{n:UInt8}{i:UInt16}(h:(ax c p n i).2=true):(n.toNat:Int)<c.nodes/\n≠p.node:=by grind [ax]
theorem Go1.hear(g:Go1 c p q)(n:UInt8)(i:UInt16):Go1 c p (ax c q n i).1:=by
 unfold ax;split
 ·exact g
 ·split
  ·exact g
  ·split
   ·exact g
   ·refine g.tab_ (agQ _ _ _) ?_;split
    ·exact kO g.h.rs
    ·exact g.h.rs
theorem Bd.curs(h:Bd c nd p){k:List GDesc}(hk:k∈[p.view,p.near,aX p.ring]){d:GDesc}(hd:d∈k):d.node≠p.node/\(d.node.toNat:Int)<c.nodes:=by
 have h1:=h.win.cur k hk d hd;have h2:=qD h1;have h3:=h.win.table;exact⟨zq h1,by omega⟩
end
section
variable {c:ao} {nd:UInt8} {p q:af} {m:aJ} {dr:List UInt32}
theorem eg(hc:aF c=true)(hB:Bd c nd p)(hu:p.up=true){L:List GDesc}(hL:cg L)(hL2: ∀d∈L,okF d){H:af->af}{M:af->List aJ}
  (hH: ∀q,Go1 c p q->((m.frm.toNat:Int)<c.nodes/\m.frm≠p.node)->Go1 c p (H q)/\ ∀x∈M q,MOk c p x):
  aaQ c p (if (ax c p m.frm m.inc).2=true then (aD c (H (ax c p m.frm m.inc).1) L,M (ax c p m.frm m.inc).1)else ((ax c p m.frm m.inc).1,[])).1
   (if (ax c p m.frm m.inc).2=true then (aD c (H (ax c p m.frm m.inc).1) L,M (ax c p m.frm m.inc).1)else ((ax c p m.frm m.inc).1,[])).2:=by
 cases h:(ax c p m.frm m.inc).2 with
 |false=>
  rw[if_neg (by decide),rG h]
  exact hB.stay
 |true=>
  rw[if_pos rfl];obtain⟨g,ms⟩:=hH _ (hB.go.hear m.frm m.inc) (o4 h);exact g.meet hc hu hL hL2 ms
theorem fS:cg []:=⟨by simp,by simp⟩
theorem ja: ∀d∈([]:List GDesc),okF d:=by simp
theorem iA: ∀x∈([]:List aJ),MOk c p x:=by simp
theorem apb(hc:aF c=true)(g:Go1 c p q)(hm:okMg m)(hf:(m.frm.toNat:Int)<c.nodes/\m.frm≠p.node):Go1 c p (fq c q m).1/\ ∀x∈(fq c q m).2,MOk c p x:=by
 unfold fq;split
 ·rename_i d hd;have hdm:d∈m.list:=by rw[hd];exact List.mem_cons_self
  split
  ·rename_i hfi;refine⟨g.view hc (akT g.pre.view d) (fun x hx=>?_) (fun x hx=>?_),fun x hx=>?_⟩
   ·rcases oQ hx with h|rfl
    ·exact g.h.v8.2 x h
    ·exact aaM (by have:=cu hc;omega) hfi.2.2
   ·rcases oQ hx with h|rfl
    ·exact g.h.g.view x h
    ·exact hm.fs2 x hdm
   ·rw[List.mem_singleton.1 hx];exact⟨g.node,g.inc,hf.2,hf.1,Nat.le_of_ble_eq_true rfl,Nat.le_of_ble_eq_true rfl⟩
  ·exact⟨g,iA⟩
 ·exact⟨g,iA⟩
theorem ad0(hc:aF c=true)(g:Go1 c p q)(hm:okMg m):Go1 c p (kI c q m):=by
 have g2:=g.learn m.table;refine g2.view hc (aeX _ _ g2.pre.view) (fun x hx=>?_) (fun x hx=>?_)
 ·rcases tI _ _ x hx with h|h
  ·exact g2.h.v8.2 x h
  ·exact aaM (by have:=cu hc;omega) (aaw h)
 ·rcases tI _ _ x hx with h|h
  ·exact g2.h.g.view x h
  ·exact hm.fs2 x (qO h)
theorem abi(hc:aF c=true)(g:Go1 c p q)(hm:okMg m)(sent:List GDesc):Go1 c p (iY c q m sent):=by
 refine g.view hc (ly _ _ _ g.pre.view) (fun x hx=>?_) (fun x hx=>?_)
 ·rcases eU _ _ _ x hx with h|h
  ·exact g.h.v8.2 x h
  ·exact aaM (by have:=cu hc;omega) (aaw h)
 ·rcases eU _ _ _ x hx with h|h
  ·exact g.h.g.view x h
  ·exact hm.fs2 x (qO h)
theorem ahB(hc:aF c=true)(g:Go1 c p q)(hm:okMg m):Go1 c p (lW c q m):=by
 unfold lW;simp only;split
 ·exact abi hc (g.wait (ae3 g.ws).1) hm _
 ·exact g
theorem agM(hc:aF c=true)(hB:Bd c nd p)(hm:okMg m):aaQ c p (iE dr c p m).1 (iE dr c p m).2/\(p.up=false->(iE dr c p m).2=[]):=by
 unfold iE
 by_cases h0:p.up=false\/m.to≠p.node
 ·rw[if_pos h0];exact⟨hB.stay,fun _=>rfl⟩
 rw[if_neg h0]
 have hu:p.up=true:=by
  cases h:p.up with
  |true=>rfl
  |false=>exact absurd (.inl h) h0
 refine⟨?_,fun h=>absurd (.inl h) h0⟩
 by_cases k1:m.kind=1
 ·rw[if_pos k1];exact eg hc hB hu fS ja (H:=fun q=>(fq c q m).1) (M:=fun q=>(fq c q m).2) fun q g hf=>apb hc g hm hf
 rw[if_neg k1]
 by_cases k2:m.kind=2
 ·rw[if_pos k2];exact eg hc hB hu fS ja (H:=fun q=>kI c q m) (M:=fun _=>[]) fun q g hf=>⟨ad0 hc g hm,iA⟩
 rw[if_neg k2]
 by_cases k3:m.kind=3
 ·rw[if_pos k3];refine eg hc hB hu fS ja (H:=fun q=>iY c q m (dh c.swap (bE q.view m.frm) [] dr)) (M:=fun q=>[{ pMsg q 4 m.frm with list:=dh c.swap (bE q.view m.frm) [] dr }]) fun q g hf=>⟨abi hc g hm _,fun x hx=>?_⟩
  rw[List.mem_singleton.1 hx];exact⟨g.node,g.inc,hf.2,hf.1,Nat.le_of_ble_eq_true rfl,Nat.le_of_ble_eq_true rfl⟩
 rw[if_neg k3]
 by_cases k4:m.kind=4
 ·rw[if_pos k4];exact eg hc hB hu fS ja (H:=fun q=>lW c q m) (M:=fun _=>[]) fun q g hf=>⟨ahB hc g hm,iA⟩
 rw[if_neg k4]
 by_cases k5:m.kind=5\/m.kind=7
 ·rw[if_pos k5];exact eg hc hB hu hm.ds hm.fs2 (H:=fun q=>q) (M:=fun _=>[]) fun q g hf=>⟨g,iA⟩
 rw[if_neg k5]
 by_cases k6:m.kind=6
 ·rw[if_pos k6];refine eg hc hB hu hm.ds hm.fs2 (H:=fun q=>q) (M:=fun q=>[{ pMsg (aD c q m.list) 7 m.frm with list:=dU (aX (aD c q m.list).ring) (pSelf (aD c q m.list)) }]) fun q g hf=>⟨g,fun x hx=>?_⟩
  rw[List.mem_singleton.1 hx];exact⟨g.node,g.inc,hf.2,hf.1,Nat.le_of_ble_eq_true rfl,Nat.le_of_ble_eq_true rfl⟩
 rw[if_neg k6]
 by_cases k8:m.kind=8
 ·rw[if_pos k8];exact eg hc hB hu fS ja (H:=fun q=>bx q m.table) (M:=fun _=>[]) fun q g hf=>⟨g.learn _,iA⟩
 rw[if_neg k8]
 by_cases k9:m.kind=9
 ·rw[if_pos k9];exact eg hc hB hu fS ja (H:=fun q=>{ q with table:=jg q.table m.frm m.inc }) (M:=fun _=>[]) fun q g hf=>⟨g.left _ _,iA⟩
 rw[if_neg k9];exact eg hc hB hu fS ja (H:=fun q=>q) (M:=fun _=>[]) fun q g hf=>⟨g,iA⟩
theorem agU{w:GW}(h:ok8 w.sent):ok8 (gJ w).1.sent:=by
 unfold gJ;split
 ·split
  ·exact⟨Nat.zero_le _,fun d hd=>absurd (show d∈([]:List GDesc)from hd) List.not_mem_nil⟩
  ·exact h
 ·exact⟨Nat.zero_le _,fun d hd=>absurd (show d∈([]:List GDesc)from hd) List.not_mem_nil⟩
theorem agh{l:List GDesc}(h:ok8 l):ok8 (bY l):=⟨by rw[bY,List.length_map];exact h.1,fun d hd=>by
 obtain⟨e,h1,rfl⟩:=lQ hd
 rw[xF];exact h.2 e h1⟩
theorem acw{l:List GDesc}{f:GDesc->Bool}(h:ok8 l):ok8 (l.filter f):=⟨Nat.le_trans (List.length_filter_le _ _) h.1,fun d hd=>h.2 d (List.mem_filter.1 hd).1⟩
theorem aeB(hB:Bd c nd p):Go1 c p (cy c p):=by
 have hv:Rt p.node c.view (cy c p).view/\ok8 (cy c p).view:=by
  have h1:=amF hB.pre.view;have h2:=agh hB.h.v8;unfold cy;simp only;split
  ·exact⟨o3 h1 _,acw h2⟩
  ·exact⟨h1,h2⟩
 refine⟨⟨zg hB.h.g hB.ws,hB.h.rs,hv.2,hv.1.2⟩,⟨?_,hB.win.rows,hB.win.heard,hv.1⟩,rfl,rfl,rfl,agU hB.ws,hB.f8,yQ _ _ _⟩;have:=hB.win.table;rw[(yQ p.table p.node c.suspect).1]at this;exact this
theorem akj{l:List GDesc}{self:GDesc}{many:Int}(h:(jy l self many dr).2.2=true): ∃o∈l,(jy l self many dr).1=o.node:=by grind [jy]
theorem aeM{l:List GDesc}{self:GDesc}{many:Int}(hl:ok8 l)(hl9:l.length<=99)(hs:self.filter.length<=8):ok8 (jy l self many dr).2.1:=by
 have hz:ok8 []:=⟨Nat.zero_le _,by simp⟩
 unfold jy;split
 ·split
  ·split
   ·rename_i o _ _;show ok8 (aoi l self many dr o.node);unfold aoi;have h1:=tR (many:=many-1) dr (bE l o.node) [];have h2:=pF l o.node;have h3:=apz (many:=many-1) (nd:=o.node) (dr:=dr) hl;simp only[List.length_nil]at h1;refine⟨by rw[List.length_cons];omega,fun d hd=>?_⟩
    rcases List.mem_cons.1 hd with rfl|hd
    ·exact hs
    ·exact h3.2 d hd
   ·exact hz
  ·exact hz
 ·exact hz
theorem m_(hc:aF c=true)(hB:Bd c nd p):p.view.length<=12/\p.near.length<=12:=by
 have hr:=cu hc;have h1:=(qV hB.win.view).1;have h2:=(qV hB.win.near).1;omega
theorem aiW(hc:aF c=true)(hB:Bd c nd q)(hu:q.up=true):Bd c nd (eX c q dr).1/\(eX c q dr).1.inc=q.inc/\(eX c q dr).1.up=q.up/\(eX c q dr).1.table=q.table/\ ∀x∈(eX c q dr).2,MOk c q x:=by
 unfold eX;simp only;split
 ·rename_i h;have hs:=aeM (dr:=dr) (many:=c.swap) (self:=pSelf q) hB.h.v8 (by have:=(m_ hc hB).1;omega) hB.f8
  refine⟨⟨tp hB.h (w:=wStart _ 2 _) hs.toDs,⟨hB.win.table,hB.win.rows,hB.win.heard,hB.win.view,hB.win.near,hB.win.cur,hB.win.ovl,hB.win.ring⟩,hB.node,hs,hB.f8,fun e=>?_⟩,rfl,rfl,rfl,fun x hx=>?_⟩
  ·have e2:q.up=false:=e;rw[hu]at e2;cases e2
  ·rw[List.mem_singleton.1 hx];obtain⟨o,ho,e⟩:=akj h.2;have h3:=hB.curs (k:=q.view) (by simp) ho
   exact⟨rfl,rfl,by rw[<-e]at h3;exact h3.1,by rw[<-e]at h3;exact h3.2,Nat.le_of_ble_eq_true rfl,Nat.le_of_ble_eq_true rfl⟩
 ·exact⟨hB,rfl,rfl,rfl,iA⟩
theorem afx{x:UInt8}: ∀(l acc:List UInt8),x∈l.foldl oo acc->x∈l\/x∈acc
 |[],acc,h=>.inr h
 | y::r,acc,h=>by
  rcases afx r (oo acc y) h with h|h
  ·exact .inl (List.mem_cons_of_mem _ h)
  ·unfold oo at h;split at h
   ·exact .inr h
   ·rcases List.mem_append.1 h with h|h
    ·exact .inr h
    ·exact .inl (by rw[List.mem_singleton.1 h];exact List.mem_cons_self)
theorem ahI{x:UInt8}(h:x∈aQ p): ∃k∈[p.view,p.near,aX p.ring], ∃d∈k,d.node=x:=by
 rcases afx _ _ h with h|h
 ·rcases fT h with h|h
  ·obtain⟨d,hd,e⟩:=List.mem_map.1 h;obtain⟨k,hk,hd⟩:=List.mem_flatten.1 hd;exact⟨k,hk,d,hd,e⟩
  ·cases h
 ·cases h
theorem gU(hB:Bd c nd p){x:UInt8}(h:x∈aQ p):x≠p.node/\(x.toNat:Int)<c.nodes:=by
 obtain⟨k,hk,d,hd,rfl⟩:=ahI h;exact hB.curs hk hd
theorem iK(hc:aF c=true)(hB:Bd c nd p):(bZ p).length<=26:=by grind [m_,f6,bZ,List.length_map,List.flatten_cons,List.flatten_nil,List.length_append,List.length_nil]
theorem fV(hc:aF c=true)(hB:Bd c nd p):(aQ p).length<=26:=by
 have h1:=tr (aV ltU (bZ p)) (aV ltU (bZ p)).length;rw[List.take_length,ch]at h1;have:=iK hc hB;show(dg _).length<=26;omega
theorem uT(hc:aF c=true)(hB:Bd c nd p)(hu:p.up=true):aaQ c p (pTick c p dr (aQ (eX c (aD c (cy c p) []) dr).1)).1 (pTick c p dr (aQ (eX c (aD c (cy c p) []) dr).1)).2:=by
 have s1:=(aeB hB).meet hc hu fS ja (ms:=[]) iA;unfold pTick;simp only;generalize aD c (cy c p) []=q at s1;have hqu:q.up=true:=by rw[s1.up,hu]
 have hqn:q.node=p.node:=s1.bd.node;obtain⟨b1,b2,b3,b4,b5⟩:=aiW (dr:=dr) hc s1.bd hqu;generalize eX c q dr=K at b1 b2 b3 b4 b5;obtain⟨r,M⟩:=K;simp only at b1 b2 b3 b4 b5 ⊢;have rn:r.node=p.node:=b1.node;have ri:r.inc=p.inc:=b2.trans s1.inc;have mk: ∀{k to:UInt8},to≠r.node->(to.toNat:Int)<c.nodes->1<=k.toNat->k.toNat<=9-> ∀{l:List GDesc} {t:List aq},MOk c p { pMsg r k to with list:=l,table:=t }:=fun h1 h2 h3 h4=>⟨rn,ri,by rw[<-rn];exact h1,h2,h3,h4⟩
 refine⟨b1,ri,b3.trans s1.up,by rw[b4];exact s1.tab,fun x hx=>?_⟩
 rcases List.mem_append.1 hx with hx|hx
 ·rcases List.mem_append.1 hx with hx|hx
  ·rcases List.mem_append.1 hx with hx|hx
   ·have h:=b5 x hx;exact⟨h.frm.trans hqn,h.inc.trans s1.inc,by rw[<-hqn];exact h.ne,h.lt,h.k1,h.k9⟩
   ·unfold mB at hx;split at hx
    ·cases hx
    ·rename_i hne;rw[List.mem_singleton.1 hx];have hl:0<(aQ r).length:=List.length_pos_iff.2 hne;have hi:(gF c dr).toNat % (aQ r).length<(aQ r).length:=Nat.mod_lt _ hl;have h2:=gU b1 (x:=(aQ r).getD ((gF c dr).toNat % (aQ r).length) 0) (by rw[List.getD_eq_getElem?_getD,List.getElem?_eq_getElem hi];exact List.getElem_mem hi)
     exact mk h2.1 h2.2 (Nat.le_of_ble_eq_true rfl) (Nat.le_of_ble_eq_true rfl)
  ·unfold iV at hx;split at hx
   ·rename_i hs;rw[List.mem_singleton.1 hx]
    obtain⟨d,hd,hdn⟩: ∃d∈aX r.ring,d.node=r.ring.succ.node:=by
     unfold aX;split
     ·unfold gq
      by_cases h1:r.ring.succ.node<r.ring.pred.node
      ·rw[if_pos h1];exact⟨_,List.mem_cons_self,rfl⟩
      ·rw[if_neg h1]
       by_cases h2:r.ring.pred.node<r.ring.succ.node
       ·rw[if_pos h2];exact⟨_,List.mem_cons_of_mem _ List.mem_cons_self,rfl⟩
       ·rw[if_neg h2];have e:r.ring.pred.node=r.ring.succ.node:=UInt8.le_antisymm (UInt8.not_lt.1 h1) (UInt8.not_lt.1 h2);split
        ·exact⟨_,List.mem_cons_self,e⟩
        ·exact⟨_,List.mem_cons_self,rfl⟩
     ·first|exact⟨_,List.mem_cons_self,rfl⟩|(rw[if_pos hs];exact⟨_,List.mem_cons_self,rfl⟩)
    have h2:=b1.curs (k:=aX r.ring) (by simp) hd
    rw[hdn]at h2;exact mk h2.1 h2.2 (Nat.le_of_ble_eq_true rfl) (Nat.le_of_ble_eq_true rfl)
   ·cases hx
 ·obtain⟨d,hd,rfl⟩:=List.mem_map.1 hx;have h2:=b1.curs (k:=aX r.ring) (by simp) hd
  exact mk h2.1 h2.2 (Nat.le_of_ble_eq_true rfl) (Nat.le_of_ble_eq_true rfl)
end
theorem aj3{f g:List GSpan}(hf: ∀s∈f,okS s)(hg: ∀s∈g,okS s): ∀s∈eh f g,okS s:=by
 intro s hs;unfold eh at hs;split at hs
 ·obtain⟨x,hx,rfl⟩:=List.mem_map.1 hs;exact aaf (hf _ (List.of_mem_zip hx).1) (hg _ (List.of_mem_zip hx).2)
 ·cases hs
theorem lS{dom f:List GSpan}(hd: ∀s∈dom,okS s)(hf: ∀s∈f,okS s)(hl:dom.length<=4):(∀s∈(bB dom f).1,okS s)/\(bB dom f).1.length<=8:=by grind [bB,aj3,vm,eh]
section
variable {c:ao} {nd:UInt8} {p q:af} {o:GOp}
theorem nh(h:okG p){f:List GSpan}(h1: ∀s∈f,okS s)(h2:f.length<=8):okG { p with filter:=f }:=
 ⟨⟨by show f.length<=4000000;omega,h.ok.view,h.ok.near,h.ok.succ,h.ok.pred,h.ok.sent,h.ok.table,h.ok.heard,h.ok.rows,h.ok.reports,h.ok.evs,h.ok.pulls⟩,h1,h.view,h.near,h.succ,h.pred,h.table⟩
theorem Go1.filter(g:Go1 c p q){f:List GSpan}(h1: ∀s∈f,okS s)(h2:f.length<=8):Go1 c p { q with filter:=f }:=
 ⟨⟨nh g.h.g h1 h2,g.h.rs,g.h.v8,g.h.vw⟩,⟨g.pre.table,g.pre.rows,g.pre.heard,g.pre.view⟩,g.node,g.up,g.inc,g.ws,h2,g.tab⟩
theorem oS(hc:aF c=true){node:UInt8}{inc:UInt16}{up:Bool}{t:List aq}(ht:(t.length:Int)=c.nodes):Win c { bH c node with inc:=inc,up:=up,table:=t }:=by
 have hr:=cu hc;have hn:(((min (max c.nodes 0) 12).toNat:Nat):Int)=c.nodes:=by omega
 refine⟨ht,?_,?_,?_,?_,?_,?_,.inl rfl⟩
 ·simp only[bH,List.length_replicate];exact hn
 ·simp only[bH,List.length_replicate];exact hn
 ·exact nU ⟨by simp only[bH,List.length_nil];omega,adX _⟩ (by omega)
 ·exact nU ⟨by simp only[bH,List.length_nil];omega,adX _⟩ (by omega)
 ·intro k hk d hd;simp only[bH,List.mem_cons,List.not_mem_nil,or_false]at hk;rcases hk with rfl|rfl|rfl
  ·cases hd
  ·cases hd
  ·simp[aX]at hd
 ·intro d hd;simp[bH]at hd
theorem lT(hc:aF c=true)(node:UInt8):((bH c node).table.length:Int)=c.nodes:=by
 have hr:=cu hc;simp only[bH,List.length_replicate];omega
theorem ai6:ok8 []:=⟨Nat.zero_le _,by simp⟩
theorem amm(hc:aF c=true)(node:UInt8):Bd c node (bH c node):=
 ⟨yl c node,oS hc (up:=false) (inc:=0) (lT hc node),rfl,ai6,Nat.zero_le _,fun _=>⟨rfl,rfl,rfl,rfl,rfl⟩⟩
theorem akS(hc:aF c=true)(hB:Bd c nd p):Bd c nd (bI c p).1/\p.inc<=(bI c p).1.inc/\(p.up=true->(bI c p).1=p):=by
 have ho:=ahJ c p hB.h;unfold bI at ho ⊢;split
 ·exact⟨hB,UInt16.le_refl _,fun _=>rfl⟩
 ·rename_i hu;split
  ·exact⟨hB,UInt16.le_refl _,fun _=>rfl⟩
  ·rename_i hi;rw[if_neg hu,if_neg hi]at ho;refine⟨⟨ho,oS hc (by rw[List.length_set];exact lT hc _),hB.node,ai6,Nat.zero_le _,fun e=>by cases e⟩,?_,fun h=>absurd h hu⟩
   show p.inc<=p.inc+1;have h1:p.inc.toNat≠65535:=fun e=>hi (UInt16.toNat_inj.1 e)
   have h2:=p.inc.toNat_lt;rw[UInt16.le_iff_toNat_le,UInt16.toNat_add];show p.inc.toNat<=(p.inc.toNat+1) % 65536;omega
theorem aeT(hc:aF c=true)(hB:Bd c nd p):Bd c nd (j6 c p):=by
 have h:=ae5 (yl c p.node) (i:=p.inc) (b:=false) (t:=(bH c p.node).table) (by have:=lT hc p.node;have:=cu hc;omega)
 exact⟨h,oS hc (up:=false) (inc:=p.inc) (lT hc _),hB.node,ai6,Nat.zero_le _,fun _=>⟨rfl,rfl,rfl,rfl,rfl⟩⟩
structure as4(c:ao)(p:af)(r:af×List aJ×Int):Prop where
 bd:Bd c p.node r.1
 inc:p.inc<=r.1.inc
 tab:r.1.up=true->p.up=true->TUp p.table r.1.table
 ms: ∀m∈r.2.1,MOk c p m
 quiet:r.2.1≠[]->r.2.2=0/\p.up=true
end
section
variable {c:ao} {nd:UInt8} {p q:af} {o:GOp}
theorem tT(hc:aF c=true)(hB:Bd c nd p):Con2 Tryz.prog 91 [.agg (an p)] (· =plR (.fz 1 ((aQ p).map aB))):=by
 have h1:=m_ hc hB;have h2:=hB.h.g.ok;exact afy p (by omega) (by omega) h2.succ h2.pred (iK hc hB)
theorem alC{dr:List UInt32}{L:List UInt8}:(pTick c p dr L).2.length<=5:=by grind [pTick,eX,aD,cy,mB,iV,f6,List.length_append,List.length_map]
theorem ard(h:qA o=true)(hf: ∀d∈o.m.list, ∀s∈d.filter,okS s):okMg o.m/\o.draws.length<=4000000/\o.filter.length<=1048576:=by
 unfold qA at h;simp only[Bool.and_eq_true,List.all_eq_true,decide_eq_true_eq,Bool.not_eq_true',decide_eq_false_iff_not]at h;obtain⟨⟨h1,h2⟩,h3,h4,h5,h6⟩:=h;exact⟨⟨by omega,fun d hd=>by have:=h1 d hd;omega,hf,by omega⟩,by omega,by omega⟩
end
end Go.Proofs.YtmhmahcdanclnaaGreat.V
namespace Go.Eng
section
variable {l:List GDesc} {self:UInt8} {d:GDesc} {room:Int}
end
end Go.Eng
namespace Go.Proofs.YtmhmahcdanclnaaGreat.V
open Go.Eng
section
variable {c:ao} {a b nd:UInt8} {p q:af} {o:GOp} {m:aJ} {dr:List UInt32}
structure ata(p q:af):Prop where
 node:q.node=p.node
 filter:q.filter=p.filter
 inc:q.inc=p.inc
 up:q.up=p.up
 own:q.table[p.node.toNat]? =p.table[p.node.toNat]?
structure Jn(c:ao)(nd:UInt8)(p:af):Prop where
 bd:Bd c nd p
 up:p.up=true
 inc:p.inc=1
 filter:p.filter=[]
 own:p.table[nd.toNat]? =some ⟨1,1,0⟩
structure as8(c:ao)(a b:UInt8)(p q:af)(M:aJ)(P:af)(W:aJ)(R:af):Prop where
 m1:apx c q a=([M],0)
 m2:okMg M
 p1:iE [] c p M=(P,[W])
 p2:Bd c a P
 p3:W.to=b
 p4:0<=kF P.view b
 p5:p.view.length<=P.view.length
 w1:okMg W
 r1:iE [] c q W=(R,[])
 r2:Bd c b R
 r3:R.table[a.toNat]? =some ⟨1,1,0⟩
 r4:1<=R.view.length
 r5:(R.view.length:Int)<=c.view
 r6:R.view.length<=W.list.length
 r7:p.view.length=0->0<=kF R.view a/\R.ring.hs=true/\R.ring.succ.node=a/\R.ring.pred.node=a
end
section
variable {c:ao} {p q r:af} {m:aJ} {dr:List UInt32}
structure Ev1(p q:af):Prop where
 node:q.node=p.node
 inc:q.inc=p.inc
 up:q.up=p.up
 filter:q.filter=p.filter
 rows:q.rows=p.rows
 buf:q.buf=p.buf
 pulls:q.pulls=p.pulls
 seq:q.seq=p.seq
 passed:q.passed=p.passed
 evicted:q.evicted=p.evicted
 collected:q.collected=p.collected
theorem Ev1.refl(p:af):Ev1 p p:=⟨rfl,rfl,rfl,rfl,rfl,rfl,rfl,rfl,rfl,rfl,rfl⟩
theorem Ev1.trans(h:Ev1 p q)(g:Ev1 q r):Ev1 p r:=
 ⟨g.node.trans h.node,g.inc.trans h.inc,g.up.trans h.up,g.filter.trans h.filter,g.rows.trans h.rows,g.buf.trans h.buf,g.pulls.trans h.pulls,g.seq.trans h.seq,g.passed.trans h.passed,g.evicted.trans h.evicted,g.collected.trans h.collected⟩
theorem cl(l:List GDesc):Ev1 p (aD c p l):=⟨rfl,rfl,rfl,rfl,rfl,rfl,rfl,rfl,rfl,rfl,rfl⟩
theorem eM(n:UInt8)(i:UInt16):Ev1 p (ax c p n i).1:=by
 unfold ax;split
 ·exact Ev1.refl p
 ·split
  ·exact Ev1.refl p
  ·split
   ·exact Ev1.refl p
   ·exact⟨rfl,rfl,rfl,rfl,rfl,rfl,rfl,rfl,rfl,rfl,rfl⟩
theorem al8(t:List aq):Ev1 p (bx p t):=⟨rfl,rfl,rfl,rfl,rfl,rfl,rfl,rfl,rfl,rfl,rfl⟩
theorem ev_aged:Ev1 p (cy c p):=⟨rfl,rfl,rfl,rfl,rfl,rfl,rfl,rfl,rfl,rfl,rfl⟩
theorem aqa:Ev1 p (eX c p dr).1:=by
 unfold eX;simp only;split
 ·exact⟨rfl,rfl,rfl,rfl,rfl,rfl,rfl,rfl,rfl,rfl,rfl⟩
 ·exact Ev1.refl p
theorem afo(L:List UInt8):Ev1 p (V.pTick c p dr L).1:=(ev_aged.trans (cl [])).trans aqa
theorem gL{A:af}{B:List aJ}{Q:af×Bool}(h:Ev1 p Q.1)(g:Ev1 Q.1 A):Ev1 p (if Q.2=true then (A,B)else (Q.1,[])).1:=by
 split
 ·exact h.trans g
 ·exact h
theorem ev_take:Ev1 p (iE dr c p m).1:=by
 have hh:=eM (c:=c) (p:=p) m.frm m.inc;unfold iE;split
 ·exact Ev1.refl p
 split
 ·refine gL hh (Ev1.trans ?_ (cl _));unfold fq;split
  ·split
   ·exact⟨rfl,rfl,rfl,rfl,rfl,rfl,rfl,rfl,rfl,rfl,rfl⟩
   ·exact Ev1.refl _
  ·exact Ev1.refl _
 split
 ·refine gL hh (Ev1.trans ?_ (cl _));exact⟨rfl,rfl,rfl,rfl,rfl,rfl,rfl,rfl,rfl,rfl,rfl⟩
 split
 ·refine gL hh (Ev1.trans ?_ (cl _));exact⟨rfl,rfl,rfl,rfl,rfl,rfl,rfl,rfl,rfl,rfl,rfl⟩
 split
 ·refine gL hh (Ev1.trans ?_ (cl _));unfold lW;simp only;split
  ·exact⟨rfl,rfl,rfl,rfl,rfl,rfl,rfl,rfl,rfl,rfl,rfl⟩
  ·exact Ev1.refl _
 split
 ·exact gL hh (cl _)
 split
 ·exact gL hh (cl _)
 split
 ·exact gL hh ((al8 m.table).trans (cl _))
 split
 ·refine gL hh (Ev1.trans ?_ (cl _));exact⟨rfl,rfl,rfl,rfl,rfl,rfl,rfl,rfl,rfl,rfl,rfl⟩
 ·exact gL hh (cl _)
end
section
variable {c:ao} {p q:af} {m:aJ} {dr:List UInt32} {e:GEvt} {G:List GID} {x:GID}
structure On(c:ao)(p:af)(G:List GID):Prop where
 fit: ∀r∈p.rows,dG r c.window
 seen: ∀x∈G, ∃r,p.rows[x.node.toNat]? =some r/\(gr r x=true\/x.inc.toNat<r.inc.toNat)
 own: ∀x∈G,x.node=p.node->x.inc.toNat<p.inc.toNat\/(x.inc=p.inc/\x.seq.toNat<=p.seq.toNat)
 pos: ∀x∈G,0<x.inc.toNat/\x.seq≠0
theorem On.ev(h:On c p G)(g:Ev1 p q):On c q G:=
 ⟨by rw[g.rows];exact h.fit,by rw[g.rows];exact h.seen,by rw[g.node,g.inc,g.seq];exact h.own,h.pos⟩
theorem On.less{G':List GID}(h:On c p G)(g: ∀x∈G',x∈G):On c p G':=⟨h.fit,fun x hx=>h.seen x (g x hx),fun x hx=>h.own x (g x hx),fun x hx=>h.pos x (g x hx)⟩
theorem m8:cR c.schema e=true↔j7 c.schema e.vals=true/\e.data.length<=64/\e.id.node.toNat<12/\1<=e.id.inc.toNat/\1<=e.id.seq.toNat:=by simp[cR]
theorem fP(h:jk c p e=true):cR c.schema e=true/\(e.id.node.toNat:Int)<c.nodes/\e.id.seq.toNat<=c.last.toNat/\(e.id.node=p.node->e.id.inc.toNat<p.inc.toNat)/\
  ∃r,p.rows[e.id.node.toNat]? =some r/\fm r e.id c.window=true:=by
 unfold jk at h
 by_cases h1:cR c.schema e=false\/c.nodes<=(e.id.node.toNat:Int)\/c.last.toNat<e.id.seq.toNat
 ·rw[if_pos h1]at h;cases h
 rw[if_neg h1]at h
 by_cases h2:e.id.node=p.node/\p.inc.toNat<=e.id.inc.toNat
 ·rw[if_pos h2]at h;cases h
 rw[if_neg h2]at h
 have a1:cR c.schema e=true:=by
  cases hv:cR c.schema e with
  |true=>rfl
  |false=>exact absurd (.inl hv) h1
 refine⟨a1,Classical.byContradiction fun hc=>h1 (.inr (.inl (by omega))),Classical.byContradiction fun hc=>h1 (.inr (.inr (by omega))),fun hn=>Classical.byContradiction fun hc=>h2 ⟨hn,by omega⟩,?_⟩
 cases hr:p.rows[e.id.node.toNat]? with
 |none=>rw[hr]at h;cases h
 |some r=>rw[hr]at h;exact⟨r,rfl,h⟩
theorem On.no(h:On c p G)(hx:e.id∈G):jk c p e=false:=by
 cases hm:jk c p e with
 |false=>rfl
 |true=>
  obtain⟨_,_,_,_,r,hr,hm⟩:=fP hm;obtain⟨r',hr',hs⟩:=h.seen _ hx;rw[hr]at hr';cases hr';rcases hs with hs|hs
  ·rw[ahD hs]at hm;cases hm
  ·rw[aih hs]at hm;cases hm
theorem gN(h:(aA c p e).2.1=true):p.up=true/\jk c p e=true:=by grind [aA,jk]
theorem mV(h1:p.up=true)(h2:jk c p e=true):aA c p e=({ p with
      rows:=p.rows.modify e.id.node.toNat fun r=>(bK r e.id c.window).1
      pulls:=(Eng.pDrop p.pulls e.id).filter fun a=> !cF e.id a
      buf:=(dQ p.buf e).1
      passed:=if (dQ p.buf e).2=52 then p.passed+1 else p.passed },true,eZ p.filter e.vals):=by
  unfold aA;rw[if_neg (by rw[h1,h2];simp)]
theorem jY(h: ¬(aA c p e).2.1=true):aA c p e=(p,false,false):=by grind [aA]
theorem On.accept(h:On c p G)(ha:(aA c p e).2.1=true):e.id∉G/\On c (aA c p e).1 (e.id::G)/\(∃r,(aA c p e).1.rows[e.id.node.toNat]? =some r/\gr r e.id=true):=by
 obtain⟨hu,hm⟩:=gN ha;obtain⟨hv,hn,hl,ho,r,hr,hrm⟩:=fP hm;have hnot:e.id∉G:=fun hx=>by rw[h.no hx]at hm;cases hm
 have hfit:dG r c.window:=h.fit r (List.mem_of_getElem? hr);rw[mV hu hm];have hlt:=(List.getElem?_eq_some_iff.1 hr).1
 have hrow: ∀i,(p.rows.modify e.id.node.toNat fun r=>(bK r e.id c.window).1)[i]? =if i=e.id.node.toNat then some (bK r e.id c.window).1 else p.rows[i]?:=fun i=>by
  rw[List.getElem?_modify]
  by_cases hi:i=e.id.node.toNat
  ·subst hi;rw[hr,if_pos rfl];simp
  ·rw[if_neg hi];cases p.rows[i]? with
   |none=>rfl
   |some v=>simp[Ne.symm hi]
 have hhas:=ac_ hfit hrm;refine⟨hnot,⟨?_,?_,?_,?_⟩,(bK r e.id c.window).1,?_,hhas⟩
 ·intro r' hr';obtain⟨i,hi⟩:=List.getElem?_of_mem hr';rw[hrow]at hi;split at hi
  ·cases hi;exact(lV hfit hrm).2.2.1
  ·exact h.fit r' (List.mem_of_getElem? hi)
 ·intro y hy
  by_cases hyn:y.node.toNat=e.id.node.toNat
  ·refine⟨(bK r e.id c.window).1,by show(p.rows.modify _ _)[_]? =_;rw[hrow,if_pos hyn],?_⟩
   rcases List.mem_cons.1 hy with rfl|hy
   ·exact .inl hhas
   ·obtain⟨r',hr',hs⟩:=h.seen y hy;rw[hyn,hr]at hr';cases hr';exact yz hfit hs
  ·rcases List.mem_cons.1 hy with rfl|hy
   ·exact absurd rfl hyn
   ·obtain⟨r',hr',hs⟩:=h.seen y hy;exact⟨r',by show(p.rows.modify _ _)[_]? =_;rw[hrow,if_neg hyn];exact hr',hs⟩
 ·intro y hy hyn;rcases List.mem_cons.1 hy with rfl|hy
  ·exact .inl (ho hyn)
  ·exact h.own y hy hyn
 ·intro y hy;rcases List.mem_cons.1 hy with rfl|hy
  ·have:=m8.1 hv;refine⟨by omega,fun e0=>?_⟩
   rw[e0]at this;exact absurd this.2.2.2.2 (by decide)
  ·exact h.pos y hy
 ·show(p.rows.modify _ _)[_]? =_;rw[hrow,if_pos rfl]
theorem On.of(h:On c p G)(h1:q.rows=p.rows)(h2:q.node=p.node)(h3:q.inc=p.inc)(h4:q.seq=p.seq):On c q G:=
 ⟨by rw[h1];exact h.fit,by rw[h1];exact h.seen,by rw[h2,h3,h4];exact h.own,h.pos⟩
structure Nm1(p q:af):Prop where
 node:q.node=p.node
 inc:q.inc=p.inc
 up:q.up=p.up
 filter:q.filter=p.filter
 rows:q.rows=p.rows
 seq:q.seq=p.seq
theorem Nm1.refl(p:af):Nm1 p p:=⟨rfl,rfl,rfl,rfl,rfl,rfl⟩
theorem Nm1.trans{r:af}(h:Nm1 p q)(g:Nm1 q r):Nm1 p r:=⟨g.node.trans h.node,g.inc.trans h.inc,g.up.trans h.up,g.filter.trans h.filter,g.rows.trans h.rows,g.seq.trans h.seq⟩
theorem Ev1.nm(h:Ev1 p q):Nm1 p q:=⟨h.node,h.inc,h.up,h.filter,h.rows,h.seq⟩
theorem On.nm(h:On c p G)(g:Nm1 p q):On c q G:=h.of g.rows g.node g.inc g.seq
theorem akZ:Nm1 p (cj p x):=by
 unfold cj;split
 ·exact Nm1.refl p
 ·split
  ·exact⟨rfl,rfl,rfl,rfl,rfl,rfl⟩
  ·exact Nm1.refl p
theorem yy: ∀(l:List GID) (p:af),Nm1 p (l.foldl cj p)
 |[],p=>Nm1.refl p
 |x::l,p=>(akZ (x:=x)).trans (yy l _)
theorem aph:Nm1 p (gA c p dr).1:=by
 unfold gA;split
 ·exact Nm1.refl p
 ·have h1:Nm1 p (jD { p with pulls:=Eng.pTick p.pulls }):=Nm1.trans (q:={ p with pulls:=Eng.pTick p.pulls }) ⟨rfl,rfl,rfl,rfl,rfl,rfl⟩ (yy _ _);have h2:=(afo (c:=c) (p:=jD { p with pulls:=Eng.pTick p.pulls }) (dr:=dr) (aQ (eX c (aD c (cy c (jD { p with pulls:=Eng.pTick p.pulls })) []) dr).1)).nm;have h3:=h1.trans h2;exact⟨h3.node,h3.inc,h3.up,h3.filter,h3.rows,h3.seq⟩
theorem aj6:Nm1 p (bL c p m).1:=by
 unfold bL;split
 ·exact Nm1.refl p
 ·split
  ·exact Nm1.refl p
  ·split
   ·exact Nm1.refl p
   ·split
    ·exact Nm1.refl p
    ·have h1:=(eM (c:=c) (p:=p) m.origin.node m.origin.inc).nm;exact⟨h1.node,h1.inc,h1.up,h1.filter,h1.rows,h1.seq⟩
theorem ajp:(ij c p m dr).2.2=[]/\(¬(aA c p m.ev).2.1=true\/ ¬(aA c p m.ev).2.2=true)\/(ij c p m dr).2.2=[m.ev]/\(aA c p m.ev).2.1=true/\(aA c p m.ev).2.2=true:=by
 unfold ij;simp only;cases h1:(aA c p m.ev).2.1 with
 |false=>exact .inl ⟨rfl,.inl (by decide)⟩
 |true=>
  rw[if_neg (by decide)]
  cases h2:(aA c p m.ev).2.2 with
  |false=>exact .inl ⟨rfl,.inr (by decide)⟩
  |true=>exact .inr ⟨rfl,rfl,rfl⟩
theorem rm:(ij c p m dr).1=(aA c p m.ev).1:=by grind [ij,jY]
end
section
variable {c:ao} {p q:af} {m:aJ} {dr:List UInt32} {e:GEvt} {G:List GID} {x:GID} {vals:List Int} {data:List UInt8}
def df(p:af)(vals:List Int)(data:List UInt8):GEvt:=⟨⟨p.node,p.inc,p.seq+1⟩,vals,data⟩
def fF(p:af)(b:ee)(ev:Int):af:={ p with buf:=b,evicted:=ev,seq:=p.seq+1,rows:=p.rows.set p.node.toNat ⟨p.inc,p.seq+1,0⟩ }
theorem gi:(∃k,k≠0/\aU c p vals data dr=(p,zEvt,false,[],k))\/
  (p.up=true/\cR c.schema (df p vals data)=true/\p.seq.toNat<c.last.toNat/\
   (decide (p.buf.room<=(p.buf.evs.length:Int))=true->(ct p.buf p.node p.inc).2.2=0)/\
   (dQ (if decide (p.buf.room<=(p.buf.evs.length:Int))=true then (ct p.buf p.node p.inc).1 else p.buf) (df p vals data)).2=0/\
   aU c p vals data dr=(fF p (dQ (if decide (p.buf.room<=(p.buf.evs.length:Int))=true then (ct p.buf p.node p.inc).1 else p.buf) (df p vals data)).1
     (if decide (p.buf.room<=(p.buf.evs.length:Int))=true then p.evicted+1 else p.evicted),df p vals data,eZ p.filter vals,
    gd c (fF p (dQ (if decide (p.buf.room<=(p.buf.evs.length:Int))=true then (ct p.buf p.node p.inc).1 else p.buf) (df p vals data)).1
     (if decide (p.buf.room<=(p.buf.evs.length:Int))=true then p.evicted+1 else p.evicted)) (df p vals data) (UInt8.ofNat (c.hops % 256).toNat)
     (aQ (fF p (dQ (if decide (p.buf.room<=(p.buf.evs.length:Int))=true then (ct p.buf p.node p.inc).1 else p.buf) (df p vals data)).1
      (if decide (p.buf.room<=(p.buf.evs.length:Int))=true then p.evicted+1 else p.evicted))) dr,0)):=by
 unfold aU fF df;simp only
 by_cases h1:p.up=false
 ·rw[if_pos h1];exact .inl ⟨53,by decide,rfl⟩
 rw[if_neg h1]
 by_cases h2:cR c.schema ⟨⟨p.node,p.inc,p.seq+1⟩,vals,data⟩=false
 ·rw[if_pos h2];exact .inl ⟨51,by decide,rfl⟩
 rw[if_neg h2]
 by_cases h3:c.last.toNat<=p.seq.toNat
 ·rw[if_pos h3];exact .inl ⟨55,by decide,rfl⟩
 rw[if_neg h3]
 by_cases h4:decide (p.buf.room<=(p.buf.evs.length:Int))=true/\(ct p.buf p.node p.inc).2.2≠0
 ·rw[if_pos h4];exact .inl ⟨_,h4.2,rfl⟩
 rw[if_neg h4]
 by_cases h5:(dQ (if decide (p.buf.room<=(p.buf.evs.length:Int))=true then (ct p.buf p.node p.inc).1 else p.buf) ⟨⟨p.node,p.inc,p.seq+1⟩,vals,data⟩).2≠0
 ·rw[if_pos h5];exact .inl ⟨_,h5,rfl⟩
 rw[if_neg h5];exact .inr ⟨by simpa using h1,by simpa using h2,by omega,fun h=>Classical.byContradiction fun hc=>h4 ⟨h,hc⟩,Classical.byContradiction fun hc=>h5 hc,rfl⟩
theorem On.publish(h:On c p G)(hn:p.node.toNat<p.rows.length)(hv:cR c.schema (df p vals data)=true)(hs:p.seq.toNat<c.last.toNat)(b:ee)(ev:Int):
  (df p vals data).id∉G/\On c (fF p b ev) ((df p vals data).id::G)/\(∃r,(fF p b ev).rows[p.node.toNat]? =some r/\gr r (df p vals data).id=true):=by
 have hl:=c.last.toNat_lt
 have hse:(p.seq+1).toNat=p.seq.toNat+1:=by
  rw[UInt32.toNat_add];show(p.seq.toNat+1) % _=_;omega
 have hi:=(m8.1 hv).2.2.2;have hi1:1<=p.inc.toNat:=hi.1
 have hrow: ∀i,(p.rows.set p.node.toNat ⟨p.inc,p.seq+1,0⟩)[i]? =if i=p.node.toNat then some ⟨p.inc,p.seq+1,0⟩else p.rows[i]?:=fun i=>by
  rw[List.getElem?_set]
  by_cases hi:p.node.toNat=i
  ·subst hi;rw[if_pos rfl,if_pos rfl,if_pos hn]
  ·rw[if_neg hi,if_neg (fun e=>hi e.symm)]
 have hhas: ∀y:GID,y.node=p.node->y.inc=p.inc->y.seq≠0->y.seq.toNat<=p.seq.toNat+1->gr ⟨p.inc,p.seq+1,0⟩ y=true:=by
  intro y h1 h2 h3 h4;unfold gr;rw[e_.2 ⟨fun e=>h3 (UInt32.toNat_inj.1 e),.inl (by show _<=(p.seq+1).toNat;omega)⟩]
  simp only[h2,decide_true,Bool.and_true,decide_eq_true_eq];omega
 have hself:gr ⟨p.inc,p.seq+1,0⟩ (df p vals data).id=true:=by
  refine hhas _ rfl rfl (fun e0=>?_) (by show(p.seq+1).toNat<=_;omega)
  have:(p.seq+1).toNat=0:=by rw[show p.seq+1=0 from e0];rfl
  omega
 refine⟨fun hx=>?_,⟨?_,?_,?_,?_⟩,⟨p.inc,p.seq+1,0⟩,?_,hself⟩
 ·rcases h.own _ hx rfl with g|g
  ·exact absurd g (Nat.lt_irrefl _)
  ·have:=g.2;rw[show(df p vals data).id.seq=p.seq+1 from rfl]at this
   omega
 ·intro r' hr';obtain⟨i,hi⟩:=List.getElem?_of_mem hr';have hi:(p.rows.set p.node.toNat ⟨p.inc,p.seq+1,0⟩)[i]? =some r':=hi;rw[hrow]at hi;split at hi
  ·cases hi;exact Nat.two_pow_pos _
  ·exact h.fit r' (List.mem_of_getElem? hi)
 ·intro y hy;show ∃r,(p.rows.set p.node.toNat ⟨p.inc,p.seq+1,0⟩)[_]? =some r/\_;rw[hrow];rcases List.mem_cons.1 hy with rfl|hy
  ·rw[if_pos (show(df p vals data).id.node.toNat=p.node.toNat from rfl)];exact⟨_,rfl,.inl hself⟩
  ·by_cases hyn:y.node.toNat=p.node.toNat
   ·rw[if_pos hyn];refine⟨_,rfl,?_⟩;rcases h.own y hy (UInt8.toNat_inj.1 hyn)with g|g
    ·exact .inr g
    ·exact .inl (hhas y (UInt8.toNat_inj.1 hyn) g.1 (h.pos y hy).2 (by omega))
   ·rw[if_neg hyn];exact h.seen y hy
 ·intro y hy hyn;rcases List.mem_cons.1 hy with rfl|hy
  ·exact .inr ⟨rfl,Nat.le_refl _⟩
  ·rcases h.own y hy hyn with g|g
   ·exact .inl g
   ·refine .inr ⟨g.1,?_⟩;show _<=(p.seq+1).toNat;omega
 ·intro y hy;rcases List.mem_cons.1 hy with rfl|hy
  ·refine⟨by show 0<p.inc.toNat;omega,fun e0=>?_⟩
   have:(p.seq+1).toNat=0:=by rw[show p.seq+1=0 from e0];rfl
   omega
  ·exact h.pos y hy
 ·show(p.rows.set p.node.toNat ⟨p.inc,p.seq+1,0⟩)[_]? =_;rw[hrow,if_pos rfl]
end
end Go.Proofs.YtmhmahcdanclnaaGreat.V
namespace Go.Eng
structure jF where
 what:UInt8
 filter:List GSpan
 vals:List Int
 data:List UInt8
 m:aJ
 draws:List UInt32
end Go.Eng
namespace Go.Proofs.YtmhmahcdanclnaaGreat.V
open Go.Eng
def fK(c:ao)(p:af)(o:jF):af×List aJ×List GEvt×Bool×Int:=
 if o.what=0 then ((bI c p).1,[],[],false,(bI c p).2)
 else if o.what=1 then (j6 c p,[],[],false,0)
 else if o.what=2 then (if p.up=false then p else if (bB c.schema o.filter).2=0 then aD c { p with filter:=(bB c.schema o.filter).1 } []else p,[],[],false,if p.up=false then 53 else (bB c.schema o.filter).2)
 else if o.what=3 then (if p.up=false then p else j6 c p,if p.up=false then []else (aQ p).map (pMsg p 9),[],false,if p.up=false then 53 else 0)
 else if o.what=4 then ((aU c p o.vals o.data o.draws).1,(aU c p o.vals o.data o.draws).2.2.2.1,
  if (aU c p o.vals o.data o.draws).2.2.1=true then [(aU c p o.vals o.data o.draws).2.1]else [],decide ((aU c p o.vals o.data o.draws).2.2.2.2=0),(aU c p o.vals o.data o.draws).2.2.2.2)
 else if o.what=5 then ((gA c p o.draws).1,(gA c p o.draws).2,[],false,0)
 else if o.what=6 then ((aA c p o.m.ev).1,[],if (aA c p o.m.ev).2.2=true then [o.m.ev]else [],(aA c p o.m.ev).2.1,0)
 else ((bN c p o.m o.draws).1,(bN c p o.m o.draws).2.1,(bN c p o.m o.draws).2.2,false,0)
section
variable {c:ao} {p q:af} {m:aJ} {dr:List UInt32} {e:GEvt} {G:List GID} {x:GID} {o:jF}
structure Dl(c:ao)(q:af)(G:List GID)(e:GEvt):Prop where
 up:q.up=true
 new:e.id∉G
 ok:cR c.schema e=true
 row: ∃r,q.rows[e.id.node.toNat]? =some r/\gr r e.id=true
 fits:eZ q.filter e.vals=true
 no:jk c q e=false
 on:On c q (e.id::G)
def wD(c:ao)(q:af)(G:List GID)(got:List GEvt):Prop:=(got=[]/\On c q G)\/ ∃e,got=[e]/\Dl c q G e
def jl(p q:af)(G:List GID):List GID:=if q.inc≠p.inc\/q.up=false then []else G
theorem acd(h: ∀r∈p.rows,dG r c.window):On c p []:=⟨h,by simp,by simp,by simp⟩
theorem aiY: ∀x∈jl p q G,x∈G:=by grind [jl]
theorem eu(h:On c q G):wD c q (jl p q G) []:=.inl ⟨rfl,h.less aiY⟩
theorem afj(h1:q.inc=p.inc)(h2:q.up=true):jl p q G=G:=by
 unfold jl;rw[if_neg (by rw[h1,h2];simp)]
theorem xZ(nd:UInt8): ∀r∈(bH c nd).rows,dG r c.window:=by
 intro r hr;unfold bH at hr;rw[(List.mem_replicate.1 hr).2];exact Nat.two_pow_pos _
theorem aia(hi:q.up=false)(h: ∀r∈q.rows,dG r c.window):wD c q (jl p q G) []:=by
 unfold jl;rw[if_pos (.inr hi)];exact .inl ⟨rfl,acd h⟩
theorem p8(h:On c p G):wD c (aA c p e).1 (jl p (aA c p e).1 G) (if (aA c p e).2.2=true then [e]else []):=by
 by_cases ha:(aA c p e).2.1=true
 ·obtain⟨g1,g2,g3⟩:=h.accept ha;obtain⟨hu,hm⟩:=gN ha;have hv:=(fP hm).1;have e1:=mV hu hm;have hi:(aA c p e).1.inc=p.inc:=by rw[e1]
  have hup:(aA c p e).1.up=true:=by rw[e1];exact hu
  rw[afj hi hup];split
  ·rename_i h2;refine .inr ⟨e,rfl,hup,g1,hv,g3,?_,g2.no (List.mem_cons_self ..),g2⟩;rw[e1]at h2 ⊢;exact h2
  ·exact .inl ⟨rfl,g2.less fun x hx=>List.mem_cons_of_mem _ hx⟩
 ·rw[jY ha];exact eu h
theorem wT{vals:List Int}{data:List UInt8}(h:On c p G)(hn:p.node.toNat<p.rows.length):
  wD c (aU c p vals data dr).1 (jl p (aU c p vals data dr).1 G) (if (aU c p vals data dr).2.2.1=true then [(aU c p vals data dr).2.1]else []):=by
 rcases gi (c:=c) (p:=p) (vals:=vals) (data:=data) (dr:=dr)with ⟨k,_,e1⟩|⟨h1,h2,h3,h4,h5,e1⟩
 ·rw[e1];exact eu h
 ·rw[e1];simp only;generalize (dQ (if decide (p.buf.room<=(p.buf.evs.length:Int))=true then (ct p.buf p.node p.inc).1 else p.buf) (df p vals data)).1=b
  generalize (if decide (p.buf.room<=(p.buf.evs.length:Int))=true then p.evicted+1 else p.evicted)=ev
  obtain⟨g1,g2,g3⟩:=h.publish hn h2 h3 b ev;rw[afj (show(fF p b ev).inc=p.inc from rfl) (show(fF p b ev).up=true from h1)]
  split
  ·rename_i h6;exact .inr ⟨_,rfl,h1,g1,h2,g3,h6,g2.no (List.mem_cons_self ..),g2⟩
  ·exact .inl ⟨rfl,g2.less fun x hx=>List.mem_cons_of_mem _ hx⟩
theorem adm(h:On c p G):wD c (bI c p).1 (jl p (bI c p).1 G) []:=by
 unfold bI;split
 ·exact eu h
 ·split
  ·exact eu h
  ·rename_i h1 h2
   have hne:p.inc+1≠p.inc:=fun e1=>by
    have:=congrArg UInt16.toNat e1;rw[UInt16.toNat_add]at this;have hl:=p.inc.toNat_lt;have:(p.inc.toNat+1) % 65536=p.inc.toNat:=this;have h3:p.inc.toNat≠65535:=fun e2=>h2 (UInt16.toNat_inj.1 e2)
    omega
   simp only;unfold jl;rw[if_pos (.inl hne)];exact .inl ⟨rfl,acd (xZ p.node)⟩
theorem nT(h:On c p G)(g:Nm1 p q):wD c q (jl p q G) []:=eu (h.nm g)
theorem agy(h:On c p G):wD c (bN c p m dr).1 (jl p (bN c p m dr).1 G) (bN c p m dr).2.2:=by
 unfold bN;split
 ·exact nT h ev_take.nm
 split
 ·exact eu h
 split
 ·exact nT h (eM _ _).nm
 simp only;have k1:Nm1 p (aD c (ax c p m.frm m.inc).1 []):=((eM (c:=c) (p:=p) m.frm m.inc).trans (cl [])).nm;generalize aD c (ax c p m.frm m.inc).1 []=q at k1;have hq:=h.nm k1;split
 ·have ha:=p8 (e:=m.ev) hq;rw[rm]
  have k2:(ij c q m dr).2.2=if (aA c q m.ev).2.2=true then [m.ev]else []:=by
   rcases ajp (c:=c) (p:=q) (m:=m) (dr:=dr)with ⟨e1,e2⟩|⟨e1,e2,e3⟩
   ·rw[e1];rcases e2 with e2|e2
    ·rw[jY e2];rfl
    ·rw[if_neg e2]
   ·rw[e1,if_pos e3]
  rw[k2];generalize (if (aA c q m.ev).2.2=true then [m.ev]else [])=got at ha⊢
  generalize (aA c q m.ev).1=a at ha ⊢;have k3:jl p (aD c a []) G=jl q a G:=by unfold jl;rw[k1.inc];rfl
  rw[k3];rcases ha with ⟨e1,e2⟩|⟨e,e1,e2⟩
  ·exact .inl ⟨e1,e2.ev (cl [])⟩
  ·exact .inr ⟨e,e1,e2.up,e2.new,e2.ok,e2.row,e2.fits,e2.no,e2.on.ev (cl [])⟩
 split
 ·exact nT h (k1.trans (cl []).nm)
 ·exact nT h ((k1.trans aj6).trans (cl []).nm)
theorem aic(h:On c p G)(hn:p.node.toNat<p.rows.length):wD c (fK c p o).1 (jl p (fK c p o).1 G) (fK c p o).2.2.1:=by
 have hd:wD c (j6 c p) (jl p (j6 c p) G) []:=aia rfl (xZ p.node);unfold fK;split
 ·exact adm h
 split
 ·exact hd
 split
 ·simp only;split
  ·exact eu h
  ·split
   ·refine eu ?_;exact h.of rfl rfl rfl rfl
   ·exact eu h
 split
 ·simp only;split
  ·exact eu h
  ·exact hd
 split
 ·exact wT h hn
 split
 ·exact nT h aph
 split
 ·exact p8 h
 ·exact agy h
end
section
variable {c:ao} {p q:af} {b:ee} {e:GEvt} {x:GID} {o:jF}
abbrev akK(e:GEvt):Nat:=e.id.key
structure ap9(c:ao)(e:GEvt):Prop where
 ok:cR c.schema e=true
 node:(e.id.node.toNat:Int)<c.nodes
 seq:e.id.seq.toNat<=c.last.toNat
structure Bf(c:ao)(b:ee):Prop where
 room:b.room=c.buffer
 len:(b.evs.length:Int)<=c.buffer
 up:Up akK b.evs
 evs: ∀e∈b.evs,ap9 c e
theorem aob(l:List GEvt)(e:GEvt):abT l e=ng akK l e:=by
 unfold abT ng;rw[List.append_assoc];rfl
theorem aj8{l:List GEvt}:t0 l x=true↔ ∃e∈l,e.id=x:=by simp[t0]
theorem fQ(b:ee)(e:GEvt):(dQ b e=(b,150)/\t0 b.evs e.id=true)\/(dQ b e=(b,52)/\t0 b.evs e.id=false/\b.room<=(b.evs.length:Int))\/
  (dQ b e=(⟨b.room,ng akK b.evs e⟩,0)/\t0 b.evs e.id=false/\(b.evs.length:Int)<b.room):=by grind [dQ,t0,aob]
theorem al6{y:GID}(h:y≠x):y.key≠x.key:=fun e=>h (GID.key_inj e)
theorem akP(h:Bf c b)(he:ap9 c e):Bf c (dQ b e).1:=by
 rcases fQ b e with ⟨e1,_⟩|⟨e1,_⟩|⟨e1,e2,e3⟩
 ·rw[e1];exact h
 ·rw[e1];exact h
 ·rw[e1];refine⟨h.room,?_,xz h.up fun a ha=>?_,fun a ha=>?_⟩
  ·show((ng akK b.evs e).length:Int)<=_;rw[(jq b.evs e).length_eq,List.length_cons];have:=h.room;omega
  ·refine al6 fun e4=>?_
   rw[aj8.2 ⟨a,ha,e4⟩]at e2;cases e2
  ·rcases kU.1 ha with rfl|ha
   ·exact he
   ·exact h.evs a ha
theorem abb(h:Bf c b)(i:Nat):Bf c ⟨b.room,b.evs.eraseIdx i⟩:=by
 have hs:(b.evs.eraseIdx i).Sublist b.evs:=List.eraseIdx_sublist ..;refine⟨h.room,?_,h.up.sublist hs,fun a ha=>h.evs a (hs.subset ha)⟩
 have:=hs.length_le;have:=h.len;show((b.evs.eraseIdx i).length:Int)<=_;omega
theorem aaV(h:Bf c b)(n:UInt8)(i:UInt16):Bf c (ct b n i).1:=by grind [ct,abb]
theorem agi(h:Bf c b):Bf c (cV b x).1:=by
 unfold cV;split
 ·exact h
 ·exact abb h _
