import Derived.Test.YtmhmahcdanclnaaGreatNr34
set_option linter.unusedSectionVars false
set_option linter.unusedSimpArgs false
set_option linter.unusedVariables false
set_option maxRecDepth 10000
namespace Go.Proofs.YtmhmahcdanclnaaGreat.V
open Go.Eng
theorem bJ{c:an}(h:az c=true):2<=c.nodes/\c.nodes<=12/\1<=c.view/\c.view<=12/\0<=c.near/\c.near<=12/\1<=c.swap/\c.swap<=12/\1<=c.schema.length/\c.schema.length<=4:=by grind [az,inR,ec]
def TUp(a b:List aq):Prop:=a.length=b.length/\ ∀(i:Nat) (x y:aq),a[i]? =some x->b[i]? =some y->x.inc<=y.inc
theorem TUp.refl(a:List aq):TUp a a:=⟨rfl,fun i x y h1 h2=>by rw[h1]at h2;cases h2;exact UInt16.le_refl _⟩
theorem TUp.trans{a b c:List aq}(h:TUp a b)(g:TUp b c):TUp a c:=⟨h.1.trans g.1,fun i x z h1 h3=>by
 have hi:=(List.getElem?_eq_some_iff.1 h1).1;have h2:b[i]? =some (b[i]'(by rw[<-h.1];exact hi)):=List.getElem?_eq_getElem _
 exact UInt16.le_trans (h.2 i _ _ h1 h2) (g.2 i _ _ h2 h3)⟩
theorem rK{l:List aq}{i:Nat}{f:aq->aq}(hf: ∀m,m.inc<=(f m).inc):TUp l (l.modify i f):=⟨by simp,fun j x y h1 h2=>by
 rw[List.getElem?_modify,h1]at h2;simp only[Option.map_eq_map,Option.map_some]at h2;cases h2;split
 ·exact hf x
 ·exact UInt16.le_refl _⟩
theorem tm{l:List aq}{f:Nat->aq->aq}(hf: ∀i m,m.inc<=(f i m).inc):TUp l (l.mapIdx f):=⟨by simp,fun j x y h1 h2=>by
 rw[List.getElem?_mapIdx,h1]at h2;simp only[Option.map_some]at h2;cases h2
 exact hf j x⟩
theorem ahx(l:List aq)(i:UInt8)(inc:UInt16):TUp l (de l i inc):=rK fun m=>by
 unfold gE;split
 ·rename_i h;rcases h with h|h
  ·exact UInt16.le_of_lt h
  ·rw[h.1];exact UInt16.le_refl _
 ·exact UInt16.le_refl _
theorem amd(l:List aq)(i:UInt8)(inc:UInt16):TUp l (jr l i inc):=rK fun m=>by
 unfold mE;split
 ·rename_i h;exact UInt16.le_of_lt h
 ·split<;>exact UInt16.le_refl _
theorem agy(l m:List aq)(self:UInt8):TUp l (dJ l m self):=tm fun i x=>by
 unfold mMg;split
 ·rename_i y _;split
  ·rename_i h;have h2:=h.2;unfold jY at h2;split at h2
   ·exact UInt16.le_of_lt (of_decide_eq_true h2)
   ·rename_i h3;have h3:y.inc=x.inc:=Classical.byContradiction h3;show x.inc<=y.inc;rw[h3];exact UInt16.le_refl _
  ·exact UInt16.le_refl _
 ·exact UInt16.le_refl _
theorem yQ(l:List aq)(self:UInt8)(after:Int):TUp l (gi l self after):=tm fun i m=>by
 unfold mTk mQ;split
 ·exact UInt16.le_refl _
 ·split<;>(split<;>exact UInt16.le_refl _)
structure Go1(c:an)(p q:af):Prop where
 h:okH q
 pre:Pre c q
 node:q.node=p.node
 up:q.up=p.up
 inc:q.inc=p.inc
 ws:ok8 q.wait.sent
 f8:q.filter.length<=8
 tab:TUp p.table q.table
structure Bd(c:an)(nd:UInt8)(p:af):Prop where
 h:okH p
 win:Win c p
 node:p.node=nd
 ws:ok8 p.wait.sent
 f8:p.filter.length<=8
 dn:p.up=false->p.view=[]/\p.near=[]/\p.ring.hs=false/\p.ring.hp=false/\p.wait.some=false
structure MOk(c:an)(p:af)(m:aF):Prop where
 frm:m.frm=p.node
 inc:m.inc=p.inc
 ne:m.to≠p.node
 lt:(m.to.toNat:Int)<c.nodes
 k1:1<=m.kind.toNat
 k9:m.kind.toNat<=9
structure aao(c:an)(p q:af)(l:List aF):Prop where
 bd:Bd c p.node q
 inc:q.inc=p.inc
 up:q.up=p.up
 tab:TUp p.table q.table
 ms: ∀m∈l,MOk c p m
section
variable {c:an} {nd:UInt8} {p q:af}
theorem Bd.pre(h:Bd c nd p):Pre c p:=⟨h.win.table,h.win.rows,h.win.heard,rl h.win.view⟩
theorem Bd.go(h:Bd c nd p):Go1 c p p:=⟨h.h,h.pre,rfl,rfl,rfl,h.ws,h.f8,TUp.refl _⟩
theorem Bd.stay(h:Bd c nd p):aao c p p []:=by
 obtain rfl:=h.node;exact⟨h,rfl,rfl,TUp.refl _,fun m hm=>absurd hm List.not_mem_nil⟩
theorem Go1.meet(hc:az c=true)(g:Go1 c p q)(hu:p.up=true){l:List GDesc}(hl:ck l)(hl2: ∀d∈l,okF d){ms:List aF}(hms: ∀m∈ms,MOk c p m):aao c p (ay c q l) ms:=by
 refine⟨⟨⟨jw g.h.g hl hl2,g.h.rs,⟨?_,?_⟩,?_⟩,akR hc g.pre,g.node,g.ws,g.f8,fun e=>?_⟩,g.inc,g.up,g.tab,hms⟩
 ·exact Nat.le_trans (List.length_filter_le _ _) g.h.v8.1
 ·exact fun d hd=>g.h.v8.2 d (List.mem_filter.1 hd).1
 ·exact(pg g.pre.view _).2
 ·have e2:q.up=false:=e;rw[g.up,hu]at e2;cases e2
theorem Go1.tab_(g:Go1 c p q){t:List aq}{r:List (List GMark)}(ht:TUp q.table t)(hr:fP r):Go1 c p { q with table:=t,reports:=r }:=
 ⟨xp g.h (by rw[<-ht.1];exact g.h.g.table) hr,⟨by have:=g.pre.table;rw[ht.1]at this;exact this,g.pre.rows,g.pre.heard,g.pre.view⟩,g.node,g.up,g.inc,g.ws,g.f8,g.tab.trans ht⟩
theorem Go1.learn(g:Go1 c p q)(t:List aq):Go1 c p (bu q t):=g.tab_ (agy _ _ _) (jm g.h.rs _)
theorem Go1.left(g:Go1 c p q)(i:UInt8)(inc:UInt16):Go1 c p { q with table:=jr q.table i inc }:=g.tab_ (amd _ _ _) g.h.rs
theorem Go1.view(g:Go1 c p q)(hc:az c=true){V:List GDesc}(hv:Rt q.node c.view V)(h8: ∀d∈V,d.filter.length<=8)(hF: ∀d∈V,okF d):Go1 c p { q with view:=V }:=by
 have hr:=bJ hc;have h1:=hv.1;exact⟨⟨nK g.h.g (by omega) hF,g.h.rs,⟨by show V.length<=1100000;omega,h8⟩,hv.2⟩,⟨g.pre.table,g.pre.rows,g.pre.heard,hv⟩,g.node,g.up,g.inc,g.ws,g.f8,g.tab⟩
theorem Go1.wait(g:Go1 c p q){w:GW}(hw:ok8 w.sent):Go1 c p { q with wait:=w }:=⟨sg g.h hw.toDs,⟨g.pre.table,g.pre.rows,g.pre.heard,g.pre.view⟩,g.node,g.up,g.inc,hw,g.f8,g.tab⟩
theorem tE{n:UInt8}{i:UInt16}(h:(au c p n i).2=false):(au c p n i).1=p:=by grind [au]
theorem o9{n:UInt8}{i:UInt16}(h:(au c p n i).2=true):(n.toNat:Int)<c.nodes/\n≠p.node:=by grind [au]
theorem Go1.hear(g:Go1 c p q)(n:UInt8)(i:UInt16):Go1 c p (au c q n i).1:=by
 unfold au;split
 ·exact g
 ·split
  ·exact g
  ·split
   ·exact g
   ·refine g.tab_ (ahx _ _ _) ?_;split
    ·exact kF g.h.rs
    ·exact g.h.rs
theorem Bd.curs(h:Bd c nd p){k:List GDesc}(hk:k∈[p.view,p.near,aR p.ring]){d:GDesc}(hd:d∈k):d.node≠p.node/\(d.node.toNat:Int)<c.nodes:=by
 have h1:=h.win.cur k hk d hd;have h2:=qD h1;have h3:=h.win.table;exact⟨yW h1,by omega⟩
end
section
variable {c:an} {nd:UInt8} {p q:af} {m:aF} {dr:List UInt32}
theorem ee(hc:az c=true)(hB:Bd c nd p)(hu:p.up=true){L:List GDesc}(hL:ck L)(hL2: ∀d∈L,okF d){H:af->af}{M:af->List aF}
  (hH: ∀q,Go1 c p q->((m.frm.toNat:Int)<c.nodes/\m.frm≠p.node)->Go1 c p (H q)/\ ∀x∈M q,MOk c p x):
  aao c p (if (au c p m.frm m.inc).2=true then (ay c (H (au c p m.frm m.inc).1) L,M (au c p m.frm m.inc).1)else ((au c p m.frm m.inc).1,[])).1
   (if (au c p m.frm m.inc).2=true then (ay c (H (au c p m.frm m.inc).1) L,M (au c p m.frm m.inc).1)else ((au c p m.frm m.inc).1,[])).2:=by
 cases h:(au c p m.frm m.inc).2 with
 |false=>
  rw[if_neg (by decide),tE h]
  exact hB.stay
 |true=>
  rw[if_pos rfl];obtain⟨g,ms⟩:=hH _ (hB.go.hear m.frm m.inc) (o9 h);exact g.meet hc hu hL hL2 ms
theorem fT:ck []:=⟨by simp,by simp⟩
theorem jD: ∀d∈([]:List GDesc),okF d:=by simp
theorem iv: ∀x∈([]:List aF),MOk c p x:=by simp
theorem an6(hc:az c=true)(g:Go1 c p q)(hm:okMg m)(hf:(m.frm.toNat:Int)<c.nodes/\m.frm≠p.node):Go1 c p (ei c q m).1/\ ∀x∈(ei c q m).2,MOk c p x:=by
 unfold ei;split
 ·rename_i d hd;have hdm:d∈m.list:=by rw[hd];exact List.mem_cons_self
  split
  ·rename_i hfi;refine⟨g.view hc (amk g.pre.view d) (fun x hx=>?_) (fun x hx=>?_),fun x hx=>?_⟩
   ·rcases o7 hx with h|rfl
    ·exact g.h.v8.2 x h
    ·exact zZ (by have:=bJ hc;omega) hfi.2.2
   ·rcases o7 hx with h|rfl
    ·exact g.h.g.view x h
    ·exact hm.fs2 x hdm
   ·rw[List.mem_singleton.1 hx];exact⟨g.node,g.inc,hf.2,hf.1,Nat.le_of_ble_eq_true rfl,Nat.le_of_ble_eq_true rfl⟩
  ·exact⟨g,iv⟩
 ·exact⟨g,iv⟩
theorem aes(hc:az c=true)(g:Go1 c p q)(hm:okMg m):Go1 c p (k_ c q m):=by
 have g2:=g.learn m.table;refine g2.view hc (afb _ _ g2.pre.view) (fun x hx=>?_) (fun x hx=>?_)
 ·rcases sD _ _ x hx with h|h
  ·exact g2.h.v8.2 x h
  ·exact zZ (by have:=bJ hc;omega) (zl h)
 ·rcases sD _ _ x hx with h|h
  ·exact g2.h.g.view x h
  ·exact hm.fs2 x (qM h)
theorem abm(hc:az c=true)(g:Go1 c p q)(hm:okMg m)(sent:List GDesc):Go1 c p (i5 c q m sent):=by
 refine g.view hc (kW _ _ _ g.pre.view) (fun x hx=>?_) (fun x hx=>?_)
 ·rcases fh _ _ _ x hx with h|h
  ·exact g.h.v8.2 x h
  ·exact zZ (by have:=bJ hc;omega) (zl h)
 ·rcases fh _ _ _ x hx with h|h
  ·exact g.h.g.view x h
  ·exact hm.fs2 x (qM h)
theorem aik(hc:az c=true)(g:Go1 c p q)(hm:okMg m):Go1 c p (lP c q m):=by
 unfold lP;simp only;split
 ·exact abm hc (g.wait (ae4 g.ws).1) hm _
 ·exact g
theorem agE(hc:az c=true)(hB:Bd c nd p)(hm:okMg m):aao c p (gr dr c p m).1 (gr dr c p m).2/\(p.up=false->(gr dr c p m).2=[]):=by
 unfold gr
 by_cases h0:p.up=false\/m.to≠p.node
 ·rw[if_pos h0];exact⟨hB.stay,fun _=>rfl⟩
 rw[if_neg h0]
 have hu:p.up=true:=by
  cases h:p.up with
  |true=>rfl
  |false=>exact absurd (.inl h) h0
 refine⟨?_,fun h=>absurd (.inl h) h0⟩
 by_cases k1:m.kind=1
 ·rw[if_pos k1];exact ee hc hB hu fT jD (H:=fun q=>(ei c q m).1) (M:=fun q=>(ei c q m).2) fun q g hf=>an6 hc g hm hf
 rw[if_neg k1]
 by_cases k2:m.kind=2
 ·rw[if_pos k2];exact ee hc hB hu fT jD (H:=fun q=>k_ c q m) (M:=fun _=>[]) fun q g hf=>⟨aes hc g hm,iv⟩
 rw[if_neg k2]
 by_cases k3:m.kind=3
 ·rw[if_pos k3];refine ee hc hB hu fT jD (H:=fun q=>i5 c q m (di c.swap (bK q.view m.frm) [] dr)) (M:=fun q=>[{ pMsg q 4 m.frm with list:=di c.swap (bK q.view m.frm) [] dr }]) fun q g hf=>⟨abm hc g hm _,fun x hx=>?_⟩
  rw[List.mem_singleton.1 hx];exact⟨g.node,g.inc,hf.2,hf.1,Nat.le_of_ble_eq_true rfl,Nat.le_of_ble_eq_true rfl⟩
 rw[if_neg k3]
 by_cases k4:m.kind=4
 ·rw[if_pos k4];exact ee hc hB hu fT jD (H:=fun q=>lP c q m) (M:=fun _=>[]) fun q g hf=>⟨aik hc g hm,iv⟩
 rw[if_neg k4]
 by_cases k5:m.kind=5\/m.kind=7
 ·rw[if_pos k5];exact ee hc hB hu hm.ds hm.fs2 (H:=fun q=>q) (M:=fun _=>[]) fun q g hf=>⟨g,iv⟩
 rw[if_neg k5]
 by_cases k6:m.kind=6
 ·rw[if_pos k6];refine ee hc hB hu hm.ds hm.fs2 (H:=fun q=>q) (M:=fun q=>[{ pMsg (ay c q m.list) 7 m.frm with list:=dM (aR (ay c q m.list).ring) (pSelf (ay c q m.list)) }]) fun q g hf=>⟨g,fun x hx=>?_⟩
  rw[List.mem_singleton.1 hx];exact⟨g.node,g.inc,hf.2,hf.1,Nat.le_of_ble_eq_true rfl,Nat.le_of_ble_eq_true rfl⟩
 rw[if_neg k6]
 by_cases k8:m.kind=8
 ·rw[if_pos k8];exact ee hc hB hu fT jD (H:=fun q=>bu q m.table) (M:=fun _=>[]) fun q g hf=>⟨g.learn _,iv⟩
 rw[if_neg k8]
 by_cases k9:m.kind=9
 ·rw[if_pos k9];exact ee hc hB hu fT jD (H:=fun q=>{ q with table:=jr q.table m.frm m.inc }) (M:=fun _=>[]) fun q g hf=>⟨g.left _ _,iv⟩
 rw[if_neg k9];exact ee hc hB hu fT jD (H:=fun q=>q) (M:=fun _=>[]) fun q g hf=>⟨g,iv⟩
theorem ahy{w:GW}(h:ok8 w.sent):ok8 (gF w).1.sent:=by
 unfold gF;split
 ·split
  ·exact⟨Nat.zero_le _,fun d hd=>absurd (show d∈([]:List GDesc)from hd) List.not_mem_nil⟩
  ·exact h
 ·exact⟨Nat.zero_le _,fun d hd=>absurd (show d∈([]:List GDesc)from hd) List.not_mem_nil⟩
theorem af_{l:List GDesc}(h:ok8 l):ok8 (cf l):=⟨by rw[cf,List.length_map];exact h.1,fun d hd=>by
 obtain⟨e,h1,rfl⟩:=jz hd
 rw[wW];exact h.2 e h1⟩
theorem adW{l:List GDesc}{f:GDesc->Bool}(h:ok8 l):ok8 (l.filter f):=⟨Nat.le_trans (List.length_filter_le _ _) h.1,fun d hd=>h.2 d (List.mem_filter.1 hd).1⟩
theorem aeY(hB:Bd c nd p):Go1 c p (bQ c p):=by
 have hv:Rt p.node c.view (bQ c p).view/\ok8 (bQ c p).view:=by
  have h1:=alY hB.pre.view;have h2:=af_ hB.h.v8;unfold bQ;simp only;split
  ·exact⟨pg h1 _,adW h2⟩
  ·exact⟨h1,h2⟩
 refine⟨⟨aa1 hB.h.g hB.ws,hB.h.rs,hv.2,hv.1.2⟩,⟨?_,hB.win.rows,hB.win.heard,hv.1⟩,rfl,rfl,rfl,ahy hB.ws,hB.f8,yQ _ _ _⟩;have:=hB.win.table;rw[(yQ p.table p.node c.suspect).1]at this;exact this
theorem amf{l:List GDesc}{self:GDesc}{many:Int}(h:(jg l self many dr).2.2=true): ∃o∈l,(jg l self many dr).1=o.node:=by grind [jg]
theorem ae7{l:List GDesc}{self:GDesc}{many:Int}(hl:ok8 l)(hl9:l.length<=99)(hs:self.filter.length<=8):ok8 (jg l self many dr).2.1:=by
 have hz:ok8 []:=⟨Nat.zero_le _,by simp⟩
 unfold jg;split
 ·split
  ·split
   ·rename_i o _ _;show ok8 (am9 l self many dr o.node);unfold am9;have h1:=tV (many:=many-1) dr (bK l o.node) [];have h2:=pS l o.node;have h3:=apS (many:=many-1) (nd:=o.node) (dr:=dr) hl;simp only[List.length_nil]at h1;refine⟨by rw[List.length_cons];omega,fun d hd=>?_⟩
    rcases List.mem_cons.1 hd with rfl|hd
    ·exact hs
    ·exact h3.2 d hd
   ·exact hz
  ·exact hz
 ·exact hz
theorem nh(hc:az c=true)(hB:Bd c nd p):p.view.length<=12/\p.near.length<=12:=by
 have hr:=bJ hc;have h1:=(rl hB.win.view).1;have h2:=(rl hB.win.near).1;omega
theorem akl(hc:az c=true)(hB:Bd c nd q)(hu:q.up=true):Bd c nd (dy c q dr).1/\(dy c q dr).1.inc=q.inc/\(dy c q dr).1.up=q.up/\(dy c q dr).1.table=q.table/\ ∀x∈(dy c q dr).2,MOk c q x:=by
 unfold dy;simp only;split
 ·rename_i h;have hs:=ae7 (dr:=dr) (many:=c.swap) (self:=pSelf q) hB.h.v8 (by have:=(nh hc hB).1;omega) hB.f8
  refine⟨⟨sg hB.h (w:=wStart _ 2 _) hs.toDs,⟨hB.win.table,hB.win.rows,hB.win.heard,hB.win.view,hB.win.near,hB.win.cur,hB.win.ovl,hB.win.ring⟩,hB.node,hs,hB.f8,fun e=>?_⟩,rfl,rfl,rfl,fun x hx=>?_⟩
  ·have e2:q.up=false:=e;rw[hu]at e2;cases e2
  ·rw[List.mem_singleton.1 hx];obtain⟨o,ho,e⟩:=amf h.2;have h3:=hB.curs (k:=q.view) (by simp) ho
   exact⟨rfl,rfl,by rw[<-e]at h3;exact h3.1,by rw[<-e]at h3;exact h3.2,Nat.le_of_ble_eq_true rfl,Nat.le_of_ble_eq_true rfl⟩
 ·exact⟨hB,rfl,rfl,rfl,iv⟩
theorem afP{x:UInt8}: ∀(l acc:List UInt8),x∈l.foldl h_ acc->x∈l\/x∈acc
 |[],acc,h=>.inr h
 | y::r,acc,h=>by
  rcases afP r (h_ acc y) h with h|h
  ·exact .inl (List.mem_cons_of_mem _ h)
  ·unfold h_ at h;split at h
   ·exact .inr h
   ·rcases List.mem_append.1 h with h|h
    ·exact .inr h
    ·exact .inl (by rw[List.mem_singleton.1 h];exact List.mem_cons_self)
theorem ahZ{x:UInt8}(h:x∈aH p): ∃k∈[p.view,p.near,aR p.ring], ∃d∈k,d.node=x:=by
 rcases afP _ _ h with h|h
 ·rcases f7 h with h|h
  ·obtain⟨d,hd,e⟩:=List.mem_map.1 h;obtain⟨k,hk,hd⟩:=List.mem_flatten.1 hd;exact⟨k,hk,d,hd,e⟩
  ·cases h
 ·cases h
theorem gP(hB:Bd c nd p){x:UInt8}(h:x∈aH p):x≠p.node/\(x.toNat:Int)<c.nodes:=by
 obtain⟨k,hk,d,hd,rfl⟩:=ahZ h;exact hB.curs hk hd
theorem iL(hc:az c=true)(hB:Bd c nd p):(bF p).length<=26:=by grind [nh,fM,bF,List.length_map,List.flatten_cons,List.flatten_nil,List.length_append,List.length_nil]
theorem gY(hc:az c=true)(hB:Bd c nd p):(aH p).length<=26:=by
 have h1:=qO (aS ltU (bF p)) (aS ltU (bF p)).length;rw[List.take_length,bY]at h1;have:=iL hc hB;show(dd _).length<=26;omega
theorem vg(hd:p.view=[]/\p.near=[]/\p.ring.hs=false/\p.ring.hp=false):aH p=[]:=by
 obtain⟨h1,h2,h3,h4⟩:=hd;have e:aR p.ring=[]:=by unfold aR;rw[h3,h4];rfl
 unfold aH bF;rw[h1,h2,e];rfl
theorem oE(hc:az c=true)(hB:Bd c nd p)(hu:p.up=true):aao c p (pTick c p dr (aH (dy c (ay c (bQ c p) []) dr).1)).1 (pTick c p dr (aH (dy c (ay c (bQ c p) []) dr).1)).2:=by
 have s1:=(aeY hB).meet hc hu fT jD (ms:=[]) iv;unfold pTick;simp only;generalize ay c (bQ c p) []=q at s1;have hqu:q.up=true:=by rw[s1.up,hu]
 have hqn:q.node=p.node:=s1.bd.node;obtain⟨b1,b2,b3,b4,b5⟩:=akl (dr:=dr) hc s1.bd hqu;generalize dy c q dr=K at b1 b2 b3 b4 b5;obtain⟨r,M⟩:=K;simp only at b1 b2 b3 b4 b5 ⊢;have rn:r.node=p.node:=b1.node;have ri:r.inc=p.inc:=b2.trans s1.inc;have mk: ∀{k to:UInt8},to≠r.node->(to.toNat:Int)<c.nodes->1<=k.toNat->k.toNat<=9-> ∀{l:List GDesc} {t:List aq},MOk c p { pMsg r k to with list:=l,table:=t }:=fun h1 h2 h3 h4=>⟨rn,ri,by rw[<-rn];exact h1,h2,h3,h4⟩
 refine⟨b1,ri,b3.trans s1.up,by rw[b4];exact s1.tab,fun x hx=>?_⟩
 rcases List.mem_append.1 hx with hx|hx
 ·rcases List.mem_append.1 hx with hx|hx
  ·rcases List.mem_append.1 hx with hx|hx
   ·have h:=b5 x hx;exact⟨h.frm.trans hqn,h.inc.trans s1.inc,by rw[<-hqn];exact h.ne,h.lt,h.k1,h.k9⟩
   ·unfold mu at hx;split at hx
    ·cases hx
    ·rename_i hne;rw[List.mem_singleton.1 hx];have hl:0<(aH r).length:=List.length_pos_iff.2 hne;have hi:(gD c dr).toNat % (aH r).length<(aH r).length:=Nat.mod_lt _ hl;have h2:=gP b1 (x:=(aH r).getD ((gD c dr).toNat % (aH r).length) 0) (by rw[List.getD_eq_getElem?_getD,List.getElem?_eq_getElem hi];exact List.getElem_mem hi)
     exact mk h2.1 h2.2 (Nat.le_of_ble_eq_true rfl) (Nat.le_of_ble_eq_true rfl)
  ·unfold jb at hx;split at hx
   ·rename_i hs;rw[List.mem_singleton.1 hx]
    obtain⟨d,hd,hdn⟩: ∃d∈aR r.ring,d.node=r.ring.succ.node:=by
     unfold aR;split
     ·unfold fF
      by_cases h1:r.ring.succ.node<r.ring.pred.node
      ·rw[if_pos h1];exact⟨_,List.mem_cons_self,rfl⟩
      ·rw[if_neg h1]
       by_cases h2:r.ring.pred.node<r.ring.succ.node
       ·rw[if_pos h2];exact⟨_,List.mem_cons_of_mem _ List.mem_cons_self,rfl⟩
       ·rw[if_neg h2];have e:r.ring.pred.node=r.ring.succ.node:=UInt8.le_antisymm (UInt8.not_lt.1 h1) (UInt8.not_lt.1 h2);split
        ·exact⟨_,List.mem_cons_self,e⟩
        ·exact⟨_,List.mem_cons_self,rfl⟩
     ·first|exact⟨_,List.mem_cons_self,rfl⟩|(rw[if_pos hs];exact⟨_,List.mem_cons_self,rfl⟩)
    have h2:=b1.curs (k:=aR r.ring) (by simp) hd
    rw[hdn]at h2;exact mk h2.1 h2.2 (Nat.le_of_ble_eq_true rfl) (Nat.le_of_ble_eq_true rfl)
   ·cases hx
 ·obtain⟨d,hd,rfl⟩:=List.mem_map.1 hx;have h2:=b1.curs (k:=aR r.ring) (by simp) hd
  exact mk h2.1 h2.2 (Nat.le_of_ble_eq_true rfl) (Nat.le_of_ble_eq_true rfl)
end
theorem ajh{f g:List GSpan}(hf: ∀s∈f,okS s)(hg: ∀s∈g,okS s): ∀s∈dL f g,okS s:=by
 intro s hs;unfold dL at hs;split at hs
 ·obtain⟨x,hx,rfl⟩:=List.mem_map.1 hs;exact zE (hf _ (List.of_mem_zip hx).1) (hg _ (List.of_mem_zip hx).2)
 ·cases hs
theorem jx{dom f:List GSpan}(hd: ∀s∈dom,okS s)(hf: ∀s∈f,okS s)(hl:dom.length<=4):(∀s∈(br dom f).1,okS s)/\(br dom f).1.length<=8:=by grind [br,ajh,wC,dL]
section
variable {c:an} {nd:UInt8} {p q:af} {o:GOp}
theorem mO(h:okG p){f:List GSpan}(h1: ∀s∈f,okS s)(h2:f.length<=8):okG { p with filter:=f }:=
 ⟨⟨by show f.length<=4000000;omega,h.ok.view,h.ok.near,h.ok.succ,h.ok.pred,h.ok.sent,h.ok.table,h.ok.heard,h.ok.rows,h.ok.reports,h.ok.evs,h.ok.pulls⟩,h1,h.view,h.near,h.succ,h.pred,h.table⟩
theorem Go1.filter(g:Go1 c p q){f:List GSpan}(h1: ∀s∈f,okS s)(h2:f.length<=8):Go1 c p { q with filter:=f }:=
 ⟨⟨mO g.h.g h1 h2,g.h.rs,g.h.v8,g.h.vw⟩,⟨g.pre.table,g.pre.rows,g.pre.heard,g.pre.view⟩,g.node,g.up,g.inc,g.ws,h2,g.tab⟩
theorem px(hc:az c=true){node:UInt8}{inc:UInt16}{up:Bool}{t:List aq}(ht:(t.length:Int)=c.nodes):Win c { aY c node with inc:=inc,up:=up,table:=t }:=by
 have hr:=bJ hc;have hn:(((min (max c.nodes 0) 12).toNat:Nat):Int)=c.nodes:=by omega
 refine⟨ht,?_,?_,?_,?_,?_,?_,.inl rfl⟩
 ·simp only[aY,List.length_replicate];exact hn
 ·simp only[aY,List.length_replicate];exact hn
 ·exact oe ⟨by simp only[aY,List.length_nil];omega,adX _⟩ (by omega)
 ·exact oe ⟨by simp only[aY,List.length_nil];omega,adX _⟩ (by omega)
 ·intro k hk d hd;simp only[aY,List.mem_cons,List.not_mem_nil,or_false]at hk;rcases hk with rfl|rfl|rfl
  ·cases hd
  ·cases hd
  ·simp[aR]at hd
 ·intro d hd;simp[aY]at hd
theorem lZ(hc:az c=true)(node:UInt8):((aY c node).table.length:Int)=c.nodes:=by
 have hr:=bJ hc;simp only[aY,List.length_replicate];omega
theorem amw:ok8 []:=⟨Nat.zero_le _,by simp⟩
theorem ajB(hc:az c=true)(node:UInt8):Bd c node (aY c node):=
 ⟨xq c node,px hc (up:=false) (inc:=0) (lZ hc node),rfl,amw,Nat.zero_le _,fun _=>⟨rfl,rfl,rfl,rfl,rfl⟩⟩
theorem aa7(hc:az c=true)(hB:Bd c nd p):Bd c nd (bc c p).1/\p.inc<=(bc c p).1.inc/\(p.up=true->(bc c p).1=p):=by
 have ho:=ahF c p hB.h;unfold bc at ho ⊢;split
 ·exact⟨hB,UInt16.le_refl _,fun _=>rfl⟩
 ·rename_i hu;split
  ·exact⟨hB,UInt16.le_refl _,fun _=>rfl⟩
  ·rename_i hi;rw[if_neg hu,if_neg hi]at ho;refine⟨⟨ho,px hc (by rw[List.length_set];exact lZ hc _),hB.node,amw,Nat.zero_le _,fun e=>by cases e⟩,?_,fun h=>absurd h hu⟩
   show p.inc<=p.inc+1;have h1:p.inc.toNat≠65535:=fun e=>hi (UInt16.toNat_inj.1 e)
   have h2:=p.inc.toNat_lt;rw[UInt16.le_iff_toNat_le,UInt16.toNat_add];show p.inc.toNat<=(p.inc.toNat+1) % 65536;omega
theorem ae5(hc:az c=true)(hB:Bd c nd p):Bd c nd (zf c p):=by
 have h:=aeK (xq c p.node) (i:=p.inc) (b:=false) (t:=(aY c p.node).table) (by have:=lZ hc p.node;have:=bJ hc;omega)
 exact⟨h,px hc (up:=false) (inc:=p.inc) (lZ hc _),hB.node,amw,Nat.zero_le _,fun _=>⟨rfl,rfl,rfl,rfl,rfl⟩⟩
structure as8(c:an)(p:af)(r:af×List aF×Int):Prop where
 bd:Bd c p.node r.1
 inc:p.inc<=r.1.inc
 tab:r.1.up=true->p.up=true->TUp p.table r.1.table
 ms: ∀m∈r.2.1,MOk c p m
 quiet:r.2.1≠[]->r.2.2=0/\p.up=true
end
section
variable {c:an} {nd:UInt8} {p q:af} {o:GOp}
theorem abB(hc:az c=true)(hB:Bd c nd p):Con2 Tryz.prog 91 [.agg (ak p)] (· =plR (.fz 1 ((aH p).map aC))):=by
 have h1:=nh hc hB;have h2:=hB.h.g.ok;exact ae1 p (by omega) (by omega) h2.succ h2.pred (iL hc hB)
theorem abe{dr:List UInt32}{L:List UInt8}:(pTick c p dr L).2.length<=5:=by grind [pTick,dy,ay,bQ,mu,jb,fM,List.length_append,List.length_map]
end
end Go.Proofs.YtmhmahcdanclnaaGreat.V
namespace Go.Eng
section
variable {l:List GDesc} {self:UInt8} {d:GDesc} {room:Int}
theorem aqz{i:Nat}(hi:i<256)(hd:(0:Int)<(d.inc.toNat:Int)):(zL.set i d).filter (fun d=>decide ((0:Int)<(d.inc.toNat:Int)))=[d]:=by
 have e:zL.set i d=List.replicate i zDesc++d::List.replicate (256-i-1) zDesc:=by
  unfold zL;rw[List.set_eq_take_append_cons_drop,if_pos (by simpa using hi),List.take_replicate,List.drop_replicate]
  congr 2<;>omega
 have hz: ∀n,(List.replicate n zDesc).filter (fun d=>decide ((0:Int)<(d.inc.toNat:Int)))=[]:=fun n=>ga (fun x hx=>by rw[(List.mem_replicate.1 hx).2];rfl)
 rw[e,List.filter_append,List.filter_cons,hz,hz,if_pos (by simpa using hd)]
 rfl
theorem ahO(h1:d.node≠self)(h2:d.inc≠0):bl self [[d],[],[],[]]=[d]:=by
 have hn:=d.node.toNat_lt
 have hi:(0:Int)<(d.inc.toNat:Int):=by
  have:d.inc.toNat≠0:=fun e=>h2 (UInt16.toNat_inj.1 e)
  omega
 have hg:zL[d.node.toNat]? =some zDesc:=by unfold zL;rw[List.getElem?_replicate,if_pos (by omega)]
 show(d5 self zL [d]).filter _=_;show(eH self zL d).filter _=_
 have e:eH self zL d=zL.set d.node.toNat d:=by
  unfold eH;rw[if_neg (by rintro(e|e);exact h1 e;exact h2 e)]
  simp only[hg];rw[if_pos (.inl rfl)]
 rw[e];exact aqz (by omega) hi
end
end Go.Eng
namespace Go.Proofs.YtmhmahcdanclnaaGreat.V
open Go.Eng
section
variable {c:an} {a b nd:UInt8} {p q:af} {o:GOp} {m:aF} {dr:List UInt32}
structure asS(p q:af):Prop where
 node:q.node=p.node
 filter:q.filter=p.filter
 inc:q.inc=p.inc
 up:q.up=p.up
 own:q.table[p.node.toNat]? =p.table[p.node.toNat]?
theorem al0:asS p (bQ c p):=by
 refine⟨rfl,rfl,rfl,rfl,?_⟩;show(gi p.table p.node c.suspect)[p.node.toNat]? =_;rw[gi,List.getElem?_mapIdx];cases p.table[p.node.toNat]? with
 |none=>rfl
 |some x=>
  rw[Option.map_some];unfold mTk;rw[if_pos (.inl rfl)]
structure Jn(c:an)(nd:UInt8)(p:af):Prop where
 bd:Bd c nd p
 up:p.up=true
 inc:p.inc=1
 filter:p.filter=[]
 own:p.table[nd.toNat]? =some ⟨1,1,0⟩
theorem ajr(hc:az c=true)(hn:(nd.toNat:Int)<c.nodes):(bc c (aY c nd)).2=0/\Jn c nd (bc c (aY c nd)).1/\(bc c (aY c nd)).1.view=[]/\(bc c (aY c nd)).1.near=[]/\(bc c (aY c nd)).1.ring=zR/\
  ∀i:UInt8,i≠nd->(i.toNat:Int)<c.nodes->(bc c (aY c nd)).1.table[i.toNat]? =some ⟨0,0,0⟩:=by
 have hr:=bJ hc;have hB:=(aa7 hc (ajB hc nd)).1;have hlen:=ao5 hr.1 hr.2.1 nd
 have e:bc c (aY c nd)=({ aY c nd with inc:=1,up:=true,table:=(aY c nd).table.set nd.toNat ⟨1,1,0⟩ },0):=by
  unfold bc;rw[if_neg (show ¬(aY c nd).up=true by simp[aY]),if_neg (show ¬(aY c nd).inc=65535 by simp[aY])]
  rfl
 rw[e]at hB ⊢;refine⟨rfl,⟨hB,rfl,rfl,rfl,?_⟩,rfl,rfl,rfl,fun i hi hl=>?_⟩
 ·show((aY c nd).table.set nd.toNat ⟨1,1,0⟩)[nd.toNat]? =_;exact List.getElem?_set_self (by omega)
 ·show((aY c nd).table.set nd.toNat ⟨1,1,0⟩)[i.toNat]? =_;rw[List.getElem?_set_ne (fun e=>hi (UInt8.toNat_inj.1 e.symm))]
  have:i.toNat<(aY c nd).table.length:=by omega
  simp only[aY,List.length_replicate]at this ⊢;rw[List.getElem?_replicate,if_pos this]
structure ath(c:an)(a b:UInt8)(p q:af)(M:aF)(P:af)(W:aF)(R:af):Prop where
 m1:iB c q a=([M],0)
 m2:okMg M
 p1:gr [] c p M=(P,[W])
 p2:Bd c a P
 p3:W.to=b
 p4:0<=lf P.view b
 p5:p.view.length<=P.view.length
 w1:okMg W
 r1:gr [] c q W=(R,[])
 r2:Bd c b R
 r3:R.table[a.toNat]? =some ⟨1,1,0⟩
 r4:1<=R.view.length
 r5:(R.view.length:Int)<=c.view
 r6:R.view.length<=W.list.length
 r7:p.view.length=0->0<=lf R.view a/\R.ring.hs=true/\R.ring.succ.node=a/\R.ring.pred.node=a
end
section
variable {c:an} {p q r:af} {m:aF} {dr:List UInt32}
structure Ev1(p q:af):Prop where
 node:q.node=p.node
 inc:q.inc=p.inc
 up:q.up=p.up
 filter:q.filter=p.filter
 rows:q.rows=p.rows
 buf:q.buf=p.buf
 pulls:q.pulls=p.pulls
 seq:q.seq=p.seq
 passed:q.passed=p.passed
 evicted:q.evicted=p.evicted
 collected:q.collected=p.collected
theorem Ev1.refl(p:af):Ev1 p p:=⟨rfl,rfl,rfl,rfl,rfl,rfl,rfl,rfl,rfl,rfl,rfl⟩
theorem Ev1.trans(h:Ev1 p q)(g:Ev1 q r):Ev1 p r:=
 ⟨g.node.trans h.node,g.inc.trans h.inc,g.up.trans h.up,g.filter.trans h.filter,g.rows.trans h.rows,g.buf.trans h.buf,g.pulls.trans h.pulls,g.seq.trans h.seq,g.passed.trans h.passed,g.evicted.trans h.evicted,g.collected.trans h.collected⟩
theorem dh(l:List GDesc):Ev1 p (ay c p l):=⟨rfl,rfl,rfl,rfl,rfl,rfl,rfl,rfl,rfl,rfl,rfl⟩
theorem eh(n:UInt8)(i:UInt16):Ev1 p (au c p n i).1:=by
 unfold au;split
 ·exact Ev1.refl p
 ·split
  ·exact Ev1.refl p
  ·split
   ·exact Ev1.refl p
   ·exact⟨rfl,rfl,rfl,rfl,rfl,rfl,rfl,rfl,rfl,rfl,rfl⟩
theorem ajK(t:List aq):Ev1 p (bu p t):=⟨rfl,rfl,rfl,rfl,rfl,rfl,rfl,rfl,rfl,rfl,rfl⟩
theorem ev_aged:Ev1 p (bQ c p):=⟨rfl,rfl,rfl,rfl,rfl,rfl,rfl,rfl,rfl,rfl,rfl⟩
theorem aqk:Ev1 p (dy c p dr).1:=by
 unfold dy;simp only;split
 ·exact⟨rfl,rfl,rfl,rfl,rfl,rfl,rfl,rfl,rfl,rfl,rfl⟩
 ·exact Ev1.refl p
theorem afl(L:List UInt8):Ev1 p (V.pTick c p dr L).1:=(ev_aged.trans (dh [])).trans aqk
theorem gM{A:af}{B:List aF}{Q:af×Bool}(h:Ev1 p Q.1)(g:Ev1 Q.1 A):Ev1 p (if Q.2=true then (A,B)else (Q.1,[])).1:=by
 split
 ·exact h.trans g
 ·exact h
theorem ao2:Ev1 p (gr dr c p m).1:=by
 have hh:=eh (c:=c) (p:=p) m.frm m.inc;unfold gr;split
 ·exact Ev1.refl p
 split
 ·refine gM hh (Ev1.trans ?_ (dh _));unfold ei;split
  ·split
   ·exact⟨rfl,rfl,rfl,rfl,rfl,rfl,rfl,rfl,rfl,rfl,rfl⟩
   ·exact Ev1.refl _
  ·exact Ev1.refl _
 split
 ·refine gM hh (Ev1.trans ?_ (dh _));exact⟨rfl,rfl,rfl,rfl,rfl,rfl,rfl,rfl,rfl,rfl,rfl⟩
 split
 ·refine gM hh (Ev1.trans ?_ (dh _));exact⟨rfl,rfl,rfl,rfl,rfl,rfl,rfl,rfl,rfl,rfl,rfl⟩
 split
 ·refine gM hh (Ev1.trans ?_ (dh _));unfold lP;simp only;split
  ·exact⟨rfl,rfl,rfl,rfl,rfl,rfl,rfl,rfl,rfl,rfl,rfl⟩
  ·exact Ev1.refl _
 split
 ·exact gM hh (dh _)
 split
 ·exact gM hh (dh _)
 split
 ·exact gM hh ((ajK m.table).trans (dh _))
 split
 ·refine gM hh (Ev1.trans ?_ (dh _));exact⟨rfl,rfl,rfl,rfl,rfl,rfl,rfl,rfl,rfl,rfl,rfl⟩
 ·exact gM hh (dh _)
end
section
variable {c:an} {p q:af} {m:aF} {dr:List UInt32} {e:GEvt} {G:List GID} {x:GID}
structure On(c:an)(p:af)(G:List GID):Prop where
 fit: ∀r∈p.rows,fC r c.window
 seen: ∀x∈G, ∃r,p.rows[x.node.toNat]? =some r/\(apD r x=true\/x.inc.toNat<r.inc.toNat)
 own: ∀x∈G,x.node=p.node->x.inc.toNat<p.inc.toNat\/(x.inc=p.inc/\x.seq.toNat<=p.seq.toNat)
 pos: ∀x∈G,0<x.inc.toNat/\x.seq≠0
theorem On.ev(h:On c p G)(g:Ev1 p q):On c q G:=
 ⟨by rw[g.rows];exact h.fit,by rw[g.rows];exact h.seen,by rw[g.node,g.inc,g.seq];exact h.own,h.pos⟩
theorem sF:cO c.schema e=true↔fK c.schema e.vals=true/\e.data.length<=64/\e.id.node.toNat<12/\1<=e.id.inc.toNat/\1<=e.id.seq.toNat:=by simp[cO]
theorem o0(h:jN c p e=true):cO c.schema e=true/\(e.id.node.toNat:Int)<c.nodes/\e.id.seq.toNat<=c.last.toNat/\(e.id.node=p.node->e.id.inc.toNat<p.inc.toNat)/\
  ∃r,p.rows[e.id.node.toNat]? =some r/\gH r e.id c.window=true:=by
 unfold jN at h
 by_cases h1:cO c.schema e=false\/c.nodes<=(e.id.node.toNat:Int)\/c.last.toNat<e.id.seq.toNat
 ·rw[if_pos h1]at h;cases h
 rw[if_neg h1]at h
 by_cases h2:e.id.node=p.node/\p.inc.toNat<=e.id.inc.toNat
 ·rw[if_pos h2]at h;cases h
 rw[if_neg h2]at h
 have a1:cO c.schema e=true:=by
  cases hv:cO c.schema e with
  |true=>rfl
  |false=>exact absurd (.inl hv) h1
 refine⟨a1,Classical.byContradiction fun hc=>h1 (.inr (.inl (by omega))),Classical.byContradiction fun hc=>h1 (.inr (.inr (by omega))),fun hn=>Classical.byContradiction fun hc=>h2 ⟨hn,by omega⟩,?_⟩
 cases hr:p.rows[e.id.node.toNat]? with
 |none=>rw[hr]at h;cases h
 |some r=>rw[hr]at h;exact⟨r,rfl,h⟩
theorem ot(h:(aV c p e).2.1=true):p.up=true/\jN c p e=true:=by grind [aV,jN]
theorem sj(h1:p.up=true)(h2:jN c p e=true):aV c p e=({ p with
      rows:=p.rows.modify e.id.node.toNat fun r=>(cS r e.id c.window).1
      pulls:=(Eng.pDrop p.pulls e.id).filter fun a=> !fG e.id a
      buf:=(dX p.buf e).1
      passed:=if (dX p.buf e).2=52 then p.passed+1 else p.passed },true,dH p.filter e.vals):=by
  unfold aV;rw[if_neg (by rw[h1,h2];simp)]
theorem tw(h: ¬(aV c p e).2.1=true):aV c p e=(p,false,false):=by grind [aV]
structure Nm1(p q:af):Prop where
 node:q.node=p.node
 inc:q.inc=p.inc
 up:q.up=p.up
 filter:q.filter=p.filter
 rows:q.rows=p.rows
 seq:q.seq=p.seq
theorem Nm1.trans{r:af}(h:Nm1 p q)(g:Nm1 q r):Nm1 p r:=⟨g.node.trans h.node,g.inc.trans h.inc,g.up.trans h.up,g.filter.trans h.filter,g.rows.trans h.rows,g.seq.trans h.seq⟩
theorem y_:(js c p m dr).1=(aV c p m.ev).1:=by grind [js,tw]
end
section
variable {c:an} {p q:af} {m:aF} {dr:List UInt32} {e:GEvt} {G:List GID} {x:GID} {vals:List Int} {data:List UInt8}
def fy(p:af)(vals:List Int)(data:List UInt8):GEvt:=⟨⟨p.node,p.inc,p.seq+1⟩,vals,data⟩
def ib(p:af)(b:eo)(ev:Int):af:={ p with buf:=b,evicted:=ev,seq:=p.seq+1,rows:=p.rows.set p.node.toNat ⟨p.inc,p.seq+1,0⟩ }
theorem ja:(∃k,k≠0/\aT c p vals data dr=(p,zEvt,false,[],k))\/
  (p.up=true/\cO c.schema (fy p vals data)=true/\p.seq.toNat<c.last.toNat/\
   (decide (p.buf.room<=(p.buf.evs.length:Int))=true->(cF p.buf p.node p.inc).2.2=0)/\
   (dX (if decide (p.buf.room<=(p.buf.evs.length:Int))=true then (cF p.buf p.node p.inc).1 else p.buf) (fy p vals data)).2=0/\
   aT c p vals data dr=(ib p (dX (if decide (p.buf.room<=(p.buf.evs.length:Int))=true then (cF p.buf p.node p.inc).1 else p.buf) (fy p vals data)).1
     (if decide (p.buf.room<=(p.buf.evs.length:Int))=true then p.evicted+1 else p.evicted),fy p vals data,dH p.filter vals,
    f_ c (ib p (dX (if decide (p.buf.room<=(p.buf.evs.length:Int))=true then (cF p.buf p.node p.inc).1 else p.buf) (fy p vals data)).1
     (if decide (p.buf.room<=(p.buf.evs.length:Int))=true then p.evicted+1 else p.evicted)) (fy p vals data) (UInt8.ofNat (c.hops % 256).toNat)
     (aH (ib p (dX (if decide (p.buf.room<=(p.buf.evs.length:Int))=true then (cF p.buf p.node p.inc).1 else p.buf) (fy p vals data)).1
      (if decide (p.buf.room<=(p.buf.evs.length:Int))=true then p.evicted+1 else p.evicted))) dr,0)):=by
 unfold aT ib fy;simp only
 by_cases h1:p.up=false
 ·rw[if_pos h1];exact .inl ⟨53,by decide,rfl⟩
 rw[if_neg h1]
 by_cases h2:cO c.schema ⟨⟨p.node,p.inc,p.seq+1⟩,vals,data⟩=false
 ·rw[if_pos h2];exact .inl ⟨51,by decide,rfl⟩
 rw[if_neg h2]
 by_cases h3:c.last.toNat<=p.seq.toNat
 ·rw[if_pos h3];exact .inl ⟨55,by decide,rfl⟩
 rw[if_neg h3]
 by_cases h4:decide (p.buf.room<=(p.buf.evs.length:Int))=true/\(cF p.buf p.node p.inc).2.2≠0
 ·rw[if_pos h4];exact .inl ⟨_,h4.2,rfl⟩
 rw[if_neg h4]
 by_cases h5:(dX (if decide (p.buf.room<=(p.buf.evs.length:Int))=true then (cF p.buf p.node p.inc).1 else p.buf) ⟨⟨p.node,p.inc,p.seq+1⟩,vals,data⟩).2≠0
 ·rw[if_pos h5];exact .inl ⟨_,h5,rfl⟩
 rw[if_neg h5];exact .inr ⟨by simpa using h1,by simpa using h2,by omega,fun h=>Classical.byContradiction fun hc=>h4 ⟨h,hc⟩,Classical.byContradiction fun hc=>h5 hc,rfl⟩
end
end Go.Proofs.YtmhmahcdanclnaaGreat.V
namespace Go.Eng
structure ph where
 what:UInt8
 filter:List GSpan
 vals:List Int
 data:List UInt8
 m:aF
 draws:List UInt32
end Go.Eng
namespace Go.Proofs.YtmhmahcdanclnaaGreat.V
open Go.Eng
def mI(c:an)(p:af)(o:ph):af×List aF×List GEvt×Bool×Int:=
 if o.what=0 then ((bc c p).1,[],[],false,(bc c p).2)
 else if o.what=1 then (zf c p,[],[],false,0)
 else if o.what=2 then (if p.up=false then p else if (br c.schema o.filter).2=0 then ay c { p with filter:=(br c.schema o.filter).1 } []else p,[],[],false,if p.up=false then 53 else (br c.schema o.filter).2)
 else if o.what=3 then (if p.up=false then p else zf c p,if p.up=false then []else (aH p).map (pMsg p 9),[],false,if p.up=false then 53 else 0)
 else if o.what=4 then ((aT c p o.vals o.data o.draws).1,(aT c p o.vals o.data o.draws).2.2.2.1,
  if (aT c p o.vals o.data o.draws).2.2.1=true then [(aT c p o.vals o.data o.draws).2.1]else [],decide ((aT c p o.vals o.data o.draws).2.2.2.2=0),(aT c p o.vals o.data o.draws).2.2.2.2)
 else if o.what=5 then ((gI c p o.draws).1,(gI c p o.draws).2,[],false,0)
 else if o.what=6 then ((aV c p o.m.ev).1,[],if (aV c p o.m.ev).2.2=true then [o.m.ev]else [],(aV c p o.m.ev).2.1,0)
 else ((bA c p o.m o.draws).1,(bA c p o.m o.draws).2.1,(bA c p o.m o.draws).2.2,false,0)
section
variable {c:an} {p q:af} {m:aF} {dr:List UInt32} {e:GEvt} {G:List GID} {x:GID} {o:ph}
structure Dl(c:an)(q:af)(G:List GID)(e:GEvt):Prop where
 up:q.up=true
 new:e.id∉G
 ok:cO c.schema e=true
 row: ∃r,q.rows[e.id.node.toNat]? =some r/\apD r e.id=true
 fits:dH q.filter e.vals=true
 no:jN c q e=false
 on:On c q (e.id::G)
end
section
variable {c:an} {p q:af} {b:eo} {e:GEvt} {x:GID} {o:ph}
abbrev akb(e:GEvt):Nat:=e.id.key
structure aqK(c:an)(e:GEvt):Prop where
 ok:cO c.schema e=true
 node:(e.id.node.toNat:Int)<c.nodes
 seq:e.id.seq.toNat<=c.last.toNat
structure Bf(c:an)(b:eo):Prop where
 room:b.room=c.buffer
 len:(b.evs.length:Int)<=c.buffer
 up:Up akb b.evs
 evs: ∀e∈b.evs,aqK c e
theorem am1(l:List GEvt)(e:GEvt):acH l e=kG akb l e:=by
 unfold acH kG;rw[List.append_assoc];rfl
theorem aaW{l:List GEvt}:ui l x=true↔ ∃e∈l,e.id=x:=by simp[ui]
theorem fQ(b:eo)(e:GEvt):(dX b e=(b,150)/\ui b.evs e.id=true)\/(dX b e=(b,52)/\ui b.evs e.id=false/\b.room<=(b.evs.length:Int))\/
  (dX b e=(⟨b.room,kG akb b.evs e⟩,0)/\ui b.evs e.id=false/\(b.evs.length:Int)<b.room):=by grind [dX,ui,am1]
theorem al8{y:GID}(h:y≠x):y.key≠x.key:=fun e=>h (GID.key_inj e)
theorem alw(h:Bf c b)(he:aqK c e):Bf c (dX b e).1:=by
 rcases fQ b e with ⟨e1,_⟩|⟨e1,_⟩|⟨e1,e2,e3⟩
 ·rw[e1];exact h
 ·rw[e1];exact h
 ·rw[e1];refine⟨h.room,?_,wQ h.up fun a ha=>?_,fun a ha=>?_⟩
  ·show((kG akb b.evs e).length:Int)<=_;rw[(jC b.evs e).length_eq,List.length_cons];have:=h.room;omega
  ·refine al8 fun e4=>?_
   rw[aaW.2 ⟨a,ha,e4⟩]at e2;cases e2
  ·rcases lv.1 ha with rfl|ha
   ·exact he
   ·exact h.evs a ha
theorem z5(h:Bf c b)(i:Nat):Bf c ⟨b.room,b.evs.eraseIdx i⟩:=by
 have hs:(b.evs.eraseIdx i).Sublist b.evs:=List.eraseIdx_sublist ..;refine⟨h.room,?_,h.up.sublist hs,fun a ha=>h.evs a (hs.subset ha)⟩
 have:=hs.length_le;have:=h.len;show((b.evs.eraseIdx i).length:Int)<=_;omega
theorem yR(h:Bf c b)(n:UInt8)(i:UInt16):Bf c (cF b n i).1:=by grind [cF,z5]
theorem agO(h:Bf c b):Bf c (cT b x).1:=by
 unfold cT;split
 ·exact h
 ·exact z5 h _
end
section
variable {c:an} {p q:af} {m:aF} {dr:List UInt32} {b:eo} {e:GEvt} {x:GID} {o:ph} {l:List GAsk}
abbrev apI(a:GAsk):Nat:=a.id.key
structure Pk(c:an)(l:List GAsk):Prop where
 len:(l.length:Int)<=c.pulls
 up:Up apI l
 left: ∀a∈l,a.left≠0
theorem akX{l':List GAsk}(h:Pk c l)(hs:l'.Sublist l):Pk c l':=
 ⟨by have:=hs.length_le;have:=h.len;omega,h.up.sublist hs,fun a ha=>h.left a (hs.subset ha)⟩
theorem ajf(l:List GAsk)(a:GAsk):pIns l a=kG apI l a:=rfl
theorem aqZ(h:Pk c l)(a:GAsk):Pk c (pAdd l a c.pulls):=by
 unfold pAdd;split
 ·rename_i he;unfold pErr at he
  by_cases h1:a.left=0
  ·rw[if_pos h1]at he;cases he
  rw[if_neg h1]at he
  by_cases h2:pHas l a.id=true
  ·rw[if_pos h2]at he;cases he
  rw[if_neg h2]at he
  by_cases h3:c.pulls<=(l.length:Int)
  ·rw[if_pos h3]at he;cases he
  rw[ajf];refine⟨?_,wQ h.up fun y hy=>al8 fun e4=>h2 ?_,fun y hy=>?_⟩
  ·rw[(jC l a).length_eq,List.length_cons];omega
  ·unfold pHas;rw[List.any_eq_true];exact⟨y,hy,by simpa using e4⟩
  ·rcases lv.1 hy with rfl|hy
   ·exact h1
   ·exact h.left y hy
 ·exact h
theorem afh(h:Pk c l):Pk c (Eng.pTick l):=by
 unfold Eng.pTick;have h1:Pk c (l.filter fun a=> !decide (a.left.toNat<=1)):=akX h List.filter_sublist
 refine⟨by rw[List.length_map];exact h1.len,?_,?_⟩
 ·exact List.pairwise_map.2 h1.up
 ·intro a ha;obtain⟨y,hy,rfl⟩:=List.mem_map.1 ha;have h2:=(List.mem_filter.1 hy).2;simp only[Bool.not_eq_true',decide_eq_false_iff_not]at h2;intro h0;have h3:(y.left-1).toNat=0:=by rw[show y.left-1=0 from h0];rfl
  have hl:=y.left.toNat_lt;have h4:(y.left-1).toNat=y.left.toNat-1:=UInt8.toNat_sub_of_le _ _ (UInt8.le_iff_toNat_le.2 (by show 1<=_;omega))
  omega
structure Ew(c:an)(p:af)(k:Int):Prop where
 bf:Bf c p.buf
 pk:Pk c p.pulls
 rows: ∀r∈p.rows,l_ r c.window=true
 seq:p.seq.toNat<=c.last.toNat
 down:p.up=false->p.seq=0
 passed:0<=p.passed/\p.passed<=k
 evicted:0<=p.evicted/\p.evicted<=k
 collected:0<=p.collected/\p.collected<=k
theorem Ew.ev{k:Int}(h:Ew c p k)(g:Ev1 p q):Ew c q k:=
 ⟨by rw[g.buf];exact h.bf,by rw[g.pulls];exact h.pk,by rw[g.rows];exact h.rows,by rw[g.seq];exact h.seq,by rw[g.up,g.seq];exact h.down,by rw[g.passed];exact h.passed,by rw[g.evicted];exact h.evicted,by rw[g.collected];exact h.collected⟩
theorem Ew.more{k k':Int}(h:Ew c p k)(g:k<=k'):Ew c p k':=⟨h.bf,h.pk,h.rows,h.seq,h.down,⟨h.passed.1,by have:=h.passed.2;omega⟩,⟨h.evicted.1,by have:=h.evicted.2;omega⟩,⟨h.collected.1,by have:=h.collected.2;omega⟩⟩
theorem lG{k:Int}(hw:1<=c.window/\c.window<=64)(h:Ew c p k):Ew c (aV c p e).1 (k+1):=by
 by_cases ha:(aV c p e).2.1=true
 ·obtain⟨hu,hm⟩:=ot ha;obtain⟨hv,hn,hl,ho,r,hr,hrm⟩:=o0 hm;rw[sj hu hm];refine⟨alw h.bf ⟨hv,hn,hl⟩,akX h.pk (List.filter_sublist.trans List.filter_sublist),?_,h.seq,h.down,?_,⟨h.evicted.1,by have:=h.evicted.2;show p.evicted<=_;omega⟩,⟨h.collected.1,by have:=h.collected.2;show p.collected<=_;omega⟩⟩
  ·intro r' hr';obtain⟨i,hi⟩:=List.getElem?_of_mem hr';have hi:(p.rows.modify e.id.node.toNat fun r=>(cS r e.id c.window).1)[i]? =some r':=hi
   rw[List.getElem?_modify]at hi;cases hp:p.rows[i]? with
   |none=>rw[hp]at hi;cases hi
   |some v=>
    rw[hp]at hi;have hv:=h.rows v (List.mem_of_getElem? hp);have hi:(if e.id.node.toNat=i then (cS v e.id c.window).1 else v)=r':=by simpa using hi
    rw[<-hi];split
    ·exact xg hw hv
    ·exact hv
  ·show 0<=(if (dX p.buf e).2=52 then p.passed+1 else p.passed)/\(if (dX p.buf e).2=52 then p.passed+1 else p.passed)<=k+1
   have:=h.passed;split<;>omega
 ·rw[tw ha];exact h.more (by omega)
theorem sK{k:Int}{vals:List Int}{data:List UInt8}(hn:(p.node.toNat:Int)<c.nodes)(hw:1<=c.window/\c.window<=64)(h:Ew c p k):Ew c (aT c p vals data dr).1 (k+1):=by
 rcases ja (c:=c) (p:=p) (vals:=vals) (data:=data) (dr:=dr)with ⟨j,_,e1⟩|⟨h1,h2,h3,h4,h5,e1⟩
 ·rw[e1];exact h.more (by omega)
 ·rw[e1];have hl:=c.last.toNat_lt
  have hse:(p.seq+1).toNat=p.seq.toNat+1:=by
   rw[UInt32.toNat_add];show(p.seq.toNat+1) % _=_;omega
  have hi:=(sF.1 h2).2.2.2.1;have hi1:1<=p.inc.toNat:=hi;refine⟨alw (by split;exact yR h.bf _ _;exact h.bf) ⟨h2,hn,by show(p.seq+1).toNat<=_;omega⟩,h.pk,?_,by show(p.seq+1).toNat<=_;omega,fun hd=>?_,⟨h.passed.1,by have:=h.passed.2;show p.passed<=_;omega⟩,?_,⟨h.collected.1,by have:=h.collected.2;show p.collected<=_;omega⟩⟩
  ·intro r' hr';rcases List.mem_or_eq_of_mem_set hr' with hr'|rfl
   ·exact h.rows r' hr'
   ·refine(iW hw).2 (.inr ⟨fun e0=>?_,rfl,Nat.two_pow_pos _⟩)
    have:p.inc.toNat=0:=by rw[show p.inc=0 from e0];rfl
    omega
  ·have hd:p.up=false:=hd;rw[h1]at hd;cases hd
  ·have:=h.evicted;simp only[ib];split<;>exact⟨by omega,by omega⟩
end
section
variable {c:an} {p q:af} {m:aF} {dr:List UInt32} {b:eo} {e:GEvt} {x:GID} {o:ph} {l:List GAsk} {k:Int}
theorem Ew.pulls(h:Ew c p k){l:List GAsk}(g:Pk c l):Ew c { p with pulls:=l } k:=⟨h.bf,g,h.rows,h.seq,h.down,h.passed,h.evicted,h.collected⟩
theorem al_(h:Ew c p k):Ew c (cq p x) (k+1):=by
 unfold cq;split
 ·exact h.more (by omega)
 ·split
  ·exact⟨agO h.bf,h.pk,h.rows,h.seq,h.down,⟨h.passed.1,by have:=h.passed.2;show p.passed<=_;omega⟩,⟨h.evicted.1,by have:=h.evicted.2;show p.evicted<=_;omega⟩,by
    have:=h.collected;show 0<=p.collected+1/\p.collected+1<=k+1
    omega⟩
  ·exact h.more (by omega)
theorem tX: ∀(l:List GID) (p:af) (k:Int),Ew c p k->Ew c (l.foldl cq p) (k+l.length)
 |[],p,k,h=>h.more (by simp)
 |x::l,p,k,h=>(tX l _ _ (al_ (x:=x) h)).more (by rw[List.length_cons];omega)
theorem aeZ(hb:c.buffer<=64)(h:Ew c p k):Ew c (gI c p dr).1 (k+64):=by
 unfold gI;split
 ·exact h.more (by omega)
 ·have h1:Ew c (lB { p with pulls:=Eng.pTick p.pulls }) (k+(eIds p.buf.evs).length):=tX _ _ _ (h.pulls (afh h.pk))
  have hl:((eIds p.buf.evs).length:Int)<=64:=by
   rw[eIds,List.length_map];have:=h.bf.len;omega
  have h3:=(h1.more (show _<=k+64 by omega)).ev (afl (c:=c) (dr:=dr) (aH (dy c (ay c (bQ c (lB { p with pulls:=Eng.pTick p.pulls })) []) dr).1))
  exact⟨h3.bf,h3.pk,h3.rows,h3.seq,h3.down,h3.passed,h3.evicted,h3.collected⟩
theorem aeX{o:UInt8}: ∀(l:List GID) (s:List GAsk×List GID),Pk c s.1->Pk c (l.foldl (mn c o) s).1
 |[],s,h=>h
 | x::l,s,h=>by
  rw[List.foldl_cons];refine aeX l _ ?_;unfold mn;split
  ·exact h
  ·split
   ·exact aqZ h _
   ·exact h
theorem zm(h:Ew c p k):Ew c (bS c p m).1 k:=by
 unfold bS;split
 ·exact h
 ·split
  ·exact h
  ·split
   ·exact h
   ·split
    ·exact h
    ·have h1:=h.ev (eh (c:=c) m.origin.node m.origin.inc);exact⟨h1.bf,aeX _ _ h1.pk,h1.rows,h1.seq,h1.down,h1.passed,h1.evicted,h1.collected⟩
theorem nC(hw:1<=c.window/\c.window<=64)(h:Ew c p k):Ew c (bA c p m dr).1 (k+1):=by
 have hk:k<=k+1:=by omega
 unfold bA;split
 ·exact(h.ev ao2).more hk
 split
 ·exact h.more hk
 split
 ·exact(h.ev (eh _ _)).more hk
 simp only;have k1:=h.ev ((eh (c:=c) (p:=p) m.frm m.inc).trans (dh (c:=c) []));generalize ay c (au c p m.frm m.inc).1 []=q at k1;split
 ·rw[y_];exact(lG hw k1).ev (dh [])
 split
 ·exact(k1.ev (dh [])).more hk
 ·exact((zm k1).ev (dh [])).more hk
theorem yk(hb:0<=c.buffer)(hp:0<=c.pulls)(hw:1<=c.window/\c.window<=64)(nd:UInt8)(inc:UInt16)(up:Bool)(t:List aq)(hk:0<=k):Ew c { aY c nd with inc:=inc,up:=up,table:=t } k:=by
 refine⟨⟨rfl,by simpa[aY]using hb,List.Pairwise.nil,by simp[aY]⟩,⟨by simpa[aY]using hp,List.Pairwise.nil,by simp[aY]⟩,fun r hr=>?_,?_,fun _=>rfl,?_,?_,?_⟩
 ·have hr:r∈(aY c nd).rows:=hr;unfold aY at hr;rw[(List.mem_replicate.1 hr).2];exact(iW hw).2 (.inl ⟨rfl,rfl⟩)
 ·exact Nat.zero_le _
 ·exact⟨Int.le_refl 0,hk⟩
 ·exact⟨Int.le_refl 0,hk⟩
 ·exact⟨Int.le_refl 0,hk⟩
theorem wL(hb:0<=c.buffer/\c.buffer<=64)(hp:0<=c.pulls)(hw:1<=c.window/\c.window<=64)(hn:(p.node.toNat:Int)<c.nodes)(hk:0<=k)(h:Ew c p k):Ew c (mI c p o).1 (k+64):=by
 have hd:Ew c (zf c p) (k+64):=yk hb.1 hp hw p.node p.inc false _ (by omega)
 have h0:=h.more (show k<=k+64 by omega)
 unfold mI;split
 ·unfold bc;split
  ·exact h0
  ·split
   ·exact h0
   ·exact yk hb.1 hp hw p.node _ true _ (by omega)
 split
 ·exact hd
 split
 ·simp only;split
  ·exact h0
  ·split
   ·exact⟨h0.bf,h0.pk,h0.rows,h0.seq,h0.down,h0.passed,h0.evicted,h0.collected⟩
   ·exact h0
 split
 ·simp only;split
  ·exact h0
  ·exact hd
 split
 ·exact(sK hn hw h).more (by omega)
 split
 ·exact aeZ hb.2 h
 split
 ·exact(lG hw h).more (by omega)
 ·exact(nC hw h).more (by omega)
end
section
variable {c:an} {p q:af} {m:aF} {dr:List UInt32} {b:eo} {e:GEvt} {x y:GID} {o:ph}
structure St1(p q:af):Prop where
 reports:q.reports=p.reports
 table:q.table=p.table
 node:q.node=p.node
 rows:q.rows=p.rows
end
section
variable {c:an} {p q:af} {dr:List UInt32} {e:GEvt} {x y:GID} {vals:List Int} {data:List UInt8}
def Ownb(p:af):Prop:= ∀e∈p.buf.evs,e.id.node=p.node->e.id.inc.toNat<p.inc.toNat\/(e.id.inc=p.inc/\e.id.seq.toNat<=p.seq.toNat)
theorem anX{b:eo}{a:GEvt}(h:a∈(dX b e).1.evs):a=e\/a∈b.evs:=by grind [fQ,lv]
theorem Ownb.sub(h:Ownb p)(hs: ∀a∈q.buf.evs,a∈p.buf.evs)(h1:q.node=p.node)(h2:q.inc=p.inc)(h3:q.seq=p.seq):Ownb q:=fun a ha hn=>by
 rw[h2,h3];exact h a (hs a ha) (hn.trans h1)
theorem Ownb.ev(h:Ownb p)(g:Ev1 p q):Ownb q:=h.sub (by rw[g.buf];exact fun _ h=>h) g.node g.inc g.seq
end
structure Pl1(p q:af):Prop where
 node:q.node=p.node
 inc:q.inc=p.inc
 up:q.up=p.up
 filter:q.filter=p.filter
 view:q.view=p.view
 near:q.near=p.near
 ring:q.ring=p.ring
 wait:q.wait=p.wait
 table:q.table=p.table
 rows:q.rows.length=p.rows.length
 heard:q.heard.length=p.heard.length
structure EvF(q:af):Prop where
 evs:q.buf.evs.length<=4000000/\ ∀e∈q.buf.evs,e.vals.length<=4000000/\e.data.length<=4000000
 pulls:q.pulls.length<=4000000
structure NOk(c:an)(p:af)(m:aF):Prop where
 frm:m.frm=p.node
 inc:m.inc=p.inc
 ne:m.to≠p.node
 lt:(m.to.toNat:Int)<c.nodes
 ev:m.kind=10->cO c.schema m.ev=true
section
variable {c:an} {nd:UInt8} {p q r:af} {m:aF} {dr:List UInt32} {e:GEvt} {x:GID} {o:ph} {k:Int}
theorem Pl1.refl(p:af):Pl1 p p:=⟨rfl,rfl,rfl,rfl,rfl,rfl,rfl,rfl,rfl,rfl,rfl⟩
theorem eB(h:az c=true):0<=c.buffer/\c.buffer<=64/\0<=c.pulls/\c.pulls<=64/\1<=c.window/\c.window<=64:=by grind [az,inR]
theorem tz(h:cO c.schema e=true):e.vals.length=c.schema.length/\e.data.length<=64:=by grind [cO,fK]
theorem Ew.f(hc:az c=true)(h:Ew c p k):EvF p:=by
 have h1:=eB hc;have h2:=bJ hc;have h3:=h.bf.len;have h4:=h.pk.len;refine⟨⟨by omega,fun e he=>?_⟩,by omega⟩
 have:=tz (h.bf.evs e he).ok;omega
theorem aq2(h:okP p)(g:Pl1 p q)(hr:fP q.reports)(he:EvF q):okP q:=
 ⟨by rw[g.filter];exact h.filter,by rw[g.view];exact h.view,by rw[g.near];exact h.near,by rw[g.ring];exact h.succ,by rw[g.ring];exact h.pred,by rw[g.wait];exact h.sent,by rw[g.table];exact h.table,
  by rw[g.heard];exact h.heard,by rw[g.rows];exact h.rows,⟨by have:=hr.1;omega,hr.2⟩,he.evs,he.pulls⟩
theorem alD(h:okH p)(g:Pl1 p q)(hr:fP q.reports)(he:EvF q):okH q:=
 ⟨⟨aq2 h.g.ok g hr he,by rw[g.filter];exact h.g.filter,by rw[g.view];exact h.g.view,by rw[g.near];exact h.g.near,by rw[g.ring];exact h.g.succ,by rw[g.ring];exact h.g.pred,by rw[g.table];exact h.g.table⟩,
  hr,by rw[g.view];exact h.v8,by rw[g.node,g.view];exact h.vw⟩
theorem Go1.pl(g:Go1 c p q)(h:Pl1 q r)(hr:fP r.reports)(he:EvF r):Go1 c p r:=
 ⟨alD g.h h hr he,⟨by rw[h.table];exact g.pre.table,by rw[h.rows];exact g.pre.rows,by rw[h.heard];exact g.pre.heard,by rw[h.node,h.view];exact g.pre.view⟩,
  h.node.trans g.node,h.up.trans g.up,h.inc.trans g.inc,by rw[h.wait];exact g.ws,by rw[h.filter];exact g.f8,by rw[h.table];exact g.tab⟩
theorem ap6(h:Win c p)(g:Pl1 p q):Win c q:=
 ⟨by rw[g.table];exact h.table,by rw[g.rows];exact h.rows,by rw[g.heard];exact h.heard,by rw[g.view,g.node];exact h.view,by rw[g.near,g.node];exact h.near,
  by rw[g.view,g.near,g.ring];intro l hl d hd;rw[s7 g.node g.table];exact h.cur l hl d hd,by rw[g.near,g.filter];exact h.ovl,by rw[g.ring,g.view];exact h.ring⟩
theorem Bd.pl(h:Bd c nd p)(g:Pl1 p q)(hr:fP q.reports)(he:EvF q):Bd c nd q:=
 ⟨alD h.h g hr he,ap6 h.win g,g.node.trans h.node,by rw[g.wait];exact h.ws,by rw[g.filter];exact h.f8,by rw[g.up,g.view,g.near,g.ring,g.wait];exact h.dn⟩
theorem pl_accept:Pl1 p (aV c p e).1:=by
 unfold aV;split
 ·exact Pl1.refl p
 ·exact⟨rfl,rfl,rfl,rfl,rfl,rfl,rfl,rfl,rfl,by simp,rfl⟩
theorem wx:(aV c p e).1.reports=p.reports:=by
 unfold aV;split<;>rfl
theorem aeq{vals:List Int}{data:List UInt8}:Pl1 p (aT c p vals data dr).1/\(aT c p vals data dr).1.reports=p.reports:=by
 rcases ja (c:=c) (p:=p) (vals:=vals) (data:=data) (dr:=dr)with ⟨j,_,e1⟩|⟨h1,h2,h3,h4,h5,e1⟩
 ·rw[e1];exact⟨Pl1.refl p,rfl⟩
 ·rw[e1];exact⟨⟨rfl,rfl,rfl,rfl,rfl,rfl,rfl,rfl,rfl,by simp[ib],rfl⟩,rfl⟩
theorem amr:Pl1 p (cq p x)/\(cq p x).reports=p.reports:=by
 unfold cq;split
 ·exact⟨Pl1.refl p,rfl⟩
 ·split
  ·exact⟨⟨rfl,rfl,rfl,rfl,rfl,rfl,rfl,rfl,rfl,rfl,rfl⟩,rfl⟩
  ·exact⟨Pl1.refl p,rfl⟩
theorem Pl1.trans(h:Pl1 p q)(g:Pl1 q r):Pl1 p r:=
 ⟨g.node.trans h.node,g.inc.trans h.inc,g.up.trans h.up,g.filter.trans h.filter,g.view.trans h.view,g.near.trans h.near,g.ring.trans h.ring,g.wait.trans h.wait,g.table.trans h.table,g.rows.trans h.rows,g.heard.trans h.heard⟩
theorem zB: ∀(l:List GID) (p:af),Pl1 p (l.foldl cq p)/\(l.foldl cq p).reports=p.reports
 |[],p=>⟨Pl1.refl p,rfl⟩
 |x::l,p=>by
  have h1:=amr (p:=p) (x:=x);have h2:=zB l (cq p x);exact⟨h1.1.trans h2.1,h2.2.trans h1.2⟩
theorem qF:Pl1 p (lB { p with pulls:=Eng.pTick p.pulls })/\(lB { p with pulls:=Eng.pTick p.pulls }).reports=p.reports:=by
 have h:=zB (eIds p.buf.evs) { p with pulls:=Eng.pTick p.pulls };exact⟨Pl1.trans (q:={ p with pulls:=Eng.pTick p.pulls }) ⟨rfl,rfl,rfl,rfl,rfl,rfl,rfl,rfl,rfl,rfl,rfl⟩ h.1,h.2⟩
theorem MOk.n{M:aF}(h:MOk c p M):NOk c p M:=⟨h.frm,h.inc,h.ne,h.lt,fun e=>by have:=h.k9;rw[e]at this;exact absurd this (by decide)⟩
structure uG(c:an)(p q:af)(l:List aF):Prop where
 bd:Bd c p.node q
 ms: ∀m∈l,NOk c p m
theorem anw(h:Ew c p k):Ew c (lB { p with pulls:=Eng.pTick p.pulls }) (k+(eIds p.buf.evs).length):=tX _ _ _ (h.pulls (afh h.pk))
theorem afG(hc:az c=true)(hB:Bd c nd p)(hE:Ew c p k):Bd c nd (lB { p with pulls:=Eng.pTick p.pulls }):=
 hB.pl qF.1 (by rw[qF.2];exact hB.h.rs) ((anw hE).f hc)
theorem sa(hc:az c=true)(hB:Bd c nd p)(hE:Ew c p k):uG c p (gI c p dr).1 (gI c p dr).2:=by
 obtain rfl:=hB.node;unfold gI
 by_cases hu0:p.up=false
 ·rw[if_pos hu0];exact⟨hB,fun m hm=>absurd hm List.not_mem_nil⟩
 ·rw[if_neg hu0];have hu:p.up=true:=by simpa using hu0
  have h1:=afG hc hB hE;have g:=(qF (p:=p)).1;generalize lB { p with pulls:=Eng.pTick p.pulls }=p1 at h1 g;have s:=oE (dr:=dr) hc h1 (by rw[g.up];exact hu)
  simp only;generalize V.pTick c p1 dr (aH (dy c (ay c (bQ c p1) []) dr).1)=T at s;obtain⟨q,M⟩:=T;simp only at s ⊢;have hq:Bd c p.node q:=by have:=s.bd;rw[g.node]at this;exact this
  have hq2:Bd c p.node { q with count:=if q.count.toNat<4294967295 then q.count+1 else q.count }:=
   ⟨⟨⟨⟨hq.h.ok.filter,hq.h.ok.view,hq.h.ok.near,hq.h.ok.succ,hq.h.ok.pred,hq.h.ok.sent,hq.h.ok.table,hq.h.ok.heard,hq.h.ok.rows,hq.h.ok.reports,hq.h.ok.evs,hq.h.ok.pulls⟩,hq.h.g.filter,hq.h.g.view,hq.h.g.near,hq.h.g.succ,hq.h.g.pred,hq.h.g.table⟩,hq.h.rs,hq.h.v8,hq.h.vw⟩,
    ⟨hq.win.table,hq.win.rows,hq.win.heard,hq.win.view,hq.win.near,hq.win.cur,hq.win.ovl,hq.win.ring⟩,hq.node,hq.ws,hq.f8,hq.dn⟩
  refine⟨hq2,fun m hm=>?_⟩
  rcases List.mem_append.1 hm with hm|hm
  ·have h:=(s.ms m hm).n;exact⟨h.frm.trans g.node,h.inc.trans g.inc,by rw[<-g.node];exact h.ne,h.lt,h.ev⟩
  ·obtain⟨to,ht,rfl⟩:=List.mem_map.1 hm;have h:=gP hq2 ht;refine⟨hq.node,s.inc.trans g.inc,?_,h.2,fun e=>by cases e⟩
   have h2:to≠q.node:=h.1;rw[hq.node]at h2;exact h2
theorem pick_mem: ∀(n:Nat) (l:List UInt8) (dr:List UInt32) (x:UInt8),x∈iJ n l dr->x∈l
 |0,_,_,_,h=>by cases h
 | n+1,l,dr,x,h=>by
  unfold iJ at h;split at h
  ·cases h
  ·rename_i y hy;rcases List.mem_cons.1 h with rfl|h
   ·exact List.mem_of_getElem? hy
   ·exact(List.eraseIdx_sublist ..).subset (pick_mem n _ _ x h)
theorem vz{l:List UInt8}{h:UInt8}(hv:cO c.schema e=true)(hl: ∀x∈l,x≠p.node/\(x.toNat:Int)<c.nodes)(hn:q.node=p.node)(hi:q.inc=p.inc): ∀m∈f_ c q e h l dr,NOk c p m:=by
 intro m hm;obtain⟨to,ht,rfl⟩:=List.mem_map.1 hm;have h2:=hl to (pick_mem _ _ _ _ ht);exact⟨hn,hi,h2.1,h2.2,fun _=>hv⟩
theorem my{vals:List Int}{data:List UInt8}(hc:az c=true)(hB:Bd c nd p)(hE:Ew c p k):uG c p (aT c p vals data dr).1 (aT c p vals data dr).2.2.2.1:=by
 obtain rfl:=hB.node;have hr:=eB hc;have hn:(p.node.toNat:Int)<c.nodes\/ ¬(p.node.toNat:Int)<c.nodes:=Classical.em _;rcases ja (c:=c) (p:=p) (vals:=vals) (data:=data) (dr:=dr)with ⟨j,_,e1⟩|⟨h1,h2,h3,h4,h5,e1⟩
 ·rw[e1];exact⟨hB,fun m hm=>absurd hm List.not_mem_nil⟩
 ·have hp:=aeq (c:=c) (p:=p) (vals:=vals) (data:=data) (dr:=dr)
  have hb:EvF (aT c p vals data dr).1:=by
   have h6:=bJ hc;have hbl:=hE.bf
   have hlen: ∀b:eo,b.room=c.buffer->(b.evs.length:Int)<=c.buffer->(∀a∈b.evs,aqK c a)->(∀a∈(dX b (fy p vals data)).1.evs,a.vals.length<=4000000/\a.data.length<=4000000)/\(dX b (fy p vals data)).1.evs.length<=4000000:=by
    intro b hb1 hb2 hb3;constructor
    ·intro a ha
     have hv:cO c.schema a=true:=by
      rcases anX ha with rfl|ha
      ·exact h2
      ·exact(hb3 a ha).ok
     have:=tz hv;omega
    ·rcases fQ b (fy p vals data)with ⟨e2,_⟩|⟨e2,_⟩|⟨e2,_,e3⟩
     ·rw[e2];show b.evs.length<=_;omega
     ·rw[e2];show b.evs.length<=_;omega
     ·rw[e2];show(kG akb b.evs _).length<=_;rw[(jC b.evs _).length_eq,List.length_cons];omega
   rw[e1]
   have hcase:Bf c (if decide (p.buf.room<=(p.buf.evs.length:Int))=true then (cF p.buf p.node p.inc).1 else p.buf):=by
    split
    ·exact yR hbl _ _
    ·exact hbl
   obtain⟨k1,k2⟩:=hlen _ hcase.room hcase.len hcase.evs;exact⟨⟨k2,k1⟩,by have:=hE.pk.len;show p.pulls.length<=_;omega⟩
  refine⟨hB.pl hp.1 (by rw[hp.2];exact hB.h.rs) hb,?_⟩
  have hB2:=hB.pl hp.1 (by rw[hp.2];exact hB.h.rs) hb
  rw[e1]at hB2 ⊢;exact vz h2 (fun x hx=>gP hB2 hx) rfl rfl
theorem jS(hc:az c=true)(hB:Bd c nd p)(hE:Ew c p k):Bd c nd (aV c p e).1:=by
 have hr:=eB hc;exact hB.pl pl_accept (by rw[wx];exact hB.h.rs) ((lG (e:=e) ⟨hr.2.2.2.2.1,hr.2.2.2.2.2⟩ hE).f hc)
theorem zP{t:List (List GMark)}(h:fP t)(i:UInt8)(ks:List GMark):fP (bZ t i ks):=by
 have hs: ∀(ks:List GMark) (row:List GMark),(ks.foldl jd row).length=row.length:=by
  intro ks
  induction ks with
  |nil=>intro row;rfl
  | cons a ks ih=>
   intro row;rw[List.foldl_cons,ih];unfold jd;split
   ·rfl
   ·split
    ·rw[List.length_set]
    ·rfl
 refine⟨by unfold bZ;rw[List.length_modify];exact h.1,fun l hl=>?_⟩
 obtain⟨j,hj,rfl⟩:=List.getElem_of_mem hl;unfold bZ at hj ⊢;rw[List.getElem_modify];rw[List.length_modify]at hj;split
 ·rw[hs];exact h.2 _ (List.getElem_mem hj)
 ·exact h.2 _ (List.getElem_mem hj)
theorem zh(hc:az c=true)(hB:Bd c nd q)(hE:Ew c q k):Go1 c q (bS c q m).1/\ ∀x∈(bS c q m).2,NOk c q x:=by
 have hr:=eB hc;have hz:Go1 c q q/\ ∀x∈([]:List aF),NOk c q x:=⟨hB.go,fun x hx=>absurd hx List.not_mem_nil⟩
 have hw:=zm (m:=m) hE;unfold bS at hw ⊢;split
 ·exact hz
 rename_i h0;rw[if_neg h0]at hw;split
 ·exact hz
 rename_i kk hk;simp only[hk]at hw;split
 ·exact hz
 rename_i h1;rw[if_neg h1]at hw;split
 ·exact hz
 rename_i h2;rw[if_neg h2]at hw;have h2':(au c q m.origin.node m.origin.inc).2=true:=by simpa using h2
 have ht:=o9 h2';have g1:=hB.go.hear m.origin.node m.origin.inc
 have v1:(au c q m.origin.node m.origin.inc).1.view=q.view/\(au c q m.origin.node m.origin.inc).1.near=q.near/\(au c q m.origin.node m.origin.inc).1.ring=q.ring:=by
  unfold au;split
  ·exact⟨rfl,rfl,rfl⟩
  ·split
   ·exact⟨rfl,rfl,rfl⟩
   ·split<;>exact⟨rfl,rfl,rfl⟩
 simp only at hw ⊢;generalize (au c q m.origin.node m.origin.inc).1=a at g1 v1 hw;have e0:EvF a:=⟨g1.h.ok.evs,g1.h.ok.pulls⟩;have g2:Go1 c q { a with heard:=a.heard.set m.origin.node.toNat m.origin }:=g1.pl ⟨rfl,rfl,rfl,rfl,rfl,rfl,rfl,rfl,rfl,rfl,by simp⟩ g1.h.rs ⟨e0.evs,e0.pulls⟩
 have g3:=g2.learn m.table;have v3:(bu { a with heard:=a.heard.set m.origin.node.toNat m.origin } m.table).view=q.view/\(bu { a with heard:=a.heard.set m.origin.node.toNat m.origin } m.table).near=q.near/\(bu { a with heard:=a.heard.set m.origin.node.toNat m.origin } m.table).ring=q.ring:=v1;generalize bu { a with heard:=a.heard.set m.origin.node.toNat m.origin } m.table=b at g3 v3 hw;have e3:EvF b:=⟨g3.h.ok.evs,g3.h.ok.pulls⟩;have g4:Go1 c q { b with reports:=bZ b.reports m.origin.node m.marks }:=g3.pl ⟨rfl,rfl,rfl,rfl,rfl,rfl,rfl,rfl,rfl,rfl,rfl⟩ (zP g3.h.rs _ _) ⟨e3.evs,e3.pulls⟩;have v4:({ b with reports:=bZ b.reports m.origin.node m.marks }:af).view=q.view/\({ b with reports:=bZ b.reports m.origin.node m.marks }:af).near=q.near/\({ b with reports:=bZ b.reports m.origin.node m.marks }:af).ring=q.ring:=v3;generalize ({ b with reports:=bZ b.reports m.origin.node m.marks }:af)=d at g4 v4 hw;have g5:Go1 c q (iM c d m).1:=g4.pl ⟨rfl,rfl,rfl,rfl,rfl,rfl,rfl,rfl,rfl,rfl,rfl⟩ g4.h.rs (hw.f hc);refine⟨g5,fun x hx=>?_⟩
 rcases List.mem_append.1 hx with hx|hx
 ·unfold iM at hx;simp only at hx;split at hx
  ·cases hx
  ·rw[List.mem_singleton.1 hx];exact⟨g4.node,g4.inc,ht.2,ht.1,fun e=>by cases e⟩
 ·split at hx
  ·cases hx
  ·obtain⟨to,hto,rfl⟩:=List.mem_map.1 hx;have h5:to∈aH (iM c d m).1:=(List.mem_filter.1 hto).1
   have h6:aH (iM c d m).1=aH q:=by
    unfold aH bF;rw[show(iM c d m).1.view=q.view from v4.1,show(iM c d m).1.near=q.near from v4.2.1,show(iM c d m).1.ring=q.ring from v4.2.2]
   rw[h6]at h5;have h7:=gP hB h5;exact⟨g5.node,g5.inc,h7.1,h7.2,fun e=>by cases e⟩
theorem gV(hc:az c=true)(hB:Bd c nd p)(hE:Ew c p k)(hm:okMg m):uG c p (bA c p m dr).1 (bA c p m dr).2.1:=by
 obtain rfl:=hB.node;have hr:=eB hc;have hw:1<=c.window/\c.window<=64:=⟨hr.2.2.2.2.1,hr.2.2.2.2.2⟩;unfold bA;split
 ·have s:=(agE (dr:=dr) hc hB hm).1;exact⟨s.bd,fun x hx=>(s.ms x hx).n⟩
 split
 ·exact⟨hB,fun x hx=>absurd hx List.not_mem_nil⟩
 rename_i hnn hu0
 have hu:p.up=true:=by
  cases h:p.up with
  |true=>rfl
  |false=>exact absurd (.inl h) hu0
 split
 ·rename_i h;rw[tE h];exact⟨hB,fun x hx=>absurd hx List.not_mem_nil⟩
 rename_i hh;have hh':(au c p m.frm m.inc).2=true:=by simpa using hh
 have hf:=o9 hh';have s1:=(hB.go.hear m.frm m.inc).meet hc hu fT jD (ms:=[]) iv;have hE1:=hE.ev ((eh (c:=c) (p:=p) m.frm m.inc).trans (dh (c:=c) []));simp only;generalize ay c (au c p m.frm m.inc).1 []=q at s1 hE1;have hqu:q.up=true:=by rw[s1.up];exact hu
 have hqn:q.node=p.node:=s1.bd.node
 have lift: ∀{l:List aF},(∀x∈l,NOk c q x)-> ∀x∈l,NOk c p x:=fun h x hx=>by
  have h1:=h x hx;exact⟨h1.frm.trans hqn,h1.inc.trans s1.inc,by rw[<-hqn];exact h1.ne,h1.lt,h1.ev⟩
 have fin: ∀{r:af} {l:List aF},Go1 c q r->(∀x∈l,NOk c q x)->uG c p (ay c r []) l:=fun {r l} g h=>by
  have s:=g.meet hc hqu fT jD (ms:=[]) iv;refine⟨?_,lift h⟩;have:=s.bd;rw[hqn]at this;exact this
 split
 ·rw [y_];have hA:=jS (e:=m.ev) hc s1.bd hE1;have hE2:=lG (e:=m.ev) hw hE1;refine fin (s1.bd.go.pl pl_accept (by rw[wx];exact s1.bd.h.rs) (hE2.f hc)) fun x hx=>?_
  unfold js at hx;simp only at hx;split at hx
  ·cases hx
  ·rename_i ha;have ha':(aV c q m.ev).2.1=true:=by simpa using ha
   obtain⟨_,hmay⟩:=ot ha';split at hx
   ·cases hx
   ·exact vz (o0 hmay).1 (fun y hy=>by
     have h5:=(List.mem_filter.1 hy).1;have h6:=gP hA h5;rw[pl_accept.node]at h6
     exact h6) pl_accept.node pl_accept.inc x hx
 split
 ·refine fin s1.bd.go fun x hx=>?_
  unfold ku at hx;obtain⟨y,hy,h5⟩:=List.mem_filterMap.1 hx;obtain⟨e,he,rfl⟩:=Option.map_eq_some_iff.1 h5;have h6:=(hE1.bf.evs e (List.mem_of_find?_eq_some he)).ok;exact⟨rfl,rfl,by rw[hqn];exact hf.2,hf.1,fun _=>h6⟩
 ·have h:=zh (m:=m) hc s1.bd hE1;exact fin h.1 h.2
theorem sd(hc:az c=true)(hS: ∀s∈c.schema,okS s)(hB:Bd c nd p)(hE:Ew c p k)(hm:okMg o.m)(hfs: ∀s∈o.filter,okS s):uG c p (mI c p o).1 (mI c p o).2.1:=by
 obtain rfl:=hB.node;have hr:=bJ hc;have hz: ∀x∈([]:List aF),NOk c p x:=fun x hx=>absurd hx List.not_mem_nil
 unfold mI;split
 ·exact⟨(aa7 hc hB).1,hz⟩
 split
 ·exact⟨ae5 hc hB,hz⟩
 split
 ·refine⟨?_,hz⟩;show Bd c p.node (if p.up=false then p else _)
  split
  ·exact hB
  ·rename_i hu;have hu:p.up=true:=by simpa using hu
   obtain⟨n1,n2⟩:=jx (f:=o.filter) hS hfs (by omega)
   split
   ·exact((hB.go.filter n1 n2).meet hc hu fT jD iv).bd
   ·exact hB
 split
 ·show uG c p (if p.up=false then p else zf c p) (if p.up=false then []else (aH p).map (pMsg p 9))
  by_cases hu:p.up=false
  ·rw[if_pos hu,if_pos hu];exact⟨hB,hz⟩
  ·rw[if_neg hu,if_neg hu];refine⟨ae5 hc hB,fun x hx=>?_⟩
   obtain⟨y,hy,rfl⟩:=List.mem_map.1 hx;have h2:=gP hB hy;exact⟨rfl,rfl,h2.1,h2.2,fun e=>by cases e⟩
 split
 ·exact my hc hB hE
 split
 ·exact sa hc hB hE
 split
 ·exact⟨jS hc hB hE,hz⟩
 ·exact gV hc hB hE hm
end
section
variable {c:an} {p q:af} {dr:List UInt32} {o:ph} {m:aF} {a:GEvt}
def Ui(p:af):Prop:=p.up=true->1<=p.inc.toNat
theorem Ui.of(h:Ui p)(h1:q.inc=p.inc)(h2:q.up=p.up):Ui q:=fun hu=>by rw[h1];exact h (by rw[<-h2];exact hu)
end
end Go.Proofs.YtmhmahcdanclnaaGreat.V
namespace Go.Eng
section
variable {self:UInt8} {l:List GDesc} {d x:GDesc} {i:Nat}
def acC(l:List GDesc)(i:Nat):Prop:= ∃e,l[i]? =some e/\e.inc≠0
theorem air(h:acC l i):acC (eH self l d) i:=by
 obtain⟨e,h1,h2⟩:=h;unfold eH;split
 ·exact⟨e,h1,h2⟩
 ·rename_i h3;split
  ·split
   ·by_cases hi:d.node.toNat=i
    ·refine⟨d,?_,fun e0=>h3 (.inr e0)⟩
     rw[hi];exact List.getElem?_set_self (List.getElem?_eq_some_iff.1 h1).1
    ·exact⟨e,by rw[List.getElem?_set_ne hi];exact h1,h2⟩
   ·exact⟨e,h1,h2⟩
  ·exact⟨e,h1,h2⟩
theorem uR: ∀{ds l:List GDesc},acC l i->acC (d5 self l ds) i
 |[],_,h=>h
 |d::r,l,h=>uR (ds:=r) (l:=eH self l d) (air h)
theorem alc(hl:d.node.toNat<l.length)(h1:d.node≠self)(h2:d.inc≠0):acC (eH self l d) d.node.toNat:=by
 unfold eH;rw[if_neg (by rintro(e|e);exact h1 e;exact h2 e),List.getElem?_eq_getElem hl]
 simp only;split
 ·exact⟨d,List.getElem?_set_self hl,h2⟩
 ·rename_i h3;exact⟨_,List.getElem?_eq_getElem hl,fun e=>h3 (.inl e)⟩
theorem abc: ∀{ds l:List GDesc},x∈ds->x.node.toNat<l.length->x.node≠self->x.inc≠0->acC (d5 self l ds) x.node.toNat
 |d::r,l,hx,hl,h1,h2=>by
  show acC (d5 self (eH self l d) r) _;rcases List.mem_cons.1 hx with rfl|hx
  ·exact uR (alc hl h1 h2)
  ·exact abc hx (by rw[wy];exact hl) h1 h2
theorem tg(d:GDesc):fF d d=[d]:=by grind [fF]
theorem amU(n:Nat)(x:UInt8):dd (List.replicate (n+1) x)=[x]:=by
 have h: ∀n,(List.replicate n x).foldl h_ [x]=[x]:=fun n=>by
  induction n with
  |zero=>rfl
  |succ n ih=>rw[List.replicate_succ,List.foldl_cons,show h_ [x] x=[x]by simp[h_]];exact ih
 show(List.replicate (n+1) x).foldl h_ []=[x];rw[List.replicate_succ,List.foldl_cons,show h_ [] x=[x]by simp[h_]]
 exact h n
end
end Go.Eng
namespace Go.Proofs.YtmhmahcdanclnaaGreat.V
open Go.Eng
theorem aeu{self n:UInt8}{L:List (List GDesc)}(hn: ∀l∈L, ∀d∈l,d.node=n)(hs:n≠self)(hx: ∃l∈L, ∃x∈l,x.inc≠0): ∃d,bl self L=[d]/\d.node=n/\d.inc≠0:=by
 obtain⟨l,hl,x,hx,hi⟩:=hx;have hxn:=hn l hl x hx;have hnl:=x.node.toNat_lt;obtain⟨e,h1,h2⟩:=abc (self:=self) (l:=zL) (ds:=L.flatten) (x:=x) (List.mem_flatten.2 ⟨l,hl,hx⟩) (by unfold zL;rw[List.length_replicate];omega) (by rw[hxn];exact hs) hi
 have he:e∈bl self L:=List.mem_filter.2 ⟨List.mem_of_getElem? h1,by
  have:e.inc.toNat≠0:=fun e0=>h2 (UInt16.toNat_inj.1 e0)
  exact decide_eq_true (by omega)⟩
 have hall: ∀d∈bl self L,d.node=n:=fun d hd=>by
  obtain⟨k,h3,h4⟩:=f9 hd;exact hn k h3 d h4
 have hup:=union_up (self:=self) (L:=L);have hinc:=fun d (hd:d∈bl self L)=>vR hd
 generalize bl self L=U at he hall hup hinc;rcases U with _|⟨a,_|⟨b,r⟩⟩
 ·cases he
 ·exact⟨a,rfl,hall a (List.mem_singleton.2 rfl),hinc a (List.mem_singleton.2 rfl)⟩
 ·exfalso;have h:=(List.pairwise_cons.1 hup).1 b List.mem_cons_self;have e1:=hall a List.mem_cons_self;have e2:=hall b (List.mem_cons_of_mem _ List.mem_cons_self);simp only[cW,e1,e2]at h;omega
theorem akh(f:List GSpan):sx [] f=0:=by grind [sx,dL]
theorem ahV{p:af}{x:UInt8}(h: ∀y∈bF p,y=x)(h0:bF p≠[]):aH p=[x]:=by
 have hp:aS ltU (bF p)=List.replicate (bF p).length x:=List.eq_replicate_iff.2 ⟨bY,fun y hy=>h y ((lz _).mem_iff.1 hy)⟩
 unfold aH;rw[hp];obtain⟨n,hn⟩: ∃n,(bF p).length=n+1:=⟨(bF p).length-1,by have:=List.length_pos_iff.2 h0;omega⟩
 rw[hn,amU]
theorem qc(l:List GDesc):fScored [] l=[]:=by grind [fScored,List.filter_eq_nil_iff,akh]
section
variable {c:an} {p q:af} {d:GDesc} {k:UInt8} {m:aF} {dr:List UInt32}
theorem anx(hn:p.node=0)(hf:p.filter=[])(hv: ∀d∈p.view,d.node=1)(hr:p.ring=⟨true,true,d,d⟩)(h1:d.node=1)(h2:d.inc≠0)(hc:ch p d=true):
  ∃e:GDesc,e.node=1/\e.inc≠0/\ay c p []={ p with view:=pCur p p.view,near:=[],ring:=⟨true,true,e,e⟩ }:=by
 have hb:aR (bH p p.ring)=[d]:=by
  rw[hr];have:bH p ⟨true,true,d,d⟩=⟨true,true,d,d⟩:=by simp[bH,hc]
  rw[this];unfold aR;rw[if_pos ⟨rfl,rfl⟩,tg]
 have hm:pUse c p []=[]:=rfl
 obtain⟨e,he,he1,he2⟩: ∃e,bl 0 [pCur p p.view,[],[d],[]]=[e]/\e.node=1/\e.inc≠0:=aeu (n:=1) (self:=0) (by
   intro l hl x hx;simp only[List.mem_cons,List.not_mem_nil,or_false]at hl;rcases hl with rfl|rfl|rfl|rfl
   ·exact hv x (List.mem_filter.1 hx).1
   ·cases hx
   ·rw[List.mem_singleton.1 hx];exact h1
   ·cases hx) (by decide) ⟨[d],by simp,d,List.mem_singleton.2 rfl,h2⟩
 refine⟨e,he1,he2,?_⟩;have e5:ct p.filter p.node c.near [pCur p p.view,pCur p p.near,[d],[]]=[]:=pw (by rw[hf];exact qc _)
 have e6:cj c.schema (pSelf p) [pCur p p.view,[],[d],[]]=⟨true,true,e,e⟩:=qt (by show bl p.node _=_;rw[hn];exact he)
 unfold ay;simp only[hb,hm,e5,e6]
theorem ae8(hn:p.node=0)(ht:p.table[1]? =some ⟨1,1,k⟩)(h1:d.node=1)(h2:d.inc≠0):ch p d=true:=by
 unfold ch;rw[if_neg (by rw[hn,h1];decide),h1]
 show(match p.table[1]? with|none=>false|some m=>decide (m.inc<d.inc)||(decide (d.inc=m.inc)&&decide (m.state=1)))=true
 rw[ht]
 by_cases e:d.inc=1
 ·simp[e]
 ·have:(1:UInt16)<d.inc:=by
   rw[UInt16.lt_iff_toNat_lt];have g1:d.inc.toNat≠0:=fun e=>h2 (UInt16.toNat_inj.1 e)
   have g2:d.inc.toNat≠1:=fun e1=>e (UInt16.toNat_inj.1 e1)
   show 1<_;omega
  simp[this]
structure Kn(k:UInt8)(p:af):Prop where
 node:p.node=0
 up:p.up=true
 inc:p.inc=1
 filter:p.filter=[]
 view: ∀d∈p.view,d.node=1
 ring: ∃d:GDesc,p.ring=⟨true,true,d,d⟩/\d.node=1/\d.inc≠0
 own:p.table[0]? =some ⟨1,1,0⟩
 tab:p.table[1]? =some ⟨1,1,k⟩
 rep:(xF p.reports 1 0).inc=0
theorem Kn.of(h:Kn k p)(hf:q.filter=p.filter)(hr:q.reports=p.reports)(hu:q.up=p.up)(hi:q.inc=p.inc)(hn:q.node=p.node)(hv:q.view=p.view)(hg:q.ring=p.ring)(ht:q.table=p.table):Kn k q:=
 ⟨hn.trans h.node,hu.trans h.up,hi.trans h.inc,hf.trans h.filter,by rw[hv];exact h.view,by rw[hg];exact h.ring,by rw[ht];exact h.own,by rw[ht];exact h.tab,by rw[hr];exact h.rep⟩
theorem Kn.meet(h:Kn k p):Kn k (ay c p [])/\(ay c p []).near=[]:=by
 obtain⟨d,h1,h2,h3⟩:=h.ring;obtain⟨e,e1,e2,e3⟩:=anx (c:=c) h.node h.filter h.view h1 h2 h3 (ae8 h.node h.tab h2 h3);rw[e3];exact⟨⟨h.node,h.up,h.inc,h.filter,fun x hx=>h.view x (List.mem_filter.1 hx).1,⟨e,rfl,e1,e2⟩,h.own,h.tab,h.rep⟩,rfl⟩
theorem Kn.links(h:Kn k p)(hn:p.near=[]):aH p=[1]:=by
 obtain⟨d,h1,h2,h3⟩:=h.ring
 have e:aR p.ring=[d]:=by
  rw[h1];unfold aR;rw[if_pos ⟨rfl,rfl⟩,tg]
 refine ahV (fun y hy=>?_) ?_
 ·unfold bF at hy;rw[hn,e]at hy;simp only[List.flatten_cons,List.flatten_nil,List.append_nil,List.nil_append,List.map_append,List.mem_append,List.mem_map,List.map_cons,List.map_nil,List.mem_singleton]at hy;rcases hy with ⟨x,hx,rfl⟩|rfl
  ·exact h.view x hx
  ·exact h2
 ·unfold bF;rw[hn,e];simp
theorem older_node(d:GDesc):d.older.node=d.node/\d.older.inc=d.inc:=by
 unfold GDesc.older;split<;>exact⟨rfl,rfl⟩
theorem Kn.aged(h:Kn 0 p)(hs:2<=c.suspect):Kn 1 (bQ c p):=by
 have hv: ∀d∈cf p.view,d.node=1:=fun d hd=>by
  obtain⟨e,h1,rfl⟩:=jz hd;rw[(older_node e).1];exact h.view e h1
 obtain⟨d,h1,h2,h3⟩:=h.ring;refine⟨h.node,h.up,h.inc,h.filter,fun x hx=>?_,⟨d.older,?_,?_,?_⟩,?_,?_,h.rep⟩
 ·unfold bQ at hx;simp only at hx;split at hx
  ·exact hv x (List.mem_filter.1 hx).1
  ·exact hv x hx
 ·show i7 p.ring=_;rw[h1];rfl
 ·rw[(older_node d).1];exact h2
 ·rw[(older_node d).2];exact h3
 ·have:=(al0 (c:=c) (p:=p)).own;rw[h.node]at this;exact this.trans h.own
 ·show(gi p.table p.node c.suspect)[1]? =_;unfold gi;rw[List.getElem?_mapIdx,h.tab,Option.map_some,h.node];unfold mTk;rw[if_neg (by decide)]
  have:nr c.suspect (mQ ⟨1,1,0⟩)=false:=by
   have e:mQ ⟨1,1,0⟩=⟨1,1,1⟩:=by decide
   rw[e];unfold nr
   have: ¬c.suspect<=(((1:UInt8).toNat:Nat):Int):=by
    show ¬c.suspect<=1;omega
   simp only[decide_eq_false this,Bool.and_false]
  rw[this];rfl
theorem Kn.ask(h:Kn k p)(hn:p.near=[]):Kn k (dy c p dr).1/\(dy c p dr).1.near=[]:=by
 unfold dy;simp only;split
 ·exact⟨⟨h.node,h.up,h.inc,h.filter,h.view,h.ring,h.own,h.tab,h.rep⟩,hn⟩
 ·exact⟨h,hn⟩
theorem Kn.hear(hc:(p.table.length:Int)=c.nodes)(h2:2<=c.nodes)(h:Kn k p):(au c p 1 1).2=true/\Kn 0 (au c p 1 1).1:=by
 have hh:=rU (c:=c) (p:=p) (node:=1) (inc:=1) (m:=⟨1,1,k⟩) (by show(1:Int)<_;omega) hc (by rw[h.node];decide) (by decide) h.tab (show ¬(1:UInt16)<1 by decide) (show ¬((1:UInt16)=1/\(1:UInt8)=3)by decide)
 rw[hh];refine⟨rfl,⟨h.node,h.up,h.inc,h.filter,h.view,h.ring,?_,?_,?_⟩⟩
 ·show(de p.table 1 1)[0]? =_;rw[jj,h.own,if_neg (by decide)]
  rfl
 ·show(de p.table 1 1)[1]? =_;rw[jj,h.tab,if_pos (by decide),Option.map_some]
  unfold gE;rw[if_pos (.inr ⟨rfl,by decide,show(1:UInt8)≠3 by decide⟩)]
 ·exact h.rep
end
end Go.Proofs.YtmhmahcdanclnaaGreat.V
namespace Go.Eng
theorem aom(a b:UInt32):((a.toNat:Int)==b.toNat)=decide (a=b):=by
 rw[Bool.eq_iff_iff];simp only[beq_iff_eq,decide_eq_true_eq];rw[<-UInt32.toNat_inj];omega
theorem asC(x:UInt32):((x.toNat:Int)==0)=decide (x=0):=aom x 0
theorem ap4(a b:UInt8):((a.toNat:Int) !=b.toNat)= !decide (a=b):=by rw[bne,cE]
theorem apv(a b:UInt16):((a.toNat:Int) !=b.toNat)= !decide (a=b):=by rw[bne,eV]
theorem xK{a b:Nat}:decide ((a:Int)<(b:Int))=decide (a<b):=by rw[Bool.eq_iff_iff];simp
theorem zG{a b:Nat}:decide ((a:Int)<=(b:Int))=decide (a<=b):=by rw[Bool.eq_iff_iff];simp
end Go.Eng
namespace Go.Proofs.YtmhmahcdanclnaaGreat.V
open Go.Eng
attribute [local go_sem] aQ ah fzD plR a_ aN aP aD aB ak aE aU z8 z16 z32 z64 encMg aO
theorem aaL(a b:GID):Con2 Tryz.prog 161 [.agg (aO a),.agg (aO b)] (· =plR (.v (.bool (a.less b)))):=by
 refine Con2.ofEmb ?_;have ha:=a.bd;have hb:=b.bd;rw[GID.less_iff];refine en_ Tryz.func161 [.tmp 4] (g2_ ?_);refine g2_ ?_;refine ez (fun h=>?_) (fun h=>?_)
 ·((try (with_reducible refine av ?_));(try simp-implicitDefEqProofs only[go_sem,ab]);repeat ((first|(with_reducible refine av ?_)|(with_reducible refine cN (by omega) ?_)|(with_reducible refine And.intro (by omega) ?_));(try simp-implicitDefEqProofs only[go_sem,ab])))
  refine ae ?_ rfl;refine g2_ ?_;refine congrArg Value.bool ?_;rw[Bool.eq_iff_iff];simp only[decide_eq_true_eq];omega
 ·((try (with_reducible refine av ?_));(try simp-implicitDefEqProofs only[go_sem,ab]);repeat ((first|(with_reducible refine av ?_)|(with_reducible refine cN (by omega) ?_)|(with_reducible refine And.intro (by omega) ?_));(try simp-implicitDefEqProofs only[go_sem,ab])))
  refine ez (fun h2=>?_) (fun h2=>?_)
  ·((try (with_reducible refine av ?_));(try simp-implicitDefEqProofs only[go_sem,ab]);repeat ((first|(with_reducible refine av ?_)|(with_reducible refine cN (by omega) ?_)|(with_reducible refine And.intro (by omega) ?_));(try simp-implicitDefEqProofs only[go_sem,ab])))
   refine ae ?_ rfl;refine g2_ ?_;refine congrArg Value.bool ?_;rw[Bool.eq_iff_iff];simp only[decide_eq_true_eq];omega
  ·((try (with_reducible refine av ?_));(try simp-implicitDefEqProofs only[go_sem,ab]);repeat ((first|(with_reducible refine av ?_)|(with_reducible refine cN (by omega) ?_)|(with_reducible refine And.intro (by omega) ?_));(try simp-implicitDefEqProofs only[go_sem,ab])))
   refine ae ?_ rfl;refine g2_ ?_;refine congrArg Value.bool ?_;rw[Bool.eq_iff_iff];simp only[decide_eq_true_eq];omega
theorem rF(a b:GMark):Con2 Tryz.prog 253 [.agg (aN a),.agg (aN b)] (· =plR (.v (.bool (jV a b)))):=by
 refine Con2.ofEmb ?_;unfold jV;refine en_ Tryz.func253 [.tmp 4] (g2_ ?_);refine g2_ ?_;refine ez (fun h=>?_) (fun h=>?_)
 ·rw[if_pos (fun e=>h (by rw[e]))]
  refine g2_ ?_;refine ae ?_ rfl;exact ws_
 ·have e:a.node=b.node:=UInt8.toNat_inj.1 (by omega)
  rw[if_neg (fun g=>g e)]
  refine g2_ ?_;refine ez (fun h2=>?_) (fun h2=>?_)
  ·rw[if_pos (fun e=>h2 (by rw[e]))]
   ((try (with_reducible refine av ?_));(try simp-implicitDefEqProofs only[go_sem,ab]);repeat ((first|(with_reducible refine av ?_)|(with_reducible refine cN (by omega) ?_)|(with_reducible refine And.intro (by omega) ?_));(try simp-implicitDefEqProofs only[go_sem,ab])))
   refine ae ?_ rfl;exact wf_ @xK
  ·have e:a.inc=b.inc:=UInt16.toNat_inj.1 (by omega)
   rw[if_neg (fun g=>g e)]
   refine g2_ ?_;refine ae ?_ rfl;exact wf_ @xK
theorem vl(h:UInt8):Con2 Tryz.prog 250 [.v (.int .u8 h.toNat)] (· =plR (.tup [.v (.int .u8 (if h=0 then 0 else h-1:UInt8).toNat),.v (.bool (!decide (h=0)))])):=by
 refine Con2.ofEmb ?_;have hl:=h.toNat_lt;refine en_ Tryz.func250 [.tmp 2,.tmp 3] (g2_ ?_);refine g2_ ?_;refine ly (fun e=>?_) (fun e=>?_)
 ·have e2:h=0:=UInt8.toNat_inj.1 (by show h.toNat=0;omega)
  subst e2;refine g2_ ?_;refine ae ?_ rfl;exact ws_
 ·have e2:h≠0:=fun g=>e (by rw[g];rfl)
  have e3:(h-1).toNat=h.toNat-1:=UInt8.toNat_sub_of_le _ _ (UInt8.le_iff_toNat_le.2 (by show 1<=_;omega))
  have e4:h.toNat≠0:=by omega
  have e5:((h.toNat-1:Nat):Int)=(h.toNat:Int)-1:=by omega
  rw[if_neg e2,decide_eq_false e2,e3,e5];refine g2_ ?_;refine iq (by omega) ?_
  refine g2_ ?_;refine ae ?_ rfl;exact ws_
theorem nk(m:GMark)(x:GID):Con2 Tryz.prog 69 [.agg (aN m),.agg (aO x)] (· =plR (.v (.bool (np m x)))):=by
 refine Con2.ofEmb ?_;unfold np;refine en_ Tryz.func69 [.tmp 4] (g2_ ?_);refine g2_ ?_
 by_cases h:x.inc.toNat<m.inc.toNat
 ·rw[decide_eq_true h,decide_eq_true (show(x.inc.toNat:Int)<m.inc.toNat by omega)]
  refine g2_ ?_;refine ae ?_ rfl;exact ws_
 ·rw[decide_eq_false h,decide_eq_false (show ¬(x.inc.toNat:Int)<m.inc.toNat by omega)]
  refine g2_ ?_;rw[eV]
  by_cases h2:m.inc=x.inc
  ·rw[decide_eq_true h2];refine g2_ ?_;refine ae ?_ rfl;exact wf_ @zG
  ·rw[decide_eq_false h2];refine g2_ ?_;refine ae ?_ rfl;exact ws_
theorem alO(s:GSpan)(v:Int):Con2 Tryz.prog 73 [.agg (aQ s),.v (.int .i32 v)] (· =plR (.v (.bool (decide (s.a<=v)&&decide (v<=s.b))))):=by
 refine Con2.ofEmb ?_;refine en_ Tryz.func73 [.tmp 4] (g2_ ?_);refine g2_ ?_
 by_cases h:s.a<=v
 ·rw[decide_eq_true h];refine g2_ ?_;refine ae ?_ rfl;exact ws_
 ·rw[decide_eq_false h];refine g2_ ?_;refine ae ?_ rfl;exact ws_
theorem adB(x:GID)(n:Int)(last:UInt32):Con2 Tryz.prog 373 [.agg (aO x),.v (.int .i64 n),.v (.int .u32 last.toNat)] (· =plR (.v (.bool (j4 x n last)))):=by
 refine Con2.ofEmb ?_;unfold j4;have hx:=x.bd;refine en_ Tryz.func373 [.tmp 6] (g2_ ?_);refine g2_ ?_
 by_cases h1:(x.node.toNat:Int)<n
 ·rw[decide_eq_true h1];refine g2_ ?_
  by_cases h2:1<=x.inc.toNat
  ·rw[decide_eq_true h2,decide_eq_true (show(1:Int)<=x.inc.toNat by omega)]
   refine g2_ ?_
   by_cases h3:1<=x.seq.toNat
   ·rw[decide_eq_true h3,decide_eq_true (show(1:Int)<=x.seq.toNat by omega)]
    refine g2_ ?_;refine ae ?_ rfl;exact wf_ @zG
   ·rw[decide_eq_false h3,decide_eq_false (show ¬(1:Int)<=x.seq.toNat by omega)]
    refine g2_ ?_;refine ae ?_ rfl;exact ws_
  ·rw[decide_eq_false h2,decide_eq_false (show ¬(1:Int)<=x.inc.toNat by omega)]
   refine g2_ ?_;refine ae ?_ rfl;exact ws_
 ·rw[decide_eq_false h1];refine g2_ ?_;refine ae ?_ rfl;exact ws_
theorem agW(w:Int):Con2 Tryz.prog 182 [.v (.int .i64 w)] (· =plR (.v (.bool (oJ w)))):=by
 refine Con2.ofEmb ?_;unfold oJ;refine en_ Tryz.func182 [.tmp 2] (g2_ ?_);refine g2_ ?_
 by_cases h:1<=w
 ·rw[decide_eq_true h];refine g2_ ?_;refine ae ?_ rfl;exact ws_
 ·rw[decide_eq_false h];refine g2_ ?_;refine ae ?_ rfl;exact ws_
theorem aaq(n:UInt8)(r:GRow):Con2 Tryz.prog 70 [.v (.int .u8 n.toNat),.agg (aD r)] (· =plR (.agg (aN (rwMark n r)))):=by
 refine Con2.ofEmb ?_;refine en_ Tryz.func70 [.cell 4 57] (g2_ ?_);refine g2_ ?_;refine ae ?_ rfl;exact wf_ @rwMark.eq_1
end Go.Proofs.YtmhmahcdanclnaaGreat.V
namespace Go.Eng
section
variable {P:Program} {T:TypeId} {y z:Operand} {Kv:Value->Prop} {k2:IntKind}
theorem abt{n:Nat}(h:n<18446744073709551616):IntKind.u64.wrap (n:Int)=n:=by
 simp only[IntKind.wrap,show IntKind.u64.bits=64 from rfl,show IntKind.u64.signed=false from rfl,Bool.false_and,Bool.false_eq_true,if_false]
 omega
theorem yT{a:Nat}(h:a<18446744073709551616):AtPure P (bI .and T y z (.int .u64 a) (.int .u64 1)) Kv=Kv (.int .u64 (a % 2:Nat)):=by
 rw[ae_,abt (BitVec.isLt _)]
 congr 3
 show(BitVec.ofInt 64 (a:Int) &&& BitVec.ofInt 64 1).toNat=a % 2;rw[BitVec.toNat_and,BitVec.ofInt_natCast,BitVec.toNat_ofNat,Nat.mod_eq_of_lt (by omega),show(BitVec.ofInt 64 1).toNat=1 from rfl,Nat.and_one_is_mod]
theorem ae6{a n:Nat}{m:Int}(hm:m=n)(hn:n<64):AtPure P (bI .shr T y z (.int .u64 a) (.int k2 m)) Kv=Kv (.int .u64 (a / 2^n:Nat)):=by
 subst hm;rw[qJ (by omega),show min (Int.toNat (n:Int)) IntKind.u64.bits=n from by show min (Int.toNat (n:Int)) 64=n;simp;omega]
 congr 2
 have h2:(2:Int)^n=((2^n:Nat):Int):=by simp
 rw[h2,Int.fdiv_eq_ediv_of_nonneg _ (Int.natCast_nonneg _)];rfl
theorem ajV{m:Int}{n:Nat}(hm:m=n)(hn:n<64):AtPure P (bI .shl T y z (.int .u64 1) (.int k2 m)) Kv=Kv (.int .u64 (2^n:Nat)):=by
 subst hm;rw[yb (by omega),show min (Int.toNat (n:Int)) IntKind.u64.bits=n from by show min (Int.toNat (n:Int)) 64=n;simp;omega]
 have h1:2^n<18446744073709551616:=Nat.lt_of_le_of_lt (Nat.pow_le_pow_right (by decide) (show n<=63 by omega)) (by decide)
 have h3:(1:Int)*2^n=((2^n:Nat):Int):=by simp
 rw[h3];generalize 2^n=q at h1 ⊢;rw[jk ⟨by omega,by omega⟩]
theorem aqT{a b:Nat}(ha:a<18446744073709551616)(hb:b<18446744073709551616):AtPure P (bI .or T y z (.int .u64 a) (.int .u64 b)) Kv=Kv (.int .u64 (a ||| b:Nat)):=by
 rw[aql,abt (BitVec.isLt _)]
 congr 3
 show(BitVec.ofInt 64 (a:Int) ||| BitVec.ofInt 64 (b:Int)).toNat=a ||| b;rw[BitVec.toNat_or,BitVec.ofInt_natCast,BitVec.ofInt_natCast,BitVec.toNat_ofNat,BitVec.toNat_ofNat,Nat.mod_eq_of_lt (by omega),Nat.mod_eq_of_lt (by omega)]
theorem yi{a:UInt32}{K:Value->Prop}:bj .u32 ((a.toNat:Int)+1) K=K (.int .u32 ((a+1).toNat:Nat)):=by
 have h:=a.toNat_lt;have e:(a+1).toNat=(a.toNat+1) % 4294967296:=by rw[UInt32.toNat_add];rfl
 unfold bj;rw[e]
 congr 2
end
theorem lO{a:Int}{K:Value->Prop}(h:0<=a/\a<=18446744073709551615)(hk:K (.int .u64 a)):bj .u64 a K:=by rw[jk h];exact hk
theorem aoW(a n:Nat):(((a / 2^n % 2:Nat):Int)==1)=a.testBit n:=by grind
theorem zJ: ∀(n:Nat) (r:GRow),r.bits.toNat % 2≠1->dG n r=r
 |0,_,_=>rfl
 |n+1,r,h=>by rw[dG,if_neg h]
def sA(r:GRow):GRow:=⟨r.inc,r.pre+1,UInt64.ofNat (r.bits.toNat / 2)⟩
theorem kJ(r:GRow):(sA r).bits.toNat=r.bits.toNat / 2:=UInt64.toNat_ofNat_of_lt' (Nat.lt_of_le_of_lt (Nat.div_le_self _ _) r.bits.toNat_lt)
def rwF(R g:GRow):Prop:= ∃n,dG n g=R/\g.bits.toNat<2^n
theorem ajt{R g:GRow}(h:rwF R g)(hb:g.bits.toNat % 2=1):rwF R (sA g)/\(sA g).bits.toNat<g.bits.toNat:=by
 obtain⟨n,h1,h2⟩:=h;refine⟨?_,by rw[kJ];omega⟩
 cases n with
 |zero=>simp at h2;omega
 |succ n=>
  rw[dG,if_pos hb]at h1;refine⟨n,h1,?_⟩;rw[kJ];rw[Nat.pow_succ]at h2;omega
theorem anE{R g:GRow}(h:rwF R g)(hb:g.bits.toNat % 2≠1):g=R:=by
 obtain⟨n,h1,_⟩:=h;rw[<-h1,zJ n g hb]
end Go.Eng
namespace Go.Proofs.YtmhmahcdanclnaaGreat.V
open Go.Eng
attribute [local go_sem] aQ ah fzD plR a_ aN aP aD aB ak aE aU z8 z16 z32 z64 encMg aO
theorem aii(r:GRow)(s:UInt32):Con2 Tryz.prog 74 [.agg (aD r),.v (.int .u32 s.toNat)] (· =plR (.v (.bool (dt r s)))):=by
 refine Con2.ofEmb ?_;have hs:=s.toNat_lt;have hb:=r.bits.toNat_lt;unfold dt;refine en_ Tryz.func74 [.tmp 4] (g2_ ?_);refine g2_ ?_;refine ly (fun e=>?_) (fun e=>?_)
 ·rw[if_pos (UInt32.toNat_inj.1 (by show s.toNat=0;omega))]
  refine g2_ ?_;refine ae ?_ rfl;exact ws_
 ·have e0:s.toNat≠0:=by omega
  rw[if_neg (fun g=>e0 (by rw[g];rfl))]
  refine g2_ ?_;refine bb (fun h=>?_) (fun h=>?_)
  ·rw[if_pos (by omega)]
   refine g2_ ?_;refine ae ?_ rfl;exact ws_
  ·rw[if_neg (by omega)]
   have e1:((s.toNat:Int)-r.pre.toNat-1)=(rwBit r s:Nat):=by unfold rwBit;omega
   refine g2_ ?_;refine nn (by omega) ?_
   refine g2_ ?_;refine nn (by omega) ?_
   refine g2_ ?_;rw[e1];refine g2_ ?_
   by_cases h6:rwBit r s<64
   ·rw[decide_eq_true h6,decide_eq_true (show((rwBit r s:Nat):Int)<64 by omega)]
    refine g2_ ?_;rw[ae6 rfl h6];refine g2_ ?_;rw[yT (Nat.lt_of_le_of_lt (Nat.div_le_self _ _) hb)];refine g2_ ?_;rw[aoW];refine ae ?_ rfl;exact ws_
   ·rw[decide_eq_false h6,decide_eq_false (show ¬((rwBit r s:Nat):Int)<64 by omega)]
    refine g2_ ?_;refine ae ?_ rfl;exact ws_
theorem aa8(r:GRow)(s:UInt32)(w:Int)(hw:1<=w/\w<=64):Con2 Tryz.prog 304 [.agg (aD r),.v (.int .u32 s.toNat),.v (.int .i64 w)] (· =plR (.v (.bool (akC r s w)))):=by
 refine Con2.ofEmb ?_;have hs:=s.toNat_lt;have hb:=r.pre.toNat_lt;unfold akC;refine en_ Tryz.func304 [.tmp 6] (g2_ ?_);refine g2_ ?_;refine lO (by omega) ?_
 refine g2_ ?_;refine lO (by omega) ?_
 refine g2_ ?_;refine lO (by omega) ?_
 refine g2_ ?_;refine lO (by omega) ?_
 refine g2_ ?_;refine ae ?_ rfl;exact ws_
theorem qK(r:GRow)(x:GID)(w:Int):Con2 Tryz.prog 229 [.agg (aD r),.agg (aO x),.v (.int .i64 w)] (· =plR (.v (.bool (gH r x w)))):=by
 refine Con2.ofEmb ?_;have hx:=x.bd;have c1:=aii (gl r x) x.seq;obtain⟨R,hR⟩: ∃R,gH r x w=R:=⟨_,rfl⟩;rw[hR];unfold gH at hR;refine ev_ Tryz.func229 [.tmp 6] ?_;refine Vc2.sq (g2_ ?_);refine Vc2.sq (g2_ ?_);refine ce_ (agW w) (g2_ ?_)
 by_cases h1:oJ w=false
 ·rw[if_pos (.inl h1)]at hR;subst hR;rw[h1];refine g2_ ?_;refine ae ?_ rfl;exact ws_
 have h1':oJ w=true:=by simpa using h1
 have hw:1<=w/\w<=64:=by simpa[oJ]using h1'
 have c2:=aa8 (gl r x) x.seq w hw;rw[h1'];refine g2_ ?_;rw[vo]
 by_cases h2:x.inc=0
 ·rw[if_pos (.inr (.inl h2))]at hR;subst hR;rw[decide_eq_true h2];refine g2_ ?_;refine ae ?_ rfl;exact ws_
 rw[decide_eq_false h2];refine g2_ ?_;rw[asC]
 by_cases h3:x.seq=0
 ·rw[if_pos (.inr (.inr (.inl h3)))]at hR;subst hR;rw[decide_eq_true h3];refine g2_ ?_;refine ae ?_ rfl;exact ws_
 rw[decide_eq_false h3];refine g2_ ?_
 by_cases h4:x.inc.toNat<r.inc.toNat
 ·rw[if_pos (.inr (.inr (.inr h4)))]at hR;subst hR;rw[decide_eq_true (show(x.inc.toNat:Int)<r.inc.toNat by omega)]
  refine g2_ ?_;refine ae ?_ rfl;exact ws_
 rw[if_neg (by simp[h1',h2,h3,h4])]at hR
 subst hR;rw[decide_eq_false (show ¬(x.inc.toNat:Int)<r.inc.toNat by omega)]
 refine g2_ ?_;refine Vc2.seqJ (γ:=Unit) (fun _=>⟨[(2,.d (.v (.int .i64 w))),(3,.loc 3 0),(4,.loc 4 0)],[(4,⟨aO x,54⟩),(3,⟨aD (gl r x),84⟩)],[],0,0⟩) (fun _=>True) ?_ (fun _ _=>?_)
 ·refine g2_ ?_;refine bb (fun h=>?_) (fun h=>?_)
  ·have e:gl r x=⟨x.inc,0,0⟩:=if_pos (by omega)
   rw[e];refine g2_ ?_;refine⟨(),aa [] ?_⟩;exact ws_
  ·have e:gl r x=r:=if_neg (by omega)
   rw[e];refine g2_ ?_;refine⟨(),aa [] ?_⟩;exact ws_
 ·generalize gl r x=q at c1 c2;refine Vc2.of ?_;refine g2_ ?_;refine ce_ c1 (g2_ ?_);cases h5:dt q x.seq with
  |true=>
   refine g2_ ?_;refine ae ?_ rfl;exact ws_
  |false=>
   refine g2_ ?_;refine ce_ c2 (g2_ ?_);refine ae ?_ rfl;exact ws_
theorem agC(r:GRow)(x:GID)(w:Int):Con2 Tryz.prog 137 [.agg (aD r),.agg (aO x),.v (.int .i64 w)] (· =plR (.tup [.agg (aD (cS r x w).1),.v (.bool (cS r x w).2)])):=by
 refine Con2.ofEmb ?_;have hx:=x.bd;unfold cS;refine ev_ Tryz.func137 [.cell 6 84,.tmp 7] ?_;refine Vc2.sq (g2_ ?_);refine Vc2.sq (g2_ ?_);refine ce_ (qK r x w) (g2_ ?_);cases h1:gH r x w with
 |false=>
  rw[if_neg (by decide)]
  refine g2_ ?_;refine ae ?_ rfl;exact ws_
 | true=>
  rw[if_pos rfl];refine g2_ ?_;have hm:=h1;unfold gH at hm;split at hm
  ·cases hm
  rename_i hn;obtain⟨m1,m2⟩:=(Bool.and_eq_true _ _).mp hm
  have hok:1<=w/\w<=64:=by
   have:oJ w=true:=by
    cases h:oJ w with
    |true=>rfl
    |false=>exact absurd (.inl h) hn
   simpa[oJ]using this
  have m3:dt (gl r x) x.seq=false:=by simpa using m1
  have m4:(x.seq.toNat:Int)<=(gl r x).pre.toNat+w:=by simpa[akC]using m2
  have m5:x.seq.toNat≠0:=fun e=>hn (.inr (.inr (.inl (UInt32.toNat_inj.1 e))))
  have m6:(gl r x).pre.toNat<x.seq.toNat:=by
   refine Nat.lt_of_not_le fun hle=>?_
   have:dt (gl r x) x.seq=true:=fc.2 ⟨m5,.inl hle⟩;rw[m3]at this;cases this
  refine Vc2.seqJ (γ:=Unit) (fun _=>⟨[(3,.loc 3 0),(4,.loc 4 0),(6,.loc 6 0)],[(6,⟨aD ⟨0,0,0⟩,84⟩),(4,⟨aO x,54⟩),(3,⟨aD (gl r x),84⟩)],[],0,0⟩) (fun _=>True) ?_ (fun _ _=>?_)
  ·refine g2_ ?_;refine bb (fun h=>?_) (fun h=>?_)
   ·have e:gl r x=⟨x.inc,0,0⟩:=if_pos (by omega)
    rw[e];refine g2_ ?_;refine⟨(),aa [] ?_⟩;exact ws_
   ·have e:gl r x=r:=if_neg (by omega)
    rw[e];refine g2_ ?_;refine⟨(),aa [] ?_⟩;exact ws_
  ·generalize gl r x=q at m3 m4 m6;have hb:=q.bits.toNat_lt;have e1:((x.seq.toNat:Int)-q.pre.toNat-1)=(rwBit q x.seq:Nat):=by unfold rwBit;omega
   have e2:rwBit q x.seq<64:=by omega
   refine Vc2.of ?_;have e3:2^rwBit q x.seq<18446744073709551616:=Nat.lt_of_le_of_lt (Nat.pow_le_pow_right (by decide) (show rwBit q x.seq<=63 by omega)) (by decide)
   refine g2_ ?_;refine nn (by omega) ?_
   refine g2_ ?_;refine nn (by omega) ?_
   refine g2_ ?_;rw[e1,ajV rfl e2];refine g2_ ?_;rw[aqT hb e3]
   have e4:q.bits.toNat ||| 2^rwBit q x.seq=(ko q x.seq).bits.toNat:=by
    show _=(q.bits ||| UInt64.ofNat (2^rwBit q x.seq)).toNat;rw[UInt64.toNat_or,UInt64.toNat_ofNat_of_lt' e3]
   rw[e4];refine g2_ ?_;have hp1:q.inc=(ko q x.seq).inc:=rfl;have hp2:q.pre=(ko q x.seq).pre:=rfl;rw[hp1,hp2];generalize ko q x.seq=R0;refine bG (γ:=GRow) (fun _=>[]) (fun g=>[(3,⟨aD g,84⟩)]) (fun _=>[]) 0 (rwF (dG 64 R0)) (fun g=>g.bits.toNat) R0 (aa [] ?_) ⟨64,rfl,R0.bits.toNat_lt⟩ (fun g hg=>?_)
   ·exact ws_
   ·have hgb:=g.bits.toNat_lt;refine g2_ ?_;rw[yT hgb];refine g2_ ?_
    by_cases hb1:g.bits.toNat % 2=1
    ·obtain⟨n1,n2⟩:=ajt hg hb1;rw[show(((g.bits.toNat % 2:Nat):Int)==1)=true by rw[hb1];rfl]
     refine g2_ ?_;rw[yi];refine g2_ ?_;rw[ae6 (m:=1) (n:=1) rfl (by decide)]
     refine g2_ ?_;refine⟨sA g,aa [] ?_,n1,n2⟩;refine gf_ @kJ ?_;simp[sA]
    ·have hb0:g.bits.toNat % 2=0:=by omega
     rw[show(((g.bits.toNat % 2:Nat):Int)==1)=false by rw[hb0];rfl, <-anE hg hb1]
     refine g2_ ?_;refine ae ?_ rfl;exact ws_
