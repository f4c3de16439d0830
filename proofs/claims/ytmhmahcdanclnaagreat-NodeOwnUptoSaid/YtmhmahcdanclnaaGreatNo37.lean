import Derived.Test.YtmhmahcdanclnaaGreatNo36
set_option linter.unusedSectionVars false
set_option linter.unusedSimpArgs false
set_option linter.unusedVariables false
set_option maxRecDepth 10000
namespace Go.Proofs.YtmhmahcdanclnaaGreat.V
open Go.Eng
theorem cy{c:ar}(h:aF c=true):2<=c.nodes/\c.nodes<=12/\1<=c.view/\c.view<=12/\0<=c.near/\c.near<=12/\1<=c.swap/\c.swap<=12/\1<=c.schema.length/\c.schema.length<=4:=by grind [aF,inR,eM]
def TUp(a b:List au):Prop:=a.length=b.length/\ ∀(i:Nat) (x y:au),a[i]? =some x->b[i]? =some y->x.inc<=y.inc
theorem TUp.refl(a:List au):TUp a a:=⟨rfl,fun i x y h1 h2=>by rw[h1]at h2;cases h2;exact UInt16.le_refl _⟩
theorem TUp.trans{a b c:List au}(h:TUp a b)(g:TUp b c):TUp a c:=⟨h.1.trans g.1,fun i x z h1 h3=>by
 have hi:=(List.getElem?_eq_some_iff.1 h1).1;have h2:b[i]? =some (b[i]'(by rw[<-h.1];exact hi)):=List.getElem?_eq_getElem _
 exact UInt16.le_trans (h.2 i _ _ h1 h2) (g.2 i _ _ h2 h3)⟩
theorem tT{l:List au}{i:Nat}{f:au->au}(hf: ∀m,m.inc<=(f m).inc):TUp l (l.modify i f):=⟨by simp,fun j x y h1 h2=>by
 rw[List.getElem?_modify,h1]at h2;simp only[Option.map_eq_map,Option.map_some]at h2;cases h2;split
 ·exact hf x
 ·exact UInt16.le_refl _⟩
theorem rp{l:List au}{f:Nat->au->au}(hf: ∀i m,m.inc<=(f i m).inc):TUp l (l.mapIdx f):=⟨by simp,fun j x y h1 h2=>by
 rw[List.getElem?_mapIdx,h1]at h2;simp only[Option.map_some]at h2;cases h2
 exact hf j x⟩
theorem aiO(l:List au)(i:UInt8)(inc:UInt16):TUp l (iG l i inc):=tT fun m=>by
 unfold kN;split
 ·rename_i h;rcases h with h|h
  ·exact UInt16.le_of_lt h
  ·rw[h.1];exact UInt16.le_refl _
 ·exact UInt16.le_refl _
theorem am1(l:List au)(i:UInt8)(inc:UInt16):TUp l (jc l i inc):=tT fun m=>by
 unfold mf;split
 ·rename_i h;exact UInt16.le_of_lt h
 ·split<;>exact UInt16.le_refl _
theorem aie(l m:List au)(self:UInt8):TUp l (eA l m self):=rp fun i x=>by
 unfold mMg;split
 ·rename_i y _;split
  ·rename_i h;have h2:=h.2;unfold jH at h2;split at h2
   ·exact UInt16.le_of_lt (of_decide_eq_true h2)
   ·rename_i h3;have h3:y.inc=x.inc:=Classical.byContradiction h3;show x.inc<=y.inc;rw[h3];exact UInt16.le_refl _
  ·exact UInt16.le_refl _
 ·exact UInt16.le_refl _
theorem aaS(l:List au)(self:UInt8)(after:Int):TUp l (jz l self after):=rp fun i m=>by
 unfold mTk mQ;split
 ·exact UInt16.le_refl _
 ·split<;>(split<;>exact UInt16.le_refl _)
structure Go1(c:ar)(p q:af):Prop where
 h:okH q
 pre:Pre c q
 node:q.node=p.node
 up:q.up=p.up
 inc:q.inc=p.inc
 ws:ok8 q.wait.sent
 f8:q.filter.length<=8
 tab:TUp p.table q.table
structure Bd(c:ar)(nd:UInt8)(p:af):Prop where
 h:okH p
 win:Win c p
 node:p.node=nd
 ws:ok8 p.wait.sent
 f8:p.filter.length<=8
 dn:p.up=false->p.view=[]/\p.near=[]/\p.ring.hs=false/\p.ring.hp=false/\p.wait.some=false
structure MOk(c:ar)(p:af)(m:aK):Prop where
 frm:m.frm=p.node
 inc:m.inc=p.inc
 ne:m.to≠p.node
 lt:(m.to.toNat:Int)<c.nodes
 k1:1<=m.kind.toNat
 k9:m.kind.toNat<=9
structure zl(c:ar)(p q:af)(l:List aK):Prop where
 bd:Bd c p.node q
 inc:q.inc=p.inc
 up:q.up=p.up
 tab:TUp p.table q.table
 ms: ∀m∈l,MOk c p m
section
variable {c:ar} {nd:UInt8} {p q:af}
theorem Bd.pre(h:Bd c nd p):Pre c p:=⟨h.win.table,h.win.rows,h.win.heard,tF h.win.view⟩
theorem Bd.go(h:Bd c nd p):Go1 c p p:=⟨h.h,h.pre,rfl,rfl,rfl,h.ws,h.f8,TUp.refl _⟩
theorem Bd.stay(h:Bd c nd p):zl c p p []:=by
 obtain rfl:=h.node;exact⟨h,rfl,rfl,TUp.refl _,fun m hm=>absurd hm List.not_mem_nil⟩
theorem Go1.meet(hc:aF c=true)(g:Go1 c p q)(hu:p.up=true){l:List GDesc}(hl:cg l)(hl2: ∀d∈l,okF d){ms:List aK}(hms: ∀m∈ms,MOk c p m):zl c p (aB c q l) ms:=by
 refine⟨⟨⟨je g.h.g hl hl2,g.h.rs,⟨?_,?_⟩,?_⟩,amS hc g.pre,g.node,g.ws,g.f8,fun e=>?_⟩,g.inc,g.up,g.tab,hms⟩
 ·exact Nat.le_trans (List.length_filter_le _ _) g.h.v8.1
 ·exact fun d hd=>g.h.v8.2 d (List.mem_filter.1 hd).1
 ·exact(o0 g.pre.view _).2
 ·have e2:q.up=false:=e;rw[g.up,hu]at e2;cases e2
theorem Go1.tab_(g:Go1 c p q){t:List au}{r:List (List GMark)}(ht:TUp q.table t)(hr:fQ r):Go1 c p { q with table:=t,reports:=r }:=
 ⟨xM g.h (by rw[<-ht.1];exact g.h.g.table) hr,⟨by have:=g.pre.table;rw[ht.1]at this;exact this,g.pre.rows,g.pre.heard,g.pre.view⟩,g.node,g.up,g.inc,g.ws,g.f8,g.tab.trans ht⟩
theorem Go1.learn(g:Go1 c p q)(t:List au):Go1 c p (bx q t):=g.tab_ (aie _ _ _) (i_ g.h.rs _)
theorem Go1.left(g:Go1 c p q)(i:UInt8)(inc:UInt16):Go1 c p { q with table:=jc q.table i inc }:=g.tab_ (am1 _ _ _) g.h.rs
theorem Go1.view(g:Go1 c p q)(hc:aF c=true){V:List GDesc}(hv:Rt q.node c.view V)(h8: ∀d∈V,d.filter.length<=8)(hF: ∀d∈V,okF d):Go1 c p { q with view:=V }:=by
 have hr:=cy hc;have h1:=hv.1;exact⟨⟨nU g.h.g (by omega) hF,g.h.rs,⟨by show V.length<=1100000;omega,h8⟩,hv.2⟩,⟨g.pre.table,g.pre.rows,g.pre.heard,hv⟩,g.node,g.up,g.inc,g.ws,g.f8,g.tab⟩
theorem Go1.wait(g:Go1 c p q){w:GW}(hw:ok8 w.sent):Go1 c p { q with wait:=w }:=⟨rC g.h hw.toDs,⟨g.pre.table,g.pre.rows,g.pre.heard,g.pre.view⟩,g.node,g.up,g.inc,hw,g.f8,g.tab⟩
theorem rJ{n:UInt8}{i:UInt16}(h:(aw c p n i).2=false):(aw c p n i).1=p:=by grind [aw]
theorem oJ{n:UInt8}{i:UInt16}(h:(aw c p n i).2=true):(n.toNat:Int)<c.nodes/\n≠p.node:=by grind [aw]
theorem Go1.hear(g:Go1 c p q)(n:UInt8)(i:UInt16):Go1 c p (aw c q n i).1:=by
 unfold aw;split
 ·exact g
 ·split
  ·exact g
  ·split
   ·exact g
   ·refine g.tab_ (aiO _ _ _) ?_;split
    ·exact lq g.h.rs
    ·exact g.h.rs
theorem Bd.curs(h:Bd c nd p){k:List GDesc}(hk:k∈[p.view,p.near,aY p.ring]){d:GDesc}(hd:d∈k):d.node≠p.node/\(d.node.toNat:Int)<c.nodes:=by
 have h1:=h.win.cur k hk d hd;have h2:=qD h1;have h3:=h.win.table;exact⟨aah h1,by omega⟩
end
section
variable {c:ar} {nd:UInt8} {p q:af} {m:aK} {dr:List UInt32}
theorem eg(hc:aF c=true)(hB:Bd c nd p)(hu:p.up=true){L:List GDesc}(hL:cg L)(hL2: ∀d∈L,okF d){H:af->af}{M:af->List aK}
  (hH: ∀q,Go1 c p q->((m.frm.toNat:Int)<c.nodes/\m.frm≠p.node)->Go1 c p (H q)/\ ∀x∈M q,MOk c p x):
  zl c p (if (aw c p m.frm m.inc).2=true then (aB c (H (aw c p m.frm m.inc).1) L,M (aw c p m.frm m.inc).1)else ((aw c p m.frm m.inc).1,[])).1
   (if (aw c p m.frm m.inc).2=true then (aB c (H (aw c p m.frm m.inc).1) L,M (aw c p m.frm m.inc).1)else ((aw c p m.frm m.inc).1,[])).2:=by
 cases h:(aw c p m.frm m.inc).2 with
 |false=>
  rw[if_neg (by decide),rJ h]
  exact hB.stay
 |true=>
  rw[if_pos rfl];obtain⟨g,ms⟩:=hH _ (hB.go.hear m.frm m.inc) (oJ h);exact g.meet hc hu hL hL2 ms
theorem fY:cg []:=⟨by simp,by simp⟩
theorem jy: ∀d∈([]:List GDesc),okF d:=by simp
theorem ig: ∀x∈([]:List aK),MOk c p x:=by simp
theorem an6(hc:aF c=true)(g:Go1 c p q)(hm:okMg m)(hf:(m.frm.toNat:Int)<c.nodes/\m.frm≠p.node):Go1 c p (fm c q m).1/\ ∀x∈(fm c q m).2,MOk c p x:=by
 unfold fm;split
 ·rename_i d hd;have hdm:d∈m.list:=by rw[hd];exact List.mem_cons_self
  split
  ·rename_i hfi;refine⟨g.view hc (alp g.pre.view d) (fun x hx=>?_) (fun x hx=>?_),fun x hx=>?_⟩
   ·rcases pd hx with h|rfl
    ·exact g.h.v8.2 x h
    ·exact aaz (by have:=cy hc;omega) hfi.2.2
   ·rcases pd hx with h|rfl
    ·exact g.h.g.view x h
    ·exact hm.fs2 x hdm
   ·rw[List.mem_singleton.1 hx];exact⟨g.node,g.inc,hf.2,hf.1,Nat.le_of_ble_eq_true rfl,Nat.le_of_ble_eq_true rfl⟩
  ·exact⟨g,ig⟩
 ·exact⟨g,ig⟩
theorem ab9(hc:aF c=true)(g:Go1 c p q)(hm:okMg m):Go1 c p (kM c q m):=by
 have g2:=g.learn m.table;refine g2.view hc (afn _ _ g2.pre.view) (fun x hx=>?_) (fun x hx=>?_)
 ·rcases rA _ _ x hx with h|h
  ·exact g2.h.v8.2 x h
  ·exact aaz (by have:=cy hc;omega) (zu h)
 ·rcases rA _ _ x hx with h|h
  ·exact g2.h.g.view x h
  ·exact hm.fs2 x (qA h)
theorem zk(hc:aF c=true)(g:Go1 c p q)(hm:okMg m)(sent:List GDesc):Go1 c p (i5 c q m sent):=by
 refine g.view hc (lx _ _ _ g.pre.view) (fun x hx=>?_) (fun x hx=>?_)
 ·rcases e_ _ _ _ x hx with h|h
  ·exact g.h.v8.2 x h
  ·exact aaz (by have:=cy hc;omega) (zu h)
 ·rcases e_ _ _ _ x hx with h|h
  ·exact g.h.g.view x h
  ·exact hm.fs2 x (qA h)
theorem ahQ(hc:aF c=true)(g:Go1 c p q)(hm:okMg m):Go1 c p (lD c q m):=by
 unfold lD;simp only;split
 ·exact zk hc (g.wait (afS g.ws).1) hm _
 ·exact g
theorem ag6(hc:aF c=true)(hB:Bd c nd p)(hm:okMg m):zl c p (gH dr c p m).1 (gH dr c p m).2/\(p.up=false->(gH dr c p m).2=[]):=by
 unfold gH
 by_cases h0:p.up=false\/m.to≠p.node
 ·rw[if_pos h0];exact⟨hB.stay,fun _=>rfl⟩
 rw[if_neg h0]
 have hu:p.up=true:=by
  cases h:p.up with
  |true=>rfl
  |false=>exact absurd (.inl h) h0
 refine⟨?_,fun h=>absurd (.inl h) h0⟩
 by_cases k1:m.kind=1
 ·rw[if_pos k1];exact eg hc hB hu fY jy (H:=fun q=>(fm c q m).1) (M:=fun q=>(fm c q m).2) fun q g hf=>an6 hc g hm hf
 rw[if_neg k1]
 by_cases k2:m.kind=2
 ·rw[if_pos k2];exact eg hc hB hu fY jy (H:=fun q=>kM c q m) (M:=fun _=>[]) fun q g hf=>⟨ab9 hc g hm,ig⟩
 rw[if_neg k2]
 by_cases k3:m.kind=3
 ·rw[if_pos k3];refine eg hc hB hu fY jy (H:=fun q=>i5 c q m (dy c.swap (bG q.view m.frm) [] dr)) (M:=fun q=>[{ pMsg q 4 m.frm with list:=dy c.swap (bG q.view m.frm) [] dr }]) fun q g hf=>⟨zk hc g hm _,fun x hx=>?_⟩
  rw[List.mem_singleton.1 hx];exact⟨g.node,g.inc,hf.2,hf.1,Nat.le_of_ble_eq_true rfl,Nat.le_of_ble_eq_true rfl⟩
 rw[if_neg k3]
 by_cases k4:m.kind=4
 ·rw[if_pos k4];exact eg hc hB hu fY jy (H:=fun q=>lD c q m) (M:=fun _=>[]) fun q g hf=>⟨ahQ hc g hm,ig⟩
 rw[if_neg k4]
 by_cases k5:m.kind=5\/m.kind=7
 ·rw[if_pos k5];exact eg hc hB hu hm.ds hm.fs2 (H:=fun q=>q) (M:=fun _=>[]) fun q g hf=>⟨g,ig⟩
 rw[if_neg k5]
 by_cases k6:m.kind=6
 ·rw[if_pos k6];refine eg hc hB hu hm.ds hm.fs2 (H:=fun q=>q) (M:=fun q=>[{ pMsg (aB c q m.list) 7 m.frm with list:=dY (aY (aB c q m.list).ring) (pSelf (aB c q m.list)) }]) fun q g hf=>⟨g,fun x hx=>?_⟩
  rw[List.mem_singleton.1 hx];exact⟨g.node,g.inc,hf.2,hf.1,Nat.le_of_ble_eq_true rfl,Nat.le_of_ble_eq_true rfl⟩
 rw[if_neg k6]
 by_cases k8:m.kind=8
 ·rw[if_pos k8];exact eg hc hB hu fY jy (H:=fun q=>bx q m.table) (M:=fun _=>[]) fun q g hf=>⟨g.learn _,ig⟩
 rw[if_neg k8]
 by_cases k9:m.kind=9
 ·rw[if_pos k9];exact eg hc hB hu fY jy (H:=fun q=>{ q with table:=jc q.table m.frm m.inc }) (M:=fun _=>[]) fun q g hf=>⟨g.left _ _,ig⟩
 rw[if_neg k9];exact eg hc hB hu fY jy (H:=fun q=>q) (M:=fun _=>[]) fun q g hf=>⟨g,ig⟩
theorem ag4{w:GW}(h:ok8 w.sent):ok8 (gG w).1.sent:=by
 unfold gG;split
 ·split
  ·exact⟨Nat.zero_le _,fun d hd=>absurd (show d∈([]:List GDesc)from hd) List.not_mem_nil⟩
  ·exact h
 ·exact⟨Nat.zero_le _,fun d hd=>absurd (show d∈([]:List GDesc)from hd) List.not_mem_nil⟩
theorem ahO{l:List GDesc}(h:ok8 l):ok8 (cd l):=⟨by rw[cd,List.length_map];exact h.1,fun d hd=>by
 obtain⟨e,h1,rfl⟩:=lO hd
 rw[xz];exact h.2 e h1⟩
theorem aeh{l:List GDesc}{f:GDesc->Bool}(h:ok8 l):ok8 (l.filter f):=⟨Nat.le_trans (List.length_filter_le _ _) h.1,fun d hd=>h.2 d (List.mem_filter.1 hd).1⟩
theorem aeQ(hB:Bd c nd p):Go1 c p (ct c p):=by
 have hv:Rt p.node c.view (ct c p).view/\ok8 (ct c p).view:=by
  have h1:=alg hB.pre.view;have h2:=ahO hB.h.v8;unfold ct;simp only;split
  ·exact⟨o0 h1 _,aeh h2⟩
  ·exact⟨h1,h2⟩
 refine⟨⟨aal hB.h.g hB.ws,hB.h.rs,hv.2,hv.1.2⟩,⟨?_,hB.win.rows,hB.win.heard,hv.1⟩,rfl,rfl,rfl,ag4 hB.ws,hB.f8,aaS _ _ _⟩;have:=hB.win.table;rw[(aaS p.table p.node c.suspect).1]at this;exact this
theorem akj{l:List GDesc}{self:GDesc}{many:Int}(h:(jx l self many dr).2.2=true): ∃o∈l,(jx l self many dr).1=o.node:=by grind [jx]
theorem ae7{l:List GDesc}{self:GDesc}{many:Int}(hl:ok8 l)(hl9:l.length<=99)(hs:self.filter.length<=8):ok8 (jx l self many dr).2.1:=by
 have hz:ok8 []:=⟨Nat.zero_le _,by simp⟩
 unfold jx;split
 ·split
  ·split
   ·rename_i o _ _;show ok8 (apb l self many dr o.node);unfold apb;have h1:=tm (many:=many-1) dr (bG l o.node) [];have h2:=p6 l o.node;have h3:=ap0 (many:=many-1) (nd:=o.node) (dr:=dr) hl;simp only[List.length_nil]at h1;refine⟨by rw[List.length_cons];omega,fun d hd=>?_⟩
    rcases List.mem_cons.1 hd with rfl|hd
    ·exact hs
    ·exact h3.2 d hd
   ·exact hz
  ·exact hz
 ·exact hz
theorem mM(hc:aF c=true)(hB:Bd c nd p):p.view.length<=12/\p.near.length<=12:=by
 have hr:=cy hc;have h1:=(tF hB.win.view).1;have h2:=(tF hB.win.near).1;omega
theorem aji(hc:aF c=true)(hB:Bd c nd q)(hu:q.up=true):Bd c nd (ez c q dr).1/\(ez c q dr).1.inc=q.inc/\(ez c q dr).1.up=q.up/\(ez c q dr).1.table=q.table/\ ∀x∈(ez c q dr).2,MOk c q x:=by
 unfold ez;simp only;split
 ·rename_i h;have hs:=ae7 (dr:=dr) (many:=c.swap) (self:=pSelf q) hB.h.v8 (by have:=(mM hc hB).1;omega) hB.f8
  refine⟨⟨rC hB.h (w:=wStart _ 2 _) hs.toDs,⟨hB.win.table,hB.win.rows,hB.win.heard,hB.win.view,hB.win.near,hB.win.cur,hB.win.ovl,hB.win.ring⟩,hB.node,hs,hB.f8,fun e=>?_⟩,rfl,rfl,rfl,fun x hx=>?_⟩
  ·have e2:q.up=false:=e;rw[hu]at e2;cases e2
  ·rw[List.mem_singleton.1 hx];obtain⟨o,ho,e⟩:=akj h.2;have h3:=hB.curs (k:=q.view) (by simp) ho
   exact⟨rfl,rfl,by rw[<-e]at h3;exact h3.1,by rw[<-e]at h3;exact h3.2,Nat.le_of_ble_eq_true rfl,Nat.le_of_ble_eq_true rfl⟩
 ·exact⟨hB,rfl,rfl,rfl,ig⟩
theorem aeW{x:UInt8}: ∀(l acc:List UInt8),x∈l.foldl ov acc->x∈l\/x∈acc
 |[],acc,h=>.inr h
 | y::r,acc,h=>by
  rcases aeW r (ov acc y) h with h|h
  ·exact .inl (List.mem_cons_of_mem _ h)
  ·unfold ov at h;split at h
   ·exact .inr h
   ·rcases List.mem_append.1 h with h|h
    ·exact .inr h
    ·exact .inl (by rw[List.mem_singleton.1 h];exact List.mem_cons_self)
theorem agx{x:UInt8}(h:x∈aQ p): ∃k∈[p.view,p.near,aY p.ring], ∃d∈k,d.node=x:=by
 rcases aeW _ _ h with h|h
 ·rcases fN h with h|h
  ·obtain⟨d,hd,e⟩:=List.mem_map.1 h;obtain⟨k,hk,hd⟩:=List.mem_flatten.1 hd;exact⟨k,hk,d,hd,e⟩
  ·cases h
 ·cases h
theorem gN(hB:Bd c nd p){x:UInt8}(h:x∈aQ p):x≠p.node/\(x.toNat:Int)<c.nodes:=by
 obtain⟨k,hk,d,hd,rfl⟩:=agx h;exact hB.curs hk hd
theorem iC(hc:aF c=true)(hB:Bd c nd p):(cj p).length<=26:=by grind [mM,f5,cj,List.length_map,List.flatten_cons,List.flatten_nil,List.length_append,List.length_nil]
theorem fZ(hc:aF c=true)(hB:Bd c nd p):(aQ p).length<=26:=by
 have h1:=qS (aW ltU (cj p)) (aW ltU (cj p)).length;rw[List.take_length,cr]at h1;have:=iC hc hB;show(dt _).length<=26;omega
theorem uC(hc:aF c=true)(hB:Bd c nd p)(hu:p.up=true):zl c p (pTick c p dr (aQ (ez c (aB c (ct c p) []) dr).1)).1 (pTick c p dr (aQ (ez c (aB c (ct c p) []) dr).1)).2:=by
 have s1:=(aeQ hB).meet hc hu fY jy (ms:=[]) ig;unfold pTick;simp only;generalize aB c (ct c p) []=q at s1;have hqu:q.up=true:=by rw[s1.up,hu]
 have hqn:q.node=p.node:=s1.bd.node;obtain⟨b1,b2,b3,b4,b5⟩:=aji (dr:=dr) hc s1.bd hqu;generalize ez c q dr=K at b1 b2 b3 b4 b5;obtain⟨r,M⟩:=K;simp only at b1 b2 b3 b4 b5 ⊢;have rn:r.node=p.node:=b1.node;have ri:r.inc=p.inc:=b2.trans s1.inc;have mk: ∀{k to:UInt8},to≠r.node->(to.toNat:Int)<c.nodes->1<=k.toNat->k.toNat<=9-> ∀{l:List GDesc} {t:List au},MOk c p { pMsg r k to with list:=l,table:=t }:=fun h1 h2 h3 h4=>⟨rn,ri,by rw[<-rn];exact h1,h2,h3,h4⟩
 refine⟨b1,ri,b3.trans s1.up,by rw[b4];exact s1.tab,fun x hx=>?_⟩
 rcases List.mem_append.1 hx with hx|hx
 ·rcases List.mem_append.1 hx with hx|hx
  ·rcases List.mem_append.1 hx with hx|hx
   ·have h:=b5 x hx;exact⟨h.frm.trans hqn,h.inc.trans s1.inc,by rw[<-hqn];exact h.ne,h.lt,h.k1,h.k9⟩
   ·unfold mi at hx;split at hx
    ·cases hx
    ·rename_i hne;rw[List.mem_singleton.1 hx];have hl:0<(aQ r).length:=List.length_pos_iff.2 hne;have hi:(gB c dr).toNat % (aQ r).length<(aQ r).length:=Nat.mod_lt _ hl;have h2:=gN b1 (x:=(aQ r).getD ((gB c dr).toNat % (aQ r).length) 0) (by rw[List.getD_eq_getElem?_getD,List.getElem?_eq_getElem hi];exact List.getElem_mem hi)
     exact mk h2.1 h2.2 (Nat.le_of_ble_eq_true rfl) (Nat.le_of_ble_eq_true rfl)
  ·unfold iY at hx;split at hx
   ·rename_i hs;rw[List.mem_singleton.1 hx]
    obtain⟨d,hd,hdn⟩: ∃d∈aY r.ring,d.node=r.ring.succ.node:=by
     unfold aY;split
     ·unfold gh
      by_cases h1:r.ring.succ.node<r.ring.pred.node
      ·rw[if_pos h1];exact⟨_,List.mem_cons_self,rfl⟩
      ·rw[if_neg h1]
       by_cases h2:r.ring.pred.node<r.ring.succ.node
       ·rw[if_pos h2];exact⟨_,List.mem_cons_of_mem _ List.mem_cons_self,rfl⟩
       ·rw[if_neg h2];have e:r.ring.pred.node=r.ring.succ.node:=UInt8.le_antisymm (UInt8.not_lt.1 h1) (UInt8.not_lt.1 h2);split
        ·exact⟨_,List.mem_cons_self,e⟩
        ·exact⟨_,List.mem_cons_self,rfl⟩
     ·first|exact⟨_,List.mem_cons_self,rfl⟩|(rw[if_pos hs];exact⟨_,List.mem_cons_self,rfl⟩)
    have h2:=b1.curs (k:=aY r.ring) (by simp) hd
    rw[hdn]at h2;exact mk h2.1 h2.2 (Nat.le_of_ble_eq_true rfl) (Nat.le_of_ble_eq_true rfl)
   ·cases hx
 ·obtain⟨d,hd,rfl⟩:=List.mem_map.1 hx;have h2:=b1.curs (k:=aY r.ring) (by simp) hd
  exact mk h2.1 h2.2 (Nat.le_of_ble_eq_true rfl) (Nat.le_of_ble_eq_true rfl)
end
theorem ai6{f g:List GSpan}(hf: ∀s∈f,okS s)(hg: ∀s∈g,okS s): ∀s∈ew f g,okS s:=by
 intro s hs;unfold ew at hs;split at hs
 ·obtain⟨x,hx,rfl⟩:=List.mem_map.1 hs;exact aaI (hf _ (List.of_mem_zip hx).1) (hg _ (List.of_mem_zip hx).2)
 ·cases hs
theorem lZ{dom f:List GSpan}(hd: ∀s∈dom,okS s)(hf: ∀s∈f,okS s)(hl:dom.length<=4):(∀s∈(bA dom f).1,okS s)/\(bA dom f).1.length<=8:=by grind [bA,ai6,wy,ew]
section
variable {c:ar} {nd:UInt8} {p q:af} {o:GOp}
theorem m8(h:okG p){f:List GSpan}(h1: ∀s∈f,okS s)(h2:f.length<=8):okG { p with filter:=f }:=
 ⟨⟨by show f.length<=4000000;omega,h.ok.view,h.ok.near,h.ok.succ,h.ok.pred,h.ok.sent,h.ok.table,h.ok.heard,h.ok.rows,h.ok.reports,h.ok.evs,h.ok.pulls⟩,h1,h.view,h.near,h.succ,h.pred,h.table⟩
theorem Go1.filter(g:Go1 c p q){f:List GSpan}(h1: ∀s∈f,okS s)(h2:f.length<=8):Go1 c p { q with filter:=f }:=
 ⟨⟨m8 g.h.g h1 h2,g.h.rs,g.h.v8,g.h.vw⟩,⟨g.pre.table,g.pre.rows,g.pre.heard,g.pre.view⟩,g.node,g.up,g.inc,g.ws,h2,g.tab⟩
theorem oD(hc:aF c=true){node:UInt8}{inc:UInt16}{up:Bool}{t:List au}(ht:(t.length:Int)=c.nodes):Win c { bF c node with inc:=inc,up:=up,table:=t }:=by
 have hr:=cy hc;have hn:(((min (max c.nodes 0) 12).toNat:Nat):Int)=c.nodes:=by omega
 refine⟨ht,?_,?_,?_,?_,?_,?_,.inl rfl⟩
 ·simp only[bF,List.length_replicate];exact hn
 ·simp only[bF,List.length_replicate];exact hn
 ·exact nZ ⟨by simp only[bF,List.length_nil];omega,ac1 _⟩ (by omega)
 ·exact nZ ⟨by simp only[bF,List.length_nil];omega,ac1 _⟩ (by omega)
 ·intro k hk d hd;simp only[bF,List.mem_cons,List.not_mem_nil,or_false]at hk;rcases hk with rfl|rfl|rfl
  ·cases hd
  ·cases hd
  ·simp[aY]at hd
 ·intro d hd;simp[bF]at hd
theorem lJ(hc:aF c=true)(node:UInt8):((bF c node).table.length:Int)=c.nodes:=by
 have hr:=cy hc;simp only[bF,List.length_replicate];omega
theorem ajF:ok8 []:=⟨Nat.zero_le _,by simp⟩
theorem amG(hc:aF c=true)(node:UInt8):Bd c node (bF c node):=
 ⟨xy c node,oD hc (up:=false) (inc:=0) (lJ hc node),rfl,ajF,Nat.zero_le _,fun _=>⟨rfl,rfl,rfl,rfl,rfl⟩⟩
theorem ami(hc:aF c=true)(hB:Bd c nd p):Bd c nd (bE c p).1/\p.inc<=(bE c p).1.inc/\(p.up=true->(bE c p).1=p):=by
 have ho:=ahe c p hB.h;unfold bE at ho ⊢;split
 ·exact⟨hB,UInt16.le_refl _,fun _=>rfl⟩
 ·rename_i hu;split
  ·exact⟨hB,UInt16.le_refl _,fun _=>rfl⟩
  ·rename_i hi;rw[if_neg hu,if_neg hi]at ho;refine⟨⟨ho,oD hc (by rw[List.length_set];exact lJ hc _),hB.node,ajF,Nat.zero_le _,fun e=>by cases e⟩,?_,fun h=>absurd h hu⟩
   show p.inc<=p.inc+1;have h1:p.inc.toNat≠65535:=fun e=>hi (UInt16.toNat_inj.1 e)
   have h2:=p.inc.toNat_lt;rw[UInt16.le_iff_toNat_le,UInt16.toNat_add];show p.inc.toNat<=(p.inc.toNat+1) % 65536;omega
theorem aeX(hc:aF c=true)(hB:Bd c nd p):Bd c nd (jZ c p):=by
 have h:=afh (xy c p.node) (i:=p.inc) (b:=false) (t:=(bF c p.node).table) (by have:=lJ hc p.node;have:=cy hc;omega)
 exact⟨h,oD hc (up:=false) (inc:=p.inc) (lJ hc _),hB.node,ajF,Nat.zero_le _,fun _=>⟨rfl,rfl,rfl,rfl,rfl⟩⟩
structure aty(c:ar)(p:af)(r:af×List aK×Int):Prop where
 bd:Bd c p.node r.1
 inc:p.inc<=r.1.inc
 tab:r.1.up=true->p.up=true->TUp p.table r.1.table
 ms: ∀m∈r.2.1,MOk c p m
 quiet:r.2.1≠[]->r.2.2=0/\p.up=true
end
section
variable {c:ar} {nd:UInt8} {p q:af} {o:GOp}
theorem sJ(hc:aF c=true)(hB:Bd c nd p):Con2 Tryz.prog 91 [.agg (ak p)] (· =plR (.fz 1 ((aQ p).map aA))):=by
 have h1:=mM hc hB;have h2:=hB.h.g.ok;exact afW p (by omega) (by omega) h2.succ h2.pred (iC hc hB)
theorem aly{dr:List UInt32}{L:List UInt8}:(pTick c p dr L).2.length<=5:=by grind [pTick,ez,aB,ct,mi,iY,f5,List.length_append,List.length_map]
theorem aqq(h:qm o=true)(hf: ∀d∈o.m.list, ∀s∈d.filter,okS s):okMg o.m/\o.draws.length<=4000000/\o.filter.length<=1048576:=by
 unfold qm at h;simp only[Bool.and_eq_true,List.all_eq_true,decide_eq_true_eq,Bool.not_eq_true',decide_eq_false_iff_not]at h;obtain⟨⟨h1,h2⟩,h3,h4,h5,h6⟩:=h;exact⟨⟨by omega,fun d hd=>by have:=h1 d hd;omega,hf,by omega⟩,by omega,by omega⟩
end
end Go.Proofs.YtmhmahcdanclnaaGreat.V
namespace Go.Eng
section
variable {l:List GDesc} {self:UInt8} {d:GDesc} {room:Int}
end
end Go.Eng
namespace Go.Proofs.YtmhmahcdanclnaaGreat.V
open Go.Eng
section
variable {c:ar} {a b nd:UInt8} {p q:af} {o:GOp} {m:aK} {dr:List UInt32}
structure atD(p q:af):Prop where
 node:q.node=p.node
 filter:q.filter=p.filter
 inc:q.inc=p.inc
 up:q.up=p.up
 own:q.table[p.node.toNat]? =p.table[p.node.toNat]?
structure Jn(c:ar)(nd:UInt8)(p:af):Prop where
 bd:Bd c nd p
 up:p.up=true
 inc:p.inc=1
 filter:p.filter=[]
 own:p.table[nd.toNat]? =some ⟨1,1,0⟩
structure atG(c:ar)(a b:UInt8)(p q:af)(M:aK)(P:af)(W:aK)(R:af):Prop where
 m1:ap4 c q a=([M],0)
 m2:okMg M
 p1:gH [] c p M=(P,[W])
 p2:Bd c a P
 p3:W.to=b
 p4:0<=j9 P.view b
 p5:p.view.length<=P.view.length
 w1:okMg W
 r1:gH [] c q W=(R,[])
 r2:Bd c b R
 r3:R.table[a.toNat]? =some ⟨1,1,0⟩
 r4:1<=R.view.length
 r5:(R.view.length:Int)<=c.view
 r6:R.view.length<=W.list.length
 r7:p.view.length=0->0<=j9 R.view a/\R.ring.hs=true/\R.ring.succ.node=a/\R.ring.pred.node=a
end
section
variable {c:ar} {p q r:af} {m:aK} {dr:List UInt32}
structure Ev1(p q:af):Prop where
 node:q.node=p.node
 inc:q.inc=p.inc
 up:q.up=p.up
 filter:q.filter=p.filter
 rows:q.rows=p.rows
 buf:q.buf=p.buf
 pulls:q.pulls=p.pulls
 seq:q.seq=p.seq
 passed:q.passed=p.passed
 evicted:q.evicted=p.evicted
 collected:q.collected=p.collected
theorem Ev1.refl(p:af):Ev1 p p:=⟨rfl,rfl,rfl,rfl,rfl,rfl,rfl,rfl,rfl,rfl,rfl⟩
theorem Ev1.trans(h:Ev1 p q)(g:Ev1 q r):Ev1 p r:=
 ⟨g.node.trans h.node,g.inc.trans h.inc,g.up.trans h.up,g.filter.trans h.filter,g.rows.trans h.rows,g.buf.trans h.buf,g.pulls.trans h.pulls,g.seq.trans h.seq,g.passed.trans h.passed,g.evicted.trans h.evicted,g.collected.trans h.collected⟩
theorem bT(l:List GDesc):Ev1 p (aB c p l):=⟨rfl,rfl,rfl,rfl,rfl,rfl,rfl,rfl,rfl,rfl,rfl⟩
theorem cF(n:UInt8)(i:UInt16):Ev1 p (aw c p n i).1:=by
 unfold aw;split
 ·exact Ev1.refl p
 ·split
  ·exact Ev1.refl p
  ·split
   ·exact Ev1.refl p
   ·exact⟨rfl,rfl,rfl,rfl,rfl,rfl,rfl,rfl,rfl,rfl,rfl⟩
theorem ak2(t:List au):Ev1 p (bx p t):=⟨rfl,rfl,rfl,rfl,rfl,rfl,rfl,rfl,rfl,rfl,rfl⟩
theorem ev_aged:Ev1 p (ct c p):=⟨rfl,rfl,rfl,rfl,rfl,rfl,rfl,rfl,rfl,rfl,rfl⟩
theorem arJ:Ev1 p (ez c p dr).1:=by
 unfold ez;simp only;split
 ·exact⟨rfl,rfl,rfl,rfl,rfl,rfl,rfl,rfl,rfl,rfl,rfl⟩
 ·exact Ev1.refl p
theorem qz(L:List UInt8):Ev1 p (V.pTick c p dr L).1:=(ev_aged.trans (bT [])).trans arJ
theorem gL{A:af}{B:List aK}{Q:af×Bool}(h:Ev1 p Q.1)(g:Ev1 Q.1 A):Ev1 p (if Q.2=true then (A,B)else (Q.1,[])).1:=by
 split
 ·exact h.trans g
 ·exact h
theorem ev_take:Ev1 p (gH dr c p m).1:=by
 have hh:=cF (c:=c) (p:=p) m.frm m.inc;unfold gH;split
 ·exact Ev1.refl p
 split
 ·refine gL hh (Ev1.trans ?_ (bT _));unfold fm;split
  ·split
   ·exact⟨rfl,rfl,rfl,rfl,rfl,rfl,rfl,rfl,rfl,rfl,rfl⟩
   ·exact Ev1.refl _
  ·exact Ev1.refl _
 split
 ·refine gL hh (Ev1.trans ?_ (bT _));exact⟨rfl,rfl,rfl,rfl,rfl,rfl,rfl,rfl,rfl,rfl,rfl⟩
 split
 ·refine gL hh (Ev1.trans ?_ (bT _));exact⟨rfl,rfl,rfl,rfl,rfl,rfl,rfl,rfl,rfl,rfl,rfl⟩
 split
 ·refine gL hh (Ev1.trans ?_ (bT _));unfold lD;simp only;split
  ·exact⟨rfl,rfl,rfl,rfl,rfl,rfl,rfl,rfl,rfl,rfl,rfl⟩
  ·exact Ev1.refl _
 split
 ·exact gL hh (bT _)
 split
 ·exact gL hh (bT _)
 split
 ·exact gL hh ((ak2 m.table).trans (bT _))
 split
 ·refine gL hh (Ev1.trans ?_ (bT _));exact⟨rfl,rfl,rfl,rfl,rfl,rfl,rfl,rfl,rfl,rfl,rfl⟩
 ·exact gL hh (bT _)
end
section
variable {c:ar} {p q:af} {m:aK} {dr:List UInt32} {e:GEvt} {G:List GID} {x:GID}
structure On(c:ar)(p:af)(G:List GID):Prop where
 fit: ∀r∈p.rows,ft r c.window
 seen: ∀x∈G, ∃r,p.rows[x.node.toNat]? =some r/\(ap7 r x=true\/x.inc.toNat<r.inc.toNat)
 own: ∀x∈G,x.node=p.node->x.inc.toNat<p.inc.toNat\/(x.inc=p.inc/\x.seq.toNat<=p.seq.toNat)
 pos: ∀x∈G,0<x.inc.toNat/\x.seq≠0
theorem On.ev(h:On c p G)(g:Ev1 p q):On c q G:=
 ⟨by rw[g.rows];exact h.fit,by rw[g.rows];exact h.seen,by rw[g.node,g.inc,g.seq];exact h.own,h.pos⟩
theorem abE:bZ c.schema e=true↔gu c.schema e.vals=true/\e.data.length<=64/\e.id.node.toNat<12/\1<=e.id.inc.toNat/\1<=e.id.seq.toNat:=by simp[bZ]
theorem jq(h:j5 c p e=true):bZ c.schema e=true/\(e.id.node.toNat:Int)<c.nodes/\e.id.seq.toNat<=c.last.toNat/\(e.id.node=p.node->e.id.inc.toNat<p.inc.toNat)/\
  ∃r,p.rows[e.id.node.toNat]? =some r/\iJ r e.id c.window=true:=by
 unfold j5 at h
 by_cases h1:bZ c.schema e=false\/c.nodes<=(e.id.node.toNat:Int)\/c.last.toNat<e.id.seq.toNat
 ·rw[if_pos h1]at h;cases h
 rw[if_neg h1]at h
 by_cases h2:e.id.node=p.node/\p.inc.toNat<=e.id.inc.toNat
 ·rw[if_pos h2]at h;cases h
 rw[if_neg h2]at h
 have a1:bZ c.schema e=true:=by
  cases hv:bZ c.schema e with
  |true=>rfl
  |false=>exact absurd (.inl hv) h1
 refine⟨a1,Classical.byContradiction fun hc=>h1 (.inr (.inl (by omega))),Classical.byContradiction fun hc=>h1 (.inr (.inr (by omega))),fun hn=>Classical.byContradiction fun hc=>h2 ⟨hn,by omega⟩,?_⟩
 cases hr:p.rows[e.id.node.toNat]? with
 |none=>rw[hr]at h;cases h
 |some r=>rw[hr]at h;exact⟨r,rfl,h⟩
theorem gJ(h:(aI c p e).2.1=true):p.up=true/\j5 c p e=true:=by grind [aI,j5]
theorem nc(h1:p.up=true)(h2:j5 c p e=true):aI c p e=({ p with
      rows:=p.rows.modify e.id.node.toNat fun r=>(cO r e.id c.window).1
      pulls:=(Eng.pDrop p.pulls e.id).filter fun a=> !cL e.id a
      buf:=(dk p.buf e).1
      passed:=if (dk p.buf e).2=52 then p.passed+1 else p.passed },true,fb p.filter e.vals):=by
  unfold aI;rw[if_neg (by rw[h1,h2];simp)]
theorem jM(h: ¬(aI c p e).2.1=true):aI c p e=(p,false,false):=by grind [aI]
structure Nm1(p q:af):Prop where
 node:q.node=p.node
 inc:q.inc=p.inc
 up:q.up=p.up
 filter:q.filter=p.filter
 rows:q.rows=p.rows
 seq:q.seq=p.seq
theorem Nm1.refl(p:af):Nm1 p p:=⟨rfl,rfl,rfl,rfl,rfl,rfl⟩
theorem Nm1.trans{r:af}(h:Nm1 p q)(g:Nm1 q r):Nm1 p r:=⟨g.node.trans h.node,g.inc.trans h.inc,g.up.trans h.up,g.filter.trans h.filter,g.rows.trans h.rows,g.seq.trans h.seq⟩
theorem Ev1.nm(h:Ev1 p q):Nm1 p q:=⟨h.node,h.inc,h.up,h.filter,h.rows,h.seq⟩
theorem aja:Nm1 p (bC p x):=by
 unfold bC;split
 ·exact Nm1.refl p
 ·split
  ·exact⟨rfl,rfl,rfl,rfl,rfl,rfl⟩
  ·exact Nm1.refl p
theorem aap: ∀(l:List GID) (p:af),Nm1 p (l.foldl bC p)
 |[],p=>Nm1.refl p
 |x::l,p=>(aja (x:=x)).trans (aap l _)
theorem nm_tick:Nm1 p (eu c p dr).1:=by
 unfold eu;split
 ·exact Nm1.refl p
 ·have h1:Nm1 p (gn { p with pulls:=Eng.pTick p.pulls }):=Nm1.trans (q:={ p with pulls:=Eng.pTick p.pulls }) ⟨rfl,rfl,rfl,rfl,rfl,rfl⟩ (aap _ _);have h2:=(qz (c:=c) (p:=gn { p with pulls:=Eng.pTick p.pulls }) (dr:=dr) (aQ (ez c (aB c (ct c (gn { p with pulls:=Eng.pTick p.pulls })) []) dr).1)).nm;have h3:=h1.trans h2;exact⟨h3.node,h3.inc,h3.up,h3.filter,h3.rows,h3.seq⟩
theorem nm_heard:Nm1 p (bB c p m).1:=by
 unfold bB;split
 ·exact Nm1.refl p
 ·split
  ·exact Nm1.refl p
  ·split
   ·exact Nm1.refl p
   ·split
    ·exact Nm1.refl p
    ·have h1:=(cF (c:=c) (p:=p) m.origin.node m.origin.inc).nm;exact⟨h1.node,h1.inc,h1.up,h1.filter,h1.rows,h1.seq⟩
theorem kA:(kZ c p m dr).1=(aI c p m.ev).1:=by grind [kZ,jM]
end
section
variable {c:ar} {p q:af} {m:aK} {dr:List UInt32} {e:GEvt} {G:List GID} {x:GID} {vals:List Int} {data:List UInt8}
def da(p:af)(vals:List Int)(data:List UInt8):GEvt:=⟨⟨p.node,p.inc,p.seq+1⟩,vals,data⟩
def ix(p:af)(b:d7)(ev:Int):af:={ p with buf:=b,evicted:=ev,seq:=p.seq+1,rows:=p.rows.set p.node.toNat ⟨p.inc,p.seq+1,0⟩ }
theorem cQ:(∃k,k≠0/\aD c p vals data dr=(p,zEvt,false,[],k))\/
  (p.up=true/\bZ c.schema (da p vals data)=true/\p.seq.toNat<c.last.toNat/\
   (decide (p.buf.room<=(p.buf.evs.length:Int))=true->(bK p.buf p.node p.inc).2.2=0)/\
   (dk (if decide (p.buf.room<=(p.buf.evs.length:Int))=true then (bK p.buf p.node p.inc).1 else p.buf) (da p vals data)).2=0/\
   aD c p vals data dr=(ix p (dk (if decide (p.buf.room<=(p.buf.evs.length:Int))=true then (bK p.buf p.node p.inc).1 else p.buf) (da p vals data)).1
     (if decide (p.buf.room<=(p.buf.evs.length:Int))=true then p.evicted+1 else p.evicted),da p vals data,fb p.filter vals,
    gb c (ix p (dk (if decide (p.buf.room<=(p.buf.evs.length:Int))=true then (bK p.buf p.node p.inc).1 else p.buf) (da p vals data)).1
     (if decide (p.buf.room<=(p.buf.evs.length:Int))=true then p.evicted+1 else p.evicted)) (da p vals data) (UInt8.ofNat (c.hops % 256).toNat)
     (aQ (ix p (dk (if decide (p.buf.room<=(p.buf.evs.length:Int))=true then (bK p.buf p.node p.inc).1 else p.buf) (da p vals data)).1
      (if decide (p.buf.room<=(p.buf.evs.length:Int))=true then p.evicted+1 else p.evicted))) dr,0)):=by
 unfold aD ix da;simp only
 by_cases h1:p.up=false
 ·rw[if_pos h1];exact .inl ⟨53,by decide,rfl⟩
 rw[if_neg h1]
 by_cases h2:bZ c.schema ⟨⟨p.node,p.inc,p.seq+1⟩,vals,data⟩=false
 ·rw[if_pos h2];exact .inl ⟨51,by decide,rfl⟩
 rw[if_neg h2]
 by_cases h3:c.last.toNat<=p.seq.toNat
 ·rw[if_pos h3];exact .inl ⟨55,by decide,rfl⟩
 rw[if_neg h3]
 by_cases h4:decide (p.buf.room<=(p.buf.evs.length:Int))=true/\(bK p.buf p.node p.inc).2.2≠0
 ·rw[if_pos h4];exact .inl ⟨_,h4.2,rfl⟩
 rw[if_neg h4]
 by_cases h5:(dk (if decide (p.buf.room<=(p.buf.evs.length:Int))=true then (bK p.buf p.node p.inc).1 else p.buf) ⟨⟨p.node,p.inc,p.seq+1⟩,vals,data⟩).2≠0
 ·rw[if_pos h5];exact .inl ⟨_,h5,rfl⟩
 rw[if_neg h5];exact .inr ⟨by simpa using h1,by simpa using h2,by omega,fun h=>Classical.byContradiction fun hc=>h4 ⟨h,hc⟩,Classical.byContradiction fun hc=>h5 hc,rfl⟩
end
end Go.Proofs.YtmhmahcdanclnaaGreat.V
namespace Go.Eng
structure iX where
 what:UInt8
 filter:List GSpan
 vals:List Int
 data:List UInt8
 m:aK
 draws:List UInt32
end Go.Eng
namespace Go.Proofs.YtmhmahcdanclnaaGreat.V
open Go.Eng
def cS(c:ar)(p:af)(o:iX):af×List aK×List GEvt×Bool×Int:=
 if o.what=0 then ((bE c p).1,[],[],false,(bE c p).2)
 else if o.what=1 then (jZ c p,[],[],false,0)
 else if o.what=2 then (if p.up=false then p else if (bA c.schema o.filter).2=0 then aB c { p with filter:=(bA c.schema o.filter).1 } []else p,[],[],false,if p.up=false then 53 else (bA c.schema o.filter).2)
 else if o.what=3 then (if p.up=false then p else jZ c p,if p.up=false then []else (aQ p).map (pMsg p 9),[],false,if p.up=false then 53 else 0)
 else if o.what=4 then ((aD c p o.vals o.data o.draws).1,(aD c p o.vals o.data o.draws).2.2.2.1,
  if (aD c p o.vals o.data o.draws).2.2.1=true then [(aD c p o.vals o.data o.draws).2.1]else [],decide ((aD c p o.vals o.data o.draws).2.2.2.2=0),(aD c p o.vals o.data o.draws).2.2.2.2)
 else if o.what=5 then ((eu c p o.draws).1,(eu c p o.draws).2,[],false,0)
 else if o.what=6 then ((aI c p o.m.ev).1,[],if (aI c p o.m.ev).2.2=true then [o.m.ev]else [],(aI c p o.m.ev).2.1,0)
 else ((bN c p o.m o.draws).1,(bN c p o.m o.draws).2.1,(bN c p o.m o.draws).2.2,false,0)
section
variable {c:ar} {p q:af} {m:aK} {dr:List UInt32} {e:GEvt} {G:List GID} {x:GID} {o:iX}
structure Dl(c:ar)(q:af)(G:List GID)(e:GEvt):Prop where
 up:q.up=true
 new:e.id∉G
 ok:bZ c.schema e=true
 row: ∃r,q.rows[e.id.node.toNat]? =some r/\ap7 r e.id=true
 fits:fb q.filter e.vals=true
 no:j5 c q e=false
 on:On c q (e.id::G)
end
section
variable {c:ar} {p q:af} {b:d7} {e:GEvt} {x:GID} {o:iX}
abbrev qn(e:GEvt):Nat:=e.id.key
structure aqU(c:ar)(e:GEvt):Prop where
 ok:bZ c.schema e=true
 node:(e.id.node.toNat:Int)<c.nodes
 seq:e.id.seq.toNat<=c.last.toNat
structure Bf(c:ar)(b:d7):Prop where
 room:b.room=c.buffer
 len:(b.evs.length:Int)<=c.buffer
 up:Up qn b.evs
 evs: ∀e∈b.evs,aqU c e
theorem aoY(l:List GEvt)(e:GEvt):aek l e=mV qn l e:=by
 unfold aek mV;rw[List.append_assoc];rfl
theorem fD{l:List GEvt}:cG l x=true↔ ∃e∈l,e.id=x:=by simp[cG]
theorem dm(b:d7)(e:GEvt):(dk b e=(b,150)/\cG b.evs e.id=true)\/(dk b e=(b,52)/\cG b.evs e.id=false/\b.room<=(b.evs.length:Int))\/
  (dk b e=(⟨b.room,mV qn b.evs e⟩,0)/\cG b.evs e.id=false/\(b.evs.length:Int)<b.room):=by grind [dk,cG,aoY]
theorem akm{y:GID}(h:y≠x):y.key≠x.key:=fun e=>h (GID.key_inj e)
theorem amo(h:Bf c b)(he:aqU c e):Bf c (dk b e).1:=by
 rcases dm b e with ⟨e1,_⟩|⟨e1,_⟩|⟨e1,e2,e3⟩
 ·rw[e1];exact h
 ·rw[e1];exact h
 ·rw[e1];refine⟨h.room,?_,xU h.up fun a ha=>?_,fun a ha=>?_⟩
  ·show((mV qn b.evs e).length:Int)<=_;rw[(jt b.evs e).length_eq,List.length_cons];have:=h.room;omega
  ·refine akm fun e4=>?_
   rw[fD.2 ⟨a,ha,e4⟩]at e2;cases e2
  ·rcases iw.1 ha with rfl|ha
   ·exact he
   ·exact h.evs a ha
theorem z3(h:Bf c b)(i:Nat):Bf c ⟨b.room,b.evs.eraseIdx i⟩:=by
 have hs:(b.evs.eraseIdx i).Sublist b.evs:=List.eraseIdx_sublist ..;refine⟨h.room,?_,h.up.sublist hs,fun a ha=>h.evs a (hs.subset ha)⟩
 have:=hs.length_le;have:=h.len;show((b.evs.eraseIdx i).length:Int)<=_;omega
theorem zU(h:Bf c b)(n:UInt8)(i:UInt16):Bf c (bK b n i).1:=by grind [bK,z3]
theorem ahw(h:Bf c b):Bf c (bY b x).1:=by
 unfold bY;split
 ·exact h
 ·exact z3 h _
