import Derived.Test.YthoihfighiolmaaGreatPt29
import Derived.Test.YthoihfighiolmaaGreatPt30
set_option linter.unusedSectionVars false
set_option linter.unusedSimpArgs false
set_option linter.unusedVariables false
set_option maxRecDepth 10000
namespace Go.Eng
theorem SubX.trans{p:Option Addr}{u v w:World}(h1:SubX p u v)(h2:SubX p v w):SubX p u w:=fun b o hb h hn=>h2 b o hb (h1 b o hb h hn) hn
theorem SubX.then{p:Option Addr}{u v w:World}(h1:SubX p u v)(h2:Sub v w):SubX p u w:=fun b o hb h hn=>h2 b o (h1 b o hb h hn) hn
def bP(many:Int):List GDesc->List GDesc->List UInt32->List GDesc
 |_,out,[]=>out
 |left,out,d::r=>if many<=(out.length:Int)then out else match left[d.toNat % left.length]? with
  |some x=>bP many (left.take (d.toNat % left.length)++left.drop (d.toNat % left.length+1)) (out++[x]) r
  |none=>out
theorem x_(many:Int)(out:List GDesc)(r:List UInt32):bP many [] out r=out:=by
 cases r with
 |nil=>rfl
 |cons d r=>simp[bP]
theorem sa{many:Int}{left out:List GDesc}{r:List UInt32}(h:many<=(out.length:Int)):bP many left out r=out:=by
 cases r with
 |nil=>rfl
 |cons d r=>simp[bP,h]
def aco(l:List GDesc)(self:GDesc)(many:Int)(draws:List UInt32)(node:UInt8):List GDesc:=⟨self.node,self.inc,0,self.filter⟩::bP (many-1) (aD l node) [] draws
theorem xF{L:List UInt32}{k:Nat}{x:UInt32}(hx:L[k]? =some x):L.drop k=x::L.drop (k+1):=by grind [List.getElem?_eq_some_iff,List.getElem_cons_drop]
end Go.Eng
namespace Go.Proofs.YthoihfighiolmaaGreat
open Go.Eng
attribute [local go_sem] GSpan.val GSpan.enc PD.val PD.enc
end Go.Proofs.YthoihfighiolmaaGreat
namespace Go.Eng
theorem wA(many:Int): ∀(r:List UInt32) (left out:List GDesc),(bP many left out r).length<=out.length+r.length:=by
 intro r
 induction r with
 |nil=>intro left out;simp[bP]
 | cons d r ih=>
  intro left out;rw[bP];split
  ·simp
  ·split
   ·refine Nat.le_trans (ih _ _) ?_;simp;omega
   ·simp
theorem qa(many:Int): ∀(r:List UInt32) (left out:List GDesc) (x:GDesc),x∈bP many left out r->x∈left\/x∈out:=by
 intro r
 induction r with
 |nil=>intro left out x h;exact .inr h
 | cons d r ih=>
  intro left out x h;rw[bP]at h;split at h
  ·exact .inr h
  ·split at h
   ·rename_i y hy;rcases ih _ _ x h with h|h
    ·rcases List.mem_append.1 h with h|h
     ·exact .inl (List.mem_of_mem_take h)
     ·exact .inl (List.mem_of_mem_drop h)
    ·rcases List.mem_append.1 h with h|h
     ·exact .inr h
     ·simp at h;subst h;exact .inl (List.mem_of_getElem? hy)
   ·exact .inr h
end Go.Eng
namespace Go.Proofs.YthoihfighiolmaaGreat
open Go.Eng
attribute [local go_sem] GSpan.val GSpan.enc PD.val PD.enc
end Go.Proofs.YthoihfighiolmaaGreat
namespace Go.Eng
def cw(L got:List GDesc):List GDesc->List GDesc×Bool×List GDesc
 |[]=>(L,false,[])
 |s::r=>if cd L s.node≠none/\cd got s.node=none then (aD L s.node,true,r)else cw L got r
def cC(got0:List GDesc)(self:UInt8)(room:Int):List GDesc->List GDesc->List GDesc->List GDesc
 |L,_,[]=>L
 |L,S,d::r=>
  if (bH L d self room).2=true then cC got0 self room (bH L d self room).1 S r
  else if d.node=self\/d.inc=0\/cd L d.node≠none then cC got0 self room L S r
  else if (cw L got0 S).2.1=true then cC got0 self room (bH (cw L got0 S).1 d self ((cw L got0 S).1.length+1)).1 (cw L got0 S).2.2 r
  else cC got0 self room L (cw L got0 S).2.2 r
end Go.Eng
namespace Go.Proofs.YthoihfighiolmaaGreat
open Go.Eng
attribute [local go_sem] GSpan.val GSpan.enc PD.val PD.enc
end Go.Proofs.YthoihfighiolmaaGreat
namespace Go.Eng
end Go.Eng
namespace Go.Proofs.YthoihfighiolmaaGreat
open Go.Eng
attribute [local go_sem] GSpan.val GSpan.enc PD.val PD.enc
end Go.Proofs.YthoihfighiolmaaGreat
namespace Go.Eng
def ok8(l:List GDesc):Prop:=l.length<=1100000/\ ∀d∈l,d.filter.length<=8
theorem ok8.toDs{l:List GDesc}(h:ok8 l):aR l:=⟨by have:=h.1;omega,fun d hd=>by have:=h.2 d hd;omega⟩
end Go.Eng
namespace Go.Proofs.YthoihfighiolmaaGreat.V
open Go.Eng
attribute [local go_sem] aP af fzD plR bb eI z8 z16 z32 z64 List.map_cons List.map_nil
theorem jz(l:List GDesc)(hu:Up bS l)(d:GDesc)(self:UInt8)(room:Int)(hl:aR l)(hd:d.filter.length<=4000000):Con2 Tryz.prog 349 [fzD l,.agg (af d),.v (.int .u8 self.toNat),.v (.int .i64 room)] (· =plR (.tup [fzD (bH l d self room).1,.v (.bool (bH l d self room).2)])):=
 Con2.emb (aiE l hu d self room hl hd) (by simp[fzD,embD,embDs,embC,lk,rfD,aF]) rfl
theorem ajP{l:List GDesc}{d:GDesc}{self:UInt8}{room:Int}(h:(bH l d self room).2=false):(bH l d self room).1=l:=by grind [bH]
theorem abT{self:UInt8}{room:Int}: ∀(r v:List GDesc),Vw self v->(∀x∈v,x.filter.length<=8)->(∀x∈r,x.filter.length<=8)->Vw self (dy self room v r)/\(∀x∈dy self room v r,x.filter.length<=8)/\(dy self room v r).length<=v.length+r.length
 |[],v,h1,h2,_=>⟨h1,h2,Nat.le_refl _⟩
 |d::r,v,h1,h2,h3=>by
  obtain⟨g1,g2,g3⟩:=abT (self:=self) (room:=room) r (bH v d self room).1 (mG h1 d room) (fun x hx=>(put_mem x hx).elim (h2 x) (fun e=>e▸h3 d List.mem_cons_self)) (fun x hx=>h3 x (List.mem_cons_of_mem _ hx))
  have:=hX (self:=self) (l:=v) d room;exact⟨g1,g2,by rw[dy,List.length_cons];omega⟩
theorem al2(l got:List GDesc)(self:UInt8)(room:Int)(hl:ok8 l)(hg:ok8 got)(hv:Vw self l):Con2 Tryz.prog 307 [fzD l,fzD got,.v (.int .u8 self.toNat),.v (.int .i64 room)] (· =plR (fzD (dy self room l got))):=by
 refine Con2.ofEmb ?_;obtain⟨V,hV⟩: ∃V:Nat->List GDesc,V=fun k=>dy self room l (got.take k):=⟨_,rfl⟩
 have hV0:V 0=l:=by rw[hV];rfl
 have hVe:V got.length=dy self room l got:=by rw[hV];simp only;rw[List.take_length]
 have hVn: ∀k (hk:k<got.length),V (k+1)=(bH (V k) got[k] self room).1:=fun k hk=>by
  rw[hV];simp only;rw[List.take_add_one,List.getElem?_eq_getElem hk];exact adj self room _ _ _
 have hVk: ∀k,Vw self (V k)/\aR (V k):=fun k=>by
  rw[hV];obtain⟨g1,g2,g3⟩:=abT (self:=self) (room:=room) (got.take k) l hv hl.2 (fun x hx=>hg.2 x (List.mem_of_mem_take hx))
  have h1:=hl.1;have h2:=hg.1;rw[List.length_take]at g3;exact⟨g1,by show(dy self room l (got.take k)).length<=4000000;omega,fun d hd=>by have:=g2 d hd;omega⟩
 have hg1:=hg.1;rw[<-hVe];clear hV hVe;refine en_ Tryz.func307 [.tmp 8] ?_;refine g2_ ?_;refine cw_ (bh l hl.toDs) ?_;refine gx_ ?_;refine ay got.length (fun k=>[(9,.d (fzD (V k)))]) (fun _=>[]) (fun k=>[]) 0 (fun k=>True) (aa [] ?_) trivial (fun g k=>by first|rfl|(repeat first|simp-implicitDefEqProofs only[go_sem,ab]|with_reducible refine gl_ ?_)) (by omega) (fun g=>ws_) (fun k hk hF=>?_) (fun hF=>?_)
 ·refine gf_ hV0 ?_
  first|done|rfl|exact⟨rfl,rfl⟩
 ·have kp:=jz (V k) (hVk k).1.2 got[k] self room (hVk k).2 (by have:=hg.2 _ (List.getElem_mem hk);omega)
  have hn:=hVn k hk;refine gf_ (mE_ hk) ?_;refine cw_ kp (g2_ ?_);cases hP:(bH (V k) got[k] self room).2 with
  |true=>
   refine g2_ ?_;refine⟨k+1,aa [] ?_,rfl⟩;exact wf_ hn
  |false=>
   refine g2_ ?_;rw[ajP hP]at hn;refine⟨k+1,aa [] ?_,rfl⟩;exact wf_ hn
 ·refine g2_ ?_;refine ae ?_ rfl;exact ws_
theorem ajq(l:List GDesc)(d:GDesc)(self:UInt8)(room:Int)(hl:ok8 l)(hd:d.filter.length<=8)(hv:Vw self l):Con2 Tryz.prog 305 [fzD l,.agg (af d),.v (.int .u8 self.toNat),.v (.int .i64 room)] (· =plR (fzD (dJ l d self room))):=by
 refine Con2.ofEmb ?_;have k1:=jz l hv.2 d self room hl.toDs (by omega)
 have k2:=bh l hl.toDs;have k3:=xl l hv.2 d.node (by have:=hl.1;omega)
 have k4:=oX l (by have:=hl.1;omega)
 have hl1:=hl.1;obtain⟨R,hR⟩: ∃R,dJ l d self room=R:=⟨_,rfl⟩;rw[hR];unfold dJ at hR;refine en_ Tryz.func305 [.tmp 8] (g2_ ?_);refine g2_ ?_;refine im_ Tryz.func348 [.tmp 6,.tmp 7] (g2_ ?_);refine g2_ ?_;refine cw_ k1 (g2_ ?_);cases hP:(bH l d self room).2 with
 |true=>
  rw[if_pos hP]at hR;subst hR;refine g2_ ?_;refine ae ?_ rfl;exact ws_
 |false=>
 rw[if_neg (by rw[hP];decide)]at hR
 refine gx_ ?_
 by_cases hl0:l=[]
 ·have hR2:R=l:=by rw[<-hR,hl0];split<;>rfl
  rw[hR2];rw[show((l.length:Int)==0)=true by rw[hl0];rfl]
  refine g2_ ?_;refine cw_ k2 (g2_ ?_);refine ae ?_ rfl;exact ws_
 have hlp:=List.length_pos_iff.2 hl0;rw[show((l.length:Int)==0)=false from beq_eq_false_iff_ne.2 (by omega)]
 refine g2_ ?_;rw[bt]
 by_cases h1:d.node=self
 ·rw[if_pos (.inl h1)]at hR;subst hR;rw[decide_eq_true h1];refine g2_ ?_;refine cw_ k2 (g2_ ?_);refine ae ?_ rfl;exact ws_
 rw[decide_eq_false h1];refine g2_ ?_;rw[ga]
 by_cases h2:d.inc=0
 ·rw[if_pos (.inr (.inl h2))]at hR;subst hR;rw[decide_eq_true h2];refine g2_ ?_;refine cw_ k2 (g2_ ?_);refine ae ?_ rfl;exact ws_
 rw[decide_eq_false h2];refine g2_ ?_;refine cw_ k3 (g2_ ?_)
 by_cases h3:cd l d.node=none
 ·rw[if_neg (fun h=>h.elim h1 fun h=>h.elim h2 fun h=>h h3)]at hR
  rw[decide_eq_false (show ¬(0:Int)<=fb l d.node by have:=find_neg.2 h3;omega)]
  refine g2_ ?_;refine cw_ k4 ?_;unfold eb;cases hO:m3 l with
  |none=>
   rw[hO]at hR;simp only at hR;subst hR;refine g2_ ?_;rw[show decide ((-1:Int)<0)=true from rfl]
   refine g2_ ?_;refine cw_ k2 (g2_ ?_);refine ae ?_ rfl;exact ws_
  |some i=>
   obtain⟨hi,_⟩:=List.findIdx?_eq_some_iff_getElem.1 hO;rw[hO]at hR;simp only at hR;rw[List.getElem?_eq_getElem hi]at hR;simp only at hR;have hd8: ∀x∈aD l l[i].node,x.filter.length<=8:=fun x hx=>hl.2 x (List.mem_filter.1 hx).1
   have hdl:(aD l l[i].node).length<=l.length:=List.length_filter_le _ _;have k5:Con2 Tryz.prog 117 [fzD l,.v (.int .u8 l[i].node.toNat)] (· =plR (fzD (aD l l[i].node))):=ep (qo l hv.2 _ hl.toDs)
   have k6:=jz (aD l l[i].node) (og hv _).2 d self l.length ⟨by omega,fun x hx=>by have:=hd8 x hx;omega⟩ (by omega)
   subst hR;refine gf_ (mE_ hi) ?_;generalize l[i]=o at k5 k6 ⊢;refine cw_ k5 (gx_ ?_);refine im_ Tryz.func348 [.tmp 6,.tmp 7] (g2_ ?_);refine g2_ ?_;refine cw_ k6 (g2_ ?_);refine ae ?_ rfl;exact ws_
 ·rw[if_pos (.inr (.inr h3))]at hR;subst hR;rw[decide_eq_true (show(0:Int)<=fb l d.node from Int.not_lt.1 (fun h=>h3 (find_neg.1 h)))]
  refine g2_ ?_;refine cw_ k2 (g2_ ?_);refine ae ?_ rfl;exact ws_
theorem aj0(node left:UInt8)(l:List GDesc)(hl:ok8 l):Con2 Tryz.prog 219 [.v (.int .u8 node.toNat),.v (.int .u8 left.toNat),fzD l] (· =plR (.agg (eI (wStart node left l)))):=by
 refine Con2.ofEmb ?_;refine en_ Tryz.func219 [.cell 6 38] (g2_ ?_);refine gf_ @aaU ?_;refine cw_ (bh l hl.toDs) (gf_ @aaU ?_);refine ae ?_ rfl;exact wf_ (c2_ @wStart.eq_1 @aaU)
theorem al1(w:GW)(hw:ok8 w.sent):Con2 Tryz.prog 116 [.agg (eI w)] (· =plR (.tup [.agg (eI (cI w).1),.v (.int .u8 (cI w).2.1.toNat),.v (.bool (cI w).2.2)])):=by
 refine Con2.ofEmb ?_;obtain⟨R,hR⟩: ∃R,cI w=R:=⟨_,rfl⟩;rw[hR];unfold cI at hR;refine en_ Tryz.func116 [.cell 2 38,.tmp 3,.tmp 4] (g2_ ?_);refine g2_ ?_;cases h1:w.some with
 |false=>
  rw[h1,if_neg (by decide)]at hR
  subst hR;refine g2_ ?_;refine ae ?_ rfl;exact wf_ @wZero.eq_1
 | true=>
  rw[h1,if_pos rfl]at hR;refine g2_ ?_
  by_cases h2:w.left<=1
  ·rw[if_pos h2]at hR;subst hR;rw[decide_eq_true (show(w.left.toNat:Int)<=1 by have:=UInt8.le_iff_toNat_le.1 h2;have e:(1:UInt8).toNat=1:=rfl;omega)]
   refine g2_ ?_;refine .inr (.inr (.inl ⟨[oF 0,oF 1,oF 2,oT 3,oF 4,oF 5],[2],by kernel_rfl,g2_ ?_⟩))
   refine ae ?_ rfl;exact wf_ @wZero.eq_1
  ·rw[if_neg h2]at hR;subst hR;have e:(1:UInt8).toNat=1:=rfl;have h3: ¬(w.left.toNat:Int)<=1:=fun h=>h2 (UInt8.le_iff_toNat_le.2 (by omega))
   rw[decide_eq_false h3]
   have h4:(w.left.toNat:Int)-1=((w.left-1).toNat:Int):=by
    rw[UInt8.toNat_sub_of_le _ _ (UInt8.le_iff_toNat_le.2 (by omega))]
    omega
   have hl9:=w.left.toNat_lt;refine g2_ ?_;refine dx (by omega) ?_
   refine gf_ h4 ?_;refine cw_ (bh w.sent hw.toDs) (g2_ ?_);refine ae ?_ rfl;exact ws_
theorem agh(w:GW)(frm:UInt8)(hw:ok8 w.sent):Con2 Tryz.prog 310 [.agg (eI w),.v (.int .u8 frm.toNat)] (· =plR (.tup [.agg (eI (du w frm).1),fzD (du w frm).2.1,.v (.bool (du w frm).2.2)])):=by
 refine Con2.ofEmb ?_;obtain⟨R,hR⟩: ∃R,du w frm=R:=⟨_,rfl⟩;rw[hR];unfold du at hR;refine en_ Tryz.func310 [.cell 4 38,.tmp 5,.tmp 6] (g2_ ?_);refine g2_ ?_;refine cw_ (bh w.sent hw.toDs) (g2_ ?_);cases h1:w.some with
 |false=>
  rw[if_neg (fun h=>by rw[h1]at h;cases h.1)]at hR
  subst hR;refine g2_ ?_;refine ae ?_ rfl;exact wf_ h1
 | true=>
  refine g2_ ?_;rw[bt]
  by_cases h2:w.node=frm
  ·rw[if_pos ⟨h1,h2⟩]at hR;subst hR;rw[decide_eq_true h2];refine g2_ ?_;refine ae ?_ rfl;exact wf_ @wZero.eq_1
  ·rw[if_neg (fun h=>h2 h.2)]at hR
   subst hR;rw[decide_eq_false h2];refine g2_ ?_;refine ae ?_ rfl;exact wf_ h1
def aZ(x:UInt32):List DV:=[.v (.int .u32 x.toNat)]
def dZ(l:List GDesc)(self:GDesc)(many:Int)(dr:List UInt32):UInt8×List GDesc×Bool:=
 match m3 l with
 |some i=>match l[i]? with
  |some o=>if 1<=many then (o.node,aco l self many dr o.node,true)else (0,[],false)
  |none=>(0,[],false)
 |none=>(0,[],false)
