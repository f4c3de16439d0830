import Derived.Test.YthoihfighiolmaaGreatPt16
set_option linter.unusedSectionVars false
set_option linter.unusedSimpArgs false
set_option linter.unusedVariables false
set_option maxRecDepth 10000
namespace Go.Eng
structure GSpan where
 a:Int
 b:Int
deriving DecidableEq
def GSpan.enc(x:GSpan):List Value:=[.int .i32 x.a,.int .i32 x.b]
def GSpan.val(x:GSpan):Value:=.agg #[.int .i32 x.a,.int .i32 x.b]
theorem GSpan.cells(x:GSpan):x.val.cells.toList=x.enc:=rfl
structure GDesc where
 node:UInt8
 inc:UInt16
 age:UInt8
 filter:List GSpan
deriving DecidableEq
theorem aeF{x y:GSpan}:(x.a==y.a&&(x.b==y.b))=decide (x=y):=by
 rw[Bool.eq_iff_iff];simp only[Bool.and_eq_true,beq_iff_eq,decide_eq_true_eq];cases x;cases y;simp
attribute [go_sem] aeF
theorem bt(x y:UInt8):((x.toNat:Int)==(y.toNat:Int))=decide (x=y):=by
 rw[Bool.eq_iff_iff];simp only[beq_iff_eq,decide_eq_true_eq];rw[<-UInt8.toNat_inj];omega
theorem d4(x y:UInt16):((x.toNat:Int)==(y.toNat:Int))=decide (x=y):=by
 rw[Bool.eq_iff_iff];simp only[beq_iff_eq,decide_eq_true_eq];rw[<-UInt16.toNat_inj];omega
theorem ql(x y:UInt8):((x.toNat:Int) !=(y.toNat:Int))= !decide (x=y):=by rw[<-bt];rfl
theorem jL(x y:UInt16):((x.toNat:Int) !=(y.toNat:Int))= !decide (x=y):=by rw[<-d4];rfl
theorem ga(x:UInt16):((x.toNat:Int)==0)=decide (x=0):=d4 x 0
theorem dH(x y:UInt8):((x.toNat:Int)<(y.toNat:Int))↔x<y:=by rw[UInt8.lt_iff_toNat_lt];omega
theorem amK(x y:UInt8):((x.toNat:Int)<=(y.toNat:Int))↔x<=y:=by rw[UInt8.le_iff_toNat_le];omega
theorem cZ(x y:UInt16):((x.toNat:Int)<(y.toNat:Int))↔x<y:=by rw[UInt16.lt_iff_toNat_lt];omega
section
variable {α:Type} (key:α->Nat)
abbrev Up(l:List α):Prop:=l.Pairwise fun a b=>key a<key b
def kAt(l:List α)(x:α):Nat:=(l.findIdx? fun a=>decide (key x<key a)).getD l.length
def m9(l:List α)(x:α):List α:=l.take (kAt key l x)++[x]++l.drop (kAt key l x)
variable {key}
theorem r9(l:List α)(x:α):(m9 key l x).Perm (x::l):=by grind [m9,List.append_assoc,List.singleton_append,List.perm_middle,List.take_append_drop]
theorem wU{l:List α}{x y:α}:y∈m9 key l x↔y=x\/y∈l:=by
 rw[(r9 l x).mem_iff];simp
theorem y8(l:List α)(x:α):kAt key l x=l.findIdx fun a=>decide (key x<key a):=by
 unfold kAt;rw[List.findIdx_eq_getD_findIdx?]
theorem afT{l:List α}{x a:α}(h:a∈l.take (kAt key l x)):key a<=key x:=by grind [y8,List.mem_take_iff_getElem,List.not_of_lt_findIdx]
theorem xQ{l:List α}{x a:α}(hs:Up key l)(h:a∈l.drop (kAt key l x)):key x<key a:=by grind [y8,List.mem_drop_iff_getElem,List.findIdx_getElem,Nat.eq_zero_or_pos,List.pairwise_iff_getElem,Nat.add_comm]
theorem aj3{l:List α}{x:α}(hs:Up key l)(hx: ∀a∈l,key a≠key x):Up key (m9 key l x):=by
 unfold m9;have h1:(l.take (kAt key l x)).Pairwise fun a b=>key a<key b:=hs.sublist (List.take_sublist _ _)
 have h2:(l.drop (kAt key l x)).Pairwise fun a b=>key a<key b:=hs.sublist (List.drop_sublist _ _)
 rw[Up,List.append_assoc,List.pairwise_append];refine⟨h1,?_,?_⟩
 ·rw[List.singleton_append,List.pairwise_cons];exact⟨fun a ha=>xQ hs ha,h2⟩
 ·intro a ha b hb;have h3:=afT ha;have h4:=hx a (List.mem_of_mem_take ha);have h5:key a<key x:=by omega
  rcases List.mem_append.1 hb with hb|hb
  ·simp at hb;subst hb;exact h5
  ·have:=xQ hs hb;omega
end
abbrev bS(d:GDesc):Nat:=d.node.toNat
def cK(a b:GDesc):Bool:=if a.inc=b.inc then decide (a.age<b.age)else decide (b.inc<a.inc)
def Vw(self:UInt8)(l:List GDesc):Prop:=(∀d∈l,d.node≠self/\d.inc≠0)/\Up bS l
instance (self:UInt8) (l:List GDesc):Decidable (Vw self l):=inferInstanceAs (Decidable (_/\_))
def mJ(l:List GDesc)(self:UInt8)(room:Int):Bool:=decide (0<=room/\(l.length:Int)<=room/\Vw self l)
def cd(l:List GDesc)(node:UInt8):Option Nat:=l.findIdx? fun d=>decide (d.node=node)
def fb(l:List GDesc)(node:UInt8):Int:=match cd l node with|some i=>(i:Int)|none=> -1
def aD(l:List GDesc)(node:UInt8):List GDesc:=l.filter fun d=> !decide (d.node=node)
def bH(l:List GDesc)(d:GDesc)(self:UInt8)(room:Int):List GDesc×Bool:=
 if d.node=self\/d.inc=0 then (l,false)
 else match cd l d.node with
  |some i=>match l[i]? with
   |some o=>if cK d o=true then (l.set i d,true)else (l,false)
   |none=>(l,false)
  |none=>if room<=(l.length:Int)then (l,false)else (m9 bS l d,true)
def GDesc.older(d:GDesc):GDesc:=if d.age=255 then d else { d with age:=d.age+1 }
def bf(l:List GDesc):List GDesc:=l.map GDesc.older
def m3(l:List GDesc):Option Nat:=l.findIdx? fun d=>decide (∀e∈l,e.age<=d.age)
def eb(l:List GDesc):Int:=match m3 l with|some i=>(i:Int)|none=> -1
theorem dS{l:List GDesc}{node:UInt8}{i:Nat}(h:cd l node=some i): ∃o,l[i]? =some o/\o.node=node:=by
 obtain⟨hi,hk,_⟩:=List.findIdx?_eq_some_iff_getElem.1 h;exact⟨l[i],List.getElem?_eq_getElem hi,by simpa using hk⟩
theorem gn{l:List GDesc}{node:UInt8}(h:cd l node=none): ∀d∈l,d.node≠node:=by
 intro d hd;simpa using List.findIdx?_eq_none_iff.1 h d hd
theorem zK(self:UInt8):Vw self []:=⟨by simp,by simp⟩
theorem agy{a b:GDesc}(h:bS a=bS b):a.node=b.node:=UInt8.toNat_inj.1 h
theorem akq{self:UInt8}{l:List GDesc}(hv:Up bS l){i:Nat}{o:GDesc}(h:l[i]? =some o):cd l o.node=some i:=by
 obtain⟨hi,rfl⟩:=List.getElem?_eq_some_iff.1 h;unfold cd;rw[List.findIdx?_eq_some_iff_getElem];refine⟨hi,by simp,fun j hj=>?_⟩
 have:=List.pairwise_iff_getElem.1 hv j i (by omega) hi hj
 simp;intro e;have:bS l[j]=bS l[i]:=by unfold bS;rw[e]
 omega
theorem alS{self:UInt8}{l:List GDesc}{i:Nat}{o d:GDesc}(hv:Vw self l)(hi:l[i]? =some o)(hn:o.node=d.node)(h1:d.node≠self)(h2:d.inc≠0):Vw self (l.set i d):=by
 refine⟨fun e he=>?_,?_⟩
 ·rcases List.mem_or_eq_of_mem_set he with he|rfl
  ·exact hv.1 e he
  ·exact⟨h1,h2⟩
 ·have:(l.set i d).map bS=l.map bS:=by
   rw[List.map_set];apply List.ext_getElem?;intro j;rw[List.getElem?_set];split
   ·rename_i e;subst e;obtain⟨hlt,rfl⟩:=List.getElem?_eq_some_iff.1 hi;simp[hlt,bS,hn]
   ·rfl
  have hu:((l.set i d).map bS).Pairwise (· < ·):=by rw[this];exact List.pairwise_map.2 hv.2
  exact List.pairwise_map.1 hu
theorem ame{self:UInt8}{l:List GDesc}{d:GDesc}(hv:Vw self l)(hn: ∀e∈l,e.node≠d.node)(h1:d.node≠self)(h2:d.inc≠0):Vw self (m9 bS l d):=by
 refine⟨fun e he=>?_,aj3 hv.2 fun e he k=>hn e he (agy k)⟩
 rcases wU.1 he with rfl|he
 ·exact⟨h1,h2⟩
 ·exact hv.1 e he
theorem mG{self:UInt8}{l:List GDesc}(hv:Vw self l)(d:GDesc)(room:Int):Vw self (bH l d self room).1:=by grind [bH,dS,alS,ame,gn]
theorem o_{α:Type}{key:α->Nat}(l:List α)(x:α):(m9 key l x).length=l.length+1:=by
 have:=(r9 (key:=key) l x).length_eq;simpa using this
theorem hX{self:UInt8}{l:List GDesc}(d:GDesc)(room:Int):(bH l d self room).1.length<=l.length+1:=by grind [bH,o_]
theorem oC{self:UInt8}{l:List GDesc}(d:GDesc){room:Int}(h:(l.length:Int)<=room):((bH l d self room).1.length:Int)<=room:=by grind [bH,o_]
theorem og{self:UInt8}{l:List GDesc}(hv:Vw self l)(node:UInt8):Vw self (aD l node):=⟨fun e he=>hv.1 e (List.mem_filter.1 he).1,hv.2.filter _⟩
theorem fW(l:List GDesc)(node:UInt8):(aD l node).length<=l.length:=List.length_filter_le _ _
theorem kZ(d:GDesc):d.older.node=d.node:=by unfold GDesc.older;split<;>rfl
theorem ace(d:GDesc):d.older.inc=d.inc:=by unfold GDesc.older;split<;>rfl
theorem xy{self:UInt8}{l:List GDesc}(hv:Vw self l):Vw self (bf l):=by
 refine⟨fun e he=>?_,?_⟩
 ·obtain⟨d,hd,rfl⟩:=List.mem_map.1 he;rw[kZ,ace];exact hv.1 d hd
 ·rw[Up,bf,List.pairwise_map];refine hv.2.imp ?_;intro a b h;unfold bS;rw[kZ,kZ];exact h
def aP(s:GSpan):List DV:=[.v (.int .i32 s.a),.v (.int .i32 s.b)]
def af(d:GDesc):List DV:=[.v (.int .u8 d.node.toNat),.v (.int .u16 d.inc.toNat),.v (.int .u8 d.age.toNat),.fz 2 (d.filter.map aP)]
def fzD(l:List GDesc):DV:=.fz 4 (l.map af)
theorem jP(x y:GDesc):decide (x=y)=(((x.node.toNat:Int)==y.node.toNat)&&((x.inc.toNat:Int)==y.inc.toNat)&&((x.age.toNat:Int)==y.age.toNat)&&decide (x.filter=y.filter)):=by
 rw[bt,d4,bt];cases x;cases y;rw[Bool.eq_iff_iff];simp[and_comm,and_left_comm,and_assoc]
end Go.Eng
namespace Go.Proofs.YthoihfighiolmaaGreat.V
open Go.Eng
attribute [local go_sem] aP af fzD plR
theorem oZ(l m:List GSpan)(hl:l.length<=9223372036854775807):Con2 Tryz.prog 66 [.fz 2 (l.map aP),.fz 2 (m.map aP)] (· =plR (.v (.bool (decide (l=m))))):=by
 refine en_ Tryz.func66 [.tmp 4] ?_;refine g2_ ?_;refine cu (fun h=>?_) (fun h=>?_)
 ·refine g2_ ?_;have hne:l≠m:=fun e=>h (by rw[e])
  exact⟨_,rfl,aa [] (wf_ hne)⟩
 ·refine g2_ ?_;have hlm:l.length=m.length:=by omega
  refine ay l.length (fun k=>[]) (fun _=>[]) (fun k=>[]) 0 (fun k=>l.take k=m.take k) (aa [] ?_) rfl (fun g k=>ws_) (by omega) (fun g=>ws_) (fun k hk hF=>?_) (fun hF=>?_)
  ·refine g2_ ?_
   first|rfl|exact⟨rfl,rfl⟩
  ·have hk2:k<m.length:=by omega
   refine g2_ ?_;refine .inl ⟨[oF 0,oF 1,oF 4,oF 5,oF 2,oF 6,oF 3,oF 7,oF 8],by kernel_rfl,gf_ (c2_ (mE_ hk) (mE_ hk2)) ?_⟩
   refine aq (fun he=>?_) (fun he=>?_)
   ·refine g2_ ?_;refine⟨k+1,aa [] ws_,rfl,?_⟩;rw[List.take_add_one,List.take_add_one,List.getElem?_eq_getElem hk,List.getElem?_eq_getElem hk2,he,hF]
   ·refine g2_ ?_;have hne:l≠m:=fun e=>he (by subst e;rfl)
    exact⟨_,rfl,aa [] (wf_ hne)⟩
  ·refine g2_ ?_
   have hee:l=m:=by
    have:=hF
    rwa[List.take_of_length_le (Nat.le_refl _),List.take_of_length_le (by omega)]at this
   exact⟨_,rfl,aa [] (wf_ hee)⟩
theorem kj(a b:GDesc)(ha:a.filter.length<=9223372036854775807):Con2 Tryz.prog 22 [.agg (af a),.agg (af b)] (· =plR (.v (.bool (decide (a=b))))):=by
 refine en_ Tryz.func22 [.tmp 4] ?_;refine g2_ ?_;refine ic (fun h1=>?_) (fun h1=>?_)
 ·refine gf_ h1 ?_;refine ic (fun h2=>?_) (fun h2=>?_)
  ·refine gf_ h2 ?_;refine ic (fun h3=>?_) (fun h3=>?_)
   ·refine gf_ h3 ?_;refine ce_ (oZ a.filter b.filter ha) (g2_ ?_);exact⟨_,rfl,aa [] (wi_ @jP h1 h2 h3)⟩
   ·refine gf_ h3 ?_;exact⟨_,rfl,aa [] (wi_ @jP h1 h2 h3)⟩
  ·refine gf_ h2 ?_;exact⟨_,rfl,aa [] (wh_ @jP h1 h2)⟩
 ·refine gf_ h1 ?_;exact⟨_,rfl,aa [] (wg_ @jP h1)⟩
end Go.Proofs.YthoihfighiolmaaGreat.V
namespace Go.Eng
def aU(l:List GDesc)(node:UInt8):Nat:=l.findIdx fun d=>decide (node<=d.node)
def d5(l:List GDesc)(node:UInt8):Bool:=(cd l node).isSome
section
variable {l:List GDesc} {node:UInt8}
theorem pZ(l:List GDesc)(node:UInt8):aU l node<=l.length:=List.findIdx_le_length
theorem jN(hu:Up bS l){h:Nat}{o:GDesc}(ho:l[h]? =some o):node<=o.node↔aU l node<=h:=by
 obtain⟨hh,rfl⟩:=List.getElem?_eq_some_iff.1 ho;constructor
 ·intro hle;rcases Nat.lt_or_ge h (aU l node)with h1|h1
  ·have:=List.not_of_lt_findIdx h1;exact absurd hle (by simpa using this)
  ·exact h1
 ·intro hle;have hlt:aU l node<l.length:=by omega
  have h1:=List.findIdx_getElem (w:=hlt);simp only[decide_eq_true_eq]at h1;rw[UInt8.le_iff_toNat_le]at h1 ⊢;rcases Nat.eq_or_lt_of_le hle with e|h2
  ·have:l[List.findIdx (fun d=>decide (node<=d.node)) l]=l[h]:=by congr 1
   rw[this]at h1;exact h1
  ·have:=List.pairwise_iff_getElem.1 hu _ _ hlt hh h2;unfold bS aU at this;omega
theorem fC(hu:Up bS l){i:Nat}(h:cd l node=some i):aU l node=i:=by
 obtain⟨o,ho,hn⟩:=dS h;have h1:=(jN hu (node:=node) ho).1 (by rw[hn];exact UInt8.le_refl _)
 obtain⟨hi,rfl⟩:=List.getElem?_eq_some_iff.1 ho;rcases Nat.eq_or_lt_of_le h1 with e|h2
 ·exact e
 ·exfalso;have h3:l[aU l node]? =some l[aU l node]:=List.getElem?_eq_getElem (by omega)
  have h4:=(jN hu (node:=node) h3).2 (Nat.le_refl _);have h5:=List.pairwise_iff_getElem.1 hu _ _ (by omega) hi h2
  rw[UInt8.le_iff_toNat_le]at h4;have h6:node.toNat=l[i].node.toNat:=by rw[hn]
  unfold bS at h5;omega
theorem wu(hu:Up bS l){o:GDesc}(ho:l[aU l node]? =some o):decide (o.node=node)=d5 l node:=by
 unfold d5;cases hi:cd l node with
 |some i=>
  have:=fC hu hi;obtain⟨o',ho',hn⟩:=dS hi;rw[this,ho']at ho;cases ho;simp[hn]
 |none=>
  have:=gn hi o (List.mem_of_getElem? ho);simp[this]
theorem adX(hu:Up bS l)(h:aU l node=l.length):d5 l node=false:=by
 unfold d5;cases hi:cd l node with
 |none=>rfl
 |some i=>
  have:=fC hu hi;obtain⟨o',ho',hn⟩:=dS hi;obtain⟨hlt,_⟩:=List.getElem?_eq_some_iff.1 ho';omega
theorem sB{d:GDesc}(h:cd l d.node=none):kAt bS l d=aU l d.node:=by
 rw[y8];unfold aU;have hn:=gn h;clear h
 induction l with
 |nil=>rfl
 | cons a r ih=>
  have h1:=hn a List.mem_cons_self
  have h2:decide (bS d<bS a)=decide (d.node<=a.node):=by
   rw[decide_eq_decide,UInt8.le_iff_toNat_le];unfold bS;have:a.node.toNat≠d.node.toNat:=fun e=>h1 (UInt8.toNat_inj.1 e)
   omega
  rw[List.findIdx_cons,List.findIdx_cons,h2,ih (fun e he=>hn e (List.mem_cons_of_mem _ he))]
theorem wQ(hu:Up bS l){i:Nat}(h:cd l node=some i):aD l node=l.take i++l.drop (i+1):=by
 obtain⟨o,ho,hn⟩:=dS h;obtain⟨hi,rfl⟩:=List.getElem?_eq_some_iff.1 ho
 have hne: ∀j (hj:j<l.length),j≠i->l[j].node≠node:=by
  intro j hj hji e;have h1:cd l l[j].node=some j:=akq (self:=0) hu (List.getElem?_eq_getElem hj);rw[e,h]at h1;cases h1;exact hji rfl
 unfold aD
 conv=>lhs;rw[<-List.take_append_drop i l,List.filter_append]
 rw[List.filter_eq_self.2, <-List.getElem_cons_drop hi,List.filter_cons]
 ·simp only[hn,decide_true,Bool.not_true,Bool.false_eq_true,if_false];rw[List.filter_eq_self.2];intro d hd;obtain⟨j,hj,rfl⟩:=List.mem_drop_iff_getElem.1 hd;have:=hne (j+(i+1)) hj (by omega)
  simp only[Nat.add_comm]at this ⊢;simpa using this
 ·intro d hd;obtain⟨j,hj,rfl⟩:=List.mem_take_iff_getElem.1 hd;simpa using hne j (by omega) (by omega)
theorem sJ(h:cd l node=none):aD l node=l:=by grind [aD,List.filter_eq_self,gn]
