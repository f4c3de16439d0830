import Derived.Test.YtmhmahcdanclnaaGreatNr16
set_option linter.unusedSectionVars false
set_option linter.unusedSimpArgs false
set_option linter.unusedVariables false
set_option maxRecDepth 10000
namespace Go.Proofs.YtmhmahcdanclnaaGreat.Ty
open Go.Eng
@[go_sem] theorem atk:cg Tryz.prog 3=some [.v (.int .i64 0)]/\cg Tryz.prog 21=some [.v (.int .i32 0)]/\da Tryz.prog 23=some (108,2,8)/\cg Tryz.prog 26=some [.v (.int .i64 0),.v (.slice none 0 0),.v (.int .i64 0),.v (.int .i64 0),.v (.int .i64 0),.v (.int .i64 0),.v (.int .i64 0),.v (.int .i64 0),.v (.int .i64 0),.v (.int .i64 0),.v (.int .i64 0),.v (.int .i64 0),.v (.int .i64 0),.v (.int .i64 0),.v (.int .u32 0)]/\cR Tryz.prog 26=some [(0,1),(1,1),(2,1),(3,1),(4,1),(5,1),(6,1),(7,1),(8,1),(9,1),(10,1),(11,1),(12,1),(13,1),(14,1)]/\cg Tryz.prog 30=some [.v (.int .u16 0)]/\da Tryz.prog 31=some (108,2,8)/\cg Tryz.prog 32=some [.v (.slice none 0 0)]/\da Tryz.prog 32=some (34,4,32)/\cg Tryz.prog 34=some [.v (.int .u8 0),.v (.int .u16 0),.v (.int .u8 0),.v (.slice none 0 0)]/\cR Tryz.prog 34=some [(0,1),(1,1),(2,1),(3,1)]/\cg Tryz.prog 36=some [.v (.bool false),.v (.bool false),.v (.int .u8 0),.v (.int .u16 0),.v (.int .u8 0),.v (.slice none 0 0),.v (.int .u8 0),.v (.int .u16 0),.v (.int .u8 0),.v (.slice none 0 0)]/\cR Tryz.prog 36=some [(0,1),(1,1),(2,4),(6,4)]/\cg Tryz.prog 38=some [.v (.bool false),.v (.int .u8 0),.v (.int .u8 0),.v (.slice none 0 0)]/\cR Tryz.prog 38=some [(0,1),(1,1),(2,1),(3,1)]:=by and_intros<;>kernel_rfl
@[go_sem] theorem elOf39:da Tryz.prog 39=some (127,3,4):=by kernel_rfl
@[go_sem] theorem atd:cg Tryz.prog 40=some [.v (.slice none 0 0)]:=by kernel_rfl
@[go_sem] theorem elOf40:da Tryz.prog 40=some (57,3,8):=by kernel_rfl
@[go_sem] theorem elOf41:da Tryz.prog 41=some (84,3,16):=by kernel_rfl
@[go_sem] theorem atc:da Tryz.prog 43=some (40,1,24)/\da Tryz.prog 44=some (56,5,56)/\cg Tryz.prog 46=some [.v (.int .i64 0),.v (.slice none 0 0)]/\cR Tryz.prog 46=some [(0,1),(1,1)]:=by and_intros<;>kernel_rfl
@[go_sem] theorem elOf47:da Tryz.prog 47=some (178,5,12):=by kernel_rfl
@[go_sem] theorem atj:cg Tryz.prog 49=some [.v (.int .u8 0),.v (.int .u16 0),.v (.bool false),.v (.slice none 0 0),.v (.slice none 0 0),.v (.slice none 0 0),.v (.bool false),.v (.bool false),.v (.int .u8 0),.v (.int .u16 0),.v (.int .u8 0),.v (.slice none 0 0),.v (.int .u8 0),.v (.int .u16 0),.v (.int .u8 0),.v (.slice none 0 0),.v (.bool false),.v (.int .u8 0),.v (.int .u8 0),.v (.slice none 0 0),.v (.slice none 0 0),.v (.int .u32 0),.v (.slice none 0 0),.v (.int .u32 0),.v (.slice none 0 0),.v (.slice none 0 0),.v (.int .i64 0),.v (.slice none 0 0),.v (.slice none 0 0),.v (.int .i64 0),.v (.int .i64 0),.v (.int .i64 0)]:=by kernel_rfl
@[go_sem] theorem atb:cR Tryz.prog 49=some [(0,1),(1,1),(2,1),(3,1),(4,1),(5,1),(6,10),(16,4),(20,1),(21,1),(22,1),(23,1),(24,1),(25,1),(26,2),(28,1),(29,1),(30,1),(31,1)]:=by kernel_rfl
@[go_sem] theorem elOf51:da Tryz.prog 51=some (21,1,4):=by kernel_rfl
@[go_sem] theorem as_:cg Tryz.prog 52=some [.v (.slice none 0 0)]:=by kernel_rfl
@[go_sem] theorem ate:ane Tryz.prog 52=true:=by kernel_rfl
@[go_sem] theorem elOf52:da Tryz.prog 52=some (5,1,1):=by kernel_rfl
@[go_sem] theorem atf:cg Tryz.prog 54=some [.v (.int .u8 0),.v (.int .u16 0),.v (.int .u32 0)]/\cR Tryz.prog 54=some [(0,1),(1,1),(2,1)]/\cg Tryz.prog 56=some [.v (.int .u8 0),.v (.int .u16 0),.v (.int .u32 0),.v (.slice none 0 0),.v (.slice none 0 0)]/\cR Tryz.prog 56=some [(0,3),(3,1),(4,1)]/\cg Tryz.prog 57=some [.v (.int .u8 0),.v (.int .u16 0),.v (.int .u32 0)]/\cR Tryz.prog 57=some [(0,1),(1,1),(2,1)]/\cg Tryz.prog 58=some [.v (.slice none 0 0)]:=by and_intros<;>kernel_rfl
@[go_sem] theorem elOf58:da Tryz.prog 58=some (54,3,8):=by kernel_rfl
@[go_sem] theorem atl:cg Tryz.prog 60=some [.v (.int .u8 0),.v (.int .u8 0),.v (.int .u16 0),.v (.int .u8 0),.v (.slice none 0 0),.v (.slice none 0 0),.v (.int .u8 0),.v (.int .u16 0),.v (.int .u32 0),.v (.slice none 0 0),.v (.slice none 0 0),.v (.int .u8 0),.v (.int .u8 0),.v (.int .u16 0),.v (.int .u32 0),.v (.slice none 0 0),.v (.slice none 0 0)]/\cR Tryz.prog 60=some [(0,1),(1,1),(2,1),(3,1),(4,1),(5,1),(6,5),(11,1),(12,3),(15,1),(16,1)]/\da Tryz.prog 61=some (24,1,4)/\da Tryz.prog 65=some (60,17,176)/\cg Tryz.prog 82=some [.v (.int .u64 0)]/\cg Tryz.prog 84=some [.v (.int .u16 0),.v (.int .u32 0),.v (.int .u64 0)]/\cR Tryz.prog 84=some [(0,1),(1,1),(2,1)]/\cg Tryz.prog 108=some [.v (.int .i32 0),.v (.int .i32 0)]/\cR Tryz.prog 108=some [(0,1),(1,1)]/\cg Tryz.prog 127=some [.v (.int .u16 0),.v (.int .u8 0),.v (.int .u8 0)]/\cR Tryz.prog 127=some [(0,1),(1,1),(2,1)]/\cg Tryz.prog 144=some [.v (.int .i64 0),.v (.slice none 0 0),.v (.int .i64 0),.v (.int .i64 0),.v (.int .i64 0),.v (.int .i64 0),.v (.int .i64 0),.v (.int .i64 0),.v (.int .i64 0),.v (.int .i64 0),.v (.int .i64 0),.v (.int .i64 0),.v (.int .i64 0),.v (.int .i64 0),.v (.int .u32 0),.v (.int .u8 0),.v (.int .u16 0),.v (.bool false),.v (.slice none 0 0),.v (.slice none 0 0),.v (.slice none 0 0),.v (.bool false),.v (.bool false),.v (.int .u8 0),.v (.int .u16 0),.v (.int .u8 0),.v (.slice none 0 0),.v (.int .u8 0),.v (.int .u16 0),.v (.int .u8 0),.v (.slice none 0 0),.v (.bool false),.v (.int .u8 0),.v (.int .u8 0),.v (.slice none 0 0),.v (.slice none 0 0),.v (.int .u32 0),.v (.slice none 0 0),.v (.int .u32 0),.v (.slice none 0 0),.v (.slice none 0 0),.v (.int .i64 0),.v (.slice none 0 0),.v (.slice none 0 0),.v (.int .i64 0),.v (.int .i64 0),.v (.int .i64 0),.v (.int .u8 0),.v (.int .u8 0),.v (.int .u16 0),.v (.int .u8 0),.v (.slice none 0 0),.v (.slice none 0 0),.v (.int .u8 0),.v (.int .u16 0),.v (.int .u32 0),.v (.slice none 0 0),.v (.slice none 0 0),.v (.int .u8 0),.v (.int .u8 0),.v (.int .u16 0),.v (.int .u32 0),.v (.slice none 0 0),.v (.slice none 0 0),.v (.slice none 0 0),.v (.slice none 0 0),.v (.slice none 0 0)]/\cR Tryz.prog 144=some [(0,15),(15,32),(47,17),(64,1),(65,1),(66,1)]/\cg Tryz.prog 178=some [.v (.int .u8 0),.v (.int .u16 0),.v (.int .u32 0),.v (.int .u8 0),.v (.int .u8 0)]/\cR Tryz.prog 178=some [(0,3),(3,1),(4,1)]/\cg Tryz.prog 203=some [.v (.int .i64 0),.v (.slice none 0 0),.v (.int .i64 0),.v (.int .i64 0),.v (.int .i64 0),.v (.int .i64 0),.v (.int .i64 0),.v (.int .i64 0),.v (.int .i64 0),.v (.int .i64 0),.v (.int .i64 0),.v (.int .i64 0),.v (.int .i64 0),.v (.int .i64 0),.v (.int .u32 0),.v (.int .u8 0),.v (.int .u16 0),.v (.bool false),.v (.slice none 0 0),.v (.slice none 0 0),.v (.slice none 0 0),.v (.bool false),.v (.bool false),.v (.int .u8 0),.v (.int .u16 0),.v (.int .u8 0),.v (.slice none 0 0),.v (.int .u8 0),.v (.int .u16 0),.v (.int .u8 0),.v (.slice none 0 0),.v (.bool false),.v (.int .u8 0),.v (.int .u8 0),.v (.slice none 0 0),.v (.slice none 0 0),.v (.int .u32 0),.v (.slice none 0 0),.v (.int .u32 0),.v (.slice none 0 0),.v (.slice none 0 0),.v (.int .i64 0),.v (.slice none 0 0),.v (.slice none 0 0),.v (.int .i64 0),.v (.int .i64 0),.v (.int .i64 0),.v (.int .u8 0),.v (.int .u8 0),.v (.int .u16 0),.v (.int .u8 0),.v (.slice none 0 0),.v (.slice none 0 0),.v (.int .u8 0),.v (.int .u16 0),.v (.int .u32 0),.v (.slice none 0 0),.v (.slice none 0 0),.v (.int .u8 0),.v (.int .u8 0),.v (.int .u16 0),.v (.int .u32 0),.v (.slice none 0 0),.v (.slice none 0 0),.v (.slice none 0 0),.v (.bool false),.v (.slice none 0 0)]/\cR Tryz.prog 203=some [(0,15),(15,32),(47,17),(64,1),(65,1),(66,1)]/\da Tryz.prog 213=some (32,1,24)/\da Tryz.prog 265=some (268,5,40)/\cg Tryz.prog 268=some [.v (.int .u8 0),.v (.int .u16 0),.v (.int .u8 0),.v (.slice none 0 0),.v (.int .u32 0)]/\cR Tryz.prog 268=some [(0,4),(4,1)]/\esz Tryz.prog 315=none/\asz Tryz.prog 315=some (256,4)/\anF Tryz.prog 315=some (256,true,4)/\da Tryz.prog 347=some (3,1,8)/\cg Tryz.prog 356=some []/\cR Tryz.prog 356=some []/\cg Tryz.prog 364=some [.v (.int .u64 0)]:=by and_intros<;>kernel_rfl
end Go.Proofs.YtmhmahcdanclnaaGreat.Ty
namespace Go.Eng
section
variable {α:Type} (key:α->Nat)
abbrev Up(l:List α):Prop:=l.Pairwise fun a b=>key a<key b
def kAt(l:List α)(x:α):Nat:=(l.findIdx? fun a=>decide (key x<key a)).getD l.length
def kG(l:List α)(x:α):List α:=l.take (kAt key l x)++[x]++l.drop (kAt key l x)
variable {key}
theorem jC(l:List α)(x:α):(kG key l x).Perm (x::l):=by grind [kG,List.append_assoc,List.singleton_append,List.perm_middle,List.take_append_drop]
theorem lv{l:List α}{x y:α}:y∈kG key l x↔y=x\/y∈l:=by
 rw[(jC l x).mem_iff];simp
theorem acW(l:List α)(x:α):kAt key l x=l.findIdx fun a=>decide (key x<key a):=by
 unfold kAt;rw[List.findIdx_eq_getD_findIdx?]
theorem aju{l:List α}{x a:α}(h:a∈l.take (kAt key l x)):key a<=key x:=by grind [acW,List.mem_take_iff_getElem,List.not_of_lt_findIdx]
theorem aaz{l:List α}{x a:α}(hs:Up key l)(h:a∈l.drop (kAt key l x)):key x<key a:=by grind [acW,List.mem_drop_iff_getElem,List.findIdx_getElem,Nat.eq_zero_or_pos,List.pairwise_iff_getElem,Nat.add_comm]
theorem wQ{l:List α}{x:α}(hs:Up key l)(hx: ∀a∈l,key a≠key x):Up key (kG key l x):=by
 unfold kG;have h1:(l.take (kAt key l x)).Pairwise fun a b=>key a<key b:=hs.sublist (List.take_sublist _ _)
 have h2:(l.drop (kAt key l x)).Pairwise fun a b=>key a<key b:=hs.sublist (List.drop_sublist _ _)
 rw[Up,List.append_assoc,List.pairwise_append];refine⟨h1,?_,?_⟩
 ·rw[List.singleton_append,List.pairwise_cons];exact⟨fun a ha=>aaz hs ha,h2⟩
 ·intro a ha b hb;have h3:=aju ha;have h4:=hx a (List.mem_of_mem_take ha);have h5:key a<key x:=by omega
  rcases List.mem_append.1 hb with hb|hb
  ·simp at hb;subst hb;exact h5
  ·have:=aaz hs hb;omega
end
abbrev cW(d:GDesc):Nat:=d.node.toNat
def iu(a b:GDesc):Bool:=if a.inc=b.inc then decide (a.age<b.age)else decide (b.inc<a.inc)
def Vw(self:UInt8)(l:List GDesc):Prop:=(∀d∈l,d.node≠self/\d.inc≠0)/\Up cW l
instance (self:UInt8) (l:List GDesc):Decidable (Vw self l):=inferInstanceAs (Decidable (_/\_))
def pf(l:List GDesc)(self:UInt8)(room:Int):Bool:=decide (0<=room/\(l.length:Int)<=room/\Vw self l)
def dx(l:List GDesc)(node:UInt8):Option Nat:=l.findIdx? fun d=>decide (d.node=node)
def lf(l:List GDesc)(node:UInt8):Int:=match dx l node with|some i=>(i:Int)|none=> -1
def bK(l:List GDesc)(node:UInt8):List GDesc:=l.filter fun d=> !decide (d.node=node)
def dz(l:List GDesc)(d:GDesc)(self:UInt8)(room:Int):List GDesc×Bool:=
 if d.node=self\/d.inc=0 then (l,false)
 else match dx l d.node with
  |some i=>match l[i]? with
   |some o=>if iu d o=true then (l.set i d,true)else (l,false)
   |none=>(l,false)
  |none=>if room<=(l.length:Int)then (l,false)else (kG cW l d,true)
def GDesc.older(d:GDesc):GDesc:=if d.age=255 then d else { d with age:=d.age+1 }
def cf(l:List GDesc):List GDesc:=l.map GDesc.older
def ac1(l:List GDesc):Option Nat:=l.findIdx? fun d=>decide (∀e∈l,e.age<=d.age)
def nF(l:List GDesc):Int:=match ac1 l with|some i=>(i:Int)|none=> -1
theorem fk{l:List GDesc}{node:UInt8}{i:Nat}(h:dx l node=some i): ∃o,l[i]? =some o/\o.node=node:=by
 obtain⟨hi,hk,_⟩:=List.findIdx?_eq_some_iff_getElem.1 h;exact⟨l[i],List.getElem?_eq_getElem hi,by simpa using hk⟩
theorem mc{l:List GDesc}{node:UInt8}(h:dx l node=none): ∀d∈l,d.node≠node:=by
 intro d hd;simpa using List.findIdx?_eq_none_iff.1 h d hd
theorem adX(self:UInt8):Vw self []:=⟨by simp,by simp⟩
theorem alJ{a b:GDesc}(h:cW a=cW b):a.node=b.node:=UInt8.toNat_inj.1 h
theorem aoU{self:UInt8}{l:List GDesc}(hv:Up cW l){i:Nat}{o:GDesc}(h:l[i]? =some o):dx l o.node=some i:=by
 obtain⟨hi,rfl⟩:=List.getElem?_eq_some_iff.1 h;unfold dx;rw[List.findIdx?_eq_some_iff_getElem];refine⟨hi,by simp,fun j hj=>?_⟩
 have:=List.pairwise_iff_getElem.1 hv j i (by omega) hi hj
 simp;intro e;have:cW l[j]=cW l[i]:=by unfold cW;rw[e]
 omega
theorem arj{self:UInt8}{l:List GDesc}{i:Nat}{o d:GDesc}(hv:Vw self l)(hi:l[i]? =some o)(hn:o.node=d.node)(h1:d.node≠self)(h2:d.inc≠0):Vw self (l.set i d):=by
 refine⟨fun e he=>?_,?_⟩
 ·rcases List.mem_or_eq_of_mem_set he with he|rfl
  ·exact hv.1 e he
  ·exact⟨h1,h2⟩
 ·have:(l.set i d).map cW=l.map cW:=by
   rw[List.map_set];apply List.ext_getElem?;intro j;rw[List.getElem?_set];split
   ·rename_i e;subst e;obtain⟨hlt,rfl⟩:=List.getElem?_eq_some_iff.1 hi;simp[hlt,cW,hn]
   ·rfl
  have hu:((l.set i d).map cW).Pairwise (· < ·):=by rw[this];exact List.pairwise_map.2 hv.2
  exact List.pairwise_map.1 hu
theorem ari{self:UInt8}{l:List GDesc}{d:GDesc}(hv:Vw self l)(hn: ∀e∈l,e.node≠d.node)(h1:d.node≠self)(h2:d.inc≠0):Vw self (kG cW l d):=by
 refine⟨fun e he=>?_,wQ hv.2 fun e he k=>hn e he (alJ k)⟩
 rcases lv.1 he with rfl|he
 ·exact⟨h1,h2⟩
 ·exact hv.1 e he
theorem oX{self:UInt8}{l:List GDesc}(hv:Vw self l)(d:GDesc)(room:Int):Vw self (dz l d self room).1:=by grind [dz,fk,arj,ari,mc]
theorem tC{α:Type}{key:α->Nat}(l:List α)(x:α):(kG key l x).length=l.length+1:=by
 have:=(jC (key:=key) l x).length_eq;simpa using this
theorem iS{self:UInt8}{l:List GDesc}(d:GDesc)(room:Int):(dz l d self room).1.length<=l.length+1:=by grind [dz,tC]
theorem th{self:UInt8}{l:List GDesc}(d:GDesc){room:Int}(h:(l.length:Int)<=room):((dz l d self room).1.length:Int)<=room:=by grind [dz,tC]
theorem qB{self:UInt8}{l:List GDesc}(hv:Vw self l)(node:UInt8):Vw self (bK l node):=⟨fun e he=>hv.1 e (List.mem_filter.1 he).1,hv.2.filter _⟩
theorem pS(l:List GDesc)(node:UInt8):(bK l node).length<=l.length:=List.length_filter_le _ _
theorem older_node(d:GDesc):d.older.node=d.node:=by unfold GDesc.older;split<;>rfl
theorem ahI(d:GDesc):d.older.inc=d.inc:=by unfold GDesc.older;split<;>rfl
theorem zu{self:UInt8}{l:List GDesc}(hv:Vw self l):Vw self (cf l):=by
 refine⟨fun e he=>?_,?_⟩
 ·obtain⟨d,hd,rfl⟩:=List.mem_map.1 he;rw[older_node,ahI];exact hv.1 d hd
 ·rw[Up,cf,List.pairwise_map];refine hv.2.imp ?_;intro a b h;unfold cW;rw[older_node,older_node];exact h
def aQ(s:GSpan):List DV:=[.v (.int .i32 s.a),.v (.int .i32 s.b)]
def ah(d:GDesc):List DV:=[.v (.int .u8 d.node.toNat),.v (.int .u16 d.inc.toNat),.v (.int .u8 d.age.toNat),.fz 2 (d.filter.map aQ)]
def fzD(l:List GDesc):DV:=.fz 4 (l.map ah)
end Go.Eng
namespace Go.Proofs.YtmhmahcdanclnaaGreat.V
open Go.Eng
attribute [local go_sem] aQ ah fzD plR
end Go.Proofs.YtmhmahcdanclnaaGreat.V
namespace Go.Proofs.YtmhmahcdanclnaaGreat.V
open Go.Eng
attribute [local go_sem] aQ plR
theorem iT:Con2 Tryz.prog 307 [] (· =plR (.agg (aQ ⟨1,0⟩))):=by
 refine en_ Tryz.func307 [.cell 0 108] (g2_ ?_);refine g2_ ?_;exact⟨_,rfl,aa [] ws_⟩
theorem nv(s:GSpan):Con2 Tryz.prog 306 [.agg (aQ s)] (· =plR (.agg (aQ (m8 s)))):=by
 refine en_ Tryz.func306 [.cell 2 108] (g2_ ?_);refine g2_ ?_;unfold m8;refine bb (fun h=>?_) (fun h=>?_)
 ·rw[if_pos h];refine g2_ ?_;refine ce_ iT (g2_ ?_);exact⟨_,rfl,aa [] ws_⟩
 ·rw[if_neg h];refine g2_ ?_;exact⟨_,rfl,aa [] ws_⟩
theorem agh(x y:GSpan):Con2 Tryz.prog 234 [.agg (aQ x),.agg (aQ y)] (· =plR (.tup [.agg (aQ (if gJ (fj x y)=true then ⟨0,0⟩else fj x y)),.v (.bool (!gJ (fj x y)))])):=by
 refine en_ Tryz.func234 [.cell 4 108,.tmp 5] (g2_ ?_);refine g2_ ?_;refine CallS.eq (nv (fj x y)) (by simp-implicitDefEqProofs only[go_sem,ab,fj]) (.inl ws_) ?_
 refine g2_ ?_;refine .inl ⟨[oF 0,oT 1,oF 2],by kernel_rfl,g2_ ?_⟩
 refine ce_ iT (gf_ @pz ?_);cases h:gJ (fj x y)with
 |true=>
  refine g2_ ?_;exact⟨_,rfl,aa [] ws_⟩
 |false=>
  have h2:m8 (fj x y)=fj x y:=by unfold m8;rw[if_neg (by simpa[gJ]using h)]
  refine gf_ h2 ?_;exact⟨_,rfl,aa [] wx_⟩
theorem aku(x y:GSpan):Con2 Tryz.prog 352 [.agg (aQ x),.agg (aQ y)] (· =plR (.v (.bool (aj1 x y)))):=by
 refine en_ Tryz.func352 [.tmp 4] (g2_ ?_);refine g2_ ?_;refine ce_ (nv y) (g2_ ?_);refine ce_ iT (gf_ @pz ?_);unfold aj1;cases h:gJ y with
 |true=>
  refine g2_ ?_;exact⟨_,rfl,aa [] ws_⟩
 | false=>
  refine g2_ ?_;refine xC (fun h1=>?_) (fun h1=>?_)
  all_goals
   refine gf_ h1 ?_;exact⟨_,rfl,aa [] (wf_ h1)⟩
