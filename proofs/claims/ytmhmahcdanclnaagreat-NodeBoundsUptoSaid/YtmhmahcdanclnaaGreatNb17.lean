import Derived.Test.YtmhmahcdanclnaaGreatNb16
set_option linter.unusedSectionVars false
set_option linter.unusedSimpArgs false
set_option linter.unusedVariables false
set_option maxRecDepth 10000
namespace Go.Proofs.YtmhmahcdanclnaaGreat.Ty
open Go.Eng
@[go_sem] theorem as5:bN Tryz.prog 3=some [.v (.int .i64 0)]/\cW Tryz.prog 23=some (108,2,8)/\bN Tryz.prog 26=some [.v (.int .i64 0),.v (.slice none 0 0),.v (.int .i64 0),.v (.int .i64 0),.v (.int .i64 0),.v (.int .i64 0),.v (.int .i64 0),.v (.int .i64 0),.v (.int .i64 0),.v (.int .i64 0),.v (.int .i64 0),.v (.int .i64 0),.v (.int .i64 0),.v (.int .i64 0),.v (.int .u32 0)]/\cC Tryz.prog 26=some [(0,1),(1,1),(2,1),(3,1),(4,1),(5,1),(6,1),(7,1),(8,1),(9,1),(10,1),(11,1),(12,1),(13,1),(14,1)]/\cW Tryz.prog 27=some (63,22,280)/\bN Tryz.prog 30=some [.v (.int .u16 0)]/\cW Tryz.prog 31=some (108,2,8)/\bN Tryz.prog 32=some [.v (.slice none 0 0)]/\cW Tryz.prog 32=some (34,4,32)/\bN Tryz.prog 34=some [.v (.int .u8 0),.v (.int .u16 0),.v (.int .u8 0),.v (.slice none 0 0)]/\cC Tryz.prog 34=some [(0,1),(1,1),(2,1),(3,1)]/\bN Tryz.prog 36=some [.v (.bool false),.v (.bool false),.v (.int .u8 0),.v (.int .u16 0),.v (.int .u8 0),.v (.slice none 0 0),.v (.int .u8 0),.v (.int .u16 0),.v (.int .u8 0),.v (.slice none 0 0)]/\cC Tryz.prog 36=some [(0,1),(1,1),(2,4),(6,4)]/\bN Tryz.prog 38=some [.v (.bool false),.v (.int .u8 0),.v (.int .u8 0),.v (.slice none 0 0)]/\cC Tryz.prog 38=some [(0,1),(1,1),(2,1),(3,1)]:=by and_intros<;>kernel_rfl
@[go_sem] theorem elOf39:cW Tryz.prog 39=some (127,3,4):=by kernel_rfl
@[go_sem] theorem as4:bN Tryz.prog 40=some [.v (.slice none 0 0)]:=by kernel_rfl
@[go_sem] theorem elOf40:cW Tryz.prog 40=some (57,3,8):=by kernel_rfl
@[go_sem] theorem elOf41:cW Tryz.prog 41=some (84,3,16):=by kernel_rfl
@[go_sem] theorem as9:cW Tryz.prog 43=some (40,1,24)/\cW Tryz.prog 44=some (56,5,56)/\bN Tryz.prog 46=some [.v (.int .i64 0),.v (.slice none 0 0)]/\cC Tryz.prog 46=some [(0,1),(1,1)]:=by and_intros<;>kernel_rfl
@[go_sem] theorem elOf47:cW Tryz.prog 47=some (178,5,12):=by kernel_rfl
@[go_sem] theorem as2:bN Tryz.prog 49=some [.v (.int .u8 0),.v (.int .u16 0),.v (.bool false),.v (.slice none 0 0),.v (.slice none 0 0),.v (.slice none 0 0),.v (.bool false),.v (.bool false),.v (.int .u8 0),.v (.int .u16 0),.v (.int .u8 0),.v (.slice none 0 0),.v (.int .u8 0),.v (.int .u16 0),.v (.int .u8 0),.v (.slice none 0 0),.v (.bool false),.v (.int .u8 0),.v (.int .u8 0),.v (.slice none 0 0),.v (.slice none 0 0),.v (.int .u32 0),.v (.slice none 0 0),.v (.int .u32 0),.v (.slice none 0 0),.v (.slice none 0 0),.v (.int .i64 0),.v (.slice none 0 0),.v (.slice none 0 0),.v (.int .i64 0),.v (.int .i64 0),.v (.int .i64 0)]:=by kernel_rfl
@[go_sem] theorem as3:cC Tryz.prog 49=some [(0,1),(1,1),(2,1),(3,1),(4,1),(5,1),(6,10),(16,4),(20,1),(21,1),(22,1),(23,1),(24,1),(25,1),(26,2),(28,1),(29,1),(30,1),(31,1)]:=by kernel_rfl
@[go_sem] theorem elOf51:cW Tryz.prog 51=some (21,1,4):=by kernel_rfl
@[go_sem] theorem as6:bN Tryz.prog 52=some [.v (.slice none 0 0)]:=by kernel_rfl
@[go_sem] theorem ata:aoK Tryz.prog 52=true:=by kernel_rfl
@[go_sem] theorem elOf52:cW Tryz.prog 52=some (5,1,1):=by kernel_rfl
@[go_sem] theorem as_:bN Tryz.prog 54=some [.v (.int .u8 0),.v (.int .u16 0),.v (.int .u32 0)]/\cC Tryz.prog 54=some [(0,1),(1,1),(2,1)]/\bN Tryz.prog 56=some [.v (.int .u8 0),.v (.int .u16 0),.v (.int .u32 0),.v (.slice none 0 0),.v (.slice none 0 0)]/\cC Tryz.prog 56=some [(0,3),(3,1),(4,1)]/\bN Tryz.prog 57=some [.v (.int .u8 0),.v (.int .u16 0),.v (.int .u32 0)]/\cC Tryz.prog 57=some [(0,1),(1,1),(2,1)]/\bN Tryz.prog 58=some [.v (.slice none 0 0)]:=by and_intros<;>kernel_rfl
@[go_sem] theorem elOf58:cW Tryz.prog 58=some (54,3,8):=by kernel_rfl
@[go_sem] theorem asY:bN Tryz.prog 60=some [.v (.int .u8 0),.v (.int .u8 0),.v (.int .u16 0),.v (.int .u8 0),.v (.slice none 0 0),.v (.slice none 0 0),.v (.int .u8 0),.v (.int .u16 0),.v (.int .u32 0),.v (.slice none 0 0),.v (.slice none 0 0),.v (.int .u8 0),.v (.int .u8 0),.v (.int .u16 0),.v (.int .u32 0),.v (.slice none 0 0),.v (.slice none 0 0)]/\cC Tryz.prog 60=some [(0,1),(1,1),(2,1),(3,1),(4,1),(5,1),(6,5),(11,1),(12,3),(15,1),(16,1)]/\cW Tryz.prog 61=some (24,1,4)/\bN Tryz.prog 63=some [.v (.int .u8 0),.v (.slice none 0 0),.v (.slice none 0 0),.v (.slice none 0 0),.v (.int .u8 0),.v (.int .u8 0),.v (.int .u16 0),.v (.int .u8 0),.v (.slice none 0 0),.v (.slice none 0 0),.v (.int .u8 0),.v (.int .u16 0),.v (.int .u32 0),.v (.slice none 0 0),.v (.slice none 0 0),.v (.int .u8 0),.v (.int .u8 0),.v (.int .u16 0),.v (.int .u32 0),.v (.slice none 0 0),.v (.slice none 0 0),.v (.slice none 0 0)]/\cW Tryz.prog 65=some (60,17,176)/\bN Tryz.prog 68=some [.v (.int .u8 0),.v (.int .u16 0),.v (.bool false),.v (.slice none 0 0),.v (.slice none 0 0),.v (.slice none 0 0),.v (.bool false),.v (.bool false),.v (.int .u8 0),.v (.int .u16 0),.v (.int .u8 0),.v (.slice none 0 0),.v (.int .u8 0),.v (.int .u16 0),.v (.int .u8 0),.v (.slice none 0 0),.v (.bool false),.v (.int .u8 0),.v (.int .u8 0),.v (.slice none 0 0),.v (.slice none 0 0),.v (.int .u32 0),.v (.slice none 0 0),.v (.int .u32 0),.v (.slice none 0 0),.v (.slice none 0 0),.v (.int .i64 0),.v (.slice none 0 0),.v (.slice none 0 0),.v (.int .i64 0),.v (.int .i64 0),.v (.int .i64 0),.v (.slice none 0 0),.v (.slice none 0 0),.v (.bool false),.v (.int .i64 0)]/\cC Tryz.prog 68=some [(0,32),(32,1),(33,1),(34,1),(35,1)]/\bN Tryz.prog 82=some [.v (.int .u64 0)]/\bN Tryz.prog 84=some [.v (.int .u16 0),.v (.int .u32 0),.v (.int .u64 0)]/\cC Tryz.prog 84=some [(0,1),(1,1),(2,1)]/\bN Tryz.prog 108=some [.v (.int .i32 0),.v (.int .i32 0)]/\cC Tryz.prog 108=some [(0,1),(1,1)]/\bN Tryz.prog 114=some [.v (.int .u8 0),.v (.int .u8 0),.v (.int .u16 0),.v (.slice none 0 0),.v (.int .u8 0),.v (.int .u8 0),.v (.int .u16 0),.v (.int .u8 0),.v (.slice none 0 0),.v (.slice none 0 0),.v (.int .u8 0),.v (.int .u16 0),.v (.int .u32 0),.v (.slice none 0 0),.v (.slice none 0 0),.v (.int .u8 0),.v (.int .u8 0),.v (.int .u16 0),.v (.int .u32 0),.v (.slice none 0 0),.v (.slice none 0 0),.v (.slice none 0 0)]/\cC Tryz.prog 114=some [(0,1),(1,1),(2,1),(3,1),(4,17),(21,1)]/\bN Tryz.prog 127=some [.v (.int .u16 0),.v (.int .u8 0),.v (.int .u8 0)]/\cC Tryz.prog 127=some [(0,1),(1,1),(2,1)]/\bN Tryz.prog 144=some [.v (.int .i64 0),.v (.slice none 0 0),.v (.int .i64 0),.v (.int .i64 0),.v (.int .i64 0),.v (.int .i64 0),.v (.int .i64 0),.v (.int .i64 0),.v (.int .i64 0),.v (.int .i64 0),.v (.int .i64 0),.v (.int .i64 0),.v (.int .i64 0),.v (.int .i64 0),.v (.int .u32 0),.v (.int .u8 0),.v (.int .u16 0),.v (.bool false),.v (.slice none 0 0),.v (.slice none 0 0),.v (.slice none 0 0),.v (.bool false),.v (.bool false),.v (.int .u8 0),.v (.int .u16 0),.v (.int .u8 0),.v (.slice none 0 0),.v (.int .u8 0),.v (.int .u16 0),.v (.int .u8 0),.v (.slice none 0 0),.v (.bool false),.v (.int .u8 0),.v (.int .u8 0),.v (.slice none 0 0),.v (.slice none 0 0),.v (.int .u32 0),.v (.slice none 0 0),.v (.int .u32 0),.v (.slice none 0 0),.v (.slice none 0 0),.v (.int .i64 0),.v (.slice none 0 0),.v (.slice none 0 0),.v (.int .i64 0),.v (.int .i64 0),.v (.int .i64 0),.v (.int .u8 0),.v (.int .u8 0),.v (.int .u16 0),.v (.int .u8 0),.v (.slice none 0 0),.v (.slice none 0 0),.v (.int .u8 0),.v (.int .u16 0),.v (.int .u32 0),.v (.slice none 0 0),.v (.slice none 0 0),.v (.int .u8 0),.v (.int .u8 0),.v (.int .u16 0),.v (.int .u32 0),.v (.slice none 0 0),.v (.slice none 0 0),.v (.slice none 0 0),.v (.slice none 0 0),.v (.slice none 0 0)]/\cC Tryz.prog 144=some [(0,15),(15,32),(47,17),(64,1),(65,1),(66,1)]/\bN Tryz.prog 178=some [.v (.int .u8 0),.v (.int .u16 0),.v (.int .u32 0),.v (.int .u8 0),.v (.int .u8 0)]/\cC Tryz.prog 178=some [(0,3),(3,1),(4,1)]/\bN Tryz.prog 203=some [.v (.int .i64 0),.v (.slice none 0 0),.v (.int .i64 0),.v (.int .i64 0),.v (.int .i64 0),.v (.int .i64 0),.v (.int .i64 0),.v (.int .i64 0),.v (.int .i64 0),.v (.int .i64 0),.v (.int .i64 0),.v (.int .i64 0),.v (.int .i64 0),.v (.int .i64 0),.v (.int .u32 0),.v (.int .u8 0),.v (.int .u16 0),.v (.bool false),.v (.slice none 0 0),.v (.slice none 0 0),.v (.slice none 0 0),.v (.bool false),.v (.bool false),.v (.int .u8 0),.v (.int .u16 0),.v (.int .u8 0),.v (.slice none 0 0),.v (.int .u8 0),.v (.int .u16 0),.v (.int .u8 0),.v (.slice none 0 0),.v (.bool false),.v (.int .u8 0),.v (.int .u8 0),.v (.slice none 0 0),.v (.slice none 0 0),.v (.int .u32 0),.v (.slice none 0 0),.v (.int .u32 0),.v (.slice none 0 0),.v (.slice none 0 0),.v (.int .i64 0),.v (.slice none 0 0),.v (.slice none 0 0),.v (.int .i64 0),.v (.int .i64 0),.v (.int .i64 0),.v (.int .u8 0),.v (.int .u8 0),.v (.int .u16 0),.v (.int .u8 0),.v (.slice none 0 0),.v (.slice none 0 0),.v (.int .u8 0),.v (.int .u16 0),.v (.int .u32 0),.v (.slice none 0 0),.v (.slice none 0 0),.v (.int .u8 0),.v (.int .u8 0),.v (.int .u16 0),.v (.int .u32 0),.v (.slice none 0 0),.v (.slice none 0 0),.v (.slice none 0 0),.v (.bool false),.v (.slice none 0 0)]/\cC Tryz.prog 203=some [(0,15),(15,32),(47,17),(64,1),(65,1),(66,1)]/\cW Tryz.prog 213=some (32,1,24)/\cW Tryz.prog 265=some (268,5,40)/\bN Tryz.prog 268=some [.v (.int .u8 0),.v (.int .u16 0),.v (.int .u8 0),.v (.slice none 0 0),.v (.int .u32 0)]/\cC Tryz.prog 268=some [(0,4),(4,1)]/\esz Tryz.prog 315=none/\asz Tryz.prog 315=some (256,4)/\an2 Tryz.prog 315=some (256,true,4)/\cW Tryz.prog 347=some (3,1,8)/\bN Tryz.prog 356=some []/\cC Tryz.prog 356=some []/\bN Tryz.prog 364=some [.v (.int .u64 0)]:=by and_intros<;>kernel_rfl
end Go.Proofs.YtmhmahcdanclnaaGreat.Ty
namespace Go.Eng
section
variable {α:Type} (key:α->Nat)
abbrev Up(l:List α):Prop:=l.Pairwise fun a b=>key a<key b
def kAt(l:List α)(x:α):Nat:=(l.findIdx? fun a=>decide (key x<key a)).getD l.length
def mF(l:List α)(x:α):List α:=l.take (kAt key l x)++[x]++l.drop (kAt key l x)
variable {key}
theorem jx(l:List α)(x:α):(mF key l x).Perm (x::l):=by grind [mF,List.append_assoc,List.singleton_append,List.perm_middle,List.take_append_drop]
theorem kz{l:List α}{x y:α}:y∈mF key l x↔y=x\/y∈l:=by
 rw[(jx l x).mem_iff];simp
theorem abT(l:List α)(x:α):kAt key l x=l.findIdx fun a=>decide (key x<key a):=by
 unfold kAt;rw[List.findIdx_eq_getD_findIdx?]
theorem alB{l:List α}{x a:α}(h:a∈l.take (kAt key l x)):key a<=key x:=by grind [abT,List.mem_take_iff_getElem,List.not_of_lt_findIdx]
theorem yb{l:List α}{x a:α}(hs:Up key l)(h:a∈l.drop (kAt key l x)):key x<key a:=by grind [abT,List.mem_drop_iff_getElem,List.findIdx_getElem,Nat.eq_zero_or_pos,List.pairwise_iff_getElem,Nat.add_comm]
theorem xv{l:List α}{x:α}(hs:Up key l)(hx: ∀a∈l,key a≠key x):Up key (mF key l x):=by
 unfold mF;have h1:(l.take (kAt key l x)).Pairwise fun a b=>key a<key b:=hs.sublist (List.take_sublist _ _)
 have h2:(l.drop (kAt key l x)).Pairwise fun a b=>key a<key b:=hs.sublist (List.drop_sublist _ _)
 rw[Up,List.append_assoc,List.pairwise_append];refine⟨h1,?_,?_⟩
 ·rw[List.singleton_append,List.pairwise_cons];exact⟨fun a ha=>yb hs ha,h2⟩
 ·intro a ha b hb;have h3:=alB ha;have h4:=hx a (List.mem_of_mem_take ha);have h5:key a<key x:=by omega
  rcases List.mem_append.1 hb with hb|hb
  ·simp at hb;subst hb;exact h5
  ·have:=yb hs hb;omega
end
abbrev c9(d:GDesc):Nat:=d.node.toNat
def iz(a b:GDesc):Bool:=if a.inc=b.inc then decide (a.age<b.age)else decide (b.inc<a.inc)
def Vw(self:UInt8)(l:List GDesc):Prop:=(∀d∈l,d.node≠self/\d.inc≠0)/\Up c9 l
instance (self:UInt8) (l:List GDesc):Decidable (Vw self l):=inferInstanceAs (Decidable (_/\_))
def dZ(l:List GDesc)(self:UInt8)(room:Int):Bool:=decide (0<=room/\(l.length:Int)<=room/\Vw self l)
def dq(l:List GDesc)(node:UInt8):Option Nat:=l.findIdx? fun d=>decide (d.node=node)
def kZ(l:List GDesc)(node:UInt8):Int:=match dq l node with|some i=>(i:Int)|none=> -1
def bB(l:List GDesc)(node:UInt8):List GDesc:=l.filter fun d=> !decide (d.node=node)
def dF(l:List GDesc)(d:GDesc)(self:UInt8)(room:Int):List GDesc×Bool:=
 if d.node=self\/d.inc=0 then (l,false)
 else match dq l d.node with
  |some i=>match l[i]? with
   |some o=>if iz d o=true then (l.set i d,true)else (l,false)
   |none=>(l,false)
  |none=>if room<=(l.length:Int)then (l,false)else (mF c9 l d,true)
def GDesc.older(d:GDesc):GDesc:=if d.age=255 then d else { d with age:=d.age+1 }
def bX(l:List GDesc):List GDesc:=l.map GDesc.older
def ad7(l:List GDesc):Option Nat:=l.findIdx? fun d=>decide (∀e∈l,e.age<=d.age)
def nY(l:List GDesc):Int:=match ad7 l with|some i=>(i:Int)|none=> -1
theorem fc{l:List GDesc}{node:UInt8}{i:Nat}(h:dq l node=some i): ∃o,l[i]? =some o/\o.node=node:=by
 obtain⟨hi,hk,_⟩:=List.findIdx?_eq_some_iff_getElem.1 h;exact⟨l[i],List.getElem?_eq_getElem hi,by simpa using hk⟩
theorem lJ{l:List GDesc}{node:UInt8}(h:dq l node=none): ∀d∈l,d.node≠node:=by
 intro d hd;simpa using List.findIdx?_eq_none_iff.1 h d hd
theorem adz(self:UInt8):Vw self []:=⟨by simp,by simp⟩
theorem aj6{a b:GDesc}(h:c9 a=c9 b):a.node=b.node:=UInt8.toNat_inj.1 h
theorem aoR{self:UInt8}{l:List GDesc}(hv:Up c9 l){i:Nat}{o:GDesc}(h:l[i]? =some o):dq l o.node=some i:=by
 obtain⟨hi,rfl⟩:=List.getElem?_eq_some_iff.1 h;unfold dq;rw[List.findIdx?_eq_some_iff_getElem];refine⟨hi,by simp,fun j hj=>?_⟩
 have:=List.pairwise_iff_getElem.1 hv j i (by omega) hi hj
 simp;intro e;have:c9 l[j]=c9 l[i]:=by unfold c9;rw[e]
 omega
theorem aqx{self:UInt8}{l:List GDesc}{i:Nat}{o d:GDesc}(hv:Vw self l)(hi:l[i]? =some o)(hn:o.node=d.node)(h1:d.node≠self)(h2:d.inc≠0):Vw self (l.set i d):=by
 refine⟨fun e he=>?_,?_⟩
 ·rcases List.mem_or_eq_of_mem_set he with he|rfl
  ·exact hv.1 e he
  ·exact⟨h1,h2⟩
 ·have:(l.set i d).map c9=l.map c9:=by
   rw[List.map_set];apply List.ext_getElem?;intro j;rw[List.getElem?_set];split
   ·rename_i e;subst e;obtain⟨hlt,rfl⟩:=List.getElem?_eq_some_iff.1 hi;simp[hlt,c9,hn]
   ·rfl
  have hu:((l.set i d).map c9).Pairwise (· < ·):=by rw[this];exact List.pairwise_map.2 hv.2
  exact List.pairwise_map.1 hu
theorem aqp{self:UInt8}{l:List GDesc}{d:GDesc}(hv:Vw self l)(hn: ∀e∈l,e.node≠d.node)(h1:d.node≠self)(h2:d.inc≠0):Vw self (mF c9 l d):=by
 refine⟨fun e he=>?_,xv hv.2 fun e he k=>hn e he (aj6 k)⟩
 rcases kz.1 he with rfl|he
 ·exact⟨h1,h2⟩
 ·exact hv.1 e he
theorem oA{self:UInt8}{l:List GDesc}(hv:Vw self l)(d:GDesc)(room:Int):Vw self (dF l d self room).1:=by grind [dF,fc,aqx,aqp,lJ]
theorem sC{α:Type}{key:α->Nat}(l:List α)(x:α):(mF key l x).length=l.length+1:=by
 have:=(jx (key:=key) l x).length_eq;simpa using this
theorem iN{self:UInt8}{l:List GDesc}(d:GDesc)(room:Int):(dF l d self room).1.length<=l.length+1:=by grind [dF,sC]
theorem sm{self:UInt8}{l:List GDesc}(d:GDesc){room:Int}(h:(l.length:Int)<=room):((dF l d self room).1.length:Int)<=room:=by grind [dF,sC]
theorem qo{self:UInt8}{l:List GDesc}(hv:Vw self l)(node:UInt8):Vw self (bB l node):=⟨fun e he=>hv.1 e (List.mem_filter.1 he).1,hv.2.filter _⟩
theorem pN(l:List GDesc)(node:UInt8):(bB l node).length<=l.length:=List.length_filter_le _ _
theorem m_(d:GDesc):d.older.node=d.node:=by unfold GDesc.older;split<;>rfl
theorem ag3(d:GDesc):d.older.inc=d.inc:=by unfold GDesc.older;split<;>rfl
theorem yQ{self:UInt8}{l:List GDesc}(hv:Vw self l):Vw self (bX l):=by
 refine⟨fun e he=>?_,?_⟩
 ·obtain⟨d,hd,rfl⟩:=List.mem_map.1 he;rw[m_,ag3];exact hv.1 d hd
 ·rw[Up,bX,List.pairwise_map];refine hv.2.imp ?_;intro a b h;unfold c9;rw[m_,m_];exact h
theorem ajT{self:UInt8}{l:List GDesc}{room:Int}(hv:Vw self l)(h0:0<=room)(h:(l.length:Int)<=room):dZ l self room=true:=decide_eq_true ⟨h0,h,hv⟩
def aS(s:GSpan):List DV:=[.v (.int .i32 s.a),.v (.int .i32 s.b)]
def ah(d:GDesc):List DV:=[.v (.int .u8 d.node.toNat),.v (.int .u16 d.inc.toNat),.v (.int .u8 d.age.toNat),.fz 2 (d.filter.map aS)]
def fzD(l:List GDesc):DV:=.fz 4 (l.map ah)
end Go.Eng
namespace Go.Proofs.YtmhmahcdanclnaaGreat.V
open Go.Eng
attribute [local go_sem] aS ah fzD plR
end Go.Proofs.YtmhmahcdanclnaaGreat.V
namespace Go.Proofs.YtmhmahcdanclnaaGreat.V
open Go.Eng
attribute [local go_sem] aS plR
theorem iK:Con2 Tryz.prog 307 [] (· =plR (.agg (aS ⟨1,0⟩))):=by
 refine en_ Tryz.func307 [.cell 0 108] (g2_ ?_);refine g2_ ?_;exact⟨_,rfl,aa [] ws_⟩
theorem mT(s:GSpan):Con2 Tryz.prog 306 [.agg (aS s)] (· =plR (.agg (aS (mP s)))):=by
 refine en_ Tryz.func306 [.cell 2 108] (g2_ ?_);refine g2_ ?_;unfold mP;refine aV (fun h=>?_) (fun h=>?_)
 ·rw[if_pos h];refine g2_ ?_;refine ce_ iK (g2_ ?_);exact⟨_,rfl,aa [] ws_⟩
 ·rw[if_neg h];refine g2_ ?_;exact⟨_,rfl,aa [] ws_⟩
theorem ag9(x y:GSpan):Con2 Tryz.prog 234 [.agg (aS x),.agg (aS y)] (· =plR (.tup [.agg (aS (if gZ (fL x y)=true then ⟨0,0⟩else fL x y)),.v (.bool (!gZ (fL x y)))])):=by
 refine en_ Tryz.func234 [.cell 4 108,.tmp 5] (g2_ ?_);refine g2_ ?_;refine CallS.eq (mT (fL x y)) (by simp-implicitDefEqProofs only[go_sem,ab,fL]) (.inl ws_) ?_
 refine g2_ ?_;refine .inl ⟨[oF 0,oT 1,oF 2],by kernel_rfl,g2_ ?_⟩
 refine ce_ iK (gf_ @o3 ?_);cases h:gZ (fL x y)with
 |true=>
  refine g2_ ?_;exact⟨_,rfl,aa [] ws_⟩
 |false=>
  have h2:mP (fL x y)=fL x y:=by unfold mP;rw[if_neg (by simpa[gZ]using h)]
  refine gf_ h2 ?_;exact⟨_,rfl,aa [] wx_⟩
theorem aki(x y:GSpan):Con2 Tryz.prog 352 [.agg (aS x),.agg (aS y)] (· =plR (.v (.bool (anm x y)))):=by
 refine en_ Tryz.func352 [.tmp 4] (g2_ ?_);refine g2_ ?_;refine ce_ (mT y) (g2_ ?_);refine ce_ iK (gf_ @o3 ?_);unfold anm;cases h:gZ y with
 |true=>
  refine g2_ ?_;exact⟨_,rfl,aa [] ws_⟩
 | false=>
  refine g2_ ?_;refine wL (fun h1=>?_) (fun h1=>?_)
  all_goals
   refine gf_ h1 ?_;exact⟨_,rfl,aa [] (wf_ h1)⟩
