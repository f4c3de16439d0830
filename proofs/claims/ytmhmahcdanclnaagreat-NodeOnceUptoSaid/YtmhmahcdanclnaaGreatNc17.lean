import Derived.Test.YtmhmahcdanclnaaGreatNc16
set_option linter.unusedSectionVars false
set_option linter.unusedSimpArgs false
set_option linter.unusedVariables false
set_option maxRecDepth 10000
namespace Go.Proofs.YtmhmahcdanclnaaGreat.Ty
open Go.Eng
@[go_sem] theorem atd:bP Tryz.prog 3=some [.v (.int .i64 0)]/\cY Tryz.prog 23=some (108,2,8)/\bP Tryz.prog 26=some [.v (.int .i64 0),.v (.slice none 0 0),.v (.int .i64 0),.v (.int .i64 0),.v (.int .i64 0),.v (.int .i64 0),.v (.int .i64 0),.v (.int .i64 0),.v (.int .i64 0),.v (.int .i64 0),.v (.int .i64 0),.v (.int .i64 0),.v (.int .i64 0),.v (.int .i64 0),.v (.int .u32 0)]/\cI Tryz.prog 26=some [(0,1),(1,1),(2,1),(3,1),(4,1),(5,1),(6,1),(7,1),(8,1),(9,1),(10,1),(11,1),(12,1),(13,1),(14,1)]/\cY Tryz.prog 27=some (63,22,280)/\bP Tryz.prog 30=some [.v (.int .u16 0)]/\cY Tryz.prog 31=some (108,2,8)/\bP Tryz.prog 32=some [.v (.slice none 0 0)]/\cY Tryz.prog 32=some (34,4,32)/\bP Tryz.prog 34=some [.v (.int .u8 0),.v (.int .u16 0),.v (.int .u8 0),.v (.slice none 0 0)]/\cI Tryz.prog 34=some [(0,1),(1,1),(2,1),(3,1)]/\bP Tryz.prog 36=some [.v (.bool false),.v (.bool false),.v (.int .u8 0),.v (.int .u16 0),.v (.int .u8 0),.v (.slice none 0 0),.v (.int .u8 0),.v (.int .u16 0),.v (.int .u8 0),.v (.slice none 0 0)]/\cI Tryz.prog 36=some [(0,1),(1,1),(2,4),(6,4)]/\bP Tryz.prog 38=some [.v (.bool false),.v (.int .u8 0),.v (.int .u8 0),.v (.slice none 0 0)]/\cI Tryz.prog 38=some [(0,1),(1,1),(2,1),(3,1)]:=by and_intros<;>kernel_rfl
@[go_sem] theorem elOf39:cY Tryz.prog 39=some (127,3,4):=by kernel_rfl
@[go_sem] theorem as_:bP Tryz.prog 40=some [.v (.slice none 0 0)]:=by kernel_rfl
@[go_sem] theorem elOf40:cY Tryz.prog 40=some (57,3,8):=by kernel_rfl
@[go_sem] theorem elOf41:cY Tryz.prog 41=some (84,3,16):=by kernel_rfl
@[go_sem] theorem ati:cY Tryz.prog 43=some (40,1,24)/\cY Tryz.prog 44=some (56,5,56)/\bP Tryz.prog 46=some [.v (.int .i64 0),.v (.slice none 0 0)]/\cI Tryz.prog 46=some [(0,1),(1,1)]:=by and_intros<;>kernel_rfl
@[go_sem] theorem elOf47:cY Tryz.prog 47=some (178,5,12):=by kernel_rfl
@[go_sem] theorem ath:bP Tryz.prog 49=some [.v (.int .u8 0),.v (.int .u16 0),.v (.bool false),.v (.slice none 0 0),.v (.slice none 0 0),.v (.slice none 0 0),.v (.bool false),.v (.bool false),.v (.int .u8 0),.v (.int .u16 0),.v (.int .u8 0),.v (.slice none 0 0),.v (.int .u8 0),.v (.int .u16 0),.v (.int .u8 0),.v (.slice none 0 0),.v (.bool false),.v (.int .u8 0),.v (.int .u8 0),.v (.slice none 0 0),.v (.slice none 0 0),.v (.int .u32 0),.v (.slice none 0 0),.v (.int .u32 0),.v (.slice none 0 0),.v (.slice none 0 0),.v (.int .i64 0),.v (.slice none 0 0),.v (.slice none 0 0),.v (.int .i64 0),.v (.int .i64 0),.v (.int .i64 0)]:=by kernel_rfl
@[go_sem] theorem atb:cI Tryz.prog 49=some [(0,1),(1,1),(2,1),(3,1),(4,1),(5,1),(6,10),(16,4),(20,1),(21,1),(22,1),(23,1),(24,1),(25,1),(26,2),(28,1),(29,1),(30,1),(31,1)]:=by kernel_rfl
@[go_sem] theorem elOf51:cY Tryz.prog 51=some (21,1,4):=by kernel_rfl
@[go_sem] theorem atf:bP Tryz.prog 52=some [.v (.slice none 0 0)]:=by kernel_rfl
@[go_sem] theorem as7:an3 Tryz.prog 52=true:=by kernel_rfl
@[go_sem] theorem elOf52:cY Tryz.prog 52=some (5,1,1):=by kernel_rfl
@[go_sem] theorem as9:bP Tryz.prog 54=some [.v (.int .u8 0),.v (.int .u16 0),.v (.int .u32 0)]/\cI Tryz.prog 54=some [(0,1),(1,1),(2,1)]/\bP Tryz.prog 56=some [.v (.int .u8 0),.v (.int .u16 0),.v (.int .u32 0),.v (.slice none 0 0),.v (.slice none 0 0)]/\cI Tryz.prog 56=some [(0,3),(3,1),(4,1)]/\bP Tryz.prog 57=some [.v (.int .u8 0),.v (.int .u16 0),.v (.int .u32 0)]/\cI Tryz.prog 57=some [(0,1),(1,1),(2,1)]/\bP Tryz.prog 58=some [.v (.slice none 0 0)]:=by and_intros<;>kernel_rfl
@[go_sem] theorem elOf58:cY Tryz.prog 58=some (54,3,8):=by kernel_rfl
@[go_sem] theorem as6:bP Tryz.prog 60=some [.v (.int .u8 0),.v (.int .u8 0),.v (.int .u16 0),.v (.int .u8 0),.v (.slice none 0 0),.v (.slice none 0 0),.v (.int .u8 0),.v (.int .u16 0),.v (.int .u32 0),.v (.slice none 0 0),.v (.slice none 0 0),.v (.int .u8 0),.v (.int .u8 0),.v (.int .u16 0),.v (.int .u32 0),.v (.slice none 0 0),.v (.slice none 0 0)]/\cI Tryz.prog 60=some [(0,1),(1,1),(2,1),(3,1),(4,1),(5,1),(6,5),(11,1),(12,3),(15,1),(16,1)]/\cY Tryz.prog 61=some (24,1,4)/\bP Tryz.prog 63=some [.v (.int .u8 0),.v (.slice none 0 0),.v (.slice none 0 0),.v (.slice none 0 0),.v (.int .u8 0),.v (.int .u8 0),.v (.int .u16 0),.v (.int .u8 0),.v (.slice none 0 0),.v (.slice none 0 0),.v (.int .u8 0),.v (.int .u16 0),.v (.int .u32 0),.v (.slice none 0 0),.v (.slice none 0 0),.v (.int .u8 0),.v (.int .u8 0),.v (.int .u16 0),.v (.int .u32 0),.v (.slice none 0 0),.v (.slice none 0 0),.v (.slice none 0 0)]/\cY Tryz.prog 65=some (60,17,176)/\bP Tryz.prog 68=some [.v (.int .u8 0),.v (.int .u16 0),.v (.bool false),.v (.slice none 0 0),.v (.slice none 0 0),.v (.slice none 0 0),.v (.bool false),.v (.bool false),.v (.int .u8 0),.v (.int .u16 0),.v (.int .u8 0),.v (.slice none 0 0),.v (.int .u8 0),.v (.int .u16 0),.v (.int .u8 0),.v (.slice none 0 0),.v (.bool false),.v (.int .u8 0),.v (.int .u8 0),.v (.slice none 0 0),.v (.slice none 0 0),.v (.int .u32 0),.v (.slice none 0 0),.v (.int .u32 0),.v (.slice none 0 0),.v (.slice none 0 0),.v (.int .i64 0),.v (.slice none 0 0),.v (.slice none 0 0),.v (.int .i64 0),.v (.int .i64 0),.v (.int .i64 0),.v (.slice none 0 0),.v (.slice none 0 0),.v (.bool false),.v (.int .i64 0)]/\cI Tryz.prog 68=some [(0,32),(32,1),(33,1),(34,1),(35,1)]/\bP Tryz.prog 82=some [.v (.int .u64 0)]/\bP Tryz.prog 84=some [.v (.int .u16 0),.v (.int .u32 0),.v (.int .u64 0)]/\cI Tryz.prog 84=some [(0,1),(1,1),(2,1)]/\bP Tryz.prog 108=some [.v (.int .i32 0),.v (.int .i32 0)]/\cI Tryz.prog 108=some [(0,1),(1,1)]/\bP Tryz.prog 114=some [.v (.int .u8 0),.v (.int .u8 0),.v (.int .u16 0),.v (.slice none 0 0),.v (.int .u8 0),.v (.int .u8 0),.v (.int .u16 0),.v (.int .u8 0),.v (.slice none 0 0),.v (.slice none 0 0),.v (.int .u8 0),.v (.int .u16 0),.v (.int .u32 0),.v (.slice none 0 0),.v (.slice none 0 0),.v (.int .u8 0),.v (.int .u8 0),.v (.int .u16 0),.v (.int .u32 0),.v (.slice none 0 0),.v (.slice none 0 0),.v (.slice none 0 0)]/\cI Tryz.prog 114=some [(0,1),(1,1),(2,1),(3,1),(4,17),(21,1)]/\bP Tryz.prog 127=some [.v (.int .u16 0),.v (.int .u8 0),.v (.int .u8 0)]/\cI Tryz.prog 127=some [(0,1),(1,1),(2,1)]/\bP Tryz.prog 144=some [.v (.int .i64 0),.v (.slice none 0 0),.v (.int .i64 0),.v (.int .i64 0),.v (.int .i64 0),.v (.int .i64 0),.v (.int .i64 0),.v (.int .i64 0),.v (.int .i64 0),.v (.int .i64 0),.v (.int .i64 0),.v (.int .i64 0),.v (.int .i64 0),.v (.int .i64 0),.v (.int .u32 0),.v (.int .u8 0),.v (.int .u16 0),.v (.bool false),.v (.slice none 0 0),.v (.slice none 0 0),.v (.slice none 0 0),.v (.bool false),.v (.bool false),.v (.int .u8 0),.v (.int .u16 0),.v (.int .u8 0),.v (.slice none 0 0),.v (.int .u8 0),.v (.int .u16 0),.v (.int .u8 0),.v (.slice none 0 0),.v (.bool false),.v (.int .u8 0),.v (.int .u8 0),.v (.slice none 0 0),.v (.slice none 0 0),.v (.int .u32 0),.v (.slice none 0 0),.v (.int .u32 0),.v (.slice none 0 0),.v (.slice none 0 0),.v (.int .i64 0),.v (.slice none 0 0),.v (.slice none 0 0),.v (.int .i64 0),.v (.int .i64 0),.v (.int .i64 0),.v (.int .u8 0),.v (.int .u8 0),.v (.int .u16 0),.v (.int .u8 0),.v (.slice none 0 0),.v (.slice none 0 0),.v (.int .u8 0),.v (.int .u16 0),.v (.int .u32 0),.v (.slice none 0 0),.v (.slice none 0 0),.v (.int .u8 0),.v (.int .u8 0),.v (.int .u16 0),.v (.int .u32 0),.v (.slice none 0 0),.v (.slice none 0 0),.v (.slice none 0 0),.v (.slice none 0 0),.v (.slice none 0 0)]/\cI Tryz.prog 144=some [(0,15),(15,32),(47,17),(64,1),(65,1),(66,1)]/\bP Tryz.prog 178=some [.v (.int .u8 0),.v (.int .u16 0),.v (.int .u32 0),.v (.int .u8 0),.v (.int .u8 0)]/\cI Tryz.prog 178=some [(0,3),(3,1),(4,1)]/\bP Tryz.prog 203=some [.v (.int .i64 0),.v (.slice none 0 0),.v (.int .i64 0),.v (.int .i64 0),.v (.int .i64 0),.v (.int .i64 0),.v (.int .i64 0),.v (.int .i64 0),.v (.int .i64 0),.v (.int .i64 0),.v (.int .i64 0),.v (.int .i64 0),.v (.int .i64 0),.v (.int .i64 0),.v (.int .u32 0),.v (.int .u8 0),.v (.int .u16 0),.v (.bool false),.v (.slice none 0 0),.v (.slice none 0 0),.v (.slice none 0 0),.v (.bool false),.v (.bool false),.v (.int .u8 0),.v (.int .u16 0),.v (.int .u8 0),.v (.slice none 0 0),.v (.int .u8 0),.v (.int .u16 0),.v (.int .u8 0),.v (.slice none 0 0),.v (.bool false),.v (.int .u8 0),.v (.int .u8 0),.v (.slice none 0 0),.v (.slice none 0 0),.v (.int .u32 0),.v (.slice none 0 0),.v (.int .u32 0),.v (.slice none 0 0),.v (.slice none 0 0),.v (.int .i64 0),.v (.slice none 0 0),.v (.slice none 0 0),.v (.int .i64 0),.v (.int .i64 0),.v (.int .i64 0),.v (.int .u8 0),.v (.int .u8 0),.v (.int .u16 0),.v (.int .u8 0),.v (.slice none 0 0),.v (.slice none 0 0),.v (.int .u8 0),.v (.int .u16 0),.v (.int .u32 0),.v (.slice none 0 0),.v (.slice none 0 0),.v (.int .u8 0),.v (.int .u8 0),.v (.int .u16 0),.v (.int .u32 0),.v (.slice none 0 0),.v (.slice none 0 0),.v (.slice none 0 0),.v (.bool false),.v (.slice none 0 0)]/\cI Tryz.prog 203=some [(0,15),(15,32),(47,17),(64,1),(65,1),(66,1)]/\cY Tryz.prog 213=some (32,1,24)/\cY Tryz.prog 265=some (268,5,40)/\bP Tryz.prog 268=some [.v (.int .u8 0),.v (.int .u16 0),.v (.int .u8 0),.v (.slice none 0 0),.v (.int .u32 0)]/\cI Tryz.prog 268=some [(0,4),(4,1)]/\esz Tryz.prog 315=none/\asz Tryz.prog 315=some (256,4)/\aoZ Tryz.prog 315=some (256,true,4)/\cY Tryz.prog 347=some (3,1,8)/\bP Tryz.prog 356=some []/\cI Tryz.prog 356=some []/\bP Tryz.prog 364=some [.v (.int .u64 0)]:=by and_intros<;>kernel_rfl
end Go.Proofs.YtmhmahcdanclnaaGreat.Ty
namespace Go.Eng
section
variable {α:Type} (key:α->Nat)
abbrev Up(l:List α):Prop:=l.Pairwise fun a b=>key a<key b
def kAt(l:List α)(x:α):Nat:=(l.findIdx? fun a=>decide (key x<key a)).getD l.length
def ng(l:List α)(x:α):List α:=l.take (kAt key l x)++[x]++l.drop (kAt key l x)
variable {key}
theorem jq(l:List α)(x:α):(ng key l x).Perm (x::l):=by grind [ng,List.append_assoc,List.singleton_append,List.perm_middle,List.take_append_drop]
theorem kU{l:List α}{x y:α}:y∈ng key l x↔y=x\/y∈l:=by
 rw[(jq l x).mem_iff];simp
theorem ac4(l:List α)(x:α):kAt key l x=l.findIdx fun a=>decide (key x<key a):=by
 unfold kAt;rw[List.findIdx_eq_getD_findIdx?]
theorem aje{l:List α}{x a:α}(h:a∈l.take (kAt key l x)):key a<=key x:=by grind [ac4,List.mem_take_iff_getElem,List.not_of_lt_findIdx]
theorem zf{l:List α}{x a:α}(hs:Up key l)(h:a∈l.drop (kAt key l x)):key x<key a:=by grind [ac4,List.mem_drop_iff_getElem,List.findIdx_getElem,Nat.eq_zero_or_pos,List.pairwise_iff_getElem,Nat.add_comm]
theorem xz{l:List α}{x:α}(hs:Up key l)(hx: ∀a∈l,key a≠key x):Up key (ng key l x):=by
 unfold ng;have h1:(l.take (kAt key l x)).Pairwise fun a b=>key a<key b:=hs.sublist (List.take_sublist _ _)
 have h2:(l.drop (kAt key l x)).Pairwise fun a b=>key a<key b:=hs.sublist (List.drop_sublist _ _)
 rw[Up,List.append_assoc,List.pairwise_append];refine⟨h1,?_,?_⟩
 ·rw[List.singleton_append,List.pairwise_cons];exact⟨fun a ha=>zf hs ha,h2⟩
 ·intro a ha b hb;have h3:=aje ha;have h4:=hx a (List.mem_of_mem_take ha);have h5:key a<key x:=by omega
  rcases List.mem_append.1 hb with hb|hb
  ·simp at hb;subst hb;exact h5
  ·have:=zf hs hb;omega
end
abbrev db(d:GDesc):Nat:=d.node.toNat
def ib(a b:GDesc):Bool:=if a.inc=b.inc then decide (a.age<b.age)else decide (b.inc<a.inc)
def Vw(self:UInt8)(l:List GDesc):Prop:=(∀d∈l,d.node≠self/\d.inc≠0)/\Up db l
instance (self:UInt8) (l:List GDesc):Decidable (Vw self l):=inferInstanceAs (Decidable (_/\_))
def oY(l:List GDesc)(self:UInt8)(room:Int):Bool:=decide (0<=room/\(l.length:Int)<=room/\Vw self l)
def dp(l:List GDesc)(node:UInt8):Option Nat:=l.findIdx? fun d=>decide (d.node=node)
def kF(l:List GDesc)(node:UInt8):Int:=match dp l node with|some i=>(i:Int)|none=> -1
def bE(l:List GDesc)(node:UInt8):List GDesc:=l.filter fun d=> !decide (d.node=node)
def dJ(l:List GDesc)(d:GDesc)(self:UInt8)(room:Int):List GDesc×Bool:=
 if d.node=self\/d.inc=0 then (l,false)
 else match dp l d.node with
  |some i=>match l[i]? with
   |some o=>if ib d o=true then (l.set i d,true)else (l,false)
   |none=>(l,false)
  |none=>if room<=(l.length:Int)then (l,false)else (ng db l d,true)
def GDesc.older(d:GDesc):GDesc:=if d.age=255 then d else { d with age:=d.age+1 }
def bY(l:List GDesc):List GDesc:=l.map GDesc.older
def abQ(l:List GDesc):Option Nat:=l.findIdx? fun d=>decide (∀e∈l,e.age<=d.age)
def nW(l:List GDesc):Int:=match abQ l with|some i=>(i:Int)|none=> -1
theorem fg{l:List GDesc}{node:UInt8}{i:Nat}(h:dp l node=some i): ∃o,l[i]? =some o/\o.node=node:=by
 obtain⟨hi,hk,_⟩:=List.findIdx?_eq_some_iff_getElem.1 h;exact⟨l[i],List.getElem?_eq_getElem hi,by simpa using hk⟩
theorem lH{l:List GDesc}{node:UInt8}(h:dp l node=none): ∀d∈l,d.node≠node:=by
 intro d hd;simpa using List.findIdx?_eq_none_iff.1 h d hd
theorem adX(self:UInt8):Vw self []:=⟨by simp,by simp⟩
theorem ai4{a b:GDesc}(h:db a=db b):a.node=b.node:=UInt8.toNat_inj.1 h
theorem amX{self:UInt8}{l:List GDesc}(hv:Up db l){i:Nat}{o:GDesc}(h:l[i]? =some o):dp l o.node=some i:=by
 obtain⟨hi,rfl⟩:=List.getElem?_eq_some_iff.1 h;unfold dp;rw[List.findIdx?_eq_some_iff_getElem];refine⟨hi,by simp,fun j hj=>?_⟩
 have:=List.pairwise_iff_getElem.1 hv j i (by omega) hi hj
 simp;intro e;have:db l[j]=db l[i]:=by unfold db;rw[e]
 omega
theorem ap_{self:UInt8}{l:List GDesc}{i:Nat}{o d:GDesc}(hv:Vw self l)(hi:l[i]? =some o)(hn:o.node=d.node)(h1:d.node≠self)(h2:d.inc≠0):Vw self (l.set i d):=by
 refine⟨fun e he=>?_,?_⟩
 ·rcases List.mem_or_eq_of_mem_set he with he|rfl
  ·exact hv.1 e he
  ·exact⟨h1,h2⟩
 ·have:(l.set i d).map db=l.map db:=by
   rw[List.map_set];apply List.ext_getElem?;intro j;rw[List.getElem?_set];split
   ·rename_i e;subst e;obtain⟨hlt,rfl⟩:=List.getElem?_eq_some_iff.1 hi;simp[hlt,db,hn]
   ·rfl
  have hu:((l.set i d).map db).Pairwise (· < ·):=by rw[this];exact List.pairwise_map.2 hv.2
  exact List.pairwise_map.1 hu
theorem apU{self:UInt8}{l:List GDesc}{d:GDesc}(hv:Vw self l)(hn: ∀e∈l,e.node≠d.node)(h1:d.node≠self)(h2:d.inc≠0):Vw self (ng db l d):=by
 refine⟨fun e he=>?_,xz hv.2 fun e he k=>hn e he (ai4 k)⟩
 rcases kU.1 he with rfl|he
 ·exact⟨h1,h2⟩
 ·exact hv.1 e he
theorem oR{self:UInt8}{l:List GDesc}(hv:Vw self l)(d:GDesc)(room:Int):Vw self (dJ l d self room).1:=by grind [dJ,fg,ap_,apU,lH]
theorem sb{α:Type}{key:α->Nat}(l:List α)(x:α):(ng key l x).length=l.length+1:=by
 have:=(jq (key:=key) l x).length_eq;simpa using this
theorem iR{self:UInt8}{l:List GDesc}(d:GDesc)(room:Int):(dJ l d self room).1.length<=l.length+1:=by grind [dJ,sb]
theorem s_{self:UInt8}{l:List GDesc}(d:GDesc){room:Int}(h:(l.length:Int)<=room):((dJ l d self room).1.length:Int)<=room:=by grind [dJ,sb]
theorem qS{self:UInt8}{l:List GDesc}(hv:Vw self l)(node:UInt8):Vw self (bE l node):=⟨fun e he=>hv.1 e (List.mem_filter.1 he).1,hv.2.filter _⟩
theorem pF(l:List GDesc)(node:UInt8):(bE l node).length<=l.length:=List.length_filter_le _ _
theorem nk(d:GDesc):d.older.node=d.node:=by unfold GDesc.older;split<;>rfl
theorem ag0(d:GDesc):d.older.inc=d.inc:=by unfold GDesc.older;split<;>rfl
theorem yC{self:UInt8}{l:List GDesc}(hv:Vw self l):Vw self (bY l):=by
 refine⟨fun e he=>?_,?_⟩
 ·obtain⟨d,hd,rfl⟩:=List.mem_map.1 he;rw[nk,ag0];exact hv.1 d hd
 ·rw[Up,bY,List.pairwise_map];refine hv.2.imp ?_;intro a b h;unfold db;rw[nk,nk];exact h
def aR(s:GSpan):List DV:=[.v (.int .i32 s.a),.v (.int .i32 s.b)]
def ah(d:GDesc):List DV:=[.v (.int .u8 d.node.toNat),.v (.int .u16 d.inc.toNat),.v (.int .u8 d.age.toNat),.fz 2 (d.filter.map aR)]
def fzD(l:List GDesc):DV:=.fz 4 (l.map ah)
end Go.Eng
namespace Go.Proofs.YtmhmahcdanclnaaGreat.V
open Go.Eng
attribute [local go_sem] aR ah fzD plR
end Go.Proofs.YtmhmahcdanclnaaGreat.V
namespace Go.Proofs.YtmhmahcdanclnaaGreat.V
open Go.Eng
attribute [local go_sem] aR plR
theorem iL:Con2 Tryz.prog 307 [] (· =plR (.agg (aR ⟨1,0⟩))):=by
 refine en_ Tryz.func307 [.cell 0 108] (g2_ ?_);refine g2_ ?_;exact⟨_,rfl,aa [] ws_⟩
theorem mK(s:GSpan):Con2 Tryz.prog 306 [.agg (aR s)] (· =plR (.agg (aR (mZ s)))):=by
 refine en_ Tryz.func306 [.cell 2 108] (g2_ ?_);refine g2_ ?_;unfold mZ;refine ba (fun h=>?_) (fun h=>?_)
 ·rw[if_pos h];refine g2_ ?_;refine ce_ iL (g2_ ?_);exact⟨_,rfl,aa [] ws_⟩
 ·rw[if_neg h];refine g2_ ?_;exact⟨_,rfl,aa [] ws_⟩
theorem ag8(x y:GSpan):Con2 Tryz.prog 234 [.agg (aR x),.agg (aR y)] (· =plR (.tup [.agg (aR (if iC (fM x y)=true then ⟨0,0⟩else fM x y)),.v (.bool (!iC (fM x y)))])):=by
 refine en_ Tryz.func234 [.cell 4 108,.tmp 5] (g2_ ?_);refine g2_ ?_;refine CallS.eq (mK (fM x y)) (by simp-implicitDefEqProofs only[go_sem,ab,fM]) (.inl ws_) ?_
 refine g2_ ?_;refine .inl ⟨[oF 0,oT 1,oF 2],by kernel_rfl,g2_ ?_⟩
 refine ce_ iL (gf_ @oL ?_);cases h:iC (fM x y)with
 |true=>
  refine g2_ ?_;exact⟨_,rfl,aa [] ws_⟩
 |false=>
  have h2:mZ (fM x y)=fM x y:=by unfold mZ;rw[if_neg (by simpa[iC]using h)]
  refine gf_ h2 ?_;exact⟨_,rfl,aa [] wx_⟩
theorem aiE(x y:GSpan):Con2 Tryz.prog 352 [.agg (aR x),.agg (aR y)] (· =plR (.v (.bool (am5 x y)))):=by
 refine en_ Tryz.func352 [.tmp 4] (g2_ ?_);refine g2_ ?_;refine ce_ (mK y) (g2_ ?_);refine ce_ iL (gf_ @oL ?_);unfold am5;cases h:iC y with
 |true=>
  refine g2_ ?_;exact⟨_,rfl,aa [] ws_⟩
 | false=>
  refine g2_ ?_;refine xf (fun h1=>?_) (fun h1=>?_)
  all_goals
   refine gf_ h1 ?_;exact⟨_,rfl,aa [] (wf_ h1)⟩
