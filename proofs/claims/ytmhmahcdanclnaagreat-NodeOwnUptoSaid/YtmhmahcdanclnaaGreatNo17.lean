import Derived.Test.YtmhmahcdanclnaaGreatNo16
set_option linter.unusedSectionVars false
set_option linter.unusedSimpArgs false
set_option linter.unusedVariables false
set_option maxRecDepth 10000
namespace Go.Proofs.YtmhmahcdanclnaaGreat.Ty
open Go.Eng
@[go_sem] theorem atO:bQ Tryz.prog 3=some [.v (.int .i64 0)]/\db Tryz.prog 23=some (108,2,8)/\bQ Tryz.prog 26=some [.v (.int .i64 0),.v (.slice none 0 0),.v (.int .i64 0),.v (.int .i64 0),.v (.int .i64 0),.v (.int .i64 0),.v (.int .i64 0),.v (.int .i64 0),.v (.int .i64 0),.v (.int .i64 0),.v (.int .i64 0),.v (.int .i64 0),.v (.int .i64 0),.v (.int .i64 0),.v (.int .u32 0)]/\cH Tryz.prog 26=some [(0,1),(1,1),(2,1),(3,1),(4,1),(5,1),(6,1),(7,1),(8,1),(9,1),(10,1),(11,1),(12,1),(13,1),(14,1)]/\db Tryz.prog 27=some (63,22,280)/\bQ Tryz.prog 30=some [.v (.int .u16 0)]/\db Tryz.prog 31=some (108,2,8)/\bQ Tryz.prog 32=some [.v (.slice none 0 0)]/\db Tryz.prog 32=some (34,4,32)/\bQ Tryz.prog 34=some [.v (.int .u8 0),.v (.int .u16 0),.v (.int .u8 0),.v (.slice none 0 0)]/\cH Tryz.prog 34=some [(0,1),(1,1),(2,1),(3,1)]/\bQ Tryz.prog 36=some [.v (.bool false),.v (.bool false),.v (.int .u8 0),.v (.int .u16 0),.v (.int .u8 0),.v (.slice none 0 0),.v (.int .u8 0),.v (.int .u16 0),.v (.int .u8 0),.v (.slice none 0 0)]/\cH Tryz.prog 36=some [(0,1),(1,1),(2,4),(6,4)]/\bQ Tryz.prog 38=some [.v (.bool false),.v (.int .u8 0),.v (.int .u8 0),.v (.slice none 0 0)]/\cH Tryz.prog 38=some [(0,1),(1,1),(2,1),(3,1)]:=by and_intros<;>kernel_rfl
@[go_sem] theorem elOf39:db Tryz.prog 39=some (127,3,4):=by kernel_rfl
@[go_sem] theorem atF:bQ Tryz.prog 40=some [.v (.slice none 0 0)]:=by kernel_rfl
@[go_sem] theorem elOf40:db Tryz.prog 40=some (57,3,8):=by kernel_rfl
@[go_sem] theorem elOf41:db Tryz.prog 41=some (84,3,16):=by kernel_rfl
@[go_sem] theorem atH:db Tryz.prog 43=some (40,1,24)/\db Tryz.prog 44=some (56,5,56)/\bQ Tryz.prog 46=some [.v (.int .i64 0),.v (.slice none 0 0)]/\cH Tryz.prog 46=some [(0,1),(1,1)]:=by and_intros<;>kernel_rfl
@[go_sem] theorem elOf47:db Tryz.prog 47=some (178,5,12):=by kernel_rfl
@[go_sem] theorem atQ:bQ Tryz.prog 49=some [.v (.int .u8 0),.v (.int .u16 0),.v (.bool false),.v (.slice none 0 0),.v (.slice none 0 0),.v (.slice none 0 0),.v (.bool false),.v (.bool false),.v (.int .u8 0),.v (.int .u16 0),.v (.int .u8 0),.v (.slice none 0 0),.v (.int .u8 0),.v (.int .u16 0),.v (.int .u8 0),.v (.slice none 0 0),.v (.bool false),.v (.int .u8 0),.v (.int .u8 0),.v (.slice none 0 0),.v (.slice none 0 0),.v (.int .u32 0),.v (.slice none 0 0),.v (.int .u32 0),.v (.slice none 0 0),.v (.slice none 0 0),.v (.int .i64 0),.v (.slice none 0 0),.v (.slice none 0 0),.v (.int .i64 0),.v (.int .i64 0),.v (.int .i64 0)]:=by kernel_rfl
@[go_sem] theorem atE:cH Tryz.prog 49=some [(0,1),(1,1),(2,1),(3,1),(4,1),(5,1),(6,10),(16,4),(20,1),(21,1),(22,1),(23,1),(24,1),(25,1),(26,2),(28,1),(29,1),(30,1),(31,1)]:=by kernel_rfl
@[go_sem] theorem elOf51:db Tryz.prog 51=some (21,1,4):=by kernel_rfl
@[go_sem] theorem atL:bQ Tryz.prog 52=some [.v (.slice none 0 0)]:=by kernel_rfl
@[go_sem] theorem atM:apv Tryz.prog 52=true:=by kernel_rfl
@[go_sem] theorem elOf52:db Tryz.prog 52=some (5,1,1):=by kernel_rfl
@[go_sem] theorem atT:bQ Tryz.prog 54=some [.v (.int .u8 0),.v (.int .u16 0),.v (.int .u32 0)]/\cH Tryz.prog 54=some [(0,1),(1,1),(2,1)]/\bQ Tryz.prog 56=some [.v (.int .u8 0),.v (.int .u16 0),.v (.int .u32 0),.v (.slice none 0 0),.v (.slice none 0 0)]/\cH Tryz.prog 56=some [(0,3),(3,1),(4,1)]/\bQ Tryz.prog 57=some [.v (.int .u8 0),.v (.int .u16 0),.v (.int .u32 0)]/\cH Tryz.prog 57=some [(0,1),(1,1),(2,1)]/\bQ Tryz.prog 58=some [.v (.slice none 0 0)]:=by and_intros<;>kernel_rfl
@[go_sem] theorem elOf58:db Tryz.prog 58=some (54,3,8):=by kernel_rfl
@[go_sem] theorem atK:bQ Tryz.prog 60=some [.v (.int .u8 0),.v (.int .u8 0),.v (.int .u16 0),.v (.int .u8 0),.v (.slice none 0 0),.v (.slice none 0 0),.v (.int .u8 0),.v (.int .u16 0),.v (.int .u32 0),.v (.slice none 0 0),.v (.slice none 0 0),.v (.int .u8 0),.v (.int .u8 0),.v (.int .u16 0),.v (.int .u32 0),.v (.slice none 0 0),.v (.slice none 0 0)]/\cH Tryz.prog 60=some [(0,1),(1,1),(2,1),(3,1),(4,1),(5,1),(6,5),(11,1),(12,3),(15,1),(16,1)]/\db Tryz.prog 61=some (24,1,4)/\bQ Tryz.prog 63=some [.v (.int .u8 0),.v (.slice none 0 0),.v (.slice none 0 0),.v (.slice none 0 0),.v (.int .u8 0),.v (.int .u8 0),.v (.int .u16 0),.v (.int .u8 0),.v (.slice none 0 0),.v (.slice none 0 0),.v (.int .u8 0),.v (.int .u16 0),.v (.int .u32 0),.v (.slice none 0 0),.v (.slice none 0 0),.v (.int .u8 0),.v (.int .u8 0),.v (.int .u16 0),.v (.int .u32 0),.v (.slice none 0 0),.v (.slice none 0 0),.v (.slice none 0 0)]/\db Tryz.prog 65=some (60,17,176)/\bQ Tryz.prog 68=some [.v (.int .u8 0),.v (.int .u16 0),.v (.bool false),.v (.slice none 0 0),.v (.slice none 0 0),.v (.slice none 0 0),.v (.bool false),.v (.bool false),.v (.int .u8 0),.v (.int .u16 0),.v (.int .u8 0),.v (.slice none 0 0),.v (.int .u8 0),.v (.int .u16 0),.v (.int .u8 0),.v (.slice none 0 0),.v (.bool false),.v (.int .u8 0),.v (.int .u8 0),.v (.slice none 0 0),.v (.slice none 0 0),.v (.int .u32 0),.v (.slice none 0 0),.v (.int .u32 0),.v (.slice none 0 0),.v (.slice none 0 0),.v (.int .i64 0),.v (.slice none 0 0),.v (.slice none 0 0),.v (.int .i64 0),.v (.int .i64 0),.v (.int .i64 0),.v (.slice none 0 0),.v (.slice none 0 0),.v (.bool false),.v (.int .i64 0)]/\cH Tryz.prog 68=some [(0,32),(32,1),(33,1),(34,1),(35,1)]/\bQ Tryz.prog 82=some [.v (.int .u64 0)]/\bQ Tryz.prog 84=some [.v (.int .u16 0),.v (.int .u32 0),.v (.int .u64 0)]/\cH Tryz.prog 84=some [(0,1),(1,1),(2,1)]/\bQ Tryz.prog 108=some [.v (.int .i32 0),.v (.int .i32 0)]/\cH Tryz.prog 108=some [(0,1),(1,1)]/\bQ Tryz.prog 114=some [.v (.int .u8 0),.v (.int .u8 0),.v (.int .u16 0),.v (.slice none 0 0),.v (.int .u8 0),.v (.int .u8 0),.v (.int .u16 0),.v (.int .u8 0),.v (.slice none 0 0),.v (.slice none 0 0),.v (.int .u8 0),.v (.int .u16 0),.v (.int .u32 0),.v (.slice none 0 0),.v (.slice none 0 0),.v (.int .u8 0),.v (.int .u8 0),.v (.int .u16 0),.v (.int .u32 0),.v (.slice none 0 0),.v (.slice none 0 0),.v (.slice none 0 0)]/\cH Tryz.prog 114=some [(0,1),(1,1),(2,1),(3,1),(4,17),(21,1)]/\bQ Tryz.prog 127=some [.v (.int .u16 0),.v (.int .u8 0),.v (.int .u8 0)]/\cH Tryz.prog 127=some [(0,1),(1,1),(2,1)]/\bQ Tryz.prog 144=some [.v (.int .i64 0),.v (.slice none 0 0),.v (.int .i64 0),.v (.int .i64 0),.v (.int .i64 0),.v (.int .i64 0),.v (.int .i64 0),.v (.int .i64 0),.v (.int .i64 0),.v (.int .i64 0),.v (.int .i64 0),.v (.int .i64 0),.v (.int .i64 0),.v (.int .i64 0),.v (.int .u32 0),.v (.int .u8 0),.v (.int .u16 0),.v (.bool false),.v (.slice none 0 0),.v (.slice none 0 0),.v (.slice none 0 0),.v (.bool false),.v (.bool false),.v (.int .u8 0),.v (.int .u16 0),.v (.int .u8 0),.v (.slice none 0 0),.v (.int .u8 0),.v (.int .u16 0),.v (.int .u8 0),.v (.slice none 0 0),.v (.bool false),.v (.int .u8 0),.v (.int .u8 0),.v (.slice none 0 0),.v (.slice none 0 0),.v (.int .u32 0),.v (.slice none 0 0),.v (.int .u32 0),.v (.slice none 0 0),.v (.slice none 0 0),.v (.int .i64 0),.v (.slice none 0 0),.v (.slice none 0 0),.v (.int .i64 0),.v (.int .i64 0),.v (.int .i64 0),.v (.int .u8 0),.v (.int .u8 0),.v (.int .u16 0),.v (.int .u8 0),.v (.slice none 0 0),.v (.slice none 0 0),.v (.int .u8 0),.v (.int .u16 0),.v (.int .u32 0),.v (.slice none 0 0),.v (.slice none 0 0),.v (.int .u8 0),.v (.int .u8 0),.v (.int .u16 0),.v (.int .u32 0),.v (.slice none 0 0),.v (.slice none 0 0),.v (.slice none 0 0),.v (.slice none 0 0),.v (.slice none 0 0)]/\cH Tryz.prog 144=some [(0,15),(15,32),(47,17),(64,1),(65,1),(66,1)]/\bQ Tryz.prog 178=some [.v (.int .u8 0),.v (.int .u16 0),.v (.int .u32 0),.v (.int .u8 0),.v (.int .u8 0)]/\cH Tryz.prog 178=some [(0,3),(3,1),(4,1)]/\bQ Tryz.prog 203=some [.v (.int .i64 0),.v (.slice none 0 0),.v (.int .i64 0),.v (.int .i64 0),.v (.int .i64 0),.v (.int .i64 0),.v (.int .i64 0),.v (.int .i64 0),.v (.int .i64 0),.v (.int .i64 0),.v (.int .i64 0),.v (.int .i64 0),.v (.int .i64 0),.v (.int .i64 0),.v (.int .u32 0),.v (.int .u8 0),.v (.int .u16 0),.v (.bool false),.v (.slice none 0 0),.v (.slice none 0 0),.v (.slice none 0 0),.v (.bool false),.v (.bool false),.v (.int .u8 0),.v (.int .u16 0),.v (.int .u8 0),.v (.slice none 0 0),.v (.int .u8 0),.v (.int .u16 0),.v (.int .u8 0),.v (.slice none 0 0),.v (.bool false),.v (.int .u8 0),.v (.int .u8 0),.v (.slice none 0 0),.v (.slice none 0 0),.v (.int .u32 0),.v (.slice none 0 0),.v (.int .u32 0),.v (.slice none 0 0),.v (.slice none 0 0),.v (.int .i64 0),.v (.slice none 0 0),.v (.slice none 0 0),.v (.int .i64 0),.v (.int .i64 0),.v (.int .i64 0),.v (.int .u8 0),.v (.int .u8 0),.v (.int .u16 0),.v (.int .u8 0),.v (.slice none 0 0),.v (.slice none 0 0),.v (.int .u8 0),.v (.int .u16 0),.v (.int .u32 0),.v (.slice none 0 0),.v (.slice none 0 0),.v (.int .u8 0),.v (.int .u8 0),.v (.int .u16 0),.v (.int .u32 0),.v (.slice none 0 0),.v (.slice none 0 0),.v (.slice none 0 0),.v (.bool false),.v (.slice none 0 0)]/\cH Tryz.prog 203=some [(0,15),(15,32),(47,17),(64,1),(65,1),(66,1)]/\db Tryz.prog 213=some (32,1,24)/\db Tryz.prog 265=some (268,5,40)/\bQ Tryz.prog 268=some [.v (.int .u8 0),.v (.int .u16 0),.v (.int .u8 0),.v (.slice none 0 0),.v (.int .u32 0)]/\cH Tryz.prog 268=some [(0,4),(4,1)]/\esz Tryz.prog 315=none/\asz Tryz.prog 315=some (256,4)/\anR Tryz.prog 315=some (256,true,4)/\db Tryz.prog 347=some (3,1,8)/\bQ Tryz.prog 356=some []/\cH Tryz.prog 356=some []/\bQ Tryz.prog 364=some [.v (.int .u64 0)]:=by and_intros<;>kernel_rfl
end Go.Proofs.YtmhmahcdanclnaaGreat.Ty
namespace Go.Eng
section
variable {α:Type} (key:α->Nat)
abbrev Up(l:List α):Prop:=l.Pairwise fun a b=>key a<key b
def kAt(l:List α)(x:α):Nat:=(l.findIdx? fun a=>decide (key x<key a)).getD l.length
def mV(l:List α)(x:α):List α:=l.take (kAt key l x)++[x]++l.drop (kAt key l x)
variable {key}
theorem jt(l:List α)(x:α):(mV key l x).Perm (x::l):=by grind [mV,List.append_assoc,List.singleton_append,List.perm_middle,List.take_append_drop]
theorem iw{l:List α}{x y:α}:y∈mV key l x↔y=x\/y∈l:=by
 rw[(jt l x).mem_iff];simp
theorem ad2(l:List α)(x:α):kAt key l x=l.findIdx fun a=>decide (key x<key a):=by
 unfold kAt;rw[List.findIdx_eq_getD_findIdx?]
theorem ajB{l:List α}{x a:α}(h:a∈l.take (kAt key l x)):key a<=key x:=by grind [ad2,List.mem_take_iff_getElem,List.not_of_lt_findIdx]
theorem za{l:List α}{x a:α}(hs:Up key l)(h:a∈l.drop (kAt key l x)):key x<key a:=by grind [ad2,List.mem_drop_iff_getElem,List.findIdx_getElem,Nat.eq_zero_or_pos,List.pairwise_iff_getElem,Nat.add_comm]
theorem xU{l:List α}{x:α}(hs:Up key l)(hx: ∀a∈l,key a≠key x):Up key (mV key l x):=by
 unfold mV;have h1:(l.take (kAt key l x)).Pairwise fun a b=>key a<key b:=hs.sublist (List.take_sublist _ _)
 have h2:(l.drop (kAt key l x)).Pairwise fun a b=>key a<key b:=hs.sublist (List.drop_sublist _ _)
 rw[Up,List.append_assoc,List.pairwise_append];refine⟨h1,?_,?_⟩
 ·rw[List.singleton_append,List.pairwise_cons];exact⟨fun a ha=>za hs ha,h2⟩
 ·intro a ha b hb;have h3:=ajB ha;have h4:=hx a (List.mem_of_mem_take ha);have h5:key a<key x:=by omega
  rcases List.mem_append.1 hb with hb|hb
  ·simp at hb;subst hb;exact h5
  ·have:=za hs hb;omega
end
abbrev dj(d:GDesc):Nat:=d.node.toNat
def ij(a b:GDesc):Bool:=if a.inc=b.inc then decide (a.age<b.age)else decide (b.inc<a.inc)
def Vw(self:UInt8)(l:List GDesc):Prop:=(∀d∈l,d.node≠self/\d.inc≠0)/\Up dj l
instance (self:UInt8) (l:List GDesc):Decidable (Vw self l):=inferInstanceAs (Decidable (_/\_))
def oW(l:List GDesc)(self:UInt8)(room:Int):Bool:=decide (0<=room/\(l.length:Int)<=room/\Vw self l)
def dC(l:List GDesc)(node:UInt8):Option Nat:=l.findIdx? fun d=>decide (d.node=node)
def j9(l:List GDesc)(node:UInt8):Int:=match dC l node with|some i=>(i:Int)|none=> -1
def bG(l:List GDesc)(node:UInt8):List GDesc:=l.filter fun d=> !decide (d.node=node)
def dO(l:List GDesc)(d:GDesc)(self:UInt8)(room:Int):List GDesc×Bool:=
 if d.node=self\/d.inc=0 then (l,false)
 else match dC l d.node with
  |some i=>match l[i]? with
   |some o=>if ij d o=true then (l.set i d,true)else (l,false)
   |none=>(l,false)
  |none=>if room<=(l.length:Int)then (l,false)else (mV dj l d,true)
def GDesc.older(d:GDesc):GDesc:=if d.age=255 then d else { d with age:=d.age+1 }
def cd(l:List GDesc):List GDesc:=l.map GDesc.older
def ac6(l:List GDesc):Option Nat:=l.findIdx? fun d=>decide (∀e∈l,e.age<=d.age)
def nV(l:List GDesc):Int:=match ac6 l with|some i=>(i:Int)|none=> -1
theorem fk{l:List GDesc}{node:UInt8}{i:Nat}(h:dC l node=some i): ∃o,l[i]? =some o/\o.node=node:=by
 obtain⟨hi,hk,_⟩:=List.findIdx?_eq_some_iff_getElem.1 h;exact⟨l[i],List.getElem?_eq_getElem hi,by simpa using hk⟩
theorem lV{l:List GDesc}{node:UInt8}(h:dC l node=none): ∀d∈l,d.node≠node:=by
 intro d hd;simpa using List.findIdx?_eq_none_iff.1 h d hd
theorem ac1(self:UInt8):Vw self []:=⟨by simp,by simp⟩
theorem amw{a b:GDesc}(h:dj a=dj b):a.node=b.node:=UInt8.toNat_inj.1 h
theorem anv{self:UInt8}{l:List GDesc}(hv:Up dj l){i:Nat}{o:GDesc}(h:l[i]? =some o):dC l o.node=some i:=by
 obtain⟨hi,rfl⟩:=List.getElem?_eq_some_iff.1 h;unfold dC;rw[List.findIdx?_eq_some_iff_getElem];refine⟨hi,by simp,fun j hj=>?_⟩
 have:=List.pairwise_iff_getElem.1 hv j i (by omega) hi hj
 simp;intro e;have:dj l[j]=dj l[i]:=by unfold dj;rw[e]
 omega
theorem arN{self:UInt8}{l:List GDesc}{i:Nat}{o d:GDesc}(hv:Vw self l)(hi:l[i]? =some o)(hn:o.node=d.node)(h1:d.node≠self)(h2:d.inc≠0):Vw self (l.set i d):=by
 refine⟨fun e he=>?_,?_⟩
 ·rcases List.mem_or_eq_of_mem_set he with he|rfl
  ·exact hv.1 e he
  ·exact⟨h1,h2⟩
 ·have:(l.set i d).map dj=l.map dj:=by
   rw[List.map_set];apply List.ext_getElem?;intro j;rw[List.getElem?_set];split
   ·rename_i e;subst e;obtain⟨hlt,rfl⟩:=List.getElem?_eq_some_iff.1 hi;simp[hlt,dj,hn]
   ·rfl
  have hu:((l.set i d).map dj).Pairwise (· < ·):=by rw[this];exact List.pairwise_map.2 hv.2
  exact List.pairwise_map.1 hu
theorem aq3{self:UInt8}{l:List GDesc}{d:GDesc}(hv:Vw self l)(hn: ∀e∈l,e.node≠d.node)(h1:d.node≠self)(h2:d.inc≠0):Vw self (mV dj l d):=by
 refine⟨fun e he=>?_,xU hv.2 fun e he k=>hn e he (amw k)⟩
 rcases iw.1 he with rfl|he
 ·exact⟨h1,h2⟩
 ·exact hv.1 e he
theorem oU{self:UInt8}{l:List GDesc}(hv:Vw self l)(d:GDesc)(room:Int):Vw self (dO l d self room).1:=by grind [dO,fk,arN,aq3,lV]
theorem tw{α:Type}{key:α->Nat}(l:List α)(x:α):(mV key l x).length=l.length+1:=by
 have:=(jt (key:=key) l x).length_eq;simpa using this
theorem iP{self:UInt8}{l:List GDesc}(d:GDesc)(room:Int):(dO l d self room).1.length<=l.length+1:=by grind [dO,tw]
theorem sh{self:UInt8}{l:List GDesc}(d:GDesc){room:Int}(h:(l.length:Int)<=room):((dO l d self room).1.length:Int)<=room:=by grind [dO,tw]
theorem qI{self:UInt8}{l:List GDesc}(hv:Vw self l)(node:UInt8):Vw self (bG l node):=⟨fun e he=>hv.1 e (List.mem_filter.1 he).1,hv.2.filter _⟩
theorem p6(l:List GDesc)(node:UInt8):(bG l node).length<=l.length:=List.length_filter_le _ _
theorem mK(d:GDesc):d.older.node=d.node:=by unfold GDesc.older;split<;>rfl
theorem ahh(d:GDesc):d.older.inc=d.inc:=by unfold GDesc.older;split<;>rfl
theorem yA{self:UInt8}{l:List GDesc}(hv:Vw self l):Vw self (cd l):=by
 refine⟨fun e he=>?_,?_⟩
 ·obtain⟨d,hd,rfl⟩:=List.mem_map.1 he;rw[mK,ahh];exact hv.1 d hd
 ·rw[Up,cd,List.pairwise_map];refine hv.2.imp ?_;intro a b h;unfold dj;rw[mK,mK];exact h
def aS(s:GSpan):List DV:=[.v (.int .i32 s.a),.v (.int .i32 s.b)]
def ah(d:GDesc):List DV:=[.v (.int .u8 d.node.toNat),.v (.int .u16 d.inc.toNat),.v (.int .u8 d.age.toNat),.fz 2 (d.filter.map aS)]
def fzD(l:List GDesc):DV:=.fz 4 (l.map ah)
theorem lP(x y:GDesc):decide (x=y)=(((x.node.toNat:Int)==y.node.toNat)&&((x.inc.toNat:Int)==y.inc.toNat)&&((x.age.toNat:Int)==y.age.toNat)&&decide (x.filter=y.filter)):=by
 rw[ch,dW,ch];cases x;cases y;rw[Bool.eq_iff_iff];simp[and_comm,and_left_comm,and_assoc]
end Go.Eng
namespace Go.Proofs.YtmhmahcdanclnaaGreat.V
open Go.Eng
attribute [local go_sem] aS ah fzD plR
theorem rb(l m:List GSpan)(hl:l.length<=9223372036854775807):Con2 Tryz.prog 58 [.fz 2 (l.map aS),.fz 2 (m.map aS)] (· =plR (.v (.bool (decide (l=m))))):=by
 refine en_ Tryz.func58 [.tmp 4] ?_;refine g2_ ?_;refine cU (fun h=>?_) (fun h=>?_)
 ·refine g2_ ?_;have hne:l≠m:=fun e=>h (by rw[e])
  exact⟨_,rfl,aa [] (wf_ hne)⟩
 ·refine g2_ ?_;have hlm:l.length=m.length:=by omega
  refine aq l.length (fun k=>[]) (fun _=>[]) (fun k=>[]) 0 (fun k=>l.take k=m.take k) (aa [] ?_) rfl (fun g k=>ws_) (by omega) (fun g=>ws_) (fun k hk hF=>?_) (fun hF=>?_)
  ·refine g2_ ?_
   first|rfl|exact⟨rfl,rfl⟩
  ·have hk2:k<m.length:=by omega
   refine g2_ ?_;refine .inl ⟨[oF 0,oF 1,oF 4,oF 5,oF 2,oF 6,oF 3,oF 7,oF 8],by kernel_rfl,gf_ (c2_ (mE_ hk) (mE_ hk2)) ?_⟩
   refine aZ (fun he=>?_) (fun he=>?_)
   ·refine g2_ ?_;refine⟨k+1,aa [] ws_,rfl,?_⟩;rw[List.take_add_one,List.take_add_one,List.getElem?_eq_getElem hk,List.getElem?_eq_getElem hk2,he,hF]
   ·refine g2_ ?_;have hne:l≠m:=fun e=>he (by subst e;rfl)
    exact⟨_,rfl,aa [] (wf_ hne)⟩
  ·refine g2_ ?_
   have hee:l=m:=by
    have:=hF
    rwa[List.take_of_length_le (Nat.le_refl _),List.take_of_length_le (by omega)]at this
   exact⟨_,rfl,aa [] (wf_ hee)⟩
theorem oM(a b:GDesc)(ha:a.filter.length<=9223372036854775807):Con2 Tryz.prog 133 [.agg (ah a),.agg (ah b)] (· =plR (.v (.bool (decide (a=b))))):=by
 refine en_ Tryz.func133 [.tmp 4] ?_;refine g2_ ?_;refine m9 (fun h1=>?_) (fun h1=>?_)
 ·refine gf_ h1 ?_;refine m9 (fun h2=>?_) (fun h2=>?_)
  ·refine gf_ h2 ?_;refine m9 (fun h3=>?_) (fun h3=>?_)
   ·refine gf_ h3 ?_;refine ce_ (rb a.filter b.filter ha) (g2_ ?_);exact⟨_,rfl,aa [] (wi_ @lP h1 h2 h3)⟩
   ·refine gf_ h3 ?_;exact⟨_,rfl,aa [] (wi_ @lP h1 h2 h3)⟩
  ·refine gf_ h2 ?_;exact⟨_,rfl,aa [] (wh_ @lP h1 h2)⟩
 ·refine gf_ h1 ?_;exact⟨_,rfl,aa [] (wg_ @lP h1)⟩
end Go.Proofs.YtmhmahcdanclnaaGreat.V
namespace Go.Proofs.YtmhmahcdanclnaaGreat.V
open Go.Eng
attribute [local go_sem] aS plR
theorem iL:Con2 Tryz.prog 307 [] (· =plR (.agg (aS ⟨1,0⟩))):=by
 refine en_ Tryz.func307 [.cell 0 108] (g2_ ?_);refine g2_ ?_;exact⟨_,rfl,aa [] ws_⟩
theorem nk(s:GSpan):Con2 Tryz.prog 306 [.agg (aS s)] (· =plR (.agg (aS (mO s)))):=by
 refine en_ Tryz.func306 [.cell 2 108] (g2_ ?_);refine g2_ ?_;unfold mO;refine aZ (fun h=>?_) (fun h=>?_)
 ·rw[if_pos h];refine g2_ ?_;refine ce_ iL (g2_ ?_);exact⟨_,rfl,aa [] ws_⟩
 ·rw[if_neg h];refine g2_ ?_;exact⟨_,rfl,aa [] ws_⟩
theorem agq(x y:GSpan):Con2 Tryz.prog 234 [.agg (aS x),.agg (aS y)] (· =plR (.tup [.agg (aS (if iF (fK x y)=true then ⟨0,0⟩else fK x y)),.v (.bool (!iF (fK x y)))])):=by
 refine en_ Tryz.func234 [.cell 4 108,.tmp 5] (g2_ ?_);refine g2_ ?_;refine CallS.eq (nk (fK x y)) (by simp-implicitDefEqProofs only[go_sem,ab,fK]) (.inl ws_) ?_
 refine g2_ ?_;refine .inl ⟨[oF 0,oT 1,oF 2],by kernel_rfl,g2_ ?_⟩
 refine ce_ iL (gf_ @o_ ?_);cases h:iF (fK x y)with
 |true=>
  refine g2_ ?_;exact⟨_,rfl,aa [] ws_⟩
 |false=>
  have h2:mO (fK x y)=fK x y:=by unfold mO;rw[if_neg (by simpa[iF]using h)]
  refine gf_ h2 ?_;exact⟨_,rfl,aa [] wx_⟩
theorem akz(x y:GSpan):Con2 Tryz.prog 352 [.agg (aS x),.agg (aS y)] (· =plR (.v (.bool (aof x y)))):=by
 refine en_ Tryz.func352 [.tmp 4] (g2_ ?_);refine g2_ ?_;refine ce_ (nk y) (g2_ ?_);refine ce_ iL (gf_ @o_ ?_);unfold aof;cases h:iF y with
 |true=>
  refine g2_ ?_;exact⟨_,rfl,aa [] ws_⟩
 | false=>
  refine g2_ ?_;refine m9 (fun h1=>?_) (fun h1=>?_)
  all_goals
   refine gf_ h1 ?_;exact⟨_,rfl,aa [] (wf_ h1)⟩
