import Derived.Test.YtmhmahcdanclnaaGreatNr46
import Derived.Test.YtmhmahcdanclnaaGreatRows
set_option linter.unusedSectionVars false
set_option linter.unusedSimpArgs false
set_option linter.unusedVariables false
set_option maxRecDepth 10000
namespace Go.Eng
open Go.ChangeShapes Go.WideShapes Go.RowKit
section
variable {H:Type} {enc:TypeId×Value->H} {P:Program} {W:World}
theorem HVss.choose{α:Type}{R:α->Prop}{encα:α->List DV}{us:World}: ∀{V:List (List Value)},(∀cs∈V, ∃g:α,HVs us (encα g) noB cs/\R g)-> ∃l:List α,HVss us (l.map encα) V/\ ∀g∈l,R g
 |[],_=>⟨[],rfl,by simp⟩
 | cs::V,h=>by
  obtain⟨g,h1,h2⟩:=h cs List.mem_cons_self;obtain⟨l,h3,h4⟩:=HVss.choose (V:=V) (fun c hc=>h c (List.mem_cons_of_mem _ hc))
  exact⟨g::l,⟨cs,V,rfl,h1,h3⟩,fun x hx=>by
   rcases List.mem_cons.1 hx with rfl|hx
   ·exact h2
   ·exact h4 x hx⟩
theorem ye{α:Type}{R:α->Prop}{Q:DataW H->Prop}{t e:TypeId}{sz base fuel:Nat}{sp:Nat->Bool}{held:Bool}{cs:List Value}{x:DataW H×List MemPlace}{encα:α->List DV}(ht:P.underlying t=some (.slice e))(hc:P.cellsOf e=sz)
  (hsz:0<sz) (hone: ∀g,onesD (encα g)=true) (hlen: ∀g,(encα g).length=sz) (hQ: ∀xs rest,x.1= .slice xs rest-> ∀d∈xs,Q d) (helt: ∀n cs x,DataW.trod enc P W base sp held n e cs=some x->Q x.1-> ∃g,HVs W (encα g) noB cs/\R g)
  (h:DataW.trod enc P W base sp held fuel t cs=some x): ∃l:List α,HVs W [.fz sz (l.map encα)] noB cs/\(∀g∈l,R g)/\l.length<=9223372036854775807/\((x.1= .nil/\l.length=0)\/ ∃xs rest,x.1= .slice xs rest/\xs.length=l.length):=by
 obtain⟨p,n,c,l,rfl,hs,hcm,hR,hxl⟩:=yc (Q:=Q) (α:={cs:List Value // cs.length=sz}) (R:=fun cs=> ∃g,HVs W (encα g) noB cs.1/\R g) (encα:=fun cs=>cs.1) ht hc hsz hQ
  (fun n cs x h hq=>by
   obtain⟨g,h1,h2⟩:=helt n cs x h hq
   exact⟨⟨cs,by rw[h1.length,hlen]⟩,rfl,g,h1,h2⟩) (fun g=>g.2) h
 obtain⟨l',h1,h2⟩:=HVss.choose (us:=W) (R:=R) (encα:=encα) (V:=l.map fun cs=>cs.1) (fun cs hcs=>by
  obtain⟨y,hy,rfl⟩:=List.mem_map.1 hcs
  exact hR y hy)
 have hl:=h1.length;have hcap:=hs.cap;have hln:=hs.len;simp only[maxLen]at hcm;refine⟨l',⟨_,[],rfl,⟨p,n,c,_,rfl,hs,fun y hy=>?_,h1⟩,rfl⟩,h2,?_,?_⟩
 ·refine HVs.allOnes_ h1 (fun y hy=>?_) y hy
  obtain⟨g,_,rfl⟩:=List.mem_map.1 hy;exact hone g
 ·simp only[List.length_map]at hl hln;omega
 ·have e:l'.length=n:=by simp only[List.length_map]at hl hln;omega
  rw[e];exact hxl
theorem xW{b0:Nat}{t:TypeId}{fs:Array Field}{v:Value}{ds:List DV}(ht:P.underlying t=some (.struct fs))(hval:Value.okWide P W .any b0 t v)(h:HVs W ds noB v.cells.toList):HV W (.agg ds) noB v:=by
 obtain⟨cs,rfl,hs⟩:=okWide_struct ht hval;exact⟨cs.toList,by simp,h⟩
theorem HV.plain{x:Value}(h:plain x=true):HV W (.v x) noB x:=⟨rfl,h⟩
theorem HVs.cons{d:DV}{ds:List DV}{v:Value}{V:List Value}(h1:HV W d noB v)(h2:HVs W ds noB V):HVs W (d::ds) noB (v::V):=⟨v,V,rfl,h1,h2⟩
theorem Con2.con{f:FuncId}{fargs:List DV}{vs:List Value}(h:Con2 P f fargs (· =plR (.v (.bool true))))(hv:HVs W fargs noB vs):Con P f vs W (fun r _=>r= .bool true):=by
 obtain⟨h1,h2⟩:=h W vs hv;refine⟨h1,fun w hw=>(h2 w hw).mono ?_⟩
 rintro e w' ⟨r,u',rfl,hst,hs,r',rfl,β,us,s,hr,hg⟩
 have h0:=hr.slot 0;rw[hg]at h0;obtain⟨w0,e0,hd⟩: ∃w,SV.v r= .v w/\HV us (.v (.bool true)) β w:=h0;cases e0;exact⟨r,u',rfl,hst,hs,hd.1⟩
end
structure Sml{H:Type}(B:DataW H->Prop)(N:Nat):Prop where
 agg: ∀ds,B (.agg ds)-> ∀d∈ds,B d
 sl: ∀es sp,B (.slice es sp)->(∀d∈es,B d)/\es.length<=N
def aqP:List Field->Nat->(Field->Prop)->Prop
 |[],_,_=>True
 |f::_,0,K=>K f
 |_::r,i+1,K=>aqP r i K
theorem afC{K:Field->Prop}: ∀{l:List Field} {i:Nat},(∀f,l[i]? =some f->K f)->aqP l i K
 |[],_,_=>trivial
 |f::_,0,h=>h f rfl
 |_::r,i+1,h=>afC (l:=r) (i:=i) (fun f hf=>h f hf)
section
variable {H:Type} {enc:TypeId×Value->H} {P:Program} {w:World} {base:Nat} {spare:Nat->Bool} {held:Bool} {B:DataW H->Prop} {N:Nat}
theorem nL(hB:Sml B N){t:TypeId}{fs:Array Field}{fuel:Nat}{cs:List Value}{x:DataW H×List MemPlace}(ht:P.underlying t=some (.struct fs))(hb:B x.1)(h:DataW.trod enc P w base spare held fuel t cs=some x):
  cs.length=P.cellsOf t/\ ∀(i:Nat),aqP fs.toList i fun f=> ∃y n,DataW.trod enc P w base spare held n f.type ((cs.drop f.offset).take (P.cellsOf f.type))=some y/\B y.1:=by
 obtain⟨xs,n,_,rfl,hl,hlen,hf⟩:=DataW.trod_struct ht h;refine⟨hl,fun i=>afC fun f hi=>?_⟩
 have hi:fs[i]? =some f:=by simpa using hi
 have h1:=hf i f hi;have h2:i<xs.length:=by rw[hlen];exact(Array.getElem?_eq_some_iff.1 hi).1
 rw[List.getElem?_eq_getElem h2]at h1;exact⟨_,n,h1,hB.agg _ hb _ (List.mem_map.2 ⟨_,List.getElem_mem h2,rfl⟩)⟩
theorem nP(hB:Sml B N){α:Type}{R:α->Prop}{t e:TypeId}{sz fuel:Nat}{cs:List Value}{x:DataW H×List MemPlace}{encα:α->List DV}(ht:P.underlying t=some (.slice e))(hc:P.cellsOf e=sz)
  (hsz:0<sz) (hone: ∀g,onesD (encα g)=true) (hlen: ∀g,(encα g).length=sz) (hb:B x.1) (helt: ∀n cs x,DataW.trod enc P w base spare held n e cs=some x->B x.1-> ∃g,HVs w (encα g) noB cs/\R g)
  (h:DataW.trod enc P w base spare held fuel t cs=some x): ∃l:List α,HVs w [.fz sz (l.map encα)] noB cs/\(∀g∈l,R g)/\l.length<=N:=by
 obtain⟨l,h1,h2,_,h4⟩:=ye (Q:=B) ht hc hsz hone hlen (fun xs rest e d hd=>by rw[e]at hb;exact(hB.sl _ _ hb).1 d hd) helt h
 refine⟨l,h1,h2,?_⟩;rcases h4 with ⟨_,h4⟩|⟨xs,rest,e,h4⟩
 ·omega
 ·rw[e]at hb;have:=(hB.sl _ _ hb).2;omega
end
end Go.Eng
namespace Go.Proofs.YtmhmahcdanclnaaGreat
open Go.Eng Go.ChangeShapes Go.WideShapes Go.RowKit
theorem ar0{n:Int}(h:(Lit.int .u8 n).wf=true): ∃x:UInt8,n=x.toNat:=by
 have hx:0<=n/\n<=255:=by simpa[Lit.wf,IntKind.min,IntKind.max,IntKind.signed,IntKind.bits]using h
 refine⟨UInt8.ofNat n.toNat,?_⟩;rw[UInt8.toNat_ofNat'];omega
theorem u32_of{n:Int}(h:(Lit.int .u32 n).wf=true): ∃x:UInt32,n=x.toNat:=by
 have hx:0<=n/\n<=4294967295:=by simpa[Lit.wf,IntKind.min,IntKind.max,IntKind.signed,IntKind.bits]using h
 refine⟨UInt32.ofNat n.toNat,?_⟩;rw[UInt32.toNat_ofNat'];omega
theorem ap3{n:Int}(h:(Lit.int .i64 n).wf=true): -9223372036854775808<=n/\n<=9223372036854775807:=by
 simpa[Lit.wf,IntKind.min,IntKind.max,IntKind.signed,IntKind.bits]using h
theorem own:ownKnob Tryz.prog.godebug=none:=by kernel_rfl
theorem laid:laidOutB Tryz.prog=true:=by kernel_rfl
theorem arJ:mapsRowed Tryz.prog=true:=by kernel_rfl
theorem full:((List.range Tryz.prog.types.size).all fun t=>match Tryz.prog.underlying t with|some (.slice e)=>decide (0<Tryz.prog.cellsOf e)|_=>true)=true:=by kernel_rfl
end Go.Proofs.YtmhmahcdanclnaaGreat
namespace Go.Proofs.YtmhmahcdanclnaaGreat.V
open Go.Eng Go.ChangeShapes Go.WideShapes Go.RowKit
theorem aqe{n:Int}(h:(Lit.int .i32 n).wf=true): -2147483648<=n/\n<=2147483647:=by
 simpa[Lit.wf,IntKind.min,IntKind.max,IntKind.signed,IntKind.bits]using h
theorem sG:Tryz.prog.cellsOf 108=2:=by kernel_rfl
theorem aoK:Tryz.prog.cellsOf 23=1:=by kernel_rfl
theorem apc:Tryz.prog.cellsOf 24=1:=by kernel_rfl
theorem aoq:Tryz.prog.cellsOf 21=1:=by kernel_rfl
theorem aqA:Tryz.prog.cellsOf 3=1:=by kernel_rfl
theorem aoy:Tryz.prog.cellsOf 26=15:=by kernel_rfl
section
variable {H:Type} {enc:TypeId×Value->H} {w:World} {base:Nat} {sp:Nat->Bool} {held:Bool}
def Bk{H:Type}(d:DataW H):Prop:=Rows.uptoBulk d<=1048576
theorem aqG{H:Type}(d:DataW H):1<=Rows.uptoBulk d:=by
 cases d with
 |lit l=>cases l<;>simp[Rows.uptoBulk]
 |nil=>simp[Rows.uptoBulk]
 |ptr d=>simp[Rows.uptoBulk]
 |slice elems spare=>simp[Rows.uptoBulk]
 |agg parts=>simp[Rows.uptoBulk]
 |iface t d=>simp[Rows.uptoBulk]
 |map entries=>simp[Rows.uptoBulk]
 |held h=>simp[Rows.uptoBulk]
theorem bk_part{H:Type}{d:DataW H}: ∀{l:List (DataW H)},d∈l->Rows.uptoBulk d<=Rows.uptoBulkAll l
 |x::r,h=>by
  simp only[Rows.uptoBulkAll];cases List.mem_cons.1 h with
  |inl e=>subst e;omega
  |inr e=>have:=bk_part e;omega
theorem alM{H:Type}: ∀(l:List (DataW H)),l.length<=Rows.uptoBulkAll l
 |[]=>Nat.zero_le _
 |x::r=>by have:=aqG x;have:=alM r;simp only[Rows.uptoBulkAll,List.length_cons];omega
theorem ya(H:Type):Sml (Bk (H:=H)) 1048576:=⟨fun ds h d hd=>by have:=bk_part hd;simp only[Bk,Rows.uptoBulk]at h ⊢; omega,
 fun es sp h=>by have:=alM es;simp only[Bk,Rows.uptoBulk]at h;exact⟨fun d hd=>by have:=bk_part hd;simp only[Bk];omega,by omega⟩⟩
theorem ar5{n:Nat}{cs:List Value}{x:DataW H×List MemPlace}(hb:Bk x.1)(h:DataW.trod enc Tryz.prog w base sp held n 24 cs=some x): ∃g:UInt32,HVs w [.v (.int .u32 g.toNat)] noB cs/\True:=by
 obtain⟨i0,rfl,_,w0⟩:=DataW.trod_int Tryz.underlying24 h;obtain⟨k0,rfl⟩:=u32_of w0;exact⟨k0,HVs.one (HV.plain rfl),trivial⟩
theorem apZ{n:Nat}{cs:List Value}{x:DataW H×List MemPlace}(hb:Bk x.1)(h:DataW.trod enc Tryz.prog w base sp held n 21 cs=some x): ∃g:Int,HVs w [.v (.int .i32 g)] noB cs/\(-2147483648<=g/\g<=2147483647):=by
 obtain⟨i0,rfl,_,w0⟩:=DataW.trod_int Tryz.underlying21 h;exact⟨i0,HVs.one (HV.plain rfl),aqe w0⟩
theorem jt{n:Nat}{cs:List Value}{x:DataW H×List MemPlace}(hb:Bk x.1)(h:DataW.trod enc Tryz.prog w base sp held n 3 cs=some x): ∃g:Int,HVs w [.v (.int .i64 g)] noB cs/\(-9223372036854775808<=g/\g<=9223372036854775807):=by
 obtain⟨i0,rfl,_,w0⟩:=DataW.trod_int Tryz.underlying3 h;exact⟨i0,HVs.one (HV.plain rfl),ap3 w0⟩
theorem alN{n:Nat}{cs:List Value}{x:DataW H×List MemPlace}(hb:Bk x.1)(h:DataW.trod enc Tryz.prog w base sp held n 108 cs=some x): ∃g:GSpan,HVs w (aQ g) noB cs/\okS g:=by
 obtain⟨hl,hf⟩:=nL (ya H) Tryz.underlying108 hb h;rw[sG]at hl;obtain⟨y0,n0,h0,b0⟩:=hf 0;obtain⟨y1,n1,h1,b1⟩:=hf 1;simp only[aoq]at h0 h1
 match cs,hl with
 |[a0,a1],_=>
  obtain⟨g0,e0,r0⟩:=apZ b0 h0;obtain⟨g1,e1,r1⟩:=apZ b1 h1;exact⟨⟨g0,g1⟩,HVs.append e0 e1,⟨r0.1,r0.2,r1.1,r1.2⟩⟩
theorem alE{n:Nat}{cs:List Value}{x:DataW H×List MemPlace}(hb:Bk x.1)(h:DataW.trod enc Tryz.prog w base sp held n 31 cs=some x): ∃l:List GSpan,HVs w [.fz 2 (l.map aQ)] noB cs/\((∀g∈l,okS g)/\l.length<=1048576):=by
 obtain⟨l,h1,h2,h3⟩:=nP (ya H) (R:=fun g=>okS g) (encα:=aQ) Tryz.underlying31 sG (by omega) (fun _=>rfl) (fun _=>rfl) hb (fun n cs x h b=>alN b h) h
 exact⟨l,h1,h2,h3⟩
theorem ak_{n:Nat}{cs:List Value}{x:DataW H×List MemPlace}(hb:Bk x.1)(h:DataW.trod enc Tryz.prog w base sp held n 23 cs=some x): ∃l:List GSpan,HVs w [.fz 2 (l.map aQ)] noB cs/\((∀g∈l,okS g)/\l.length<=1048576):=by
 obtain⟨l,h1,h2,h3⟩:=nP (ya H) (R:=fun g=>okS g) (encα:=aQ) Tryz.underlying23 sG (by omega) (fun _=>rfl) (fun _=>rfl) hb (fun n cs x h b=>alN b h) h
 exact⟨l,h1,h2,h3⟩
theorem arb{n:Nat}{cs:List Value}{x:DataW H×List MemPlace}(hb:Bk x.1)(h:DataW.trod enc Tryz.prog w base sp held n 26 cs=some x): ∃g:an,HVs w (aB g) noB cs/\((∀s∈g.schema,okS s)/\g.schema.length<=1048576):=by
 obtain⟨hl,hf⟩:=nL (ya H) Tryz.underlying26 hb h;rw[aoy]at hl;obtain⟨y0,n0,h0,b0⟩:=hf 0;obtain⟨y1,n1,h1,b1⟩:=hf 1;obtain⟨y2,n2,h2,b2⟩:=hf 2;obtain⟨y3,n3,h3,b3⟩:=hf 3;obtain⟨y4,n4,h4,b4⟩:=hf 4;obtain⟨y5,n5,h5,b5⟩:=hf 5;obtain⟨y6,n6,h6,b6⟩:=hf 6;obtain⟨y7,n7,h7,b7⟩:=hf 7;obtain⟨y8,n8,h8,b8⟩:=hf 8;obtain⟨y9,n9,h9,b9⟩:=hf 9;obtain⟨y10,n10,h10,b10⟩:=hf 10;obtain⟨y11,n11,h11,b11⟩:=hf 11;obtain⟨y12,n12,h12,b12⟩:=hf 12;obtain⟨y13,n13,h13,b13⟩:=hf 13;obtain⟨y14,n14,h14,b14⟩:=hf 14;simp only[aqA,aoK,apc]at h0 h1 h2 h3 h4 h5 h6 h7 h8 h9 h10 h11 h12 h13 h14
 match cs,hl with
 |[a0,a1,a2,a3,a4,a5,a6,a7,a8,a9,a10,a11,a12,a13,a14],_=>
  obtain⟨g0,e0,r0⟩:=jt b0 h0;obtain⟨g1,e1,r1⟩:=ak_ b1 h1;obtain⟨g2,e2,r2⟩:=jt b2 h2;obtain⟨g3,e3,r3⟩:=jt b3 h3;obtain⟨g4,e4,r4⟩:=jt b4 h4;obtain⟨g5,e5,r5⟩:=jt b5 h5;obtain⟨g6,e6,r6⟩:=jt b6 h6;obtain⟨g7,e7,r7⟩:=jt b7 h7;obtain⟨g8,e8,r8⟩:=jt b8 h8;obtain⟨g9,e9,r9⟩:=jt b9 h9;obtain⟨g10,e10,r10⟩:=jt b10 h10;obtain⟨g11,e11,r11⟩:=jt b11 h11;obtain⟨g12,e12,r12⟩:=jt b12 h12;obtain⟨g13,e13,r13⟩:=jt b13 h13;obtain⟨g14,e14,r14⟩:=ar5 b14 h14;exact⟨⟨g0,g1,g2,g3,g4,g5,g6,g7,g8,g9,g10,g11,g12,g13,g14⟩,HVs.append e0 (HVs.append e1 (HVs.append e2 (HVs.append e3 (HVs.append e4 (HVs.append e5 (HVs.append e6 (HVs.append e7 (HVs.append e8 (HVs.append e9 (HVs.append e10 (HVs.append e11 (HVs.append e12 (HVs.append e13 e14))))))))))))),r1⟩
theorem conf_arg{v:Value}{d:DataW H}{ps:List MemPlace}{b0:Nat}(hval:Value.okWide Tryz.prog w .any b0 26 v)(hb:Bk d)(h:DataW.Trod enc Tryz.prog w base sp held 26 v d ps):
  ∃g:an,HV w (.agg (aB g)) noB v/\((∀s∈g.schema,okS s)/\g.schema.length<=1048576):=by
 obtain⟨n,hn⟩:=h;obtain⟨g,h1,h2⟩:=arb (x:=(d,ps)) hb hn;exact⟨g,xW Tryz.underlying26 hval h1,h2⟩
end
section
variable {H:Type} {enc:TypeId×Value->H} {w:World} {base:Nat} {sp:Nat->Bool} {held:Bool}
