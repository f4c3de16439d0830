import Derived.Test.YtmhmahcdanclnaaGreatNo43
import Derived.Test.YtmhmahcdanclnaaGreatRows
set_option linter.unusedSectionVars false
set_option linter.unusedSimpArgs false
set_option linter.unusedVariables false
set_option maxRecDepth 10000
namespace Go.Eng
open Go.ChangeShapes Go.WideShapes Go.RowKit
section
variable {H:Type} {enc:TypeId×Value->H} {P:Program} {W:World}
theorem HVss.choose{α:Type}{R:α->Prop}{encα:α->List DV}{us:World}: ∀{V:List (List Value)},(∀cs∈V, ∃g:α,HVs us (encα g) noB cs/\R g)-> ∃l:List α,HVss us (l.map encα) V/\ ∀g∈l,R g
 |[],_=>⟨[],rfl,by simp⟩
 | cs::V,h=>by
  obtain⟨g,h1,h2⟩:=h cs List.mem_cons_self;obtain⟨l,h3,h4⟩:=HVss.choose (V:=V) (fun c hc=>h c (List.mem_cons_of_mem _ hc))
  exact⟨g::l,⟨cs,V,rfl,h1,h3⟩,fun x hx=>by
   rcases List.mem_cons.1 hx with rfl|hx
   ·exact h2
   ·exact h4 x hx⟩
theorem xE{α:Type}{R:α->Prop}{Q:DataW H->Prop}{t e:TypeId}{sz base fuel:Nat}{sp:Nat->Bool}{held:Bool}{cs:List Value}{x:DataW H×List MemPlace}{encα:α->List DV}(ht:P.underlying t=some (.slice e))(hc:P.cellsOf e=sz)
  (hsz:0<sz) (hone: ∀g,onesD (encα g)=true) (hlen: ∀g,(encα g).length=sz) (hQ: ∀xs rest,x.1= .slice xs rest-> ∀d∈xs,Q d) (helt: ∀n cs x,DataW.trod enc P W base sp held n e cs=some x->Q x.1-> ∃g,HVs W (encα g) noB cs/\R g)
  (h:DataW.trod enc P W base sp held fuel t cs=some x): ∃l:List α,HVs W [.fz sz (l.map encα)] noB cs/\(∀g∈l,R g)/\l.length<=9223372036854775807/\((x.1= .nil/\l.length=0)\/ ∃xs rest,x.1= .slice xs rest/\xs.length=l.length):=by
 obtain⟨p,n,c,l,rfl,hs,hcm,hR,hxl⟩:=wW (Q:=Q) (α:={cs:List Value // cs.length=sz}) (R:=fun cs=> ∃g,HVs W (encα g) noB cs.1/\R g) (encα:=fun cs=>cs.1) ht hc hsz hQ
  (fun n cs x h hq=>by
   obtain⟨g,h1,h2⟩:=helt n cs x h hq
   exact⟨⟨cs,by rw[h1.length,hlen]⟩,rfl,g,h1,h2⟩) (fun g=>g.2) h
 obtain⟨l',h1,h2⟩:=HVss.choose (us:=W) (R:=R) (encα:=encα) (V:=l.map fun cs=>cs.1) (fun cs hcs=>by
  obtain⟨y,hy,rfl⟩:=List.mem_map.1 hcs
  exact hR y hy)
 have hl:=h1.length;have hcap:=hs.cap;have hln:=hs.len;simp only[maxLen]at hcm;refine⟨l',⟨_,[],rfl,⟨p,n,c,_,rfl,hs,fun y hy=>?_,h1⟩,rfl⟩,h2,?_,?_⟩
 ·refine HVs.allOnes_ h1 (fun y hy=>?_) y hy
  obtain⟨g,_,rfl⟩:=List.mem_map.1 hy;exact hone g
 ·simp only[List.length_map]at hl hln;omega
 ·have e:l'.length=n:=by simp only[List.length_map]at hl hln;omega
  rw[e];exact hxl
theorem ya{b0:Nat}{t:TypeId}{fs:Array Field}{v:Value}{ds:List DV}(ht:P.underlying t=some (.struct fs))(hval:Value.okWide P W .any b0 t v)(h:HVs W ds noB v.cells.toList):HV W (.agg ds) noB v:=by
 obtain⟨cs,rfl,hs⟩:=okWide_struct ht hval;exact⟨cs.toList,by simp,h⟩
theorem HV.plain{x:Value}(h:plain x=true):HV W (.v x) noB x:=⟨rfl,h⟩
theorem HVs.cons{d:DV}{ds:List DV}{v:Value}{V:List Value}(h1:HV W d noB v)(h2:HVs W ds noB V):HVs W (d::ds) noB (v::V):=⟨v,V,rfl,h1,h2⟩
theorem Con2.con{f:FuncId}{fargs:List DV}{vs:List Value}(h:Con2 P f fargs (· =plR (.v (.bool true))))(hv:HVs W fargs noB vs):Con P f vs W (fun r _=>r= .bool true):=by
 obtain⟨h1,h2⟩:=h W vs hv;refine⟨h1,fun w hw=>(h2 w hw).mono ?_⟩
 rintro e w' ⟨r,u',rfl,hst,hs,r',rfl,β,us,s,hr,hg⟩
 have h0:=hr.slot 0;rw[hg]at h0;obtain⟨w0,e0,hd⟩: ∃w,SV.v r= .v w/\HV us (.v (.bool true)) β w:=h0;cases e0;exact⟨r,u',rfl,hst,hs,hd.1⟩
end
structure Sml{H:Type}(B:DataW H->Prop)(N:Nat):Prop where
 agg: ∀ds,B (.agg ds)-> ∀d∈ds,B d
 sl: ∀es sp,B (.slice es sp)->(∀d∈es,B d)/\es.length<=N
def aqO:List Field->Nat->(Field->Prop)->Prop
 |[],_,_=>True
 |f::_,0,K=>K f
 |_::r,i+1,K=>aqO r i K
theorem afk{K:Field->Prop}: ∀{l:List Field} {i:Nat},(∀f,l[i]? =some f->K f)->aqO l i K
 |[],_,_=>trivial
 |f::_,0,h=>h f rfl
 |_::r,i+1,h=>afk (l:=r) (i:=i) (fun f hf=>h f hf)
section
variable {H:Type} {enc:TypeId×Value->H} {P:Program} {w:World} {base:Nat} {spare:Nat->Bool} {held:Bool} {B:DataW H->Prop} {N:Nat}
theorem cM(hB:Sml B N){t:TypeId}{fs:Array Field}{fuel:Nat}{cs:List Value}{x:DataW H×List MemPlace}(ht:P.underlying t=some (.struct fs))(hb:B x.1)(h:DataW.trod enc P w base spare held fuel t cs=some x):
  cs.length=P.cellsOf t/\ ∀(i:Nat),aqO fs.toList i fun f=> ∃y n,DataW.trod enc P w base spare held n f.type ((cs.drop f.offset).take (P.cellsOf f.type))=some y/\B y.1:=by
 obtain⟨xs,n,_,rfl,hl,hlen,hf⟩:=DataW.trod_struct ht h;refine⟨hl,fun i=>afk fun f hi=>?_⟩
 have hi:fs[i]? =some f:=by simpa using hi
 have h1:=hf i f hi;have h2:i<xs.length:=by rw[hlen];exact(Array.getElem?_eq_some_iff.1 hi).1
 rw[List.getElem?_eq_getElem h2]at h1;exact⟨_,n,h1,hB.agg _ hb _ (List.mem_map.2 ⟨_,List.getElem_mem h2,rfl⟩)⟩
theorem cw(hB:Sml B N){α:Type}{R:α->Prop}{t e:TypeId}{sz fuel:Nat}{cs:List Value}{x:DataW H×List MemPlace}{encα:α->List DV}(ht:P.underlying t=some (.slice e))(hc:P.cellsOf e=sz)
  (hsz:0<sz) (hone: ∀g,onesD (encα g)=true) (hlen: ∀g,(encα g).length=sz) (hb:B x.1) (helt: ∀n cs x,DataW.trod enc P w base spare held n e cs=some x->B x.1-> ∃g,HVs w (encα g) noB cs/\R g)
  (h:DataW.trod enc P w base spare held fuel t cs=some x): ∃l:List α,HVs w [.fz sz (l.map encα)] noB cs/\(∀g∈l,R g)/\l.length<=N:=by
 obtain⟨l,h1,h2,_,h4⟩:=xE (Q:=B) ht hc hsz hone hlen (fun xs rest e d hd=>by rw[e]at hb;exact(hB.sl _ _ hb).1 d hd) helt h
 refine⟨l,h1,h2,?_⟩;rcases h4 with ⟨_,h4⟩|⟨xs,rest,e,h4⟩
 ·omega
 ·rw[e]at hb;have:=(hB.sl _ _ hb).2;omega
end
end Go.Eng
namespace Go.Proofs.YtmhmahcdanclnaaGreat
open Go.Eng Go.ChangeShapes Go.WideShapes Go.RowKit
theorem ap1{n:Int}(h:(Lit.int .u8 n).wf=true): ∃x:UInt8,n=x.toNat:=by
 have hx:0<=n/\n<=255:=by simpa[Lit.wf,IntKind.min,IntKind.max,IntKind.signed,IntKind.bits]using h
 refine⟨UInt8.ofNat n.toNat,?_⟩;rw[UInt8.toNat_ofNat'];omega
theorem aq7{n:Int}(h:(Lit.int .u16 n).wf=true): ∃x:UInt16,n=x.toNat:=by
 have hx:0<=n/\n<=65535:=by simpa[Lit.wf,IntKind.min,IntKind.max,IntKind.signed,IntKind.bits]using h
 refine⟨UInt16.ofNat n.toNat,?_⟩;rw[UInt16.toNat_ofNat'];omega
theorem are{n:Int}(h:(Lit.int .u32 n).wf=true): ∃x:UInt32,n=x.toNat:=by
 have hx:0<=n/\n<=4294967295:=by simpa[Lit.wf,IntKind.min,IntKind.max,IntKind.signed,IntKind.bits]using h
 refine⟨UInt32.ofNat n.toNat,?_⟩;rw[UInt32.toNat_ofNat'];omega
theorem aq8{n:Int}(h:(Lit.int .i64 n).wf=true): -9223372036854775808<=n/\n<=9223372036854775807:=by
 simpa[Lit.wf,IntKind.min,IntKind.max,IntKind.signed,IntKind.bits]using h
theorem own:ownKnob Tryz.prog.godebug=none:=by kernel_rfl
theorem laid:laidOutB Tryz.prog=true:=by kernel_rfl
theorem ash:mapsRowed Tryz.prog=true:=by kernel_rfl
theorem full:((List.range Tryz.prog.types.size).all fun t=>match Tryz.prog.underlying t with|some (.slice e)=>decide (0<Tryz.prog.cellsOf e)|_=>true)=true:=by kernel_rfl
end Go.Proofs.YtmhmahcdanclnaaGreat
namespace Go.Proofs.YtmhmahcdanclnaaGreat.V
open Go.Eng Go.ChangeShapes Go.WideShapes Go.RowKit
theorem aqy{n:Int}(h:(Lit.int .i32 n).wf=true): -2147483648<=n/\n<=2147483647:=by
 simpa[Lit.wf,IntKind.min,IntKind.max,IntKind.signed,IntKind.bits]using h
theorem tO:Tryz.prog.cellsOf 108=2:=by kernel_rfl
theorem ae0:Tryz.prog.cellsOf 34=4:=by kernel_rfl
theorem afr:Tryz.prog.cellsOf 31=1:=by kernel_rfl
theorem anS:Tryz.prog.cellsOf 23=1:=by kernel_rfl
theorem nr:Tryz.prog.cellsOf 5=1:=by kernel_rfl
theorem od:Tryz.prog.cellsOf 30=1:=by kernel_rfl
theorem qG:Tryz.prog.cellsOf 24=1:=by kernel_rfl
theorem ae9:Tryz.prog.cellsOf 21=1:=by kernel_rfl
theorem aqm:Tryz.prog.cellsOf 3=1:=by kernel_rfl
theorem y_:Tryz.prog.cellsOf 127=3:=by kernel_rfl
theorem xO:Tryz.prog.cellsOf 57=3:=by kernel_rfl
theorem xP:Tryz.prog.cellsOf 54=3:=by kernel_rfl
theorem afM:Tryz.prog.cellsOf 56=5:=by kernel_rfl
theorem afH:Tryz.prog.cellsOf 60=17:=by kernel_rfl
theorem apk:Tryz.prog.cellsOf 26=15:=by kernel_rfl
theorem afI:Tryz.prog.cellsOf 51=1:=by kernel_rfl
theorem afJ:Tryz.prog.cellsOf 52=1:=by kernel_rfl
theorem apB:Tryz.prog.cellsOf 32=1:=by kernel_rfl
theorem am_:Tryz.prog.cellsOf 39=1:=by kernel_rfl
theorem anz:Tryz.prog.cellsOf 40=1:=by kernel_rfl
theorem ao7:Tryz.prog.cellsOf 58=1:=by kernel_rfl
theorem apD:Tryz.prog.cellsOf 61=1:=by kernel_rfl
section
variable {H:Type} {enc:TypeId×Value->H} {w:World} {base:Nat} {sp:Nat->Bool} {held:Bool}
def Bk{H:Type}(d:DataW H):Prop:=Rows.uptoBulk d<=1048576
theorem aqN{H:Type}(d:DataW H):1<=Rows.uptoBulk d:=by
 cases d with
 |lit l=>cases l<;>simp[Rows.uptoBulk]
 |nil=>simp[Rows.uptoBulk]
 |ptr d=>simp[Rows.uptoBulk]
 |slice elems spare=>simp[Rows.uptoBulk]
 |agg parts=>simp[Rows.uptoBulk]
 |iface t d=>simp[Rows.uptoBulk]
 |map entries=>simp[Rows.uptoBulk]
 |held h=>simp[Rows.uptoBulk]
theorem bk_part{H:Type}{d:DataW H}: ∀{l:List (DataW H)},d∈l->Rows.uptoBulk d<=Rows.uptoBulkAll l
 |x::r,h=>by
  simp only[Rows.uptoBulkAll];cases List.mem_cons.1 h with
  |inl e=>subst e;omega
  |inr e=>have:=bk_part e;omega
theorem alh{H:Type}: ∀(l:List (DataW H)),l.length<=Rows.uptoBulkAll l
 |[]=>Nat.zero_le _
 |x::r=>by have:=aqN x;have:=alh r;simp only[Rows.uptoBulkAll,List.length_cons];omega
theorem dI(H:Type):Sml (Bk (H:=H)) 1048576:=⟨fun ds h d hd=>by have:=bk_part hd;simp only[Bk,Rows.uptoBulk]at h ⊢; omega,
 fun es sp h=>by have:=alh es;simp only[Bk,Rows.uptoBulk]at h;exact⟨fun d hd=>by have:=bk_part hd;simp only[Bk];omega,by omega⟩⟩
theorem qu{n:Nat}{cs:List Value}{x:DataW H×List MemPlace}(hb:Bk x.1)(h:DataW.trod enc Tryz.prog w base sp held n 5 cs=some x): ∃g:UInt8,HVs w [.v (.int .u8 g.toNat)] noB cs/\True:=by
 obtain⟨i0,rfl,_,w0⟩:=DataW.trod_int Tryz.underlying5 h;obtain⟨k0,rfl⟩:=ap1 w0;exact⟨k0,HVs.one (HV.plain rfl),trivial⟩
theorem zE{n:Nat}{cs:List Value}{x:DataW H×List MemPlace}(hb:Bk x.1)(h:DataW.trod enc Tryz.prog w base sp held n 30 cs=some x): ∃g:UInt16,HVs w [.v (.int .u16 g.toNat)] noB cs/\True:=by
 obtain⟨i0,rfl,_,w0⟩:=DataW.trod_int Tryz.underlying30 h;obtain⟨k0,rfl⟩:=aq7 w0;exact⟨k0,HVs.one (HV.plain rfl),trivial⟩
theorem afz{n:Nat}{cs:List Value}{x:DataW H×List MemPlace}(hb:Bk x.1)(h:DataW.trod enc Tryz.prog w base sp held n 24 cs=some x): ∃g:UInt32,HVs w [.v (.int .u32 g.toNat)] noB cs/\True:=by
 obtain⟨i0,rfl,_,w0⟩:=DataW.trod_int Tryz.underlying24 h;obtain⟨k0,rfl⟩:=are w0;exact⟨k0,HVs.one (HV.plain rfl),trivial⟩
theorem akh{n:Nat}{cs:List Value}{x:DataW H×List MemPlace}(hb:Bk x.1)(h:DataW.trod enc Tryz.prog w base sp held n 21 cs=some x): ∃g:Int,HVs w [.v (.int .i32 g)] noB cs/\(-2147483648<=g/\g<=2147483647):=by
 obtain⟨i0,rfl,_,w0⟩:=DataW.trod_int Tryz.underlying21 h;exact⟨i0,HVs.one (HV.plain rfl),aqy w0⟩
theorem jh{n:Nat}{cs:List Value}{x:DataW H×List MemPlace}(hb:Bk x.1)(h:DataW.trod enc Tryz.prog w base sp held n 3 cs=some x): ∃g:Int,HVs w [.v (.int .i64 g)] noB cs/\(-9223372036854775808<=g/\g<=9223372036854775807):=by
 obtain⟨i0,rfl,_,w0⟩:=DataW.trod_int Tryz.underlying3 h;exact⟨i0,HVs.one (HV.plain rfl),aq8 w0⟩
theorem aj9{n:Nat}{cs:List Value}{x:DataW H×List MemPlace}(hb:Bk x.1)(h:DataW.trod enc Tryz.prog w base sp held n 108 cs=some x): ∃g:GSpan,HVs w (aS g) noB cs/\okS g:=by
 obtain⟨hl,hf⟩:=cM (dI H) Tryz.underlying108 hb h;rw[tO]at hl;obtain⟨y0,n0,h0,b0⟩:=hf 0;obtain⟨y1,n1,h1,b1⟩:=hf 1;simp only[ae9]at h0 h1
 match cs,hl with
 |[a0,a1],_=>
  obtain⟨g0,e0,r0⟩:=akh b0 h0;obtain⟨g1,e1,r1⟩:=akh b1 h1;exact⟨⟨g0,g1⟩,HVs.append e0 e1,⟨r0.1,r0.2,r1.1,r1.2⟩⟩
theorem zg{n:Nat}{cs:List Value}{x:DataW H×List MemPlace}(hb:Bk x.1)(h:DataW.trod enc Tryz.prog w base sp held n 31 cs=some x): ∃l:List GSpan,HVs w [.fz 2 (l.map aS)] noB cs/\((∀g∈l,okS g)/\l.length<=1048576):=by
 obtain⟨l,h1,h2,h3⟩:=cw (dI H) (R:=fun g=>okS g) (encα:=aS) Tryz.underlying31 tO (by omega) (fun _=>rfl) (fun _=>rfl) hb (fun n cs x h b=>aj9 b h) h
 exact⟨l,h1,h2,h3⟩
theorem akL{n:Nat}{cs:List Value}{x:DataW H×List MemPlace}(hb:Bk x.1)(h:DataW.trod enc Tryz.prog w base sp held n 23 cs=some x): ∃l:List GSpan,HVs w [.fz 2 (l.map aS)] noB cs/\((∀g∈l,okS g)/\l.length<=1048576):=by
 obtain⟨l,h1,h2,h3⟩:=cw (dI H) (R:=fun g=>okS g) (encα:=aS) Tryz.underlying23 tO (by omega) (fun _=>rfl) (fun _=>rfl) hb (fun n cs x h b=>aj9 b h) h
 exact⟨l,h1,h2,h3⟩
theorem arw{n:Nat}{cs:List Value}{x:DataW H×List MemPlace}(hb:Bk x.1)(h:DataW.trod enc Tryz.prog w base sp held n 34 cs=some x): ∃g:GDesc,HVs w (ah g) noB cs/\((∀s∈g.filter,okS s)/\g.filter.length<=1048576):=by
 obtain⟨hl,hf⟩:=cM (dI H) Tryz.underlying34 hb h;rw[ae0]at hl;obtain⟨y0,n0,h0,b0⟩:=hf 0;obtain⟨y1,n1,h1,b1⟩:=hf 1;obtain⟨y2,n2,h2,b2⟩:=hf 2;obtain⟨y3,n3,h3,b3⟩:=hf 3;simp only[nr,od,afr]at h0 h1 h2 h3
 match cs,hl with
 |[a0,a1,a2,a3],_=>
  obtain⟨g0,e0,r0⟩:=qu b0 h0;obtain⟨g1,e1,r1⟩:=zE b1 h1;obtain⟨g2,e2,r2⟩:=qu b2 h2;obtain⟨g3,e3,r3⟩:=zg b3 h3;exact⟨⟨g0,g1,g2,g3⟩,HVs.append e0 (HVs.append e1 (HVs.append e2 e3)),r3⟩
theorem akU{n:Nat}{cs:List Value}{x:DataW H×List MemPlace}(hb:Bk x.1)(h:DataW.trod enc Tryz.prog w base sp held n 127 cs=some x): ∃g:au,HVs w (aR g) noB cs/\True:=by
 obtain⟨hl,hf⟩:=cM (dI H) Tryz.underlying127 hb h;rw[y_]at hl;obtain⟨y0,n0,h0,b0⟩:=hf 0;obtain⟨y1,n1,h1,b1⟩:=hf 1;obtain⟨y2,n2,h2,b2⟩:=hf 2;simp only[od,nr]at h0 h1 h2
 match cs,hl with
 |[a0,a1,a2],_=>
  obtain⟨g0,e0,r0⟩:=zE b0 h0;obtain⟨g1,e1,r1⟩:=qu b1 h1;obtain⟨g2,e2,r2⟩:=qu b2 h2;exact⟨⟨g0,g1,g2⟩,HVs.append e0 (HVs.append e1 e2),trivial⟩
theorem aks{n:Nat}{cs:List Value}{x:DataW H×List MemPlace}(hb:Bk x.1)(h:DataW.trod enc Tryz.prog w base sp held n 57 cs=some x): ∃g:GMark,HVs w (aL g) noB cs/\True:=by
 obtain⟨hl,hf⟩:=cM (dI H) Tryz.underlying57 hb h;rw[xO]at hl;obtain⟨y0,n0,h0,b0⟩:=hf 0;obtain⟨y1,n1,h1,b1⟩:=hf 1;obtain⟨y2,n2,h2,b2⟩:=hf 2;simp only[nr,od,qG]at h0 h1 h2
 match cs,hl with
 |[a0,a1,a2],_=>
  obtain⟨g0,e0,r0⟩:=qu b0 h0;obtain⟨g1,e1,r1⟩:=zE b1 h1;obtain⟨g2,e2,r2⟩:=afz b2 h2;exact⟨⟨g0,g1,g2⟩,HVs.append e0 (HVs.append e1 e2),trivial⟩
theorem asT{n:Nat}{cs:List Value}{x:DataW H×List MemPlace}(hb:Bk x.1)(h:DataW.trod enc Tryz.prog w base sp held n 54 cs=some x): ∃g:GID,HVs w (aN g) noB cs/\True:=by
 obtain⟨hl,hf⟩:=cM (dI H) Tryz.underlying54 hb h;rw[xP]at hl;obtain⟨y0,n0,h0,b0⟩:=hf 0;obtain⟨y1,n1,h1,b1⟩:=hf 1;obtain⟨y2,n2,h2,b2⟩:=hf 2;simp only[nr,od,qG]at h0 h1 h2
 match cs,hl with
 |[a0,a1,a2],_=>
  obtain⟨g0,e0,r0⟩:=qu b0 h0;obtain⟨g1,e1,r1⟩:=zE b1 h1;obtain⟨g2,e2,r2⟩:=afz b2 h2;exact⟨⟨g0,g1,g2⟩,HVs.append e0 (HVs.append e1 e2),trivial⟩
theorem aqY{n:Nat}{cs:List Value}{x:DataW H×List MemPlace}(hb:Bk x.1)(h:DataW.trod enc Tryz.prog w base sp held n 21 cs=some x): ∃g:Int,HVs w (b_ g) noB cs/\(-2147483648<=g/\g<=2147483647):=akh hb h
theorem asq{n:Nat}{cs:List Value}{x:DataW H×List MemPlace}(hb:Bk x.1)(h:DataW.trod enc Tryz.prog w base sp held n 5 cs=some x): ∃g:UInt8,HVs w (aA g) noB cs/\True:=qu hb h
theorem aqo{n:Nat}{cs:List Value}{x:DataW H×List MemPlace}(hb:Bk x.1)(h:DataW.trod enc Tryz.prog w base sp held n 24 cs=some x): ∃g:UInt32,HVs w (aH g) noB cs/\True:=afz hb h
theorem ak6{n:Nat}{cs:List Value}{x:DataW H×List MemPlace}(hb:Bk x.1)(h:DataW.trod enc Tryz.prog w base sp held n 51 cs=some x): ∃l:List Int,HVs w [.fz 1 (l.map b_)] noB cs/\((∀g∈l, -2147483648<=g/\g<=2147483647)/\l.length<=1048576):=by
 obtain⟨l,h1,h2,h3⟩:=cw (dI H) (R:=fun g=> -2147483648<=g/\g<=2147483647) (encα:=b_) Tryz.underlying51 ae9 (by omega) (fun _=>rfl) (fun _=>rfl) hb (fun n cs x h b=>aqY b h) h
 exact⟨l,h1,h2,h3⟩
theorem apV{n:Nat}{cs:List Value}{x:DataW H×List MemPlace}(hb:Bk x.1)(h:DataW.trod enc Tryz.prog w base sp held n 52 cs=some x): ∃l:List UInt8,HVs w [.fz 1 (l.map aA)] noB cs/\((∀g∈l,True)/\l.length<=1048576):=by
 obtain⟨l,h1,h2,h3⟩:=cw (dI H) (R:=fun g=>True) (encα:=aA) Tryz.underlying52 nr (by omega) (fun _=>rfl) (fun _=>rfl) hb (fun n cs x h b=>asq b h) h
 exact⟨l,h1,h2,h3⟩
theorem aq2{n:Nat}{cs:List Value}{x:DataW H×List MemPlace}(hb:Bk x.1)(h:DataW.trod enc Tryz.prog w base sp held n 61 cs=some x): ∃l:List UInt32,HVs w [.fz 1 (l.map aH)] noB cs/\((∀g∈l,True)/\l.length<=1048576):=by
 obtain⟨l,h1,h2,h3⟩:=cw (dI H) (R:=fun g=>True) (encα:=aH) Tryz.underlying61 qG (by omega) (fun _=>rfl) (fun _=>rfl) hb (fun n cs x h b=>aqo b h) h
 exact⟨l,h1,h2,h3⟩
theorem apM{n:Nat}{cs:List Value}{x:DataW H×List MemPlace}(hb:Bk x.1)(h:DataW.trod enc Tryz.prog w base sp held n 32 cs=some x): ∃l:List GDesc,HVs w [.fz 4 (l.map ah)] noB cs/\((∀g∈l,(∀s∈g.filter,okS s)/\g.filter.length<=1048576)/\l.length<=1048576):=by
 obtain⟨l,h1,h2,h3⟩:=cw (dI H) (R:=fun g=>(∀s∈g.filter,okS s)/\g.filter.length<=1048576) (encα:=ah) Tryz.underlying32 ae0 (by omega) (fun _=>rfl) (fun _=>rfl) hb (fun n cs x h b=>arw b h) h
 exact⟨l,h1,h2,h3⟩
theorem ain{n:Nat}{cs:List Value}{x:DataW H×List MemPlace}(hb:Bk x.1)(h:DataW.trod enc Tryz.prog w base sp held n 39 cs=some x): ∃l:List au,HVs w [.fz 3 (l.map aR)] noB cs/\((∀g∈l,True)/\l.length<=1048576):=by
 obtain⟨l,h1,h2,h3⟩:=cw (dI H) (R:=fun g=>True) (encα:=aR) Tryz.underlying39 y_ (by omega) (fun _=>rfl) (fun _=>rfl) hb (fun n cs x h b=>akU b h) h
 exact⟨l,h1,h2,h3⟩
theorem aod{n:Nat}{cs:List Value}{x:DataW H×List MemPlace}(hb:Bk x.1)(h:DataW.trod enc Tryz.prog w base sp held n 40 cs=some x): ∃l:List GMark,HVs w [.fz 3 (l.map aL)] noB cs/\((∀g∈l,True)/\l.length<=1048576):=by
 obtain⟨l,h1,h2,h3⟩:=cw (dI H) (R:=fun g=>True) (encα:=aL) Tryz.underlying40 xO (by omega) (fun _=>rfl) (fun _=>rfl) hb (fun n cs x h b=>aks b h) h
 exact⟨l,h1,h2,h3⟩
theorem asV{n:Nat}{cs:List Value}{x:DataW H×List MemPlace}(hb:Bk x.1)(h:DataW.trod enc Tryz.prog w base sp held n 58 cs=some x): ∃l:List GID,HVs w [.fz 3 (l.map aN)] noB cs/\((∀g∈l,True)/\l.length<=1048576):=by
 obtain⟨l,h1,h2,h3⟩:=cw (dI H) (R:=fun g=>True) (encα:=aN) Tryz.underlying58 xP (by omega) (fun _=>rfl) (fun _=>rfl) hb (fun n cs x h b=>asT b h) h
 exact⟨l,h1,h2,h3⟩
theorem ao2{n:Nat}{cs:List Value}{x:DataW H×List MemPlace}(hb:Bk x.1)(h:DataW.trod enc Tryz.prog w base sp held n 56 cs=some x): ∃g:GEvt,HVs w (az g) noB cs/\(g.vals.length<=1048576/\g.data.length<=1048576):=by
 obtain⟨hl,hf⟩:=cM (dI H) Tryz.underlying56 hb h;rw[afM]at hl;obtain⟨y0,n0,h0,b0⟩:=hf 0;obtain⟨y1,n1,h1,b1⟩:=hf 1;obtain⟨y2,n2,h2,b2⟩:=hf 2;simp only[xP,afI,afJ]at h0 h1 h2
 match cs,hl with
 |[a0,a1,a2,a3,a4],_=>
  obtain⟨g0,e0,r0⟩:=asT b0 h0;obtain⟨g1,e1,r1⟩:=ak6 b1 h1;obtain⟨g2,e2,r2⟩:=apV b2 h2;exact⟨⟨g0,g1,g2⟩,HVs.append e0 (HVs.append e1 e2),⟨r1.2,r2.2⟩⟩
theorem asx{n:Nat}{cs:List Value}{x:DataW H×List MemPlace}(hb:Bk x.1)(h:DataW.trod enc Tryz.prog w base sp held n 60 cs=some x): ∃g:aK,HVs w (encMg g) noB cs/\((∀d∈g.list,(∀s∈d.filter,okS s)/\d.filter.length<=1048576)/\g.list.length<=1048576/\g.table.length<=1048576):=by
 obtain⟨hl,hf⟩:=cM (dI H) Tryz.underlying60 hb h;rw[afH]at hl;obtain⟨y0,n0,h0,b0⟩:=hf 0;obtain⟨y1,n1,h1,b1⟩:=hf 1;obtain⟨y2,n2,h2,b2⟩:=hf 2;obtain⟨y3,n3,h3,b3⟩:=hf 3;obtain⟨y4,n4,h4,b4⟩:=hf 4;obtain⟨y5,n5,h5,b5⟩:=hf 5;obtain⟨y6,n6,h6,b6⟩:=hf 6;obtain⟨y7,n7,h7,b7⟩:=hf 7;obtain⟨y8,n8,h8,b8⟩:=hf 8;obtain⟨y9,n9,h9,b9⟩:=hf 9;obtain⟨y10,n10,h10,b10⟩:=hf 10;simp only[nr,od,apB,am_,afM,xO,anz,ao7]at h0 h1 h2 h3 h4 h5 h6 h7 h8 h9 h10
 match cs,hl with
 |[a0,a1,a2,a3,a4,a5,a6,a7,a8,a9,a10,a11,a12,a13,a14,a15,a16],_=>
  obtain⟨g0,e0,r0⟩:=qu b0 h0;obtain⟨g1,e1,r1⟩:=qu b1 h1;obtain⟨g2,e2,r2⟩:=zE b2 h2;obtain⟨g3,e3,r3⟩:=qu b3 h3;obtain⟨g4,e4,r4⟩:=apM b4 h4;obtain⟨g5,e5,r5⟩:=ain b5 h5;obtain⟨g6,e6,r6⟩:=ao2 b6 h6;obtain⟨g7,e7,r7⟩:=qu b7 h7;obtain⟨g8,e8,r8⟩:=aks b8 h8;obtain⟨g9,e9,r9⟩:=aod b9 h9;obtain⟨g10,e10,r10⟩:=asV b10 h10;exact⟨⟨g0,g1,g2,g3,g4,g5,g6,g7,g8,g9,g10⟩,HVs.append e0 (HVs.append e1 (HVs.append e2 (HVs.append e3 (HVs.append e4 (HVs.append e5 (HVs.append e6 (HVs.append e7 (HVs.append e8 (HVs.append e9 e10))))))))),⟨r4.1,r4.2,r5.2⟩⟩
theorem arE{n:Nat}{cs:List Value}{x:DataW H×List MemPlace}(hb:Bk x.1)(h:DataW.trod enc Tryz.prog w base sp held n 26 cs=some x): ∃g:ar,HVs w (aE g) noB cs/\((∀s∈g.schema,okS s)/\g.schema.length<=1048576):=by
 obtain⟨hl,hf⟩:=cM (dI H) Tryz.underlying26 hb h;rw[apk]at hl;obtain⟨y0,n0,h0,b0⟩:=hf 0;obtain⟨y1,n1,h1,b1⟩:=hf 1;obtain⟨y2,n2,h2,b2⟩:=hf 2;obtain⟨y3,n3,h3,b3⟩:=hf 3;obtain⟨y4,n4,h4,b4⟩:=hf 4;obtain⟨y5,n5,h5,b5⟩:=hf 5;obtain⟨y6,n6,h6,b6⟩:=hf 6;obtain⟨y7,n7,h7,b7⟩:=hf 7;obtain⟨y8,n8,h8,b8⟩:=hf 8;obtain⟨y9,n9,h9,b9⟩:=hf 9;obtain⟨y10,n10,h10,b10⟩:=hf 10;obtain⟨y11,n11,h11,b11⟩:=hf 11;obtain⟨y12,n12,h12,b12⟩:=hf 12;obtain⟨y13,n13,h13,b13⟩:=hf 13;obtain⟨y14,n14,h14,b14⟩:=hf 14;simp only[aqm,anS,qG]at h0 h1 h2 h3 h4 h5 h6 h7 h8 h9 h10 h11 h12 h13 h14
 match cs,hl with
 |[a0,a1,a2,a3,a4,a5,a6,a7,a8,a9,a10,a11,a12,a13,a14],_=>
  obtain⟨g0,e0,r0⟩:=jh b0 h0;obtain⟨g1,e1,r1⟩:=akL b1 h1;obtain⟨g2,e2,r2⟩:=jh b2 h2;obtain⟨g3,e3,r3⟩:=jh b3 h3;obtain⟨g4,e4,r4⟩:=jh b4 h4;obtain⟨g5,e5,r5⟩:=jh b5 h5;obtain⟨g6,e6,r6⟩:=jh b6 h6;obtain⟨g7,e7,r7⟩:=jh b7 h7;obtain⟨g8,e8,r8⟩:=jh b8 h8;obtain⟨g9,e9,r9⟩:=jh b9 h9;obtain⟨g10,e10,r10⟩:=jh b10 h10;obtain⟨g11,e11,r11⟩:=jh b11 h11;obtain⟨g12,e12,r12⟩:=jh b12 h12;obtain⟨g13,e13,r13⟩:=jh b13 h13;obtain⟨g14,e14,r14⟩:=afz b14 h14;exact⟨⟨g0,g1,g2,g3,g4,g5,g6,g7,g8,g9,g10,g11,g12,g13,g14⟩,HVs.append e0 (HVs.append e1 (HVs.append e2 (HVs.append e3 (HVs.append e4 (HVs.append e5 (HVs.append e6 (HVs.append e7 (HVs.append e8 (HVs.append e9 (HVs.append e10 (HVs.append e11 (HVs.append e12 (HVs.append e13 e14))))))))))))),r1⟩
theorem conf_arg{v:Value}{d:DataW H}{ps:List MemPlace}{b0:Nat}(hval:Value.okWide Tryz.prog w .any b0 26 v)(hb:Bk d)(h:DataW.Trod enc Tryz.prog w base sp held 26 v d ps):
  ∃g:ar,HV w (.agg (aE g)) noB v/\((∀s∈g.schema,okS s)/\g.schema.length<=1048576):=by
 obtain⟨n,hn⟩:=h;obtain⟨g,h1,h2⟩:=arE (x:=(d,ps)) hb hn;exact⟨g,ya Tryz.underlying26 hval h1,h2⟩
end
theorem ae3:Tryz.prog.cellsOf 63=22:=by kernel_rfl
section
variable {H:Type} {enc:TypeId×Value->H} {w:World} {base:Nat} {sp:Nat->Bool} {held:Bool}
theorem asy{n:Nat}{cs:List Value}{x:DataW H×List MemPlace}(hb:Bk x.1)(h:DataW.trod enc Tryz.prog w base sp held n 63 cs=some x): ∃g:iX,HVs w (encNop g) noB cs/\((∀d∈g.m.list,(∀s∈d.filter,okS s)/\d.filter.length<=1048576)/\g.m.list.length<=1048576/\g.m.table.length<=1048576/\(∀s∈g.filter,okS s)/\g.filter.length<=1048576/\g.draws.length<=1048576):=by
 obtain⟨hl,hf⟩:=cM (dI H) Tryz.underlying63 hb h;rw[ae3]at hl;obtain⟨y0,n0,h0,b0⟩:=hf 0;obtain⟨y1,n1,h1,b1⟩:=hf 1;obtain⟨y2,n2,h2,b2⟩:=hf 2;obtain⟨y3,n3,h3,b3⟩:=hf 3;obtain⟨y4,n4,h4,b4⟩:=hf 4;obtain⟨y5,n5,h5,b5⟩:=hf 5;simp only[nr,afr,afI,afJ,afH,apD]at h0 h1 h2 h3 h4 h5
 match cs,hl with
 |[a0,a1,a2,a3,a4,a5,a6,a7,a8,a9,a10,a11,a12,a13,a14,a15,a16,a17,a18,a19,a20,a21],_=>
  obtain⟨g0,e0,r0⟩:=qu b0 h0;obtain⟨g1,e1,r1⟩:=zg b1 h1;obtain⟨g2,e2,r2⟩:=ak6 b2 h2;obtain⟨g3,e3,r3⟩:=apV b3 h3;obtain⟨g4,e4,r4⟩:=asx b4 h4;obtain⟨g5,e5,r5⟩:=aq2 b5 h5;exact⟨⟨g0,g1,g2,g3,g4,g5⟩,HVs.append e0 (HVs.append e1 (HVs.append e2 (HVs.append e3 (HVs.append e4 e5)))),⟨r4.1,r4.2.1,r4.2.2,r1.1,r1.2,r5.2⟩⟩
theorem ops5_arg{v:Value}{d:DataW H}{ps:List MemPlace}{b0:Nat}(hval:Value.okWide Tryz.prog w .any b0 27 v)(hb:Bk d)(h:DataW.Trod enc Tryz.prog w base sp held 27 v d ps):
  ∃l:List iX,HV w (.fz 22 (l.map encNop)) noB v/\(∀g∈l,((∀d∈g.m.list,(∀s∈d.filter,okS s)/\d.filter.length<=1048576)/\g.m.list.length<=1048576/\g.m.table.length<=1048576/\(∀s∈g.filter,okS s)/\g.filter.length<=1048576/\g.draws.length<=1048576))/\l.length<=1048576:=by
 obtain⟨a0,len0,cap0,rfl⟩:=okWide_slice Tryz.underlying27 hval;obtain⟨fuel,hf⟩:=h;obtain⟨l,⟨v,V,e1,h1,h2⟩,h3,h4⟩:=cw (x:=(d,ps)) (dI H) (R:=fun g=>((∀d∈g.m.list,(∀s∈d.filter,okS s)/\d.filter.length<=1048576)/\g.m.list.length<=1048576/\g.m.table.length<=1048576/\(∀s∈g.filter,okS s)/\g.filter.length<=1048576/\g.draws.length<=1048576)) (encα:=encNop) Tryz.underlying27 ae3 (by omega) (fun _=>rfl) (fun _=>rfl) hb (fun n cs x h b=>asy b h) hf
 obtain rfl:v= .slice a0 len0 cap0:=by
  have:[Value.slice a0 len0 cap0]=v::V:=e1;cases this;rfl
 exact⟨l,h1,h3,h4⟩
