import Derived.Test.YthoihfighiolmaaGreatPt8
import Derived.Test.YthoihfighiolmaaGreatPt14
set_option linter.unusedSectionVars false
set_option linter.unusedSimpArgs false
set_option linter.unusedVariables false
namespace Go.Proofs.YthoihfighiolmaaGreat.Ty
open Go.Eng
@[go_sem] theorem cj8:cX Tryz.prog 3=some [.v (.int .i64 0)]/\dt Tryz.prog 23=some (138,2,8)/\cX Tryz.prog 26=some [.v (.int .i64 0),.v (.slice none 0 0),.v (.int .i64 0),.v (.int .i64 0),.v (.int .i64 0),.v (.int .i64 0),.v (.int .i64 0),.v (.int .i64 0),.v (.int .i64 0),.v (.int .i64 0),.v (.int .i64 0),.v (.int .i64 0),.v (.int .i64 0),.v (.int .i64 0),.v (.int .u32 0)]/\dW Tryz.prog 26=some [(0,1),(1,1),(2,1),(3,1),(4,1),(5,1),(6,1),(7,1),(8,1),(9,1),(10,1),(11,1),(12,1),(13,1),(14,1)]/\dt Tryz.prog 27=some (63,22,232)/\cX Tryz.prog 30=some [.v (.int .u16 0)]/\dt Tryz.prog 31=some (138,2,8)/\cX Tryz.prog 32=some [.v (.slice none 0 0)]/\dt Tryz.prog 32=some (34,4,32)/\cX Tryz.prog 34=some [.v (.int .u8 0),.v (.int .u16 0),.v (.int .u8 0),.v (.slice none 0 0)]/\dW Tryz.prog 34=some [(0,1),(1,1),(2,1),(3,1)]/\cX Tryz.prog 36=some [.v (.bool false),.v (.bool false),.v (.int .u8 0),.v (.int .u16 0),.v (.int .u8 0),.v (.slice none 0 0),.v (.int .u8 0),.v (.int .u16 0),.v (.int .u8 0),.v (.slice none 0 0)]/\dW Tryz.prog 36=some [(0,1),(1,1),(2,4),(6,4)]/\cX Tryz.prog 38=some [.v (.bool false),.v (.int .u8 0),.v (.int .u8 0),.v (.slice none 0 0)]/\dW Tryz.prog 38=some [(0,1),(1,1),(2,1),(3,1)]:=by and_intros<;>kernel_rfl
@[go_sem] theorem elOf39:dt Tryz.prog 39=some (111,3,4):=by kernel_rfl
@[go_sem] theorem cj9:cX Tryz.prog 40=some [.v (.slice none 0 0)]:=by kernel_rfl
@[go_sem] theorem elOf40:dt Tryz.prog 40=some (57,3,8):=by kernel_rfl
@[go_sem] theorem elOf41:dt Tryz.prog 41=some (104,3,16):=by kernel_rfl
@[go_sem] theorem an7:dt Tryz.prog 43=some (40,1,24)/\dt Tryz.prog 44=some (56,5,56)/\cX Tryz.prog 46=some [.v (.int .i64 0),.v (.slice none 0 0)]/\dW Tryz.prog 46=some [(0,1),(1,1)]:=by and_intros<;>kernel_rfl
@[go_sem] theorem elOf47:dt Tryz.prog 47=some (201,5,12):=by kernel_rfl
@[go_sem] theorem an6:cX Tryz.prog 49=some [.v (.int .u8 0),.v (.int .u16 0),.v (.bool false),.v (.slice none 0 0),.v (.slice none 0 0),.v (.slice none 0 0),.v (.bool false),.v (.bool false),.v (.int .u8 0),.v (.int .u16 0),.v (.int .u8 0),.v (.slice none 0 0),.v (.int .u8 0),.v (.int .u16 0),.v (.int .u8 0),.v (.slice none 0 0),.v (.bool false),.v (.int .u8 0),.v (.int .u8 0),.v (.slice none 0 0),.v (.slice none 0 0),.v (.int .u32 0),.v (.slice none 0 0),.v (.int .u32 0),.v (.slice none 0 0),.v (.slice none 0 0),.v (.int .i64 0),.v (.slice none 0 0),.v (.slice none 0 0),.v (.int .i64 0),.v (.int .i64 0),.v (.int .i64 0)]/\dW Tryz.prog 49=some [(0,1),(1,1),(2,1),(3,1),(4,1),(5,1),(6,10),(16,4),(20,1),(21,1),(22,1),(23,1),(24,1),(25,1),(26,2),(28,1),(29,1),(30,1),(31,1)]/\dt Tryz.prog 53=some (21,1,4)/\aia Tryz.prog 54=true/\dt Tryz.prog 54=some (5,1,1)/\cX Tryz.prog 56=some [.v (.int .u8 0),.v (.int .u16 0),.v (.int .u32 0),.v (.slice none 0 0),.v (.slice none 0 0)]/\dW Tryz.prog 56=some [(0,3),(3,1),(4,1)]/\cX Tryz.prog 57=some [.v (.int .u8 0),.v (.int .u16 0),.v (.int .u32 0)]/\dW Tryz.prog 57=some [(0,1),(1,1),(2,1)]/\dt Tryz.prog 58=some (52,3,8)/\cX Tryz.prog 60=some [.v (.int .u8 0),.v (.int .u8 0),.v (.int .u16 0),.v (.int .u8 0),.v (.slice none 0 0),.v (.slice none 0 0),.v (.int .u8 0),.v (.int .u16 0),.v (.int .u32 0),.v (.slice none 0 0),.v (.slice none 0 0),.v (.int .u8 0),.v (.int .u8 0),.v (.int .u16 0),.v (.int .u32 0),.v (.slice none 0 0),.v (.slice none 0 0)]/\dW Tryz.prog 60=some [(0,1),(1,1),(2,1),(3,1),(4,1),(5,1),(6,5),(11,1),(12,3),(15,1),(16,1)]/\dt Tryz.prog 61=some (24,1,4)/\cX Tryz.prog 63=some [.v (.int .u8 0),.v (.int .u8 0),.v (.int .u16 0),.v (.slice none 0 0),.v (.int .u8 0),.v (.int .u8 0),.v (.int .u16 0),.v (.int .u8 0),.v (.slice none 0 0),.v (.slice none 0 0),.v (.int .u8 0),.v (.int .u16 0),.v (.int .u32 0),.v (.slice none 0 0),.v (.slice none 0 0),.v (.int .u8 0),.v (.int .u8 0),.v (.int .u16 0),.v (.int .u32 0),.v (.slice none 0 0),.v (.slice none 0 0),.v (.slice none 0 0)]/\dt Tryz.prog 65=some (60,17,176)/\cX Tryz.prog 102=some [.v (.int .u64 0)]/\cX Tryz.prog 104=some [.v (.int .u16 0),.v (.int .u32 0),.v (.int .u64 0)]/\dW Tryz.prog 104=some [(0,1),(1,1),(2,1)]/\cX Tryz.prog 111=some [.v (.int .u16 0),.v (.int .u8 0),.v (.int .u8 0)]/\dW Tryz.prog 111=some [(0,1),(1,1),(2,1)]/\dt Tryz.prog 131=some (32,1,24)/\cX Tryz.prog 138=some [.v (.int .i32 0),.v (.int .i32 0)]/\dW Tryz.prog 138=some [(0,1),(1,1)]/\cX Tryz.prog 170=some [.v (.int .i64 0),.v (.slice none 0 0),.v (.int .i64 0),.v (.int .i64 0),.v (.int .i64 0),.v (.int .i64 0),.v (.int .i64 0),.v (.int .i64 0),.v (.int .i64 0),.v (.int .i64 0),.v (.int .i64 0),.v (.int .i64 0),.v (.int .i64 0),.v (.int .i64 0),.v (.int .u32 0),.v (.int .u8 0),.v (.int .u16 0),.v (.bool false),.v (.slice none 0 0),.v (.slice none 0 0),.v (.slice none 0 0),.v (.bool false),.v (.bool false),.v (.int .u8 0),.v (.int .u16 0),.v (.int .u8 0),.v (.slice none 0 0),.v (.int .u8 0),.v (.int .u16 0),.v (.int .u8 0),.v (.slice none 0 0),.v (.bool false),.v (.int .u8 0),.v (.int .u8 0),.v (.slice none 0 0),.v (.slice none 0 0),.v (.int .u32 0),.v (.slice none 0 0),.v (.int .u32 0),.v (.slice none 0 0),.v (.slice none 0 0),.v (.int .i64 0),.v (.slice none 0 0),.v (.slice none 0 0),.v (.int .i64 0),.v (.int .i64 0),.v (.int .i64 0),.v (.int .u8 0),.v (.int .u8 0),.v (.int .u16 0),.v (.int .u8 0),.v (.slice none 0 0),.v (.slice none 0 0),.v (.int .u8 0),.v (.int .u16 0),.v (.int .u32 0),.v (.slice none 0 0),.v (.slice none 0 0),.v (.int .u8 0),.v (.int .u8 0),.v (.int .u16 0),.v (.int .u32 0),.v (.slice none 0 0),.v (.slice none 0 0),.v (.slice none 0 0),.v (.bool false),.v (.slice none 0 0)]/\dW Tryz.prog 170=some [(0,15),(15,32),(47,17),(64,1),(65,1),(66,1)]/\dt Tryz.prog 289=some (292,5,40)/\cX Tryz.prog 292=some [.v (.int .u8 0),.v (.int .u16 0),.v (.int .u8 0),.v (.slice none 0 0),.v (.int .u32 0)]/\dW Tryz.prog 292=some [(0,4),(4,1)]/\cX Tryz.prog 318=some [.v (.int .u64 0)]/\esz Tryz.prog 330=none/\asz Tryz.prog 330=some (256,4)/\ajB Tryz.prog 330=some (256,true,4)/\dt Tryz.prog 356=some (3,1,8):=by and_intros<;>kernel_rfl
end Go.Proofs.YthoihfighiolmaaGreat.Ty
namespace Go.Eng
theorem pY{P:Program}{Q:Exit->DS->Prop}{ρ0:List (Nat×DSV)}{σ:List (Nat×ek)}{H:List (Nat×Row)}{nx nb:Nat}{body:Code}{id id2 r1 r2 ti tc tj:Nat}{T T2 T3 T4 y1 y2 y3:TypeId}{p1 p2 p3:String}{e1 e2 e3:Array Edge}{yn:Operand}
  (n:Nat) (ρ:List (Nat×DSV)) (pre:Nat->List (Nat×DSV)) (loc:Nat->List (Nat×ek)) (Hf:Nat->List (Nat×Row)) (nx1:Nat) (F:Nat->Prop)
  (hle:leD ⟨(ti,.d (.v (.int .i64 (0:Nat))))::(pre 0++ρ),loc 0,Hf 0,nx1,nb⟩ ⟨ρ0,σ,H,nx,nb⟩) (hF:F 0)
  (hn: ∀g k,(stR ti pre ρ loc Hf nx1 nb k g).sv yn= .d (.v (.int .i64 n))) (hmax:n<=9223372036854775807) (hj: ∀g,lk (pre g++ρ) tj=none)
  (hbody: ∀k,k<n->F k->vc2 P body (iS (stR ti pre ρ loc Hf nx1 nb) (fun k g=>g=k/\F k) k id id2 Q) ⟨(tc,.d (.v (.bool true)))::(ti,.d (.v (.int .i64 k)))::(pre k++ρ),loc k,Hf k,nx1,nb⟩)
  (hend:F n->Q .normal ⟨(tc,.d (.v (.bool false)))::(ti,.d (.v (.int .i64 n)))::(pre n++ρ),loc n,Hf n,nx1,nb⟩):
  vc2 P (.block id (.loop (.seq (.region r1 [⟨some tc,.binOp .lss T (.tmp ti) yn T2,y1,p1,e1,none⟩].toArray false)
   (.seq (.cond (.tmp tc) .skip (.exit id)) (.seq (.block id2 body)
    (.region r2 [⟨some tj,.binOp .add T3 (.tmp ti) (.const (.int .i64 1)) T4,y2,p2,e2,none⟩,⟨some ti,.move (.tmp tj),y3,p3,e3,none⟩].toArray false)))))) Q ⟨ρ0,σ,H,nx,nb⟩:=
 gq (γ:=Nat) n pre loc Hf nx1 (fun k g=>g=k/\F k) 0 hle ⟨rfl,hF⟩ hn hmax hj (fun k g h1 h2=>Vc2.of (by obtain⟨h2,h3⟩:=h2;subst h2;exact hbody _ h1 h3)) (fun g h=>by obtain⟨h2,h3⟩:=h;subst h2;exact hend h3)
def abp{γ:Type}(st:γ->DS)(F:γ->Prop)(Q:Exit->DS->Prop)(e:Exit)(ds:DS):Prop:=
 match e with
 | .normal=> ∃g,leD (st g) ds/\F g
 |e=>Q e ds
section
variable {γ:Type} {st:γ->DS} {F:γ->Prop} {Q:Exit->DS->Prop} {ds:DS} {P:Program} {x y:Code} {id:Nat}
theorem uz:abp st F Q .normal ds= ∃g,leD (st g) ds/\F g:=rfl
theorem aep:abp st F Q .ret ds=Q .ret ds:=rfl
theorem zh{j:Nat}:abp st F Q (.exit j) ds=Q (.exit j) ds:=rfl
attribute [go_sem] uz aep zh
theorem Vc2.seqJ(st:γ->DS)(F:γ->Prop)(hx:vc2 P x (abp st F Q) ds)(k: ∀g,F g->Vc2 P y Q (st g)):Vc2 P (.seq x y) Q ds:=by
 intro u0 β0 β us s u h;refine Vc.seq (Vc.mono ?_ (Vc2.of hx u0 β0 β us s u h))
 rintro e s' u' ⟨β',us',ds',h1,h2⟩
 cases e with
 |normal=>
  obtain⟨g,hle,hF⟩:=h2;obtain⟨β1,s1,h3,h4⟩:=hle _ _ _ _ _ _ h1;exact Vc.le h3 (k g hF _ _ _ _ _ _ h4)
 |exit j=>exact⟨β',us',ds',h1,h2⟩
 |ret=>exact⟨β',us',ds',h1,h2⟩
 |goto l=>exact⟨β',us',ds',h1,h2⟩
 |panic c=>exact⟨β',us',ds',h1,h2⟩
 |outgrown=>exact⟨β',us',ds',h1,h2⟩
theorem Vc2.blockV(h:Vc2 P x (dh id Q) ds):Vc2 P (.block id x) Q ds:=by
 intro u0 β0 β us s u hr;refine Vc.blockW (Vc.mono ?_ (h u0 β0 β us s u hr));intro e s' u' hl;cases e with
 |normal=>exact LeK2.sound hl
 |exit j=>
  obtain⟨β',us',ds',h1,h2⟩:=hl;simp only[dh]at h2;simp only[fh];cases hb:(j==id)with
  |true=>rw[hb]at h2;exact LeK2.sound ⟨β',us',ds',h1,h2⟩
  |false=>rw[hb]at h2;exact⟨β',us',ds',h1,h2⟩
 |ret=>exact hl
 |goto l=>exact hl
 |panic c=>exact hl
 |outgrown=>exact hl
theorem aeJ{body:Code}(st:γ->DS)(F:γ->Prop)(μ:γ->Nat)(g0:γ)(hle:leD (st g0) ds)(hF:F g0)
  (hround: ∀g,F g->Vc2 P body (gI st F μ g (dh id Q)) (st g)):vc2 P (.block id (.loop body)) Q ds:=⟨γ,st,F,μ,⟨g0,hle,hF⟩,hround⟩
theorem tY:pE P y Q .normal ds=Vc2 P y Q ds:=rfl
theorem adw:pE P y Q .ret ds=Q .ret ds:=rfl
theorem aaF{j:Nat}:pE P y Q (.exit j) ds=Q (.exit j) ds:=rfl
attribute [go_sem] tY adw aaF
theorem vj{body:Code}(st:γ->DS)(F:γ->Prop)(μ:γ->Nat)(g0:γ)(hle:leD (st g0) ds)(hF:F g0)
  (hround: ∀g,F g->vc2 P body (gI st F μ g (dh id Q)) (st g)):vc2 P (.block id (.loop body)) Q ds:=⟨γ,st,F,μ,⟨g0,hle,hF⟩,fun g h=>Vc2.of (hround g h)⟩
theorem Vc2.sq(h:vc2 P x (pE P y Q) ds):Vc2 P (.seq x y) Q ds:=Vc2.seq (Vc2.of h)
