import Derived.Test.YthoihfighiolmaaGreatPt42
set_option linter.unusedSectionVars false
set_option linter.unusedSimpArgs false
set_option linter.unusedVariables false
set_option maxRecDepth 10000
set_option maxHeartbeats 4000000
namespace Go.Eng
open Go.Sort
theorem eD(a b:UInt8):decide ((a.toNat:Int)<(b.toNat:Int))=ltU a b:=by
 unfold ltU
 congr 1
 exact propext (dH a b)
@[reducible] def rB(E:TypeId)(T:TypeId)(d:Array UInt8)(L0:List (List DV)):List (Nat×Row):=[(1,.arr E 1 (bR d) false),(0,.arr T 1 L0 false)]
theorem qN{a j:Nat}{d:Array UInt8}(h:j<=a):insInner ltU a j d=d:=by
 cases j with
 |zero=>rfl
 |succ j=>rw[insInner,if_neg (by simp;omega)]
theorem qM{a j:Nat}{d:Array UInt8}(h:a<j+1):insInner ltU a (j+1) d=if ltU d[j+1]! d[j]! =true then insInner ltU a j (swp d (j+1) j)else d:=by simp_all [insInner,h]
end Go.Eng
namespace Go.Proofs.YthoihfighiolmaaGreat.V
open Go.Eng Go.Sort
attribute [local go_sem] plR List.map_cons List.map_nil
theorem anW(d:Array UInt8)(a b n:Nat)(hn:d.size=n)(hab:a<=b)(hb:b<=n)(h50:n<=50){L0:List (List DV)}{ρ σ nb K}(hk:K (.tup []) ⟨ρ,σ,rB 5 32 (insertionSort ltU d a b) L0,2,nb⟩):
  CallS Tryz.prog false 235 [.rf 1 0 n,.v (.int .i64 a),.v (.int .i64 b)] ⟨ρ,σ,rB 5 32 d L0,2,nb⟩ K:=by
 refine im_ Tryz.func235 [] (g2_ ?_);refine g2_ ?_;refine av (γ:=Nat×Array UInt8) (fun g=>[(6,.d (.v (.int .i64 (g.1:Nat))))]) (fun _=>[]) (fun g=>rB 5 32 g.2 L0) 2 (fun g=>g.2.size=n/\insOuter ltU a b g.1 g.2=insertionSort ltU d a b/\a+1<=g.1/\(g.1<=b\/g.1=a+1)) (fun g=>b+2-g.1) (a+1,d) (aa [] ?_) ⟨hn,rfl,Nat.le_refl _,.inr rfl⟩ (fun g hg=>?_)
 ·refine g2_ ?_
  first|done|rfl|exact⟨rfl,rfl⟩
 obtain⟨i,D⟩:=g;obtain⟨hz,hR,hi1,hi2⟩:=hg;simp only at hz hR hi1 hi2 ⊢;refine g2_ ?_
 by_cases hlt:i<b
 ·rw[decide_eq_true (show(i:Int)<(b:Int)by omega)]
  rw[insOuter,if_pos hlt]at hR;refine g2_ ?_;refine av (γ:=Nat×Array UInt8) (fun g=>[(7,.d (.v (.int .i64 (g.1:Nat))))]) (fun _=>[]) (fun g=>rB 5 32 g.2 L0) 2 (fun g=>g.2.size=n/\insInner ltU a g.1 g.2=insInner ltU a i D/\g.1<=i) (fun g=>g.1) (i,D) (aa [] ?_) ⟨hz,rfl,Nat.le_refl _⟩ (fun g hg=>?_)
  ·repeat first|simp-implicitDefEqProofs only[go_sem,ab]|with_reducible refine gl_ ?_
   first|done|rfl|exact⟨rfl,rfl⟩
  obtain⟨j,E⟩:=g;obtain⟨hz2,hj1,hj2⟩:=hg;simp only at hz2 hj1 hj2 ⊢;refine g2_ ?_;refine .inl ⟨[oF 0,oF 1,oF 2,oF 3,oF 4,oF 5,oF 8,oF 9,oF 6,oF 10,oF 7,oF 11,oF 12,oF 13,oF 14],by kernel_rfl,g2_ ?_⟩
  by_cases hja:a<j
  ·rw[decide_eq_true (show(a:Int)<(j:Int)by omega)]
   obtain⟨k,rfl⟩: ∃k,j=k+1:=⟨j-1,by omega⟩
   have e1:((k+1:Nat):Int)-1=(k:Nat):=by omega
   have q1:=aT (d:=E) (i:=k+1) (by omega)
   have q2:=aT (d:=E) (i:=k) (by omega)
   have q3:=dM (d:=E) (i:=k+1) (j:=k) (x:=E[k]!) (by omega)
   have q4:=afF E;have q5:((bR (E.setIfInBounds (k+1) E[k]!))).length=n:=by rw[afF];simpa using hz2
   have hcc:=eF E[k+1]! E[k]!;rw[eD]at hcc;rw[qM hja]at hj1;refine gh_ q1 q2 e1 ?_;refine ce_ hcc (g2_ ?_);cases hc:ltU E[k+1]! E[k]! with
   |true=>
    rw[hc,if_pos rfl]at hj1;refine g2_ ?_;refine .inl ⟨[oF 0,oF 1,oF 2,oF 3,oF 5,oF 6,oF 10,oF 11,oF 4,oF 7,oF 12,oF 8,oF 13,oF 9,oF 14,oF 15,oF 16,oF 17],by kernel_rfl,gf_ (c4_ q1 q2 q3 (c2_ @eK e1)) ?_⟩
    refine⟨(k,swp E (k+1) k),aa [] ?_,⟨by rw[<-hz2];simp[swp],hj1,by simp only[];omega⟩,by simp only[];omega⟩
    exact wf_ @dX
   |false=>
    rw[hc,if_neg (by decide)]at hj1
    rw[hj1];refine g2_ ?_;refine⟨(i+1,insInner ltU a i D),aa [] ?_,⟨by simp only[];rw[<-hj1];exact hz2,hR,by simp only[];omega,by simp only[];omega⟩,by simp only[];omega⟩
    refine g2_ ?_;rfl
  ·rw[decide_eq_false (show ¬(a:Int)<(j:Int)by omega)]
   rw[qN (by omega)]at hj1
   rw[hj1];refine g2_ ?_;refine⟨(i+1,insInner ltU a i D),aa [] ?_,⟨by simp only[];rw[<-hj1];exact hz2,hR,by simp only[];omega,by simp only[];omega⟩,by simp only[];omega⟩
   refine g2_ ?_;rfl
 ·rw[decide_eq_false (show ¬(i:Int)<(b:Int)by omega)]
  rw[insOuter,if_neg hlt]at hR;rw[hR];refine g2_ ?_;exact hk
end Go.Proofs.YthoihfighiolmaaGreat.V
namespace Go.Eng
open Go.Sort
def gA(hi F r:Nat)(d:Array UInt8):Nat:=if 2*r+1+1<hi/\ltU d[F+(2*r+1)]! d[F+(2*r+1)+1]! =true then 2*r+2 else 2*r+1
theorem pQ{hi F r:Nat}{d:Array UInt8}(h:hi<=2*r+1):siftDown ltU hi F r d=d:=by
 rw[siftDown,dif_pos h]
theorem rE{hi F r:Nat}{d:Array UInt8}(h:2*r+1<hi):gA hi F r d<hi/\r<gA hi F r d:=by
 unfold gA;split<;>omega
theorem rD{hi F r:Nat}{d:Array UInt8}(h:2*r+1<hi):
  siftDown ltU hi F r d=if ltU d[F+r]! d[F+gA hi F r d]! =true then siftDown ltU hi F (gA hi F r d) (swp d (F+r) (F+gA hi F r d))else d:=by
 rw[siftDown,dif_neg (by omega)]
 unfold gA
 by_cases h1:2*r+1+1<hi/\ltU d[F+(2*r+1)]! d[F+(2*r+1)+1]! =true
 ·rw[if_pos (by simpa using h1),if_pos h1]
  have h2:2*r+2<hi:=h1.1;cases hc:ltU d[F+r]! d[F+(2*r+2)]! with
  |true=>simp[h2]
  |false=>simp
 ·rw[if_neg (by simpa using h1),if_neg h1]
  cases hc:ltU d[F+r]! d[F+(2*r+1)]! with
  |true=>simp
  |false=>simp
theorem ru(hi F:Nat): ∀(r:Nat) (d:Array UInt8),(siftDown ltU hi F r d).size=d.size:=by
 have key: ∀m r (d:Array UInt8),hi-r<=m->(siftDown ltU hi F r d).size=d.size:=by
  intro m
  induction m with
  |zero=>intro r d h;rw[pQ (by omega)]
  | succ m ih=>
   intro r d h
   by_cases h1:2*r+1<hi
   ·have h2:=rE (F:=F) (d:=d) h1;rw[rD h1];split
    ·rw[ih _ _ (by omega)];simp[swp]
    ·rfl
   ·rw[pQ (by omega)]
 exact fun r d=>key _ r d (Nat.le_refl _)
end Go.Eng
namespace Go.Proofs.YthoihfighiolmaaGreat.V
open Go.Eng Go.Sort
attribute [local go_sem] plR List.map_cons List.map_nil
theorem akB(d:Array UInt8)(lo hi first n:Nat)(hn:d.size=n)(hb:first+hi<=n)(hlo:lo<=n)(h50:n<=50){L0:List (List DV)}{ρ σ nb K}(hk:K (.tup []) ⟨ρ,σ,rB 5 32 (siftDown ltU hi first lo d) L0,2,nb⟩):
  CallS Tryz.prog false 319 [.rf 1 0 n,.v (.int .i64 lo),.v (.int .i64 hi),.v (.int .i64 first)] ⟨ρ,σ,rB 5 32 d L0,2,nb⟩ K:=by
 refine im_ Tryz.func319 [] (g2_ ?_);refine g2_ ?_;refine av (γ:=Nat×Array UInt8) (fun g=>[(8,.d (.v (.int .i64 (g.1:Nat))))]) (fun _=>[]) (fun g=>rB 5 32 g.2 L0) 2 (fun g=>g.2.size=n/\siftDown ltU hi first g.1 g.2=siftDown ltU hi first lo d/\g.1<=n) (fun g=>hi-g.1) (lo,d) (aa [] ?_) ⟨hn,rfl,hlo⟩ (fun g hg=>?_)
 ·exact v0_
  first|done|rfl|exact⟨rfl,rfl⟩
 obtain⟨r,D⟩:=g;obtain⟨hz,hR,hr⟩:=hg;simp only at hz hR hr ⊢;have e1:2*(r:Int)+1=((2*r+1:Nat):Int):=by omega
 have e2:(first:Int)+(r:Int)=((first+r:Nat):Int):=by omega
 have e3:(first:Int)+((2*r+1:Nat):Int)=((first+(2*r+1):Nat):Int):=by omega
 have e4:((first+(2*r+1):Nat):Int)+1=((first+(2*r+1)+1:Nat):Int):=by omega
 have e5:((2*r+1:Nat):Int)+1=((2*r+2:Nat):Int):=by omega
 refine gf_ e1 ?_
 by_cases hlt:2*r+1<hi
 ·rw[decide_eq_false (show ¬(hi:Int)<=((2*r+1:Nat):Int)by omega)]
  rw[rD hlt]at hR;obtain⟨C,hch⟩: ∃C,gA hi first r D=C:=⟨_,rfl⟩
  have q1:=aT (d:=D) (i:=first+(2*r+1)) (by omega)
  refine gf_ e5 ?_;refine .inl ⟨[oF 0,oF 2,oF 1,oF 3,oF 4,oF 5,oF 6,oF 7,oF 11,oF 12,oF 13,oF 8,oF 14,oF 9,oF 15,oF 10,oF 16,oF 17,oF 18,oF 19],by kernel_rfl,gf_ e5 ?_⟩
  by_cases h2:2*r+2<hi
  rw[decide_eq_true (show((2*r+2:Nat):Int)<(hi:Int)by omega)]
  have q2:=aT (d:=D) (i:=first+(2*r+1)+1) (by omega)
  have hcc:=eF D[first+(2*r+1)]! D[first+(2*r+1)+1]!
  rw[eD]at hcc;refine gi_ q1 q2 e3 e4 ?_;refine ce_ hcc (g2_ ?_);cases hc:ltU D[first+(2*r+1)]! D[first+(2*r+1)+1]!
  have hC:C=2*r+1:=by rw[<-hch,gA,if_neg (by rw[hc];simp)]
  have eC:(first:Int)+((2*r+1:Nat):Int)=((first+C:Nat):Int):=by omega
  have hC2:((2*r+1:Nat):Int)=(C:Int):=by omega
  refine g2_ ?_
  rotate_left
  have hC:C=2*r+2:=by rw[<-hch,gA,if_pos ⟨h2,hc⟩]
  have eC:(first:Int)+((2*r+2:Nat):Int)=((first+C:Nat):Int):=by omega
  have hC2:((2*r+2:Nat):Int)=(C:Int):=by omega
  refine gf_ e5 ?_
  rotate_left
  rw[decide_eq_false (show ¬((2*r+2:Nat):Int)<(hi:Int)by omega)]
  have hC:C=2*r+1:=by rw[<-hch,gA,if_neg (by omega)]
  have eC:(first:Int)+((2*r+1:Nat):Int)=((first+C:Nat):Int):=by omega
  have hC2:((2*r+1:Nat):Int)=(C:Int):=by omega
  refine g2_ ?_
  all_goals
   have hcl:=rE (hi:=hi) (F:=first) (r:=r) (d:=D) hlt
   rw[hch]at hcl hR;have q3:=aT (d:=D) (i:=first+r) (by omega)
   have q4:=aT (d:=D) (i:=first+C) (by omega)
   have q5:=dM (d:=D) (i:=first+r) (j:=first+C) (x:=D[first+C]!) (by omega)
   have hcc:=eF D[first+r]! D[first+C]!
   rw[eD]at hcc;refine g2_ ?_;refine .inl ⟨[oF 0,oF 1,oF 2,oF 6,oF 7,oF 8,oF 3,oF 9,oF 4,oF 10,oF 5,oF 11,oF 12,oF 13],by kernel_rfl,?_⟩
   refine gi_ q3 q4 e2 eC ?_;refine ce_ hcc (g2_ ?_);cases hc2:ltU D[first+r]! D[first+C]! with
   |true=>
    rw[hc2,if_pos rfl]at hR;refine g2_ ?_;refine .inl ⟨[oF 0,oF 1,oF 2,oF 4,oF 5,oF 6,oF 8,oF 9,oF 10,oF 14,oF 15,oF 16,oF 3,oF 7,oF 11,oF 17,oF 12,oF 18,oF 13,oF 19,oF 20,oF 21,oF 22,oF 23],by kernel_rfl,u3_ (c4_ q3 q4 q5 (c4_ e2 eC @eK (c2_ @Int.toNat_natCast @List.contains_nil.{0}))) ?_⟩
    refine⟨(C,swp D (first+r) (first+C)),aa [] ?_,⟨by rw[<-hz];simp[swp],hR,by simp only[];omega⟩,by simp only[];omega⟩
    refine gf_ @dX ?_;rw[hC2]
   |false=>
    rw[hc2,if_neg (by decide)]at hR
    rw[hR];refine g2_ ?_;exact hk
 ·rw[decide_eq_true (show(hi:Int)<=((2*r+1:Nat):Int)by omega)]
  rw[pQ (by omega)]at hR
  rw[hR];refine g2_ ?_;exact hk
theorem amD(d:Array UInt8)(a b n:Nat)(hn:d.size=n)(hab:a<b)(hb:b<=n)(h50:n<=50){L0:List (List DV)}{ρ σ nb K}(hk:K (.tup []) ⟨ρ,σ,rB 5 32 (heapSort ltU d a b) L0,2,nb⟩):
  CallS Tryz.prog false 236 [.rf 1 0 n,.v (.int .i64 a),.v (.int .i64 b)] ⟨ρ,σ,rB 5 32 d L0,2,nb⟩ K:=by
 refine im_ Tryz.func236 [] (g2_ ?_);have e0:(b:Int)-(a:Int)=((b-a:Nat):Int):=by omega
 have e1:((b-a:Nat):Int)-1=((b-a-1:Nat):Int):=by omega
 obtain⟨H,hH⟩: ∃H,b-a=H:=⟨_,rfl⟩;have hH1:1<=H/\a+H<=n:=by omega
 unfold heapSort at hk;rw[hH]at hk e0 e1;refine gg_ e0 e1 ?_;refine Eq.mpr (fc (a:=H-1) (b:=2) rfl rfl (by omega)) ?_
 refine g2_ ?_;refine av (γ:=Nat×Array UInt8) (fun g=>[(9,.d (.v (.int .i64 ((g.1:Nat)-1:Int))))]) (fun _=>[]) (fun g=>rB 5 32 g.2 L0) 2 (fun g=>g.2.size=n/\heapBuild ltU H a g.1 g.2=heapBuild ltU H a ((H-1) / 2+1) d/\g.1<=H) (fun g=>g.1) ((H-1) / 2+1,d) (aa [] ?_) ⟨hn,rfl,by simp only[];omega⟩ (fun g hg=>?_)
 ·have e2:((((H-1) / 2+1:Nat):Int))-1=(((H-1) / 2:Nat):Int):=by omega
  exact v1_ e2
  first|done|rfl|exact⟨rfl,rfl⟩
 obtain⟨k,D⟩:=g;obtain⟨hz,hR,hk5⟩:=hg;simp only at hz hR hk5 ⊢;refine g2_ ?_;cases k with
 |succ k=>
  have e3:((k+1:Nat):Int)-1=(k:Int):=by omega
  rw[e3,decide_eq_true (show(0:Int)<=(k:Int)by omega)]
  rw[heapBuild]at hR;refine gf_ e3 ?_;refine akB D k H a n hz (by omega) (by omega) h50 ?_
  refine g2_ ?_;refine⟨(k,siftDown ltU H a k D),aa [] ?_,⟨?_,hR,by simp only[];omega⟩,by simp only[];omega⟩
  ·exact ws_
  ·exact(ru _ _ _ _).trans hz
 | zero=>
  rw[show decide ((0:Int)<=((0:Nat):Int)-1)=false from rfl]
  rw[heapBuild]at hR;rw[<-hR]at hk;clear hR;refine gf_ e1 ?_;refine av (γ:=Nat×Array UInt8) (fun g=>[(10,.d (.v (.int .i64 ((g.1:Nat)-1:Int))))]) (fun _=>[]) (fun g=>rB 5 32 g.2 L0) 2 (fun g=>g.2.size=n/\heapPop ltU a g.1 g.2=heapPop ltU a H D/\g.1<=H) (fun g=>g.1) (H,D) (aa [] ?_) ⟨hz,rfl,Nat.le_refl _⟩ (fun g hg=>?_)
  ·exact v1_ e1
   first|done|rfl|exact⟨rfl,rfl⟩
  obtain⟨k,E⟩:=g;obtain⟨hz2,hR,hkH⟩:=hg;simp only at hz2 hR hkH ⊢;refine g2_ ?_;cases k with
  |succ k=>
   have e3:((k+1:Nat):Int)-1=(k:Int):=by omega
   have e4:(a:Int)+(k:Int)=((a+k:Nat):Int):=by omega
   have q1:=aT (d:=E) (i:=a) (by omega)
   have q2:=aT (d:=E) (i:=a+k) (by omega)
   have q3:=dM (d:=E) (i:=a) (j:=a+k) (x:=E[a+k]!) (by omega)
   rw[e3,decide_eq_true (show(0:Int)<=(k:Int)by omega)]
   rw[heapPop]at hR;refine gf_ e3 ?_;refine .inl ⟨[oF 0,oF 1,oF 2,oF 3,oF 4,oF 6,oF 7,oF 8,oF 12,oF 13,oF 5,oF 9,oF 14,oF 10,oF 15,oF 11,oF 16,oF 17,oF 18,oF 19],by kernel_rfl,gf_ (c4_ e3 e4 q1 (c3_ q2 q3 @eK)) ?_⟩
   refine akB (swp E a (a+k)) 0 k a n (by rw[<-hz2];simp[swp]) (by omega) (by omega) h50 ?_
   refine g2_ ?_;refine⟨(k,siftDown ltU k a 0 (swp E a (a+k))),aa [] ?_,⟨?_,hR,by simp only[];omega⟩,by simp only[];omega⟩
   ·exact ws_
   ·exact(ru _ _ _ _).trans (by rw[<-hz2];simp[swp])
  |zero=>
   rw[show decide ((0:Int)<=((0:Nat):Int)-1)=false from rfl]
   rw[heapPop]at hR;rw[hR];refine g2_ ?_;exact hk
end Go.Proofs.YthoihfighiolmaaGreat.V
namespace Go.Eng
open Go.Sort
@[reducible] def rV(T:TypeId)(s:Nat)(H:List (Nat×Row)):List (Nat×Row):=(2,.var T [.v (.int .i64 s)])::H
theorem ab0{d:Array UInt8}{a b s n:Nat}(ha:a<n)(hb:b<n):(order2 ltU d a b s).1<n/\(order2 ltU d a b s).2.1<n/\(order2 ltU d a b s).2.2<=s+1:=by grind [order2]
def akz:Hint->Int
 | .unknown=>0
 | .increasing=>1
 | .decreasing=>2
end Go.Eng
namespace Go.Proofs.YthoihfighiolmaaGreat.V
open Go.Eng Go.Sort
attribute [local go_sem] plR List.map_cons List.map_nil
theorem afO(n:Nat)(hn:n<=26):Con2 Tryz.prog 245 [.v (.int .u64 n)] (· =plR (.v (.int .i64 (bitsLen n)))):=by
 refine en_ Tryz.func245 [.tmp 2] (g2_ ?_);refine g2_ ?_;rw[show decide ((4294967296:Int)<=n)=false from decide_eq_false (by omega)]
 refine g2_ ?_;rw[show decide ((65536:Int)<=n)=false from decide_eq_false (by omega)]
 refine g2_ ?_;rw[show decide ((256:Int)<=n)=false from decide_eq_false (by omega)]
 refine g2_ ?_;refine dx (by omega) ?_
 refine g2_ ?_;refine⟨.int .u8 (bitsLen n),fun w=>?_,?_⟩
 ·iterate 27 (rcases n with _|n; · (show _=_;kernel_rfl))
  omega
 have hb:bitsLen n<=9:=by
  iterate 27 (rcases n with _|n; · decide)
  omega
 refine gf_ @Int.zero_add ?_;exact⟨_,rfl,aa [] (wf_ @Int.zero_add)⟩
theorem pV(n:Nat)(hn:n<=26):Con2 Tryz.prog 156 [.v (.int .u64 n)] (· =plR (.v (.int .i64 (bitsLen n)))):=by
 refine en_ Tryz.func156 [.tmp 2] (g2_ ?_);refine g2_ ?_;refine ce_ (afO n hn) (g2_ ?_);exact⟨_,rfl,aa [] ws_⟩
theorem ae6(d:Array UInt8)(a b s n:Nat)(hn:d.size=n)(ha:a<n)(hb:b<n)(h50:n<=50)(hs:s<=100){L0:List (List DV)}{ρ σ nb K}
  (hk:K (.tup [.v (.int .i64 ((order2 ltU d a b s).1:Nat)),.v (.int .i64 ((order2 ltU d a b s).2.1:Nat))]) ⟨ρ,σ,rV 3 (order2 ltU d a b s).2.2 (rB 5 32 d L0),3,nb⟩):
  CallS Tryz.prog false 357 [.rf 1 0 n,.v (.int .i64 a),.v (.int .i64 b),.pt 2 0] ⟨ρ,σ,rV 3 s (rB 5 32 d L0),3,nb⟩ K:=by
 have q1:=aT (d:=d) (i:=a) (by omega)
 have q2:=aT (d:=d) (i:=b) (by omega)
 have hcc:=eF d[b]! d[a]!;rw[eD]at hcc;refine im_ Tryz.func357 [.tmp 8,.tmp 9] (g2_ ?_);refine g2_ ?_;refine .inl ⟨[oF 0,oF 1,oF 4,oF 5,oF 2,oF 6,oF 3,oF 7,oF 8],by kernel_rfl,?_⟩
 refine gg_ q1 q2 ?_;refine ce_ hcc (g2_ ?_);unfold order2 at hk;cases hc:ltU d[b]! d[a]! with
 |true=>
  rw[hc,if_pos rfl]at hk;have e1:(s:Int)+1=((s+1:Nat):Int):=by omega
  refine gf_ e1 ?_;exact hk
 |false=>
  rw[hc,if_neg (by decide)]at hk
  refine g2_ ?_;exact hk
theorem anU(d:Array UInt8)(a b c s n:Nat)(hn:d.size=n)(ha:a<n)(hb:b<n)(hc:c<n)(h50:n<=50)(hs:s<=50){L0:List (List DV)}{ρ σ nb K}
  (hk:K (.v (.int .i64 ((median ltU d a b c s).1:Nat))) ⟨ρ,σ,rV 3 (median ltU d a b c s).2 (rB 5 32 d L0),3,nb⟩):
  CallS Tryz.prog false 323 [.rf 1 0 n,.v (.int .i64 a),.v (.int .i64 b),.v (.int .i64 c),.pt 2 0] ⟨ρ,σ,rV 3 s (rB 5 32 d L0),3,nb⟩ K:=by
 obtain⟨r1,h1⟩: ∃r,order2 ltU d a b s=r:=⟨_,rfl⟩;have l1:=ab0 (d:=d) (s:=s) ha hb;rw[h1]at l1;obtain⟨r2,h2⟩: ∃r,order2 ltU d r1.2.1 c r1.2.2=r:=⟨_,rfl⟩;have l2:=ab0 (d:=d) (s:=r1.2.2) l1.2.1 hc;rw[h2]at l2;obtain⟨r3,h3⟩: ∃r,order2 ltU d r1.1 r2.1 r2.2.2=r:=⟨_,rfl⟩;have hm:median ltU d a b c s=(r3.2.1,r3.2.2):=by subst h1 h2 h3;rfl
 rw[hm]at hk;obtain⟨a1,a2,a3⟩:=r1;obtain⟨b1,b2,b3⟩:=r2;obtain⟨c1,c2,c3⟩:=r3;simp only at h1 h2 h3 l1 l2 hk;refine im_ Tryz.func323 [.tmp 10] (g2_ ?_);refine g2_ ?_;refine ae6 d a b s n hn ha hb h50 (by omega) ?_
 rw[h1];refine g2_ ?_;refine ae6 d a2 c a3 n hn l1.2.1 hc h50 (by omega) ?_
 rw[h2];refine g2_ ?_;refine ae6 d a1 b1 b3 n hn l1.1 l2.1 h50 (by omega) ?_
 rw[h3];refine g2_ ?_;exact hk
theorem ak8{d:Array UInt8}{a b c:Nat}:(median ltU d a b c 0).2<=3:=by grind [median,order2]
theorem alF(d:Array UInt8)(a b n:Nat)(hn:d.size=n)(hab:a+12<b)(hb:b<=n)(h50:n<50){L0:List (List DV)}{ρ σ nb K}
  (hk: ∀s,K (.tup [.v (.int .i64 ((choosePivot ltU d a b).1:Nat)),.v (.int .i64 (akz (choosePivot ltU d a b).2))]) ⟨ρ,σ,rV 3 s (rB 5 32 d L0),3,nb⟩):
  CallS Tryz.prog false 238 [.rf 1 0 n,.v (.int .i64 a),.v (.int .i64 b)] ⟨ρ,σ,rB 5 32 d L0,2,nb⟩ K:=by
 obtain⟨l,hl⟩: ∃l,b-a=l:=⟨_,rfl⟩;have e0:(b:Int)-(a:Int)=(l:Nat):=by omega
 obtain⟨M,hM⟩: ∃M,median ltU d (a+l / 4*1) (a+l / 4*2) (a+l / 4*3) 0=M:=⟨_,rfl⟩;have hM3:M.2<=3:=by rw[<-hM];exact ak8
 have hc:choosePivot ltU d a b=(M.1,if M.2=0 then .increasing else if M.2=12 then .decreasing else .unknown):=by
  unfold choosePivot;simp only;rw[hl,if_pos (show l≥8 by omega),if_neg (show ¬l≥50 by omega),hM]
 rw[hc]at hk;have e1:(a:Int)+((l / 4:Nat):Int)*1=((a+l / 4*1:Nat):Int):=by omega
 have e2:(a:Int)+((l / 4:Nat):Int)*2=((a+l / 4*2:Nat):Int):=by omega
 have e3:(a:Int)+((l / 4:Nat):Int)*3=((a+l / 4*3:Nat):Int):=by omega
 refine im_ Tryz.func238 [.tmp 6,.tmp 7] (g2_ ?_);refine gf_ e0 ?_;refine Eq.mpr (fc (a:=l) (b:=4) rfl rfl (by omega)) ?_
 refine gf_ e1 ?_;refine Eq.mpr (fc (a:=l) (b:=4) rfl rfl (by omega)) ?_
 refine gf_ e2 ?_;refine Eq.mpr (fc (a:=l) (b:=4) rfl rfl (by omega)) ?_
 refine gf_ e3 ?_;rw[decide_eq_true (show(8:Int)<=(l:Int)by omega)]
 refine g2_ ?_;rw[decide_eq_false (show ¬(50:Int)<=(l:Int)by omega)]
 refine g2_ ?_;refine anU d (a+l / 4*1) (a+l / 4*2) (a+l / 4*3) 0 n hn (by omega) (by omega) (by omega) (by omega) (by omega) ?_
 rw[hM];obtain⟨m,s⟩:=M;simp only at hk hM3 ⊢;have hks:=hk s;refine g2_ ?_
 by_cases h0:s=0
 ·rw[if_pos h0]at hks;rw[show((s:Int)==0)=true by rw[h0];rfl]
  refine g2_ ?_;exact hks
 ·rw[if_neg h0,if_neg (show ¬s=12 by omega)]at hks
  rw[show((s:Int)==0)=false from beq_eq_false_iff_ne.2 (by omega)]
  refine g2_ ?_;rw[show((s:Int)==12)=false from beq_eq_false_iff_ne.2 (by omega)]
  refine g2_ ?_;exact hks
theorem anC(d:Array UInt8)(a b n:Nat)(hn:d.size=n)(hab:a<b)(hb:b<=n)(h50:n<=50){L0:List (List DV)}{ρ σ nb K}
  (hk:K (.tup []) ⟨ρ,σ,rB 5 32 (reverseRange d a b) L0,2,nb⟩):
  CallS Tryz.prog false 239 [.rf 1 0 n,.v (.int .i64 a),.v (.int .i64 b)] ⟨ρ,σ,rB 5 32 d L0,2,nb⟩ K:=by
 unfold reverseRange at hk;have e1:(b:Int)-1=((b-1:Nat):Int):=by omega
 refine im_ Tryz.func239 [] (g2_ ?_);refine gf_ e1 ?_;refine av (γ:=Nat×Nat×Array UInt8) (fun g=>[(6,.d (.v (.int .i64 (g.1:Nat)))),(7,.d (.v (.int .i64 (g.2.1:Nat))))]) (fun _=>[]) (fun g=>rB 5 32 g.2.2 L0) 2 (fun g=>g.2.2.size=n/\reverseLoop g.1 g.2.1 g.2.2=reverseLoop a (b-1) d/\g.2.1<n) (fun g=>g.2.1-g.1) (a,b-1,d) (aa [] ?_) ⟨hn,rfl,by simp only[];omega⟩ (fun g hg=>?_)
 ·repeat first|simp-implicitDefEqProofs only[go_sem,ab]|with_reducible refine gl_ ?_
  first|done|rfl|exact⟨rfl,rfl⟩
 obtain⟨i,j,D⟩:=g;obtain⟨hz,hR,hj⟩:=hg;simp only at hz hR hj ⊢;refine g2_ ?_
 by_cases hlt:i<j
 ·rw[decide_eq_true (show(i:Int)<(j:Int)by omega)]
  rw[reverseLoop,if_pos hlt]at hR;have q1:=aT (d:=D) (i:=i) (by omega)
  have q2:=aT (d:=D) (i:=j) (by omega)
  have q3:=dM (d:=D) (i:=i) (j:=j) (x:=D[j]!) (by omega)
  have e2:(i:Int)+1=((i+1:Nat):Int):=by omega
  have e3:(j:Int)-1=((j-1:Nat):Int):=by omega
  refine g2_ ?_;refine .inl ⟨[oF 0,oF 1,oF 2,oF 3,oF 4,oF 5,oF 8,oF 9,oF 6,oF 10,oF 7,oF 11,oF 12,oF 13,oF 14,oF 15],by kernel_rfl,gf_ (c4_ q1 q2 q3 (c3_ @eK e2 e3)) ?_⟩
  refine⟨(i+1,j-1,swp D i j),aa [] ?_,⟨by rw[<-hz];simp[swp],hR,by simp only[];omega⟩,by simp only[];omega⟩
  repeat first|simp-implicitDefEqProofs only[go_sem,ab,dX]|with_reducible refine gl_ ?_
  first|done|rfl|trace_state
 ·rw[decide_eq_false (show ¬(i:Int)<(j:Int)by omega)]
  rw[reverseLoop,if_neg hlt]at hR;rw[<-hR]at hk;refine g2_ ?_;exact hk
end Go.Proofs.YthoihfighiolmaaGreat.V
namespace Go.Eng
open Go.Sort
theorem fy{P:Program}{Q:Exit->DS->Prop}{ρ:List (Nat×DSV)}{σ:List (Nat×ek)}{H:List (Nat×Row)}{nx nb:Nat}{γ:Type}{body:Code}(pre:γ->List (Nat×DSV))(loc:γ->List (Nat×ek))(Hf:γ->List (Nat×Row))(nx1:Nat)(F:γ->Prop)(μ:γ->Nat)(g0:γ)
  (hle:leD ⟨pre g0++ρ,loc g0++σ,Hf g0,nx1,nb⟩ ⟨ρ,σ,H,nx,nb⟩) (hF:F g0)
  (hround: ∀g,F g->vc2 P body (gI (fun g=>⟨pre g++ρ,loc g++σ,Hf g,nx1,nb⟩) F μ g Q) ⟨pre g++ρ,loc g++σ,Hf g,nx1,nb⟩):vc2 P (.loop body) Q ⟨ρ,σ,H,nx,nb⟩:=
 ⟨γ,fun g=>⟨pre g++ρ,loc g++σ,Hf g,nx1,nb⟩,F,μ,⟨g0,hle,hF⟩,fun g h=>Vc2.of (hround g h)⟩
theorem sR{P:Program}{Q:Exit->DS->Prop}{ds:DS}{γ:Type}{body:Code}(st:γ->DS)(F:γ->Prop)(μ:γ->Nat)(g0:γ)(hle:leD (st g0) ds)(hF:F g0)
  (hround: ∀g,F g->vc2 P body (gI st F μ g Q) (st g)):vc2 P (.loop body) Q ds:=⟨γ,st,F,μ,⟨g0,hle,hF⟩,fun g h=>Vc2.of (hround g h)⟩
section
variable {p:UInt8->Bool} {d D:Array UInt8} {i j a b I J pv:Nat}
theorem oD(h:i<=j)(hp:p d[i]! =true):scanUp p d j i=scanUp p d j (i+1):=by
 conv=>lhs;rw[scanUp]
 rw[if_pos (by simp[h,hp])]
theorem iI(h: ¬i<=j\/p d[i]! =false):scanUp p d j i=i:=by
 rw[scanUp,if_neg (by rcases h with h|h<;>simp[h])]
theorem oP(h:i<=j+1)(hp:p d[j+1]! =true):scanDown p d i (j+1)=scanDown p d i j:=by
 conv=>lhs;rw[scanDown]
 rw[if_pos (by simp[h,hp])]
theorem iq(h: ¬i<=j\/p d[j]! =false):scanDown p d i j=j:=by
 cases j with
 |zero=>rfl
 |succ j=>rw[scanDown,if_neg (by rcases h with h|h<;>simp[h])]
theorem al6(hD:swp d a pv=D)(hI:scanUp (fun x=>ltU x D[a]!) D (b-1) (a+1)=I)(hJ:scanDown (fun x=> !ltU x D[a]!) D I (b-1)=J):
  partition ltU d a b pv=if I>J then (J,true,swp D J a)else ((partLoop ltU a (I+1) (J-1) (swp D I J)).1,false,swp (partLoop ltU a (I+1) (J-1) (swp D I J)).2 (partLoop ltU a (I+1) (J-1) (swp D I J)).1 a):=by
 subst hD hI hJ;rfl
theorem ak7(hI:scanUp (fun x=>ltU x D[a]!) D j i=I)(hJ:scanDown (fun x=> !ltU x D[a]!) D I j=J):
  partLoop ltU a i j D=if I>J then (J,D)else partLoop ltU a (I+1) (J-1) (swp D I J):=by
 subst hI hJ;exact partLoop_eq ltU a i j D
theorem ajV(hI:scanUp (fun x=> !ltU D[a]! x) D j i=I)(hJ:scanDown (fun x=>ltU D[a]! x) D I j=J):
  partEqLoop ltU a i j D=if I>J then (I,D)else partEqLoop ltU a (I+1) (J-1) (swp D I J):=by
 subst hI hJ;exact partEqLoop_eq ltU a i j D
theorem alP(h:b-a<50):partialInsertionSort ltU d a b=(d,decide (scanSorted ltU d b (a+1)=b)):=by
 rw[partialInsertionSort,partialIns_succ]
 by_cases h1:scanSorted ltU d b (a+1)=b
 ·rw[if_pos h1,decide_eq_true h1]
 ·rw[if_neg h1,if_pos h,decide_eq_false h1]
theorem afL(h:i<b)(hp:ltU d[i]! d[i-1]! =false):scanSorted ltU d b i=scanSorted ltU d b (i+1):=by
 conv=>lhs;rw[scanSorted]
 rw[if_pos (by simp[h,hp])]
theorem wM(h: ¬i<b\/ltU d[i]! d[i-1]! =true):scanSorted ltU d b i=i:=by
 rw[scanSorted,if_neg (by rcases h with h|h<;>simp[h])]
end
end Go.Eng
namespace Go.Proofs.YthoihfighiolmaaGreat.V
open Go.Eng Go.Sort
attribute [local go_sem] plR List.map_cons List.map_nil
theorem amX(d:Array UInt8)(a b p n:Nat)(hn:d.size=n)(ha:a<=p)(hp:p<b)(hb:b<=n)(h50:n<=50){L0:List (List DV)}{ρ σ nb K}
  (hk:K (.tup [.v (.int .i64 ((partition ltU d a b p).1:Nat)),.v (.bool (partition ltU d a b p).2.1)]) ⟨ρ,σ,rB 5 32 (partition ltU d a b p).2.2 L0,2,nb⟩):
  CallS Tryz.prog false 243 [.rf 1 0 n,.v (.int .i64 a),.v (.int .i64 b),.v (.int .i64 p)] ⟨ρ,σ,rB 5 32 d L0,2,nb⟩ K:=by
 obtain⟨R,hR⟩: ∃R,partition ltU d a b p=R:=⟨_,rfl⟩;rw[hR]at hk;have q1:=aT (d:=d) (i:=a) (by omega)
 have q2:=aT (d:=d) (i:=p) (by omega)
 have q3:=dM (d:=d) (i:=a) (j:=p) (x:=d[p]!) (by omega)
 have e1:(a:Int)+1=((a+1:Nat):Int):=by omega
 have e2:(b:Int)-1=((b-1:Nat):Int):=by omega
 refine im_ Tryz.func243 [.tmp 8,.tmp 9] (g2_ ?_);refine g2_ ?_;refine .inl ⟨[oF 0,oF 1,oF 2,oF 3,oF 4,oF 5,oF 8,oF 9,oF 6,oF 10,oF 7,oF 11,oF 12,oF 13,oF 14,oF 15],by kernel_rfl,?_⟩
 repeat first|simp-implicitDefEqProofs only[go_sem,ab,q1,q2,q3,eK,Int.toNat_natCast,List.contains_nil,e1,e2]|with_reducible first|refine gl_ ?_|refine ga_ ?_|refine gn_ ?_
 obtain⟨D,hD⟩: ∃D,swp d a p=D:=⟨_,rfl⟩;have hz:D.size=n:=by rw[<-hD, <-hn];simp[swp]
 obtain⟨I,hI⟩: ∃I,scanUp (fun x=>ltU x D[a]!) D (b-1) (a+1)=I:=⟨_,rfl⟩
 obtain⟨J,hJ⟩: ∃J,scanDown (fun x=> !ltU x D[a]!) D I (b-1)=J:=⟨_,rfl⟩
 have hI1:a+1<=I:=by rw[<-hI];exact scanUp_ge _ _ _ _
 have hJ1:J<=b-1:=by rw[<-hJ];exact scanDown_le _ _ _ _
 rw[al6 hD hI hJ]at hR;clear q1 q2 q3;rw[dX,hD];clear hD;refine dg (γ:=Unit) (fun _=>⟨[(10,.d (.v (.int .i64 ((I:Nat):Int)))),(11,.d (.v (.int .i64 (((b-1):Nat):Int)))),(0,.d (.rf 1 0 n)),(1,.d (.v (.int .i64 ((a:Nat):Int))))],[],rB 5 32 D L0,2,2⟩) (fun _=>True) ?_ (fun _ _=>?_)
 ·refine fy (γ:=Nat) (fun k=>[(10,.d (.v (.int .i64 ((k:Nat):Int))))]) (fun _=>[]) (fun _=>rB 5 32 D L0) 2 (fun k=>scanUp (fun x=>ltU x D[a]!) D (b-1) k=I/\(a+1)<=k) (fun k=>(b-1)+1-k) (a+1) (aa [] ?_) ⟨hI,Nat.le_refl _⟩ (fun k hk5=>?_)
  ·exact v1_ @dX
   first|done|rfl|exact⟨rfl,rfl⟩
  obtain⟨hk6,hk7⟩:=hk5;refine g2_ ?_;refine .inl ⟨[oF 0,oF 1,oF 2,oF 3,oF 4,oF 5,oF 8,oF 9,oF 6,oF 10,oF 7,oF 11,oF 12,oF 13],by kernel_rfl,g2_ ?_⟩
  by_cases hle:k<=(b-1)
  ·rw[decide_eq_true (show(k:Int)<=(((b-1):Nat):Int)by omega)]
   have q1:=aT (d:=D) (i:=k) (by omega)
   have q2:=aT (d:=D) (i:=a) (by omega)
   have hcc:=eF D[k]! D[a]!;rw[eD]at hcc;refine gg_ q1 q2 ?_;refine ce_ hcc (g2_ ?_);cases hc:ltU D[k]! D[a]! with
   |true=>
    rw[oD (p:=(fun x=>ltU x D[a]!)) hle (hc)]at hk6
    have e9:(k:Int)+1=((k+1:Nat):Int):=by omega
    refine gf_ e9 ?_;refine⟨k+1,aa [] ?_,⟨hk6,by omega⟩,by omega⟩
    exact v0_
    first|done|rfl|trace_state
   |false=>
    rw[iI (p:=(fun x=>ltU x D[a]!)) (.inr (hc))]at hk6
    refine g2_ ?_;refine⟨(),aa [] ?_⟩;exact v1_ hk6
    first|done|rfl|trace_state
  ·rw[decide_eq_false (show ¬(k:Int)<=(((b-1):Nat):Int)by omega)]
   rw[iI (.inl hle)]at hk6;refine g2_ ?_;refine⟨(),aa [] ?_⟩;exact v1_ hk6
   first|done|rfl|trace_state
 refine g2_ ?_;refine dg (γ:=Unit) (fun _=>⟨[(10,.d (.v (.int .i64 ((I:Nat):Int)))),(11,.d (.v (.int .i64 ((J:Nat):Int)))),(0,.d (.rf 1 0 n)),(1,.d (.v (.int .i64 ((a:Nat):Int))))],[],rB 5 32 D L0,2,2⟩) (fun _=>True) ?_ (fun _ _=>?_)
 ·refine fy (γ:=Nat) (fun k=>[(11,.d (.v (.int .i64 ((k:Nat):Int))))]) (fun _=>[]) (fun _=>rB 5 32 D L0) 2 (fun k=>scanDown (fun x=> !ltU x D[a]!) D I k=J/\k<=(b-1)) (fun k=>k) ((b-1)) (aa [] ?_) ⟨hJ,Nat.le_refl _⟩ (fun k hk5=>?_)
  ·exact v1_ @dX
   first|done|rfl|exact⟨rfl,rfl⟩
  obtain⟨hk6,hk7⟩:=hk5;refine g2_ ?_;refine .inl ⟨[oF 0,oF 1,oF 2,oF 3,oF 4,oF 5,oF 8,oF 9,oF 6,oF 10,oF 7,oF 11,oF 12,oF 13,oF 14],by kernel_rfl,g2_ ?_⟩
  by_cases hle:I<=k
  ·rw[decide_eq_true (show((I:Nat):Int)<=(k:Int)by omega)]
   obtain⟨k,rfl⟩: ∃m,k=m+1:=⟨k-1,by omega⟩
   have q1:=aT (d:=D) (i:=k+1) (by omega)
   have q2:=aT (d:=D) (i:=a) (by omega)
   have hcc:=eF D[k+1]! D[a]!;rw[eD]at hcc;refine gg_ q1 q2 ?_;refine ce_ hcc (g2_ ?_);cases hc:ltU D[k+1]! D[a]! with
   |false=>
    rw[oP (p:=(fun x=> !ltU x D[a]!)) hle (show(!ltU D[k+1]! D[a]!)=true by rw[hc];rfl)]at hk6
    have e9:((k+1:Nat):Int)-1=(k:Int):=by omega
    refine gf_ e9 ?_;refine⟨k,aa [] ?_,⟨hk6,by omega⟩,by omega⟩
    exact v0_
    first|done|rfl|trace_state
   |true=>
    rw[iq (p:=(fun x=> !ltU x D[a]!)) (.inr (show(!ltU D[k+1]! D[a]!)=false by rw[hc];rfl))]at hk6
    refine g2_ ?_;refine⟨(),aa [] ?_⟩;exact v1_ hk6
    first|done|rfl|trace_state
  ·rw[decide_eq_false (show ¬((I:Nat):Int)<=(k:Int)by omega)]
   rw[iq (.inl hle)]at hk6;refine g2_ ?_;refine⟨(),aa [] ?_⟩;exact v1_ hk6
   first|done|rfl|trace_state
 refine g2_ ?_
 by_cases hc:J<I
 ·rw[if_pos hc]at hR;rw[decide_eq_true (show(J:Int)<(I:Int)by omega)]
  have q1:=aT (d:=D) (i:=J) (by omega)
  have q2:=aT (d:=D) (i:=a) (by omega)
  have q3:=dM (d:=D) (i:=J) (j:=a) (x:=D[a]!) (by omega)
  refine g2_ ?_;refine .inl ⟨[oF 0,oF 1,oF 2,oF 3,oF 4,oF 5,oF 8,oF 9,oF 6,oF 10,oF 7,oF 11,oF 12,oF 13,oF 14,oF 15],by kernel_rfl,?_⟩
  subst hR;refine gi_ q1 q2 q3 @eK ?_;exact hk
 ·rw [if_neg hc]at hR;rw[decide_eq_false (show ¬(J:Int)<(I:Int)by omega)]
  have q1:=aT (d:=D) (i:=J) (by omega)
  have q2:=aT (d:=D) (i:=I) (by omega)
  have q3:=dM (d:=D) (i:=I) (j:=J) (x:=D[J]!) (by omega)
  have e3:(I:Int)+1=((I+1:Nat):Int):=by omega
  have e4:(J:Int)-1=((J-1:Nat):Int):=by omega
  refine g2_ ?_;refine .inl ⟨[oF 0,oF 1,oF 2,oF 3,oF 4,oF 5,oF 8,oF 9,oF 6,oF 10,oF 7,oF 11,oF 12,oF 13,oF 14,oF 15],by kernel_rfl,?_⟩
  repeat first|simp-implicitDefEqProofs only[go_sem,ab,q1,q2,q3,eK,Int.toNat_natCast,List.contains_nil,e3,e4]|with_reducible first|refine gl_ ?_|refine ga_ ?_|refine gn_ ?_
  obtain⟨PL,hPL⟩: ∃PL,partLoop ltU a (I+1) (J-1) (swp D I J)=PL:=⟨_,rfl⟩;rw[hPL]at hR;refine dg (γ:=Unit) (fun _=>⟨[(11,.d (.v (.int .i64 ((PL.1:Nat):Int)))),(0,.d (.rf 1 0 n)),(1,.d (.v (.int .i64 ((a:Nat):Int))))],[],rB 5 32 PL.2 L0,2,2⟩) (fun _=>PL.1<b/\PL.2.size=n) ?_ (fun _ hF=>?_)
  ·refine sR (γ:=Nat×Nat×Array UInt8) (fun g=>⟨[(10,.d (.v (.int .i64 ((g.1:Nat):Int)))),(11,.d (.v (.int .i64 ((g.2.1:Nat):Int)))),(0,.d (.rf 1 0 n)),(1,.d (.v (.int .i64 ((a:Nat):Int))))],[],rB 5 32 g.2.2 L0,2,2⟩) (fun g=>g.2.2.size=n/\partLoop ltU a g.1 g.2.1 g.2.2=PL/\a+1<=g.1/\g.2.1<b) (fun g=>g.2.1+1-g.1) (I+1,J-1,swp D I J) (aa [] ?_) ⟨by rw[<-hz];simp[swp],hPL,by simp only[];omega,by simp only[];omega⟩ (fun g hg=>?_)
   ·exact v1_ @dX
    first|done|rfl|exact⟨rfl,rfl⟩
   obtain⟨i,j,E⟩:=g;obtain⟨hz2,hR2,hi,hj⟩:=hg;simp only at hz2 hR2 hi hj ⊢;clear hI hJ q1 q2 q3 e3 e4 hPL;obtain⟨I2,hI⟩: ∃I,scanUp (fun x=>ltU x E[a]!) E j i=I:=⟨_,rfl⟩
   obtain⟨J2,hJ⟩: ∃J,scanDown (fun x=> !ltU x E[a]!) E I2 j=J:=⟨_,rfl⟩
   have hI2:i<=I2:=by rw[<-hI];exact scanUp_ge _ _ _ _
   have hJ2:J2<=j:=by rw[<-hJ];exact scanDown_le _ _ _ _
   rw[ak7 hI hJ]at hR2;refine g2_ ?_;refine dg (γ:=Unit) (fun _=>⟨[(10,.d (.v (.int .i64 ((I2:Nat):Int)))),(11,.d (.v (.int .i64 ((j:Nat):Int)))),(0,.d (.rf 1 0 n)),(1,.d (.v (.int .i64 ((a:Nat):Int))))],[],rB 5 32 E L0,2,2⟩) (fun _=>True) ?_ (fun _ _=>?_)
   ·refine fy (γ:=Nat) (fun k=>[(10,.d (.v (.int .i64 ((k:Nat):Int))))]) (fun _=>[]) (fun _=>rB 5 32 E L0) 2 (fun k=>scanUp (fun x=>ltU x E[a]!) E j k=I2/\i<=k) (fun k=>j+1-k) i (aa [] ?_) ⟨hI,Nat.le_refl _⟩ (fun k hk5=>?_)
    ·exact v1_ @dX
     first|done|rfl|exact⟨rfl,rfl⟩
    obtain⟨hk6,hk7⟩:=hk5;refine g2_ ?_;refine .inl ⟨[oF 0,oF 1,oF 2,oF 3,oF 4,oF 5,oF 8,oF 9,oF 6,oF 10,oF 7,oF 11,oF 12,oF 13],by kernel_rfl,g2_ ?_⟩
    by_cases hle:k<=j
    ·rw[decide_eq_true (show(k:Int)<=((j:Nat):Int)by omega)]
     have q1:=aT (d:=E) (i:=k) (by omega)
     have q2:=aT (d:=E) (i:=a) (by omega)
     have hcc:=eF E[k]! E[a]!;rw[eD]at hcc;refine gg_ q1 q2 ?_;refine ce_ hcc (g2_ ?_);cases hc:ltU E[k]! E[a]! with
     |true=>
      rw[oD (p:=(fun x=>ltU x E[a]!)) hle (hc)]at hk6
      have e9:(k:Int)+1=((k+1:Nat):Int):=by omega
      refine gf_ e9 ?_;refine⟨k+1,aa [] ?_,⟨hk6,by omega⟩,by omega⟩
      exact v0_
      first|done|rfl|trace_state
     |false=>
      rw[iI (p:=(fun x=>ltU x E[a]!)) (.inr (hc))]at hk6
      refine g2_ ?_;refine⟨(),aa [] ?_⟩;exact v1_ hk6
      first|done|rfl|trace_state
    ·rw[decide_eq_false (show ¬(k:Int)<=((j:Nat):Int)by omega)]
     rw[iI (.inl hle)]at hk6;refine g2_ ?_;refine⟨(),aa [] ?_⟩;exact v1_ hk6
     first|done|rfl|trace_state
   refine g2_ ?_;refine dg (γ:=Unit) (fun _=>⟨[(10,.d (.v (.int .i64 ((I2:Nat):Int)))),(11,.d (.v (.int .i64 ((J2:Nat):Int)))),(0,.d (.rf 1 0 n)),(1,.d (.v (.int .i64 ((a:Nat):Int))))],[],rB 5 32 E L0,2,2⟩) (fun _=>True) ?_ (fun _ _=>?_)
   ·refine fy (γ:=Nat) (fun k=>[(11,.d (.v (.int .i64 ((k:Nat):Int))))]) (fun _=>[]) (fun _=>rB 5 32 E L0) 2 (fun k=>scanDown (fun x=> !ltU x E[a]!) E I2 k=J2/\k<=j) (fun k=>k) (j) (aa [] ?_) ⟨hJ,Nat.le_refl _⟩ (fun k hk5=>?_)
    ·exact v1_ @dX
     first|done|rfl|exact⟨rfl,rfl⟩
    obtain⟨hk6,hk7⟩:=hk5;refine g2_ ?_;refine .inl ⟨[oF 0,oF 1,oF 2,oF 3,oF 4,oF 5,oF 8,oF 9,oF 6,oF 10,oF 7,oF 11,oF 12,oF 13,oF 14],by kernel_rfl,g2_ ?_⟩
    by_cases hle:I2<=k
    ·rw[decide_eq_true (show((I2:Nat):Int)<=(k:Int)by omega)]
     obtain⟨k,rfl⟩: ∃m,k=m+1:=⟨k-1,by omega⟩
     have q1:=aT (d:=E) (i:=k+1) (by omega)
     have q2:=aT (d:=E) (i:=a) (by omega)
     have hcc:=eF E[k+1]! E[a]!;rw[eD]at hcc;refine gg_ q1 q2 ?_;refine ce_ hcc (g2_ ?_);cases hc:ltU E[k+1]! E[a]! with
     |false=>
      rw[oP (p:=(fun x=> !ltU x E[a]!)) hle (show(!ltU E[k+1]! E[a]!)=true by rw[hc];rfl)]at hk6
      have e9:((k+1:Nat):Int)-1=(k:Int):=by omega
      refine gf_ e9 ?_;refine⟨k,aa [] ?_,⟨hk6,by omega⟩,by omega⟩
      exact v0_
      first|done|rfl|trace_state
     |true=>
      rw[iq (p:=(fun x=> !ltU x E[a]!)) (.inr (show(!ltU E[k+1]! E[a]!)=false by rw[hc];rfl))]at hk6
      refine g2_ ?_;refine⟨(),aa [] ?_⟩;exact v1_ hk6
      first|done|rfl|trace_state
    ·rw[decide_eq_false (show ¬((I2:Nat):Int)<=(k:Int)by omega)]
     rw[iq (.inl hle)]at hk6;refine g2_ ?_;refine⟨(),aa [] ?_⟩;exact v1_ hk6
     first|done|rfl|trace_state
   refine g2_ ?_
   by_cases hc2:J2<I2
   ·rw[if_pos hc2]at hR2;rw[decide_eq_true (show(J2:Int)<(I2:Int)by omega)]
    subst hR2;refine g2_ ?_;refine⟨(),aa [] ?_,by first|omega|(simp only[];omega),hz2⟩
    exact v0_
    first|done|rfl|trace_state
   ·rw[if_neg hc2]at hR2;rw[decide_eq_false (show ¬(J2:Int)<(I2:Int)by omega)]
    have q1:=aT (d:=E) (i:=J2) (by omega)
    have q2:=aT (d:=E) (i:=I2) (by omega)
    have q3:=dM (d:=E) (i:=I2) (j:=J2) (x:=E[J2]!) (by omega)
    have e3:(I2:Int)+1=((I2+1:Nat):Int):=by omega
    have e4:(J2:Int)-1=((J2-1:Nat):Int):=by omega
    refine g2_ ?_;refine .inl ⟨[oF 0,oF 1,oF 2,oF 3,oF 4,oF 5,oF 8,oF 9,oF 6,oF 10,oF 7,oF 11,oF 12,oF 13,oF 14,oF 15],by kernel_rfl,?_⟩
    repeat first|simp-implicitDefEqProofs only[go_sem,ab,q1,q2,q3,eK,Int.toNat_natCast,List.contains_nil,e3,e4]|with_reducible first|refine gl_ ?_|refine ga_ ?_|refine gn_ ?_
    refine⟨(I2+1,J2-1,swp E I2 J2),aa [] ?_,⟨by rw[<-hz2];simp[swp],hR2,by simp only[];omega,by simp only[];omega⟩,by simp only[];omega⟩
    exact v1_ @dX
    first|done|rfl|trace_state
  ·obtain⟨j,E⟩:=PL;obtain⟨h1,h2⟩:=hF;simp only at h1 h2 hR ⊢;clear q1 q2 q3;have q1:=aT (d:=E) (i:=j) (by omega)
   have q2:=aT (d:=E) (i:=a) (by omega)
   have q3:=dM (d:=E) (i:=j) (j:=a) (x:=E[a]!) (by omega)
   refine g2_ ?_;refine .inl ⟨[oF 0,oF 1,oF 2,oF 3,oF 4,oF 5,oF 8,oF 9,oF 6,oF 10,oF 7,oF 11,oF 12,oF 13,oF 14,oF 15],by kernel_rfl,?_⟩
   subst hR;refine gi_ q1 q2 q3 @eK ?_;exact hk
theorem anQ(d:Array UInt8)(a b p n:Nat)(hn:d.size=n)(ha:a<=p)(hp:p<b)(hb:b<=n)(h50:n<=50){L0:List (List DV)}{ρ σ nb K}
  (hk:K (.v (.int .i64 ((partitionEqual ltU d a b p).1:Nat))) ⟨ρ,σ,rB 5 32 (partitionEqual ltU d a b p).2 L0,2,nb⟩):
  CallS Tryz.prog false 242 [.rf 1 0 n,.v (.int .i64 a),.v (.int .i64 b),.v (.int .i64 p)] ⟨ρ,σ,rB 5 32 d L0,2,nb⟩ K:=by
 obtain⟨R,hR⟩: ∃R,partitionEqual ltU d a b p=R:=⟨_,rfl⟩;rw[hR]at hk;have q1:=aT (d:=d) (i:=a) (by omega)
 have q2:=aT (d:=d) (i:=p) (by omega)
 have q3:=dM (d:=d) (i:=a) (j:=p) (x:=d[p]!) (by omega)
 have e1:(a:Int)+1=((a+1:Nat):Int):=by omega
 have e2:(b:Int)-1=((b-1:Nat):Int):=by omega
 refine im_ Tryz.func242 [.tmp 8] (g2_ ?_);refine g2_ ?_;refine .inl ⟨[oF 0,oF 1,oF 2,oF 3,oF 4,oF 5,oF 8,oF 9,oF 6,oF 10,oF 7,oF 11,oF 12,oF 13,oF 14,oF 15],by kernel_rfl,?_⟩
 repeat first|simp-implicitDefEqProofs only[go_sem,ab,q1,q2,q3,eK,Int.toNat_natCast,List.contains_nil,e1,e2]|with_reducible first|refine gl_ ?_|refine ga_ ?_|refine gn_ ?_
 refine dg (γ:=Unit) (fun _=>⟨[(9,.d (.v (.int .i64 ((R.1:Nat):Int)))),(0,.d (.rf 1 0 n)),(1,.d (.v (.int .i64 ((a:Nat):Int))))],[],rB 5 32 R.2 L0,2,2⟩) (fun _=>True) ?_ (fun _ hF=>?_)
 ·refine sR (γ:=Nat×Nat×Array UInt8) (fun g=>⟨[(9,.d (.v (.int .i64 ((g.1:Nat):Int)))),(10,.d (.v (.int .i64 ((g.2.1:Nat):Int)))),(0,.d (.rf 1 0 n)),(1,.d (.v (.int .i64 ((a:Nat):Int))))],[],rB 5 32 g.2.2 L0,2,2⟩) (fun g=>g.2.2.size=n/\partEqLoop ltU a g.1 g.2.1 g.2.2=R/\a+1<=g.1/\g.2.1<b) (fun g=>g.2.1+1-g.1) (a+1,b-1,swp d a p) (aa [] ?_) ⟨by rw[<-hn];simp[swp],hR,by simp only[];omega,by simp only[];omega⟩ (fun g hg=>?_)
  ·exact v1_ @dX
   first|done|rfl|exact⟨rfl,rfl⟩
  obtain⟨i,j,E⟩:=g;obtain⟨hz2,hR2,hi,hj⟩:=hg;simp only at hz2 hR2 hi hj ⊢;clear hR q1 q2 q3;obtain⟨I2,hI⟩: ∃I,scanUp (fun x=> !ltU E[a]! x) E j i=I:=⟨_,rfl⟩
  obtain⟨J2,hJ⟩: ∃J,scanDown (fun x=>ltU E[a]! x) E I2 j=J:=⟨_,rfl⟩
  have hI2:i<=I2:=by rw[<-hI];exact scanUp_ge _ _ _ _
  have hJ2:J2<=j:=by rw[<-hJ];exact scanDown_le _ _ _ _
  rw[ajV hI hJ]at hR2;refine g2_ ?_;refine dg (γ:=Unit) (fun _=>⟨[(9,.d (.v (.int .i64 ((I2:Nat):Int)))),(10,.d (.v (.int .i64 ((j:Nat):Int)))),(0,.d (.rf 1 0 n)),(1,.d (.v (.int .i64 ((a:Nat):Int))))],[],rB 5 32 E L0,2,2⟩) (fun _=>True) ?_ (fun _ _=>?_)
  ·refine fy (γ:=Nat) (fun k=>[(9,.d (.v (.int .i64 ((k:Nat):Int))))]) (fun _=>[]) (fun _=>rB 5 32 E L0) 2 (fun k=>scanUp (fun x=> !ltU E[a]! x) E j k=I2/\i<=k) (fun k=>j+1-k) i (aa [] ?_) ⟨hI,Nat.le_refl _⟩ (fun k hk5=>?_)
   ·exact v1_ @dX
    first|done|rfl|exact⟨rfl,rfl⟩
   obtain⟨hk6,hk7⟩:=hk5;refine g2_ ?_;refine .inl ⟨[oF 0,oF 1,oF 2,oF 3,oF 4,oF 5,oF 8,oF 9,oF 6,oF 10,oF 7,oF 11,oF 12,oF 13,oF 14],by kernel_rfl,g2_ ?_⟩
   by_cases hle:k<=j
   ·rw[decide_eq_true (show(k:Int)<=((j:Nat):Int)by omega)]
    have q1:=aT (d:=E) (i:=k) (by omega)
    have q2:=aT (d:=E) (i:=a) (by omega)
    have hcc:=eF E[a]! E[k]!;rw[eD]at hcc;refine gg_ q1 q2 ?_;refine ce_ hcc (g2_ ?_);cases hc:ltU E[a]! E[k]! with
    |false=>
     rw[oD (p:=(fun x=> !ltU E[a]! x)) hle (show(!ltU E[a]! E[k]!)=true by rw[hc];rfl)]at hk6
     have e9:(k:Int)+1=((k+1:Nat):Int):=by omega
     refine gf_ e9 ?_;refine⟨k+1,aa [] ?_,⟨hk6,by omega⟩,by omega⟩
     exact v0_
     first|done|rfl|trace_state
    |true=>
     rw[iI (p:=(fun x=> !ltU E[a]! x)) (.inr (show(!ltU E[a]! E[k]!)=false by rw[hc];rfl))]at hk6
     refine g2_ ?_;refine⟨(),aa [] ?_⟩;exact v1_ hk6
     first|done|rfl|trace_state
   ·rw[decide_eq_false (show ¬(k:Int)<=((j:Nat):Int)by omega)]
    rw[iI (.inl hle)]at hk6;refine g2_ ?_;refine⟨(),aa [] ?_⟩;exact v1_ hk6
    first|done|rfl|trace_state
  refine g2_ ?_;refine dg (γ:=Unit) (fun _=>⟨[(9,.d (.v (.int .i64 ((I2:Nat):Int)))),(10,.d (.v (.int .i64 ((J2:Nat):Int)))),(0,.d (.rf 1 0 n)),(1,.d (.v (.int .i64 ((a:Nat):Int))))],[],rB 5 32 E L0,2,2⟩) (fun _=>True) ?_ (fun _ _=>?_)
  ·refine fy (γ:=Nat) (fun k=>[(10,.d (.v (.int .i64 ((k:Nat):Int))))]) (fun _=>[]) (fun _=>rB 5 32 E L0) 2 (fun k=>scanDown (fun x=>ltU E[a]! x) E I2 k=J2/\k<=j) (fun k=>k) (j) (aa [] ?_) ⟨hJ,Nat.le_refl _⟩ (fun k hk5=>?_)
   ·exact v1_ @dX
    first|done|rfl|exact⟨rfl,rfl⟩
   obtain⟨hk6,hk7⟩:=hk5;refine g2_ ?_;refine .inl ⟨[oF 0,oF 1,oF 2,oF 3,oF 4,oF 5,oF 8,oF 9,oF 6,oF 10,oF 7,oF 11,oF 12,oF 13],by kernel_rfl,g2_ ?_⟩
   by_cases hle:I2<=k
   ·rw[decide_eq_true (show((I2:Nat):Int)<=(k:Int)by omega)]
    obtain⟨k,rfl⟩: ∃m,k=m+1:=⟨k-1,by omega⟩
    have q1:=aT (d:=E) (i:=k+1) (by omega)
    have q2:=aT (d:=E) (i:=a) (by omega)
    have hcc:=eF E[a]! E[k+1]!;rw[eD]at hcc;refine gg_ q1 q2 ?_;refine ce_ hcc (g2_ ?_);cases hc:ltU E[a]! E[k+1]! with
    |true=>
     rw[oP (p:=(fun x=>ltU E[a]! x)) hle (hc)]at hk6
     have e9:((k+1:Nat):Int)-1=(k:Int):=by omega
     refine gf_ e9 ?_;refine⟨k,aa [] ?_,⟨hk6,by omega⟩,by omega⟩
     exact v0_
     first|done|rfl|trace_state
    |false=>
     rw[iq (p:=(fun x=>ltU E[a]! x)) (.inr (hc))]at hk6
     refine g2_ ?_;refine⟨(),aa [] ?_⟩;exact v1_ hk6
     first|done|rfl|trace_state
   ·rw[decide_eq_false (show ¬((I2:Nat):Int)<=(k:Int)by omega)]
    rw[iq (.inl hle)]at hk6;refine g2_ ?_;refine⟨(),aa [] ?_⟩;exact v1_ hk6
    first|done|rfl|trace_state
  refine g2_ ?_
  by_cases hc2:J2<I2
  ·rw[if_pos hc2]at hR2;rw[decide_eq_true (show(J2:Int)<(I2:Int)by omega)]
   subst hR2;refine g2_ ?_;refine⟨(),aa [] ?_⟩;exact v0_
   first|done|rfl|trace_state
  ·rw[if_neg hc2]at hR2;rw[decide_eq_false (show ¬(J2:Int)<(I2:Int)by omega)]
   have q1:=aT (d:=E) (i:=J2) (by omega)
   have q2:=aT (d:=E) (i:=I2) (by omega)
   have q3:=dM (d:=E) (i:=I2) (j:=J2) (x:=E[J2]!) (by omega)
   have e3:(I2:Int)+1=((I2+1:Nat):Int):=by omega
   have e4:(J2:Int)-1=((J2-1:Nat):Int):=by omega
   refine g2_ ?_;refine .inl ⟨[oF 0,oF 1,oF 2,oF 3,oF 4,oF 5,oF 8,oF 9,oF 6,oF 10,oF 7,oF 11,oF 12,oF 13,oF 14,oF 15],by kernel_rfl,?_⟩
   repeat first|simp-implicitDefEqProofs only[go_sem,ab,q1,q2,q3,eK,Int.toNat_natCast,List.contains_nil,e3,e4]|with_reducible first|refine gl_ ?_|refine ga_ ?_|refine gn_ ?_
   refine⟨(I2+1,J2-1,swp E I2 J2),aa [] ?_,⟨by rw[<-hz2];simp[swp],hR2,by simp only[];omega,by simp only[];omega⟩,by simp only[];omega⟩
   exact v1_ @dX
   first|done|rfl|trace_state
 ·refine g2_ ?_;exact hk
theorem am7(d:Array UInt8)(a b n:Nat)(hn:d.size=n)(hab:a<b)(hb:b<=n)(h50:n<50){L0:List (List DV)}{ρ σ nb K}
  (hk:K (.v (.bool (decide (scanSorted ltU d b (a+1)=b)))) ⟨ρ,σ,rB 5 32 d L0,2,nb⟩):
  CallS Tryz.prog false 240 [.rf 1 0 n,.v (.int .i64 a),.v (.int .i64 b)] ⟨ρ,σ,rB 5 32 d L0,2,nb⟩ K:=by
 obtain⟨I,hI⟩: ∃I,scanSorted ltU d b (a+1)=I:=⟨_,rfl⟩;rw[hI]at hk;have e1:(a:Int)+1=((a+1:Nat):Int):=by omega
 refine im_ Tryz.func240 [.tmp 6] (g2_ ?_);refine gf_ e1 ?_;refine av (γ:=Unit) (fun _=>[]) (fun _=>[]) (fun _=>rB 5 32 d L0) 2 (fun _=>True) (fun _=>0) () (aa [] (by simp-implicitDefEqProofs only[go_sem,ab];first|done|rfl|exact⟨rfl,rfl⟩)) trivial (fun i hi=>?_)
 refine g2_ ?_;rw[show decide ((0:Int)<5)=true from rfl]
 refine g2_ ?_;refine dg (γ:=Unit) (fun _=>⟨[(7,.d (.v (.int .i64 ((I:Nat):Int)))),(2,.d (.v (.int .i64 ((b:Nat):Int)))),(0,.d (.rf 1 0 n)),(1,.d (.v (.int .i64 ((a:Nat):Int))))],[],rB 5 32 d L0,2,2⟩) (fun _=>True) ?_ (fun _ _=>?_)
 ·refine fy (γ:=Nat) (fun k=>[(7,.d (.v (.int .i64 ((k:Nat):Int))))]) (fun _=>[]) (fun _=>rB 5 32 d L0) 2 (fun k=>scanSorted ltU d b k=I/\a+1<=k) (fun k=>b-k) (a+1) (aa [] ?_) ⟨hI,Nat.le_refl _⟩ (fun k hk5=>?_)
  ·exact v0_
   first|done|rfl|exact⟨rfl,rfl⟩
  obtain⟨hk6,hk7⟩:=hk5;refine g2_ ?_;refine .inl ⟨[oF 0,oF 1,oF 2,oF 3,oF 4,oF 5,oF 8,oF 9,oF 6,oF 10,oF 7,oF 11,oF 12,oF 13,oF 14,oF 15],by kernel_rfl,g2_ ?_⟩
  by_cases hle:k<b
  ·rw[decide_eq_true (show(k:Int)<(b:Int)by omega)]
   have q1:=aT (d:=d) (i:=k) (by omega)
   have q2:=aT (d:=d) (i:=k-1) (by omega)
   have e9:(k:Int)-1=((k-1:Nat):Int):=by omega
   have e10:(k:Int)+1=((k+1:Nat):Int):=by omega
   have hcc:=eF d[k]! d[k-1]!;rw[eD]at hcc;refine gh_ q1 q2 e9 ?_;refine ce_ hcc (g2_ ?_);cases hc:ltU d[k]! d[k-1]! with
   |false=>
    rw[afL hle hc]at hk6;refine gf_ e10 ?_;refine⟨k+1,aa [] ?_,⟨hk6,by omega⟩,by omega⟩
    exact v0_
    first|done|rfl|trace_state
   |true=>
    rw[wM (.inr hc)]at hk6;refine g2_ ?_;refine⟨(),aa [] ?_⟩;exact v1_ hk6
    first|done|rfl|trace_state
  ·rw[decide_eq_false (show ¬(k:Int)<(b:Int)by omega)]
   rw[wM (.inl hle)]at hk6;refine g2_ ?_;refine⟨(),aa [] ?_⟩;exact v1_ hk6
   first|done|rfl|trace_state
 ·refine g2_ ?_
  by_cases hb2:I=b
  ·rw[show((I:Int)==(b:Int))=true by rw[hb2];exact beq_self_eq_true _]
   rw[decide_eq_true hb2]at hk;refine g2_ ?_;exact hk
  ·rw[show((I:Int)==(b:Int))=false from beq_eq_false_iff_ne.2 (by omega)]
   rw[decide_eq_false hb2]at hk;refine g2_ ?_;rw[decide_eq_true (show(b:Int)-(a:Int)<50 by omega)]
   refine g2_ ?_;exact hk
end Go.Proofs.YthoihfighiolmaaGreat.V
namespace Go.Eng
open Go.Sort
section
variable {P:Program} {T:TypeId} {y z:Operand} {Kv:Value->Prop} {k2:IntKind}
theorem oI{a:Int}(h: ∀w:Nat,w<18446744073709551616->Kv (.int .u64 w)):Kv (.int .u64 (IntKind.u64.wrap a)):=by
 have e:IntKind.u64.wrap a=a % 18446744073709551616:=by
  simp only[IntKind.wrap,show IntKind.u64.bits=64 from rfl,show IntKind.u64.signed=false from rfl,Bool.false_and,Bool.false_eq_true,if_false]
  rfl
 rw[e];obtain⟨w,hw⟩: ∃w:Nat,a % 18446744073709551616=(w:Int):=⟨(a % 18446744073709551616).toNat,by omega⟩
 rw[hw];exact h w (by omega)
theorem uv{a b:Int}(h: ∀w:Nat,w<18446744073709551616->Kv (.int .u64 w)):AtPure P (bm .xor T y z (.int .u64 a) (.int .u64 b)) Kv:=by
 rw[aiw];exact oI h
theorem abM{a:Int}{b:Int}(hb:0<=b)(h: ∀w:Nat,w<18446744073709551616->Kv (.int .u64 w)):AtPure P (bm .shl T y z (.int .u64 a) (.int k2 b)) Kv:=by
 rw[ab2 hb];exact oI h
theorem aiN{a:Nat}{b:Int}(hb:0<=b)(ha:a<18446744073709551616)(h: ∀w:Nat,w<18446744073709551616->Kv (.int .u64 w)):AtPure P (bm .shr T y z (.int .u64 a) (.int k2 b)) Kv:=by
 rw[tE hb];generalize min b.toNat IntKind.u64.bits=m
 have e:(a:Int).fdiv (2^m)=((a / 2^m:Nat):Int):=by
  rw[Int.fdiv_eq_ediv_of_nonneg _ (Int.le_of_lt (Int.pow_pos (by decide)))]
  simp
 rw[e];exact h _ (Nat.lt_of_le_of_lt (Nat.div_le_self _ _) ha)
theorem abj{a m:Nat}(hm:m<18446744073709551616)(h: ∀w:Nat,w<=m->Kv (.int .u64 w)):AtPure P (bm .and T y z (.int .u64 a) (.int .u64 m)) Kv:=by
 rw[ajX]
 have e:(BitVec.ofInt IntKind.u64.bits (m:Int)).toNat=m:=by
  show(BitVec.ofInt 64 (m:Int)).toNat=m;rw[BitVec.ofInt_natCast,BitVec.toNat_ofNat];exact Nat.mod_eq_of_lt hm
 have h1:(BitVec.ofInt IntKind.u64.bits (a:Int) &&& BitVec.ofInt IntKind.u64.bits (m:Int)).toNat<=m:=by
  rw[BitVec.toNat_and,e];exact Nat.and_le_right
 generalize (BitVec.ofInt IntKind.u64.bits (a:Int) &&& BitVec.ofInt IntKind.u64.bits (m:Int)).toNat=w at h1;have e2:IntKind.u64.wrap (w:Int)=w:=IntWalk.u64_in _ ⟨by omega,by omega⟩
 rw[e2];exact h w h1
theorem xC{l:Nat}(h1:13<=l)(h2:l<=26):1<=2^bitsLen l/\2^bitsLen l<=2*l:=by
 obtain⟨m,rfl⟩: ∃m,l=13+m:=⟨l-13,by omega⟩
 iterate 14 (rcases m with _|m; · decide)
 omega
end
end Go.Eng
namespace Go.Proofs.YthoihfighiolmaaGreat.V
open Go.Eng Go.Sort
attribute [local go_sem] plR List.map_cons List.map_nil
theorem am5(l:Nat)(h1:13<=l)(h2:l<=26):Con2 Tryz.prog 320 [.v (.int .i64 l)] (· =plR (.v (.int .u64 (2^bitsLen l:Nat)))):=by
 have hp:=xC h1 h2
 have hb:bitsLen l<=64:=by
  obtain⟨m,rfl⟩: ∃m,l=13+m:=⟨l-13,by omega⟩
  iterate 14 (rcases m with _|m; · decide)
  omega
 refine en_ Tryz.func320 [.tmp 2] (g2_ ?_);refine g2_ ?_;refine fX (by omega) ?_
 refine g2_ ?_;refine ce_ (pV l h2) (g2_ ?_)
 rw[ab2 (by omega),show(1:Int)*2^min ((bitsLen l:Nat):Int).toNat IntKind.u64.bits=((2^bitsLen l:Nat):Int)by
  rw[Int.toNat_natCast,Nat.min_eq_left (show bitsLen l<=IntKind.u64.bits from hb)];simp]
 refine fX (by omega) ?_
 refine g2_ ?_;exact⟨_,rfl,aa [] ws_⟩
theorem amN(d:Array UInt8)(x:Nat)(hx:x<18446744073709551616){L0:List (List DV)}{ρ σ nb K}(hk: ∀y:Nat,y<18446744073709551616->K (.v (.int .u64 y)) ⟨ρ,σ,(2,.var 318 [.v (.int .u64 y)])::rB 5 32 d L0,3,nb⟩):
  CallS Tryz.prog false 321 [.pt 2 0] ⟨ρ,σ,(2,.var 318 [.v (.int .u64 x)])::rB 5 32 d L0,3,nb⟩ K:=by
 refine im_ Tryz.func321 [.tmp 2] (g2_ ?_);refine g2_ ?_;refine .inl ⟨[oF 0,oF 3,oF 1,oF 4,oF 2,oF 5,oF 6,oF 7,oF 8,oF 9],by kernel_rfl,g2_ ?_⟩
 refine abM (by omega) (fun x1 h1=>?_)
 refine g2_ ?_;refine uv (fun x2 h2=>?_)
 refine g2_ ?_;refine .inl ⟨[oF 0,oF 3,oF 1,oF 4,oF 2,oF 5,oF 6,oF 7,oF 8,oF 9],by kernel_rfl,g2_ ?_⟩
 refine aiN (by omega) h2 (fun x3 h3=>?_)
 refine g2_ ?_;refine uv (fun x4 h4=>?_)
 refine g2_ ?_;refine .inl ⟨[oF 0,oF 3,oF 1,oF 4,oF 2,oF 5,oF 6,oF 7,oF 8,oF 9],by kernel_rfl,g2_ ?_⟩
 refine abM (by omega) (fun x5 h5=>?_)
 refine g2_ ?_;refine uv (fun x6 h6=>?_)
 refine g2_ ?_;exact hk x6 h6
theorem alh(d:Array UInt8)(a b n:Nat)(hn:d.size=n)(hab:a+12<b)(hb:b<=n)(h26:n<=26){L0:List (List DV)}{ρ σ nb K}
  (hk: ∀D x,D.size=n->PermIn a b d D->K (.tup []) ⟨ρ,σ,(2,.var 318 [.v (.int .u64 (x:Nat))])::rB 5 32 D L0,3,nb⟩):
  CallS Tryz.prog false 237 [.rf 1 0 n,.v (.int .i64 a),.v (.int .i64 b)] ⟨ρ,σ,rB 5 32 d L0,2,nb⟩ K:=by
 obtain⟨l,hl⟩: ∃l,b-a=l:=⟨_,rfl⟩;have hl1:13<=l/\l<=26:=by omega
 have hp:=xC hl1.1 hl1.2;have kn:=am5 l hl1.1 hl1.2;obtain⟨M,hM⟩: ∃M,2^bitsLen l=M:=⟨_,rfl⟩;rw[hM]at hp kn;clear hM;have e0:(b:Int)-(a:Int)=((l:Nat):Int):=by omega
 have e1:(a:Int)+((l / 4:Nat):Int)*2-1=((a+l / 4*2-1:Nat):Int):=by omega
 have e2:(a:Int)+((l / 4:Nat):Int)*2+1=((a+l / 4*2+1:Nat):Int):=by omega
 have e3:(M:Int)-1=((M-1:Nat):Int):=by omega
 have hl4:3<=l / 4/\l / 4*4<=l:=by omega
 obtain⟨lo,hlo⟩: ∃lo,a+l / 4*2-1=lo:=⟨_,rfl⟩;rw[hlo]at e1;refine im_ Tryz.func237 [] (g2_ ?_);refine gf_ e0 ?_;rw[decide_eq_true (show(8:Int)<=(l:Int)by omega)]
 refine g2_ ?_;refine fX (by omega) ?_
 refine g2_ ?_;refine ce_ kn (g2_ ?_);refine Eq.mpr (fc (a:=l) (b:=4) rfl rfl (by omega)) ?_
 refine gf_ e1 ?_
 refine vj (γ:=Option (Nat×Nat×Array UInt8)) (fun g=>match g with
  |none=>⟨[(9,.d (.v (.int .i64 (lo:Nat)))),(7,.loc 7 0),(8,.d (.v (.int .u64 (M:Nat)))),(6,.d (.v (.int .i64 (l:Nat)))),(0,.d (.rf 1 0 n)),(1,.d (.v (.int .i64 (a:Nat))))],[(7,⟨[.v (.int .u64 (l:Nat))],318⟩)],rB 5 32 d L0,2,2⟩
  |some (i,x,D)=>⟨[(9,.d (.v (.int .i64 (i:Nat)))),(7,.d (.pt 2 0)),(8,.d (.v (.int .u64 (M:Nat)))),(6,.d (.v (.int .i64 (l:Nat)))),(0,.d (.rf 1 0 n)),(1,.d (.v (.int .i64 (a:Nat))))],[],(2,.var 318 [.v (.int .u64 (x:Nat))])::rB 5 32 D L0,3,2⟩)
  (fun g=>match g with
  |none=>True
  |some (i,x,D)=>D.size=n/\PermIn a b d D/\lo<=i/\i<=a+l / 4*2+2/\x<18446744073709551616) (fun g=>match g with
  |none=>a+l / 4*2+2-lo
  |some (i,_,_)=>a+l / 4*2+2-i) none (aa [] ?_) trivial (fun g hg=>?_)
 ·repeat first|simp-implicitDefEqProofs only[go_sem,ab]|with_reducible refine gl_ ?_
  first|done|rfl|exact⟨rfl,rfl⟩
 match g,hg with
 | none,_=>
  have hx:l<18446744073709551616:=by omega
  have hpm:=permIn_refl d a b;simp only;refine g2_ ?_;refine Eq.mpr (fc (a:=l) (b:=4) rfl rfl (by omega)) ?_
  refine gf_ e2 ?_;rw[decide_eq_true (show(lo:Int)<=((a+l / 4*2+1:Nat):Int)by omega)]
  refine g2_ ?_;refine amN d l hx (fun y hy=>?_)
  refine gf_ e3 ?_;refine fX (by omega) ?_
  refine g2_ ?_;refine abj (m:=M-1) (by omega) (fun w hw=>?_)
  refine g2_ ?_
  by_cases hwl:l<=w
  ·rw[decide_eq_true (show(l:Int)<=(w:Int)by omega)]
   have e4:(w:Int)-(l:Int)=((w-l:Nat):Int):=by omega
   obtain⟨O,hO⟩: ∃O,w-l=O:=⟨_,rfl⟩;rw[hO]at e4;have hOl:O<l:=by omega
   refine gf_ e4 ?_;have q1:=aT (d:=d) (i:=lo) (by omega)
   have q2:=aT (d:=d) (i:=a+O) (by omega)
   have q3:=dM (d:=d) (i:=lo) (j:=a+O) (x:=d[a+O]!) (by omega)
   have e8:(a:Int)+(O:Int)=((a+O:Nat):Int):=by omega
   have e9:(lo:Int)+1=((lo+1:Nat):Int):=by omega
   refine g2_ ?_;refine .inl ⟨[oF 0,oF 1,oF 2,oF 3,oF 4,oF 6,oF 7,oF 8,oF 12,oF 13,oF 5,oF 9,oF 14,oF 10,oF 15,oF 11,oF 16,oF 17,oF 18,oF 19],by kernel_rfl,gf_ (c4_ q1 q2 q3 (c3_ @eK e8 e9)) ?_⟩
   refine⟨some (lo+1,y,swp d lo (a+O)),aa [] ?_,⟨by rw[<-hn];simp[swp],permIn_trans _ _ _ _ _ hpm (swp_permIn d a b lo (a+O) (by omega) (by omega) (by omega) (by omega) (by omega)),by omega,by omega,hy⟩,by simp only[];omega⟩
   repeat first|simp-implicitDefEqProofs only[go_sem,ab,dX]|with_reducible refine gl_ ?_
   first|done|rfl|exact⟨rfl,rfl⟩
  ·rw[decide_eq_false (show ¬(l:Int)<=(w:Int)by omega)]
   obtain⟨O,hO⟩: ∃O,w=O:=⟨_,rfl⟩;subst hO;have hOl:w<l:=by omega
   obtain⟨O,hO⟩: ∃O,w=O:=⟨_,rfl⟩;rw[hO]at hOl ⊢;refine g2_ ?_;have q1:=aT (d:=d) (i:=lo) (by omega)
   have q2:=aT (d:=d) (i:=a+O) (by omega)
   have q3:=dM (d:=d) (i:=lo) (j:=a+O) (x:=d[a+O]!) (by omega)
   have e8:(a:Int)+(O:Int)=((a+O:Nat):Int):=by omega
   have e9:(lo:Int)+1=((lo+1:Nat):Int):=by omega
   refine g2_ ?_;refine .inl ⟨[oF 0,oF 1,oF 2,oF 3,oF 4,oF 6,oF 7,oF 8,oF 12,oF 13,oF 5,oF 9,oF 14,oF 10,oF 15,oF 11,oF 16,oF 17,oF 18,oF 19],by kernel_rfl,?_⟩
   repeat first|simp-implicitDefEqProofs only[go_sem,ab,q1,q2,q3,eK,e8,e9,Int.toNat_natCast,List.contains_nil]|with_reducible first|refine gl_ ?_|refine ga_ ?_|refine gn_ ?_
   refine⟨some (lo+1,y,swp d lo (a+O)),aa [] ?_,⟨by rw[<-hn];simp[swp],permIn_trans _ _ _ _ _ hpm (swp_permIn d a b lo (a+O) (by omega) (by omega) (by omega) (by omega) (by omega)),by omega,by omega,hy⟩,by simp only[];omega⟩
   repeat first|simp-implicitDefEqProofs only[go_sem,ab,dX]|with_reducible refine gl_ ?_
   first|done|rfl|exact⟨rfl,rfl⟩
 | some (idx,x,D),⟨hz,hpm,hi1,hi2,hx⟩=>
  simp only
  by_cases hlt:idx<=a+l / 4*2+1
  ·refine g2_ ?_;refine Eq.mpr (fc (a:=l) (b:=4) rfl rfl (by omega)) ?_
   refine gf_ e2 ?_;rw[decide_eq_true (show(idx:Int)<=((a+l / 4*2+1:Nat):Int)by omega)]
   refine g2_ ?_;refine amN D x hx (fun y hy=>?_)
   refine gf_ e3 ?_;refine fX (by omega) ?_
   refine g2_ ?_;refine abj (m:=M-1) (by omega) (fun w hw=>?_)
   refine g2_ ?_
   by_cases hwl:l<=w
   ·rw[decide_eq_true (show(l:Int)<=(w:Int)by omega)]
    have e4:(w:Int)-(l:Int)=((w-l:Nat):Int):=by omega
    obtain⟨O,hO⟩: ∃O,w-l=O:=⟨_,rfl⟩;rw[hO]at e4;have hOl:O<l:=by omega
    refine gf_ e4 ?_;have q1:=aT (d:=D) (i:=idx) (by omega)
    have q2:=aT (d:=D) (i:=a+O) (by omega)
    have q3:=dM (d:=D) (i:=idx) (j:=a+O) (x:=D[a+O]!) (by omega)
    have e8:(a:Int)+(O:Int)=((a+O:Nat):Int):=by omega
    have e9:(idx:Int)+1=((idx+1:Nat):Int):=by omega
    refine g2_ ?_;refine .inl ⟨[oF 0,oF 1,oF 2,oF 3,oF 4,oF 6,oF 7,oF 8,oF 12,oF 13,oF 5,oF 9,oF 14,oF 10,oF 15,oF 11,oF 16,oF 17,oF 18,oF 19],by kernel_rfl,?_⟩
    repeat first|simp-implicitDefEqProofs only[go_sem,ab,q1,q2,q3,eK,e8,e9,Int.toNat_natCast,List.contains_nil]|with_reducible first|refine gl_ ?_|refine ga_ ?_|refine gn_ ?_
    refine⟨some (idx+1,y,swp D idx (a+O)),aa [] ?_,⟨by rw[<-hz];simp[swp],permIn_trans _ _ _ _ _ hpm (swp_permIn D a b idx (a+O) (by omega) (by omega) (by omega) (by omega) (by omega)),by omega,by omega,hy⟩,by simp only[];omega⟩
    repeat first|simp-implicitDefEqProofs only[go_sem,ab,dX]|with_reducible refine gl_ ?_
    first|done|rfl|exact⟨rfl,rfl⟩
   ·rw[decide_eq_false (show ¬(l:Int)<=(w:Int)by omega)]
    obtain⟨O,hO⟩: ∃O,w=O:=⟨_,rfl⟩;subst hO;have hOl:w<l:=by omega
    obtain⟨O,hO⟩: ∃O,w=O:=⟨_,rfl⟩;rw[hO]at hOl ⊢;refine g2_ ?_;have q1:=aT (d:=D) (i:=idx) (by omega)
    have q2:=aT (d:=D) (i:=a+O) (by omega)
    have q3:=dM (d:=D) (i:=idx) (j:=a+O) (x:=D[a+O]!) (by omega)
    have e8:(a:Int)+(O:Int)=((a+O:Nat):Int):=by omega
    have e9:(idx:Int)+1=((idx+1:Nat):Int):=by omega
    refine g2_ ?_;refine .inl ⟨[oF 0,oF 1,oF 2,oF 3,oF 4,oF 6,oF 7,oF 8,oF 12,oF 13,oF 5,oF 9,oF 14,oF 10,oF 15,oF 11,oF 16,oF 17,oF 18,oF 19],by kernel_rfl,?_⟩
    repeat first|simp-implicitDefEqProofs only[go_sem,ab,q1,q2,q3,eK,e8,e9,Int.toNat_natCast,List.contains_nil]|with_reducible first|refine gl_ ?_|refine ga_ ?_|refine gn_ ?_
    refine⟨some (idx+1,y,swp D idx (a+O)),aa [] ?_,⟨by rw[<-hz];simp[swp],permIn_trans _ _ _ _ _ hpm (swp_permIn D a b idx (a+O) (by omega) (by omega) (by omega) (by omega) (by omega)),by omega,by omega,hy⟩,by simp only[];omega⟩
    repeat first|simp-implicitDefEqProofs only[go_sem,ab,dX]|with_reducible refine gl_ ?_
    first|done|rfl|exact⟨rfl,rfl⟩
  ·refine g2_ ?_;refine Eq.mpr (fc (a:=l) (b:=4) rfl rfl (by omega)) ?_
   refine gf_ e2 ?_;rw[decide_eq_false (show ¬(idx:Int)<=((a+l / 4*2+1:Nat):Int)by omega)]
   refine g2_ ?_;exact hk D x hz hpm
theorem anZ(n:Nat)(h26:n<=26){L0:List (List DV)}: ∀(m:Nat) (d:Array UInt8) (a b lim:Nat),d.size=n->a<=b->b<=n->lim<=30->b-a<=m->Below ltU a b d-> ∀{ρ σ nb K},
  (∀d',PermIn a b d d'->SortedIn ltU a b d'->K (.tup []) ⟨ρ,σ,rB 5 32 d' L0,2,nb⟩)->
  CallS Tryz.prog false 155 [.rf 1 0 n,.v (.int .i64 a),.v (.int .i64 b),.v (.int .i64 lim)] ⟨ρ,σ,rB 5 32 d L0,2,nb⟩ K:=by
 intro m
 induction m using Nat.strongRecOn with
 |ind m ih=>
 intro d0 a0 b0 lim0 hn0 hab0 hb0 hlm0 hm0 hbl0 ρ σ nb K hk;refine im_ Tryz.func155 [] (g2_ ?_);refine g2_ ?_
 refine aeJ (γ:=Nat×Nat×Nat×Bool×Bool×Array UInt8) (fun g=>⟨[(1,.d (.v (.int .i64 (g.1:Nat)))),(2,.d (.v (.int .i64 (g.2.1:Nat)))),(3,.d (.v (.int .i64 (g.2.2.1:Nat)))),(8,.d (.v (.bool g.2.2.2.1))),(9,.d (.v (.bool g.2.2.2.2.1))),(0,.d (.rf 1 0 n))],[],rB 5 32 g.2.2.2.2.2 L0,2,2⟩)
  (fun g=>g.2.2.2.2.2.size=n/\g.1<=g.2.1/\g.2.1<=n/\g.2.2.1<=30/\g.2.1-g.1<=m/\Todo (fun D=>K (.tup []) ⟨ρ,σ,rB 5 32 D L0,2,nb⟩) g.1 g.2.1 g.2.2.2.2.2/\Below ltU g.1 g.2.1 g.2.2.2.2.2) (fun g=>g.2.1-g.1) (a0,b0,lim0,true,true,d0) (aa [] ?_) ⟨hn0,hab0,hb0,hlm0,hm0,hk,hbl0⟩ (fun g hg=>?_)
 ·exact v0_
  first|done|rfl|exact⟨rfl,rfl⟩
 obtain⟨a,b,lim,wb,wp,d⟩:=g;obtain⟨hn,hab,hb,hlm,hm,hT,hbl⟩:=hg;simp only at hn hab hb hlm hm hT hbl ⊢;obtain⟨l,hl⟩: ∃l,b-a=l:=⟨_,rfl⟩;have e0:(b:Int)-(a:Int)=((l:Nat):Int):=by omega
 refine Vc2.blockV (Vc2.seqJ (γ:=Unit) (fun _=>⟨[(10,.d (.v (.int .i64 (l:Nat)))),(1,.d (.v (.int .i64 (a:Nat)))),(2,.d (.v (.int .i64 (b:Nat)))),(3,.d (.v (.int .i64 (lim:Nat)))),(8,.d (.v (.bool wb))),(9,.d (.v (.bool wp))),(0,.d (.rf 1 0 n))],[],rB 5 32 d L0,2,2⟩) (fun _=>True) ?_ (fun _ _=>?_))
 ·refine gf_ e0 ?_;refine⟨(),aa [] ?_⟩;exact v0_
  first|done|rfl|exact⟨rfl,rfl⟩
 refine Vc2.seqJ (γ:=Unit) (fun _=>⟨[(10,.d (.v (.int .i64 (l:Nat)))),(1,.d (.v (.int .i64 (a:Nat)))),(2,.d (.v (.int .i64 (b:Nat)))),(3,.d (.v (.int .i64 (lim:Nat)))),(8,.d (.v (.bool wb))),(9,.d (.v (.bool wp))),(0,.d (.rf 1 0 n))],[],rB 5 32 d L0,2,2⟩) (fun _=>12<l) ?_ (fun _ h12=>?_)
 ·refine g2_ ?_
  by_cases h12:l<=12
  ·rw[decide_eq_true (show(l:Int)<=12 by omega)]
   refine g2_ ?_;refine anW d a b n hn hab hb (by omega) ?_
   refine g2_ ?_;obtain⟨s1,s2⟩:=insertionSort_holds swoU d a b hab (by omega)
   exact hT _ s1 s2
  rw[decide_eq_false (show ¬(l:Int)<=12 by omega)]
  refine g2_ ?_;refine⟨(),aa [] ?_,by omega⟩
  exact v0_
  first|done|rfl|exact⟨rfl,rfl⟩
 refine Vc2.seqJ (γ:=Unit) (fun _=>⟨[(10,.d (.v (.int .i64 (l:Nat)))),(1,.d (.v (.int .i64 (a:Nat)))),(2,.d (.v (.int .i64 (b:Nat)))),(3,.d (.v (.int .i64 (lim:Nat)))),(8,.d (.v (.bool wb))),(9,.d (.v (.bool wp))),(0,.d (.rf 1 0 n))],[],rB 5 32 d L0,2,2⟩) (fun _=>0<lim) ?_ (fun _ h0=>?_)
 ·refine g2_ ?_
  by_cases h0:lim=0
  ·rw[show((lim:Int)==0)=true by rw[h0];rfl]
   refine g2_ ?_;refine amD d a b n hn (by omega) hb (by omega) ?_
   refine g2_ ?_;obtain⟨s1,s2⟩:=heapSort_holds swoU d a b hab (by omega)
   exact hT _ s1 s2
  rw[show((lim:Int)==0)=false from beq_eq_false_iff_ne.2 (by omega)]
  refine g2_ ?_;refine⟨(),aa [] ?_,by omega⟩
  exact v0_
  first|done|rfl|exact⟨rfl,rfl⟩
 refine Vc2.seqJ (γ:=Nat×Array UInt8) (fun g=>⟨[(10,.d (.v (.int .i64 (l:Nat)))),(1,.d (.v (.int .i64 (a:Nat)))),(2,.d (.v (.int .i64 (b:Nat)))),(3,.d (.v (.int .i64 (g.1:Nat)))),(8,.d (.v (.bool wb))),(9,.d (.v (.bool wp))),(0,.d (.rf 1 0 n))],[],rB 5 32 g.2 L0,2,2⟩) (fun g=>g.1<=30/\g.2.size=n/\PermIn a b d g.2) ?_ (fun g hg=>?_)
 ·refine g2_ ?_;refine iX (fun hwb=>?_) (fun hwb=>?_)
  ·refine g2_ ?_;refine⟨(lim,d),aa [] ?_,hlm,hn,permIn_refl _ _ _⟩;exact v0_
   first|done|rfl|exact⟨rfl,rfl⟩
  ·refine g2_ ?_;refine alh d a b n hn (by omega) hb h26 (fun D x h1 h2=>?_)
   have e1:(lim:Int)-1=((lim-1:Nat):Int):=by omega
   refine gf_ e1 ?_;refine⟨(lim-1,D),aa [] ?_,by simp only[];omega,h1,h2⟩
   exact v0_
   first|done|rfl|exact⟨rfl,rfl⟩
 obtain⟨lm,D1⟩:=g;obtain⟨hlm1,hz1,hp1⟩:=hg;simp only at hlm1 hz1 hp1 ⊢;refine Vc2.seqJ (γ:=Nat×Int) (fun g=>⟨[(11,.d (.v (.int .i64 (g.1:Nat)))),(12,.d (.v (.int .i64 g.2))),(10,.d (.v (.int .i64 (l:Nat)))),(1,.d (.v (.int .i64 (a:Nat)))),(2,.d (.v (.int .i64 (b:Nat)))),(3,.d (.v (.int .i64 (lm:Nat)))),(8,.d (.v (.bool wb))),(9,.d (.v (.bool wp))),(0,.d (.rf 1 0 n))],[],rB 5 32 D1 L0,2,2⟩) (fun g=>a<=g.1/\g.1<b) ?_ (fun g hg=>?_)
 ·refine g2_ ?_;refine alF D1 a b n hz1 (by omega) hb (by omega) (fun s=>?_)
  obtain⟨hpa,hpb⟩:=choosePivot_holds ltU D1 a b (by omega)
  generalize choosePivot ltU D1 a b=PV at hpa hpb ⊢;obtain⟨p1,hint⟩:=PV;simp only at hpa hpb ⊢;refine g2_ ?_;refine⟨(p1,akz hint),aa [] ?_,hpa,hpb⟩;exact v0_
  first|done|rfl|exact⟨rfl,rfl⟩
 obtain⟨p1,hi1⟩:=g;obtain⟨hpa,hpb⟩:=hg;simp only at hpa hpb ⊢;refine Vc2.seqJ (γ:=Nat×Int×Array UInt8) (fun g=>⟨[(11,.d (.v (.int .i64 (g.1:Nat)))),(12,.d (.v (.int .i64 g.2.1))),(10,.d (.v (.int .i64 (l:Nat)))),(1,.d (.v (.int .i64 (a:Nat)))),(2,.d (.v (.int .i64 (b:Nat)))),(3,.d (.v (.int .i64 (lm:Nat)))),(8,.d (.v (.bool wb))),(9,.d (.v (.bool wp))),(0,.d (.rf 1 0 n))],[],rB 5 32 g.2.2 L0,2,2⟩) (fun g=>a<=g.1/\g.1<b/\g.2.2.size=n/\PermIn a b d g.2.2) ?_ (fun g hg=>?_)
 ·refine g2_ ?_;refine iX (fun hh=>?_) (fun hh=>?_)
  ·refine g2_ ?_;refine anC D1 a b n hz1 (by omega) hb (by omega) ?_
   have e2:(b:Int)-1=((b-1:Nat):Int):=by omega
   have e3:(p1:Int)-(a:Int)=((p1-a:Nat):Int):=by omega
   have e4:((b-1:Nat):Int)-((p1-a:Nat):Int)=((b-1-(p1-a):Nat):Int):=by omega
   have hr:=reverseRange_holds D1 a b hab (by omega)
   refine gh_ e2 e3 e4 ?_;refine⟨(b-1-(p1-a),1,reverseRange D1 a b),aa [] ?_,by simp only[];omega,by simp only[];omega,hr.1.trans hz1,permIn_trans _ _ _ _ _ hp1 hr⟩
   exact v0_
   first|done|rfl|exact⟨rfl,rfl⟩
  ·refine g2_ ?_;refine⟨(p1,hi1,D1),aa [] ?_,hpa,hpb,hz1,hp1⟩;exact v0_
   first|done|rfl|exact⟨rfl,rfl⟩
 obtain⟨p,hi,D⟩:=g;clear hpa hpb;obtain⟨hpa,hpb,hz,hpm⟩:=hg;simp only at hpa hpb hz hpm ⊢;have hT:=hT.perm hpm;have hbl:=hbl.perm (by omega) hpm
 clear hp1 hz1 hpm;refine Vc2.seqJ (γ:=Unit) (fun _=>⟨[(11,.d (.v (.int .i64 (p:Nat)))),(10,.d (.v (.int .i64 (l:Nat)))),(1,.d (.v (.int .i64 (a:Nat)))),(2,.d (.v (.int .i64 (b:Nat)))),(3,.d (.v (.int .i64 (lm:Nat)))),(8,.d (.v (.bool wb))),(9,.d (.v (.bool wp))),(0,.d (.rf 1 0 n))],[],rB 5 32 D L0,2,2⟩) (fun _=>True) ?_ (fun _ _=>?_)
 ·cases wb with
  |false=>
   refine g2_ ?_;refine⟨(),aa [] ?_⟩;exact v0_
   first|done|rfl|exact⟨rfl,rfl⟩
  | true=>
   cases wp with
   |false=>
    refine g2_ ?_;refine⟨(),aa [] ?_⟩;exact v0_
    first|done|rfl|exact⟨rfl,rfl⟩
   | true=>
    refine g2_ ?_;refine iX (fun hh=>?_) (fun hh=>?_)
    ·refine g2_ ?_;refine am7 D a b n hz (by omega) hb (by omega) ?_
     have hpi:=partialInsertionSort_holds swoU D a b (by omega) (by omega) hbl
     rw[alP (by omega)]at hpi
     simp only at hpi;refine g2_ ?_;refine iX (fun hs=>?_) (fun hs=>?_)
     ·refine g2_ ?_;exact hT _ hpi.1 (hpi.2 hs)
     ·refine g2_ ?_;refine⟨(),aa [] ?_⟩;exact v0_
      first|done|rfl|exact⟨rfl,rfl⟩
    ·refine g2_ ?_;refine⟨(),aa [] ?_⟩;exact v0_
     first|done|rfl|exact⟨rfl,rfl⟩
 refine Vc2.seqJ (γ:=Unit) (fun _=>⟨[(11,.d (.v (.int .i64 (p:Nat)))),(10,.d (.v (.int .i64 (l:Nat)))),(1,.d (.v (.int .i64 (a:Nat)))),(2,.d (.v (.int .i64 (b:Nat)))),(3,.d (.v (.int .i64 (lm:Nat)))),(8,.d (.v (.bool wb))),(9,.d (.v (.bool wp))),(0,.d (.rf 1 0 n))],[],rB 5 32 D L0,2,2⟩) (fun _=>True) ?_ (fun _ _=>Vc2.of ?_)
 ·refine g2_ ?_;refine .inl ⟨[oF 0,oF 1,oF 2,oF 3,oF 4,oF 8,oF 9,oF 5,oF 10,oF 6,oF 11,oF 7,oF 12,oF 13,oF 14],by kernel_rfl,g2_ ?_⟩
  have q2:=aT (d:=D) (i:=p) (by omega)
  by_cases ha:0<a
  ·rw[decide_eq_true (show(0:Int)<(a:Int)by omega)]
   have q1:=aT (d:=D) (i:=a-1) (by omega)
   have e1:(a:Int)-1=((a-1:Nat):Int):=by omega
   have hcc:=eF D[a-1]! D[p]!;rw[eD]at hcc;refine gh_ q1 q2 e1 ?_;refine ce_ hcc (g2_ ?_);cases hc:ltU D[a-1]! D[p]! with
   |true=>
    refine g2_ ?_;refine⟨(),aa [] ?_⟩;exact v0_
    first|done|rfl|exact⟨rfl,rfl⟩
   |false=>
    have hge: ∀i,a<=i->i<b->ltU D[i]! D[p]! =false:=fun i h1 h2=>swoU.ntrans _ _ _ ((hbl.resolve_left (by omega)) i h1 h2) hc
    obtain⟨s1,s2,s3,s4,s5⟩:=partitionEqual_holds ltU swoU D a b p hpa hpb (by omega) hge
    refine g2_ ?_;refine anQ D a b p n hz hpa hpb hb (by omega) ?_
    generalize partitionEqual ltU D a b p=R at s1 s2 s3 s4 s5 ⊢;obtain⟨mid,D2⟩:=R;simp only at s1 s2 s3 s4 s5 ⊢;obtain⟨t1,t2⟩:=hT.equal (by omega) s1 s2 s3 s4 s5 hge
    refine g2_ ?_;refine⟨(mid,b,lm,wb,wp,D2),aa [] ?_,⟨s3.1.trans hz,by simp only[];omega,hb,hlm1,by simp only[];omega,t1,t2⟩,by simp only[];omega⟩
    exact v0_
    first|done|rfl|exact⟨rfl,rfl⟩
  ·rw[decide_eq_false (show ¬(0:Int)<(a:Int)by omega)]
   refine g2_ ?_;refine⟨(),aa [] ?_⟩;exact v0_
   first|done|rfl|exact⟨rfl,rfl⟩
 obtain⟨s1,s2,s3,s4,s5⟩:=partition_holds ltU swoU D a b p hpa hpb (by omega)
 refine g2_ ?_;refine amX D a b p n hz hpa hpb hb (by omega) ?_
 generalize partition ltU D a b p=R at s1 s2 s3 s4 s5 ⊢;obtain⟨mid,al,D2⟩:=R;simp only at s1 s2 s3 s4 s5 ⊢;have hz2:D2.size=n:=s3.1.trans hz;have e1:(mid:Int)-(a:Int)=((mid-a:Nat):Int):=by omega
 have e2:(b:Int)-(mid:Int)=((b-mid:Nat):Int):=by omega
 have e3:(mid:Int)+1=((mid+1:Nat):Int):=by omega
 refine gg_ e1 e2 ?_;refine Eq.mpr (fc (a:=l) (b:=8) rfl rfl (by omega)) ?_
 refine g2_ ?_
 by_cases hlr:mid-a<b-mid
 ·rw[decide_eq_true (show((mid-a:Nat):Int)<((b-mid:Nat):Int)by omega)]
  refine g2_ ?_;refine ih (mid-a) (by omega) D2 a mid lm hz2 s1 (by omega) hlm1 (Nat.le_refl _) ((hbl.perm (by omega) s3).mono (by omega)) (fun D3 g1 g2=>?_)
  obtain⟨t1,t2⟩:=hT.right (by omega) s1 s2 s3 s4 s5 g1 g2
  refine gf_ e3 ?_;refine⟨(mid+1,b,lm,decide (((l / 8:Nat):Int)<=((mid-a:Nat):Int)),al,D3),aa [] ?_,⟨g1.1.trans hz2,by simp only[];omega,hb,hlm1,by simp only[];omega,t1,t2⟩,by simp only[];omega⟩
  exact v0_
  first|done|rfl|exact⟨rfl,rfl⟩
 ·rw[decide_eq_false (show ¬((mid-a:Nat):Int)<((b-mid:Nat):Int)by omega)]
  refine gf_ e3 ?_;refine ih (b-(mid+1)) (by omega) D2 (mid+1) b lm hz2 (by omega) hb hlm1 (Nat.le_refl _) (.inr fun i h1 h2=>by rw[Nat.add_sub_cancel];exact s5 i (by omega) h2) (fun D3 g1 g2=>?_)
  obtain⟨t1,t2⟩:=hT.left (by omega) s1 s2 s3 s4 s5 hbl g1 g2
  refine g2_ ?_;refine⟨(a,mid,lm,decide (((l / 8:Nat):Int)<=((b-mid:Nat):Int)),al,D3),aa [] ?_,⟨g1.1.trans hz2,s1,by simp only[];omega,hlm1,by simp only[];omega,t1,t2⟩,by simp only[];omega⟩
  exact v0_
  first|done|rfl|exact⟨rfl,rfl⟩
theorem yF(l:List UInt8)(hl:l.length<=26){L0:List (List DV)}{ρ σ nb K}(hk:K (.tup []) ⟨ρ,σ,[(1,.arr 5 1 ((aG ltU l).map aQ) false),(0,.arr 32 1 L0 false)],2,nb⟩):
  CallS Tryz.prog false 79 [.rf 1 0 l.length] ⟨ρ,σ,[(1,.arr 5 1 (l.map aQ) false),(0,.arr 32 1 L0 false)],2,nb⟩ K:=by
 rw[amM]
 have hbl:bitsLen l.length<=30:=by
  generalize l.length=n at hl
  iterate 27 (rcases n with _|n; · decide)
  omega
 refine im_ Tryz.func79 [] (g2_ ?_);refine g2_ ?_;refine fX (by omega) ?_
 refine g2_ ?_;refine ce_ (pV l.length hl) (g2_ ?_);refine anZ l.length hl l.length l.toArray 0 l.length (bitsLen l.length) (by simp) (Nat.zero_le _) (Nat.le_refl _) hbl (by omega) (.inl rfl) (fun d' h1 h2=>?_)
 have e:=zf l d' h1 h2;simp only at e;have e2:bR d'=(aG ltU l).map aQ:=by rw[bR,e]
 rw[<-e2]at hk;refine g2_ ?_;exact hk
theorem abh(p:ah)(h1:p.view.length<=300)(h2:p.near.length<=300)(h4:p.ring.succ.filter.length<=4000000)(h5:p.ring.pred.filter.length<=4000000)(h12:(cy p).length<=26):Con2 Tryz.prog 21 [.agg (ak p)] (· =plR (.fz 1 ((bA p).map aQ))):=by grind [aea,yF,cy]
