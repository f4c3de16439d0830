import Derived.Test.YthoihfighiolmaaGreatPt27
set_option linter.unusedSectionVars false
set_option linter.unusedSimpArgs false
set_option linter.unusedVariables false
set_option maxRecDepth 10000
namespace Go.Eng
structure an where
 inc:UInt16
 state:UInt8
 quiet:UInt8
deriving DecidableEq
structure cO where
 node:UInt8
 inc:UInt16
 seq:UInt32
deriving DecidableEq
structure ami where
 inc:UInt16
 pre:UInt32
 bits:UInt64
deriving DecidableEq
structure aaA where
 id:GID
 vals:List Int
 data:List UInt8
deriving DecidableEq
structure b9 where
 hs:Bool
 hp:Bool
 succ:GDesc
 pred:GDesc
deriving DecidableEq
structure anA where
 room:Int
 evs:List aaA
deriving DecidableEq
structure ah where
 node:UInt8
 inc:UInt16
 up:Bool
 filter:List GSpan
 view:List GDesc
 near:List GDesc
 ring:b9
 wait:GW
 table:List an
 count:UInt32
 heard:List cO
 seq:UInt32
 rows:List ami
 reports:List (List cO)
 buf:anA
 pulls:List GAsk
 passed:Int
 evicted:Int
 collected:Int
deriving DecidableEq
structure ar where
 nodes:Int
 schema:List GSpan
 view:Int
 swap:Int
 near:Int
 fanout:Int
 hops:Int
 window:Int
 buffer:Int
 pulls:Int
 patience:Int
 suspect:Int
 out:Int
 pool:Int
 last:UInt32
deriving DecidableEq
def aE(m:an):List DV:=[.v (.int .u16 m.inc.toNat),.v (.int .u8 m.state.toNat),.v (.int .u8 m.quiet.toNat)]
def a_(m:cO):List DV:=[.v (.int .u8 m.node.toNat),.v (.int .u16 m.inc.toNat),.v (.int .u32 m.seq.toNat)]
def bj(m:ami):List DV:=[.v (.int .u16 m.inc.toNat),.v (.int .u32 m.pre.toNat),.v (.int .u64 m.bits.toNat)]
def dE(x:Int):List DV:=[.v (.int .i32 x)]
def bk(e:aaA):List DV:=[.v (.int .u8 e.id.node.toNat),.v (.int .u16 e.id.inc.toNat),.v (.int .u32 e.id.seq.toNat),.fz 1 (e.vals.map dE),.fz 1 (e.data.map aQ)]
def cR(a:GAsk):List DV:=[.v (.int .u8 a.id.node.toNat),.v (.int .u16 a.id.inc.toNat),.v (.int .u32 a.id.seq.toNat),.v (.int .u8 a.frm.toNat),.v (.int .u8 a.left.toNat)]
def aH(r:b9):List DV:=[.v (.bool r.hs),.v (.bool r.hp),.v (.int .u8 r.succ.node.toNat),.v (.int .u16 r.succ.inc.toNat),.v (.int .u8 r.succ.age.toNat),.fz 2 (r.succ.filter.map aP),
 .v (.int .u8 r.pred.node.toNat),.v (.int .u16 r.pred.inc.toNat),.v (.int .u8 r.pred.age.toNat),.fz 2 (r.pred.filter.map aP)]
def eI(w:GW):List DV:=[.v (.bool w.some),.v (.int .u8 w.node.toNat),.v (.int .u8 w.left.toNat),fzD w.sent]
def ak(p:ah):List DV:=[.v (.int .u8 p.node.toNat),.v (.int .u16 p.inc.toNat),.v (.bool p.up),.fz 2 (p.filter.map aP),fzD p.view,fzD p.near,
 .v (.bool p.ring.hs),.v (.bool p.ring.hp),.v (.int .u8 p.ring.succ.node.toNat),.v (.int .u16 p.ring.succ.inc.toNat),.v (.int .u8 p.ring.succ.age.toNat),.fz 2 (p.ring.succ.filter.map aP),
 .v (.int .u8 p.ring.pred.node.toNat),.v (.int .u16 p.ring.pred.inc.toNat),.v (.int .u8 p.ring.pred.age.toNat),.fz 2 (p.ring.pred.filter.map aP),
 .v (.bool p.wait.some),.v (.int .u8 p.wait.node.toNat),.v (.int .u8 p.wait.left.toNat),fzD p.wait.sent,
 .fz 3 (p.table.map aE),.v (.int .u32 p.count.toNat),.fz 3 (p.heard.map a_),.v (.int .u32 p.seq.toNat),.fz 3 (p.rows.map bj),.fz 1 (p.reports.map fun l=>[.fz 3 (l.map a_)]),
 .v (.int .i64 p.buf.room),.fz 5 (p.buf.evs.map bk),.fz 5 (p.pulls.map cR),.v (.int .i64 p.passed),.v (.int .i64 p.evicted),.v (.int .i64 p.collected)]
def aC(c:ar):List DV:=[.v (.int .i64 c.nodes),.fz 2 (c.schema.map aP),.v (.int .i64 c.view),.v (.int .i64 c.swap),.v (.int .i64 c.near),.v (.int .i64 c.fanout),.v (.int .i64 c.hops),.v (.int .i64 c.window),
 .v (.int .i64 c.buffer),.v (.int .i64 c.pulls),.v (.int .i64 c.patience),.v (.int .i64 c.suspect),.v (.int .i64 c.out),.v (.int .i64 c.pool),.v (.int .u32 c.last.toNat)]
def gB(z:List DV)(L:List (List DV))(k:Nat):List (List DV):=L.take k++List.replicate (L.length-k) z
section
variable {z:List DV} {L:List (List DV)} {k:Nat}
theorem eQ(h:k<=L.length):(gB z L k).length=L.length:=by grind [gB]
theorem n9:gB z L 0=List.replicate L.length z:=by simp[gB]
theorem jK:gB z L L.length=L:=by simp[gB]
theorem eS(h:k<L.length):(gB z L k)[k]? =some z:=by grind [gB]
theorem j9(h:k<L.length):(gB z L k).set k L[k]=gB z L (k+1):=by
 have hl:(L.take k).length=k:=by rw[List.length_take];omega
 unfold gB;rw[List.set_append_right _ _ (by omega),hl,Nat.sub_self,show L.length-k=(L.length-(k+1))+1 from by omega,List.replicate_succ,List.set_cons_zero,List.take_add_one,List.getElem?_eq_getElem h,List.append_assoc]
 rfl
end
def cg(n:Nat):List cO:=(List.range n).map fun i=>⟨UInt8.ofNat i,0,0⟩
theorem cT(n:Nat):(cg n).length=n:=by simp[cg]
def ch(s:List GSpan):Bool:=decide (1<=s.length/\s.length<=4)&&s.all fun x=>decide (x.a<=x.b)
def inR(a b c:Int):Bool:=decide (b<=a)&&decide (a<=c)
def aB(c:ar):Bool:=inR c.nodes 2 12&&ch c.schema&&inR c.view 1 12&&inR c.swap 1 12&&decide (c.swap<=c.view)&&inR c.near 0 12&&inR c.fanout 0 12&&inR c.hops 0 12&&inR c.window 1 64&&inR c.buffer 1 64
 &&inR c.pulls 1 64&&inR c.patience 1 255&&inR c.suspect 1 255&&inR c.out 1 1000&&inR c.pool 1 10000&&decide (1<=c.last.toNat)
end Go.Eng
namespace Go.Proofs.YthoihfighiolmaaGreat.V
open Go.Eng
attribute [local go_sem] aP af fzD plR bb a_ aE aC
theorem aau(n:Nat)(hn:n<=256):Con2 Tryz.prog 121 [.v (.int .i64 n)] (· =bb 57 3 ((cg n).map a_)):=by
 have hl:((cg n).map a_).length=n:=by rw[List.length_map,cT]
 generalize hL:(cg n).map a_=L at hl;refine en_ Tryz.func121 [.tmp 2] (g2_ ?_);refine g2_ ?_;refine ay n (fun k=>[]) (fun _=>[]) (fun k=>[(0,.arr 57 3 (gB [.v (.int .u8 0),.v (.int .u16 0),.v (.int .u32 0)] L k) false)]) 1 (fun _=>True) (aa [] ?_) trivial (fun g k=>ws_) (by omega) (fun g=>ws_) (fun k hk _=>?_) (fun _=>?_)
 ·refine gf_ (c2_ @n9 hl) ?_
  first|rfl|exact⟨rfl,rfl⟩
 ·have hk2:k<L.length:=by omega
  have hge:L[k]=a_ ⟨UInt8.ofNat k,0,0⟩:=by subst hL;simp[cg]
  repeat first|simp-implicitDefEqProofs only[go_sem,ab,eS hk2,eQ (Nat.le_of_lt hk2),List.contains_nil]|with_reducible first|refine gl_ ?_|refine ga_ ?_|refine gn_ ?_
  refine dx (by omega) ?_
  repeat first|simp-implicitDefEqProofs only[go_sem,ab,eS hk2,eQ (Nat.le_of_lt hk2),List.contains_nil]|with_reducible first|refine gl_ ?_|refine ga_ ?_|refine gn_ ?_
  refine⟨k+1,aa [] ?_,rfl⟩;refine g2_ ?_;rw[<-j9 hk2,hge];have e:((UInt8.ofNat k).toNat:Int)=k:=by rw[UInt8.toNat_ofNat'];omega
  simp only[a_,e];rfl
 ·subst hl;refine g2_ ?_;exact⟨_,rfl,aa [] (wf_ @jK)⟩
theorem sI(n:Nat)(hn:n<=256):Con2 Tryz.prog 121 [.v (.int .i64 n)] (· =plR (.fz 3 ((cg n).map a_))):=
 (aau n hn).emb (by simp[embD,lk,rfD,List.take_of_length_le]) rfl
theorem afR(n:Nat)(hn:n<=256):Con2 Tryz.prog 50 [.v (.int .i64 n)] (· =plR (.fz 1 ((List.replicate n (cg n)).map fun l=>[.fz 3 (l.map a_)]))):=by
 have h:Con2 Tryz.prog 50 [.v (.int .i64 n)] (· =bb 40 1 (List.replicate n [.fz 3 ((cg n).map a_)])):=by
  refine en_ Tryz.func50 [.tmp 2] (g2_ ?_);refine g2_ ?_;rw[show(if (256:Int)<(n:Int)then (256:Int)else (n:Int))=n by rw[if_neg (by omega)]]
  refine av (γ:=Nat) (fun i=>[(4,.d (.v (.int .i64 (i:Nat)))),(3,.d (.rf 0 0 i))]) (fun _=>[]) (fun i=>[(0,.arr 40 1 (List.replicate i [.fz 3 ((cg n).map a_)]) false)]) 1 (fun i=>i<=n) (fun i=>n-i) 0 (aa [(0,.nil 1)] ?_) (by omega) (fun i hi=>?_)
  ·repeat first|simp-implicitDefEqProofs only[go_sem,ab,List.replicate]|with_reducible refine gl_ ?_
   first|rfl|exact⟨rfl,rfl⟩
  ·refine gx_ ?_;refine aq (fun h=>?_) (fun h=>?_)
   ·refine gx_ ?_;refine ce_ (sI n hn) (gx_ ?_);refine⟨i+1,aa [(0,.to 2)] ?_,by omega,by omega⟩
    repeat first|simp-implicitDefEqProofs only[go_sem,ab,List.replicate_succ',List.length_append]|with_reducible refine gl_ ?_
    first|rfl|exact⟨rfl,rfl⟩
   ·obtain rfl:i=n:=by omega
    refine gx_ ?_;exact⟨_,rfl,aa [(0,.to 0)] wx_⟩
 refine h.emb ?_ rfl;simp[embD,lk,rfD]
theorem xg(l:List GSpan)(hl:l.length<=1000000000):Con2 Tryz.prog 47 [.fz 2 (l.map aP)] (· =plR (.v (.bool (ch l)))):=by
 refine en_ Tryz.func47 [.tmp 2] (g2_ ?_);refine g2_ ?_;refine ic (fun h=>?_) (fun h=>?_)
 ·rw [h];refine g2_ ?_;have h0:1<=l.length:=by have:=of_decide_eq_false h;omega
  by_cases h1:4<l.length
  ·have h2:ch l=false:=by simp[ch];omega
   rw[show decide ((4:Int)<(l.length:Int))=true from decide_eq_true (by omega)]
   refine g2_ ?_;exact⟨_,rfl,aa [] (wf_ h2)⟩
  ·rw [show decide ((4:Int)<(l.length:Int))=false from decide_eq_false (by omega)]
   refine g2_ ?_;refine ay l.length (fun k=>[]) (fun _=>[]) (fun k=>[]) 0 (fun k=>(l.take k).all (fun x=>decide (x.a<=x.b))=true) (aa [] ?_) rfl (fun g k=>ws_) (by omega) (fun g=>ws_) (fun k hk hF=>?_) (fun hF=>?_)
   ·refine g2_ ?_
    first|rfl|exact⟨rfl,rfl⟩
   ·refine gf_ (mE_ hk) ?_;refine aq (fun h3=>?_) (fun h3=>?_)
    ·have h2:ch l=false:=by
      simp only[ch,Bool.and_eq_false_iff];refine .inr (List.all_eq_false.2 ⟨l[k],List.getElem_mem hk,?_⟩);simp;omega
     refine g2_ ?_;exact⟨_,rfl,aa [] (wf_ h2)⟩
    ·refine g2_ ?_;refine⟨k+1,aa [] ws_,rfl,?_⟩;rw[List.take_add_one,List.getElem?_eq_getElem hk,List.all_append,hF];simp;omega
   ·have h2:ch l=true:=by
     rw[List.take_of_length_le (Nat.le_refl _)]at hF;rw[ch,hF];simp;omega
    refine g2_ ?_;exact⟨_,rfl,aa [] (wf_ h2)⟩
 ·have h1:l.length<1:=by have:=of_decide_eq_true h;omega
  have h2:ch l=false:=by simp[ch];omega
  rw[h];refine g2_ ?_;exact⟨_,rfl,aa [] (wf_ h2)⟩
theorem ee(a b c:Int):Con2 Tryz.prog 46 [.v (.int .i64 a),.v (.int .i64 b),.v (.int .i64 c)] (· =plR (.v (.bool (inR a b c)))):=by
 refine en_ Tryz.func46 [.tmp 6] (g2_ ?_);refine g2_ ?_;refine ic (fun h=>?_) (fun h=>?_)
 all_goals
  refine gf_ (c2_ @inR.eq_1 h) ?_;exact⟨_,rfl,aa [] (by simp-implicitDefEqProofs only[go_sem,ab,inR,h])⟩
theorem lA(c:ar)(hl:c.schema.length<=1000000000):Con2 Tryz.prog 7 [.agg (aC c)] (· =plR (.v (.bool (aB c)))):=by
 refine en_ Tryz.func7 [.tmp 2] (g2_ ?_);refine gx_ ?_;refine ce_ (ee c.nodes 2 12) (g2_ ?_);cases h0:inR c.nodes 2 12
 ·have hR:aB c=false:=by simp[aB,h0]
  refine g2_ ?_;exact⟨_,rfl,aa [] (wf_ hR)⟩
 refine g2_ ?_;refine ce_ (xg c.schema hl) (g2_ ?_);cases h1:ch c.schema
 ·have hR:aB c=false:=by simp[aB,h1]
  refine g2_ ?_;exact⟨_,rfl,aa [] (wf_ hR)⟩
 refine g2_ ?_;refine ce_ (ee c.view 1 12) (g2_ ?_);cases h2:inR c.view 1 12
 ·have hR:aB c=false:=by simp[aB,h2]
  refine g2_ ?_;exact⟨_,rfl,aa [] (wf_ hR)⟩
 refine g2_ ?_;refine ce_ (ee c.swap 1 12) (g2_ ?_);cases h3:inR c.swap 1 12
 ·have hR:aB c=false:=by simp[aB,h3]
  refine g2_ ?_;exact⟨_,rfl,aa [] (wf_ hR)⟩
 refine g2_ ?_;cases h4:decide (c.swap<=c.view)
 ·have hR:aB c=false:=by have:=of_decide_eq_false h4;simp[aB,this]
  refine g2_ ?_;exact⟨_,rfl,aa [] (wf_ hR)⟩
 refine g2_ ?_;refine ce_ (ee c.near 0 12) (g2_ ?_);cases h5:inR c.near 0 12
 ·have hR:aB c=false:=by simp[aB,h5]
  refine g2_ ?_;exact⟨_,rfl,aa [] (wf_ hR)⟩
 refine g2_ ?_;refine ce_ (ee c.fanout 0 12) (g2_ ?_);cases h6:inR c.fanout 0 12
 ·have hR:aB c=false:=by simp[aB,h6]
  refine g2_ ?_;exact⟨_,rfl,aa [] (wf_ hR)⟩
 refine g2_ ?_;refine ce_ (ee c.hops 0 12) (g2_ ?_);cases h7:inR c.hops 0 12
 ·have hR:aB c=false:=by simp[aB,h7]
  refine g2_ ?_;exact⟨_,rfl,aa [] (wf_ hR)⟩
 refine g2_ ?_;refine ce_ (ee c.window 1 64) (g2_ ?_);cases h8:inR c.window 1 64
 ·have hR:aB c=false:=by simp[aB,h8]
  refine g2_ ?_;exact⟨_,rfl,aa [] (wf_ hR)⟩
 refine g2_ ?_;refine ce_ (ee c.buffer 1 64) (g2_ ?_);cases h9:inR c.buffer 1 64
 ·have hR:aB c=false:=by simp[aB,h9]
  refine g2_ ?_;exact⟨_,rfl,aa [] (wf_ hR)⟩
 refine g2_ ?_;refine ce_ (ee c.pulls 1 64) (g2_ ?_);cases h10:inR c.pulls 1 64
 ·have hR:aB c=false:=by simp[aB,h10]
  refine g2_ ?_;exact⟨_,rfl,aa [] (wf_ hR)⟩
 refine g2_ ?_;refine ce_ (ee c.patience 1 255) (g2_ ?_);cases h11:inR c.patience 1 255
 ·have hR:aB c=false:=by simp[aB,h11]
  refine g2_ ?_;exact⟨_,rfl,aa [] (wf_ hR)⟩
 refine g2_ ?_;refine ce_ (ee c.suspect 1 255) (g2_ ?_);cases h12:inR c.suspect 1 255
 ·have hR:aB c=false:=by simp[aB,h12]
  refine g2_ ?_;exact⟨_,rfl,aa [] (wf_ hR)⟩
 refine g2_ ?_;refine ce_ (ee c.out 1 1000) (g2_ ?_);cases h13:inR c.out 1 1000
 ·have hR:aB c=false:=by simp[aB,h13]
  refine g2_ ?_;exact⟨_,rfl,aa [] (wf_ hR)⟩
 refine g2_ ?_;refine ce_ (ee c.pool 1 10000) (g2_ ?_);cases h14:inR c.pool 1 10000
 ·have hR:aB c=false:=by simp[aB,h14]
  refine g2_ ?_;exact⟨_,rfl,aa [] (wf_ hR)⟩
 refine g2_ ?_
 have hR:aB c=decide ((1:Int)<=(c.last.toNat:Int)):=by
  have:=of_decide_eq_true h4;simp[aB,h0,h1,h2,h3,h5,h6,h7,h8,h9,h10,h11,h12,h13,h14,this];omega
 exact⟨_,rfl,aa [] (wf_ hR)⟩
end Go.Proofs.YthoihfighiolmaaGreat.V
namespace Go.Eng
def wk1(d':DV):Option DV->Prop
 |some d=>wkD (fun _=>none) d' d
 |none=>False
theorem af1{d' d:DV}:wk1 d' (some d)=wkD (fun _=>none) d' d:=rfl
attribute [go_sem] af1
def amC(d':DV)(r:Res):Prop:=wk1 d' (embD r.H r.d)/\fP r.d=true
theorem Con2.ofEmb{P:Program}{f:FuncId}{args:List DV}{d':DV}(h:Con2 P f args (amC d')):Con2 P f args (· =plR d'):=by
 intro u vs hv;obtain⟨hb,hc⟩:=h u vs hv;refine⟨hb,fun w hu=>(hc w hu).mono ?_⟩
 rintro e' w' ⟨r,u',h1,h2,h3,r2,⟨he,hp⟩,β,us,s,hr,hs⟩
 cases hd1:embD r2.H r2.d with
 |none=>rw[hd1]at he;exact he.elim
 |some d1=>
  rw[hd1]at he;obtain⟨us',g1,g2,g3⟩:=hr.ros (idsD r2.H r2.d);have h0:=hr.slot 0;rw[hs]at h0;obtain⟨w0,e0,hd⟩: ∃w,SV.v r= .v w/\HV us r2.d β w:=h0;cases e0;have h4:=fB (H:=r2.H) g1 r2.d d1 r g3 (.inl hp) hd hd1;have h5:HV us' d' noB r:=gi (us:=us') (β:=noB) d' d1 r he h4;exact⟨r,u',h1,h2,h3,_,rfl,uy h5 (hr.base.1.trans g1) g2.sub⟩
theorem fT(ds:DS):leD ds ds:=kP (fun t=>.inr rfl) rfl rfl rfl rfl
theorem ae{d' d:DV}{H:List (Nat×Row)}{nx:Nat}(h:wk1 d' (embD H d))(hp:fP d=true): ∃r,amC d' r/\leD ⟨[(0,.d r.d)],[],r.H,r.nx,0⟩ ⟨[(0,.d d)],[],H,nx,0⟩:=
 ⟨⟨d,H,nx⟩,⟨h,hp⟩,fT _⟩
def pK(H:List (Nat×Row))(k:Nat):DV->DV->Prop
 | .rf j o n,c'=>bif j==k then c'= .rf 0 o n else wk1 c' (rfD o n (lk H j))
 | .v x,c'=>wkD (fun _=>none) c' (.v x)
 | .fz sz l,c'=>wkD (fun _=>none) c' (.fz sz l)
 |_,_=>False
def nF(H:List (Nat×Row))(k:Nat):List DV->List DV->Prop
 |[],y=>y=[]
 |c::r,y=> ∃c' r',y=c'::r'/\pK H k c c'/\nF H k r r'
theorem ae7{H:List (Nat×Row)}{k j o n:Nat}{c':DV}:pK H k (.rf j o n) c'=bif j==k then c'= .rf 0 o n else wk1 c' (rfD o n (lk H j)):=rfl
theorem aip{H:List (Nat×Row)}{k:Nat}{x:Value}{c':DV}:pK H k (.v x) c'=wkD (fun _=>none) c' (.v x):=rfl
theorem agl{H:List (Nat×Row)}{k sz:Nat}{l:List (List DV)}{c':DV}:pK H k (.fz sz l) c'=wkD (fun _=>none) c' (.fz sz l):=rfl
theorem ac7{H:List (Nat×Row)}{k:Nat}:nF H k [] []=True:=by simp[nF]
theorem aaW{H:List (Nat×Row)}{k:Nat}{c c':DV}{r r':List DV}:nF H k (c::r) (c'::r')=(pK H k c c'/\nF H k r r'):=by
 refine propext ⟨?_,fun h=>⟨c',r',rfl,h⟩⟩
 rintro⟨a,b,e,h⟩
 cases e;exact h
attribute [go_sem] ae7 aip agl ac7 aaW
def ae4(e sz:Nat)(l:List (List DV))(cs':List DV)(r:Res):Prop:= ∃k cs,r.d= .agg cs/\lk r.H k=some (.arr e sz l false)/\nF r.H k cs cs'
theorem mF{k:Nat}: ∀{H:List (Nat×Row)} (ids:List Nat),k∉ids->lk (roHs ids H) k=lk H k
 |H,[],_=>rfl
 |H,i::r,h=>by
  have h1:k≠i:=fun e=>h (by rw[e];exact List.mem_cons_self)
  have h2:(k==i)=false:=by simpa using h1
  show lk (roHs r (roH i H)) k=_;rw[mF r (fun hm=>h (List.mem_cons_of_mem _ hm)),om,h2]
  cases lk H k<;>rfl
theorem Con2.keep{P:Program}{f:FuncId}{args:List DV}{e sz:Nat}{l:List (List DV)}{cs':List DV}(h:Con2 P f args (ae4 e sz l cs')):Con2 P f args (· =⟨.agg cs',[(0,.arr e sz l false)],1⟩):=by
 intro u vs hv;obtain⟨hb,hc⟩:=h u vs hv;refine⟨hb,fun w hu=>(hc w hu).mono ?_⟩
 rintro e' w' ⟨r,u',h1,h2,h3,⟨d2,H2,nx2⟩,⟨k,cs,rfl,hk,hL⟩,β,us,s,hr,hs⟩
 obtain⟨us',g1,g2,g3⟩:=hr.ros ((idsDs H2 cs).filter fun i=> !(i==k))
 have h0:=hr.slot 0;rw[hs]at h0;obtain⟨w0,e0,V,rfl,hd⟩: ∃w,SV.v r= .v w/\HV us (.agg cs) β w:=h0;cases e0;have hrow:=(g2.row k (.arr e sz l false) ((mF _ (by simp)).trans hk)).2
 have key: ∀(cs cs':List DV) (V:List Value),(∀i∈idsDs H2 cs,i≠k->Stays us' H2 β i)->nF H2 k cs cs'->HVs us cs β V->HVs us' cs' (fun id=>if id=0 then β k else .no) V:=by
  intro cs
  induction cs with
  |nil=>rintro cs' V _ hL hV;simp only[nF]at hL;subst hL;exact hV
  | cons c r ih=>
   rintro cs' V hst ⟨c',r',rfl,hc,hL⟩ ⟨v,V',rfl,hv,hV⟩
   refine⟨v,V',rfl,?_,ih r' V' (fun i hi=>hst i (by simp[idsDs,hi])) hL hV⟩
   have wk: ∀d1,wkD (fun _=>none) c' d1->HV us' d1 noB v->HV us' c' (fun id=>if id=0 then β k else .no) v:=fun d1 h4 h5=>
    HV.mono (Sub.refl _) c' noB _ (yQ _) v (gi (us:=us') (β:=noB) c' d1 v h4 h5)
   match c,hc,hv,hst with
   | .v x,hc,hv,_=>exact wk _ hc hv
   | .fz sz l,hc,hv,_=>exact wk _ hc (HV.mono g1 (.fz sz l) β β (BLe.refl β) v hv)
   | .rf j o n,hc,hv,hst=>
    by_cases hj:j=k
    ·subst hj;simp only[pK,beq_self_eq_true,cond_true]at hc;subst hc;exact hv
    ·have hjk:(j==k)=false:=by simpa using hj
     simp only[pK,hjk,cond_false]at hc;cases hd1:rfD o n (lk H2 j)with
     |none=>rw[hd1]at hc;exact hc.elim
     |some d1=>
      rw[hd1]at hc;exact wk d1 hc (pr (hst j (by simp[idsDs,idsD]) hj) hv hd1)
 have hfin:=key cs cs' V (fun i hi hik=>g3 i (List.mem_filter.2 ⟨hi,by simpa using hik⟩)) hL hd
 refine⟨_,u',h1,h2,h3,_,rfl,fun id=>if id=0 then β k else .no,us',⟨[(0,.v (.agg V.toArray))],[]⟩,⟨⟨hr.base.1.trans g1,hr.base.2.trans g1⟩,g2.sub,fun t=>?_,fun k=>rfl,fun id r hr=>?_,fun id hi=>?_,fun id hi=>absurd hi (Nat.not_lt_zero _),Nat.zero_le _,fun i j ri rj b hij hi hj=>?_⟩,rfl⟩
 ·show HS us' _ ((lk [(0,DSV.d (.agg cs'))] t).getD DSV.unk) ((lk [(0,SV.v (.agg V.toArray))] t).getD SV.unk)
  by_cases e:0=t
  ·subst e;exact⟨_,rfl,V,rfl,hfin⟩
  ·rw[aj e];trivial
 ·have hr:lk [(0,Row.arr e sz l false)] id=some r:=hr
  by_cases e:0=id
  ·subst e;rw[au]at hr;cases hr;exact⟨Nat.zero_lt_one,hrow⟩
  ·rw[aj e]at hr;cases hr
 ·have hi:1<=id:=hi;exact if_neg (by omega)
 ·have hi:lk [(0,Row.arr e sz l false)] i=some ri:=hi;have hj:lk [(0,Row.arr e sz l false)] j=some rj:=hj
  by_cases e1:0=i
  ·subst e1;rw[aj hij]at hj;cases hj
  ·rw[aj e1]at hi;cases hi
theorem z8:((UInt8.toNat 0:Nat):Int)=0:=rfl
theorem z16:((UInt16.toNat 0:Nat):Int)=0:=rfl
theorem z32:((UInt32.toNat 0:Nat):Int)=0:=rfl
theorem z64:((UInt64.toNat 0:Nat):Int)=0:=rfl
def zDesc:GDesc:=⟨0,0,0,[]⟩
def bM(c:ar)(node:UInt8):ah:=
  let n:=(min (max c.nodes 0) 12).toNat
  { node:=node,inc:=0,up:=false,filter:=[],view:=[],near:=[],ring:=⟨false,false,zDesc,zDesc⟩,wait:=⟨false,0,0,[]⟩,table:=List.replicate n ⟨0,0,0⟩,count:=0,
    heard:=List.replicate n ⟨0,0,0⟩,seq:=0,rows:=List.replicate n ⟨0,0,0⟩,reports:=List.replicate n (cg n),buf:=⟨c.buffer,[]⟩,pulls:=[],passed:=0,evicted:=0,collected:=0 }
end Go.Eng
namespace Go.Proofs.YthoihfighiolmaaGreat.V
open Go.Eng
attribute [local go_sem] aP af fzD plR bb a_ aE bj aC ak
theorem s6(c:ar)(node:UInt8):Con2 Tryz.prog 9 [.agg (aC c),.v (.int .u8 node.toNat)] (· =⟨.agg ((ak (bM c node)).set 20 (.rf 0 0 (bM c node).table.length)),[(0,.arr 111 3 ((bM c node).table.map aE) false)],1⟩):=by
 refine Con2.keep ?_;refine en_ Tryz.func9 [.cell 4 49] (gx_ ?_);refine g2_ ?_
 have e:(if (12:Int)<(if c.nodes<0 then 0 else c.nodes)then (12:Int)else (if c.nodes<0 then 0 else c.nodes))=(((min (max c.nodes 0) 12).toNat:Nat):Int):=by
  split<;>split<;>omega
 rw[e];have hn:(min (max c.nodes 0) 12).toNat<=12:=by omega
 unfold bM;generalize (min (max c.nodes 0) 12).toNat=n at hn;have hs:=afR n (by omega)
 refine .inr (.inl ⟨(.fl 0 (.fl 1 (.fl 3 (.fl 5 (.fl 7 (.fl 9 (.fl 10 (.fl 11 (.eff 2 true (.eff 4 true (.eff 6 true (.eff 8 true (.fl 12 (.eff 13 false .done .no)) .no) (.eff 8 true (.eff 6 true (.fl 12 (.eff 13 false .done .no)) .no) .no)) (.eff 6 true (.eff 4 true (.eff 8 true (.fl 12 (.eff 13 false .done .no)) .no) (.eff 8 true (.eff 4 true (.fl 12 (.eff 13 false .done .no)) .no) .no)) (.eff 8 true (.eff 4 true (.eff 6 true (.fl 12 (.eff 13 false .done .no)) .no) (.eff 6 true (.eff 4 true (.fl 12 (.eff 13 false .done .no)) .no) .no)) .no))) (.eff 4 true (.eff 2 true (.eff 6 true (.eff 8 true (.fl 12 (.eff 13 false .done .no)) .no) (.eff 8 true (.eff 6 true (.fl 12 (.eff 13 false .done .no)) .no) .no)) (.eff 6 true (.eff 2 true (.eff 8 true (.fl 12 (.eff 13 false .done .no)) .no) (.eff 8 true (.eff 2 true (.fl 12 (.eff 13 false .done .no)) .no) .no)) (.eff 8 true (.eff 2 true (.eff 6 true (.fl 12 (.eff 13 false .done .no)) .no) (.eff 6 true (.eff 2 true (.fl 12 (.eff 13 false .done .no)) .no) .no)) .no))) (.eff 6 true (.eff 2 true (.eff 4 true (.eff 8 true (.fl 12 (.eff 13 false .done .no)) .no) (.eff 8 true (.eff 4 true (.fl 12 (.eff 13 false .done .no)) .no) .no)) (.eff 4 true (.eff 2 true (.eff 8 true (.fl 12 (.eff 13 false .done .no)) .no) (.eff 8 true (.eff 2 true (.fl 12 (.eff 13 false .done .no)) .no) .no)) (.eff 8 true (.eff 2 true (.eff 4 true (.fl 12 (.eff 13 false .done .no)) .no) (.eff 4 true (.eff 2 true (.fl 12 (.eff 13 false .done .no)) .no) .no)) .no))) (.eff 8 true (.eff 2 true (.eff 4 true (.eff 6 true (.fl 12 (.eff 13 false .done .no)) .no) (.eff 6 true (.eff 4 true (.fl 12 (.eff 13 false .done .no)) .no) .no)) (.eff 4 true (.eff 2 true (.eff 6 true (.fl 12 (.eff 13 false .done .no)) .no) (.eff 6 true (.eff 2 true (.fl 12 (.eff 13 false .done .no)) .no) .no)) (.eff 6 true (.eff 2 true (.eff 4 true (.fl 12 (.eff 13 false .done .no)) .no) (.eff 4 true (.eff 2 true (.fl 12 (.eff 13 false .done .no)) .no) .no)) .no))) .no)))))))))))),by kernel_rfl,g2_ ?_⟩)
 repeat' (first
  |(with_reducible refine And.intro ?_ ?_)
  |(focus (omega;done))
  |(refine CallS.eq hs ?_ (.inl ?_) ?_;(focus (simp-implicitDefEqProofs only[go_sem,ab];done));(focus (simp-implicitDefEqProofs only[go_sem,ab];done));((try (with_reducible refine aK ?_));(try simp-implicitDefEqProofs only[go_sem,ab]);repeat ((first|(with_reducible refine aK ?_)|(with_reducible refine f6 (by omega) ?_)|(with_reducible refine And.intro (by omega) ?_));(try simp-implicitDefEqProofs only[go_sem,ab]))))
  |(with_reducible refine aK ?_;((try (with_reducible refine aK ?_));(try simp-implicitDefEqProofs only[go_sem,ab]);repeat ((first|(with_reducible refine aK ?_)|(with_reducible refine f6 (by omega) ?_)|(with_reducible refine And.intro (by omega) ?_));(try simp-implicitDefEqProofs only[go_sem,ab]))))
  |(refine⟨⟨_,_,_⟩,⟨0,_,rfl,?_,?_⟩,fT _⟩;(focus (((try (with_reducible refine aK ?_));simp-implicitDefEqProofs only[go_sem,ab,List.map_replicate,aE,z8,z16];repeat ((with_reducible refine aK ?_);simp-implicitDefEqProofs only[go_sem,ab,List.map_replicate,aE,z8,z16]));done));(focus (((try (with_reducible refine aK ?_));simp-implicitDefEqProofs only[go_sem,ab,List.map_replicate,List.take_replicate,List.length_replicate,Nat.min_self,zDesc,List.map_nil,z8,z16,z32,z64,List.set_cons_succ,List.set_cons_zero];repeat ((with_reducible refine aK ?_);simp-implicitDefEqProofs only[go_sem,ab,List.map_replicate,List.take_replicate,List.length_replicate,Nat.min_self,zDesc,List.map_nil,z8,z16,z32,z64,List.set_cons_succ,List.set_cons_zero]));done)))
  |(refine⟨⟨_,_,_⟩,⟨1,_,rfl,?_,?_⟩,fT _⟩;(focus (((try (with_reducible refine aK ?_));simp-implicitDefEqProofs only[go_sem,ab,List.map_replicate,aE,z8,z16];repeat ((with_reducible refine aK ?_);simp-implicitDefEqProofs only[go_sem,ab,List.map_replicate,aE,z8,z16]));done));(focus (((try (with_reducible refine aK ?_));simp-implicitDefEqProofs only[go_sem,ab,List.map_replicate,List.take_replicate,List.length_replicate,Nat.min_self,zDesc,List.map_nil,z8,z16,z32,z64,List.set_cons_succ,List.set_cons_zero];repeat ((with_reducible refine aK ?_);simp-implicitDefEqProofs only[go_sem,ab,List.map_replicate,List.take_replicate,List.length_replicate,Nat.min_self,zDesc,List.map_nil,z8,z16,z32,z64,List.set_cons_succ,List.set_cons_zero]));done)))
  |(refine⟨⟨_,_,_⟩,⟨2,_,rfl,?_,?_⟩,fT _⟩;(focus (((try (with_reducible refine aK ?_));simp-implicitDefEqProofs only[go_sem,ab,List.map_replicate,aE,z8,z16];repeat ((with_reducible refine aK ?_);simp-implicitDefEqProofs only[go_sem,ab,List.map_replicate,aE,z8,z16]));done));(focus (((try (with_reducible refine aK ?_));simp-implicitDefEqProofs only[go_sem,ab,List.map_replicate,List.take_replicate,List.length_replicate,Nat.min_self,zDesc,List.map_nil,z8,z16,z32,z64,List.set_cons_succ,List.set_cons_zero];repeat ((with_reducible refine aK ?_);simp-implicitDefEqProofs only[go_sem,ab,List.map_replicate,List.take_replicate,List.length_replicate,Nat.min_self,zDesc,List.map_nil,z8,z16,z32,z64,List.set_cons_succ,List.set_cons_zero]));done))))
theorem pC(c:ar)(node:UInt8):Con2 Tryz.prog 9 [.agg (aC c),.v (.int .u8 node.toNat)] (· =plR (.agg (ak (bM c node)))):=(s6 c node).emb (by
 repeat first|simp-implicitDefEqProofs only[go_sem,ab,List.take_of_length_le (Nat.le_refl _),List.set_cons_succ,List.set_cons_zero]|with_reducible refine gl_ ?_) (by
 repeat first|simp-implicitDefEqProofs only[go_sem,ab,List.take_of_length_le (Nat.le_refl _),List.set_cons_succ,List.set_cons_zero]|with_reducible refine gl_ ?_)
end Go.Proofs.YthoihfighiolmaaGreat.V
namespace Go.Eng
theorem u0_{p q:Prop}(k:q)(e:Lf2 q->p:=by intro k;(repeat first|simp-implicitDefEqProofs only[go_sem,ab]|with_reducible refine gl_ ?_);exact k.out):p:=e ⟨k⟩
theorem v0_{p:Prop}(e:p:=by(repeat first|simp-implicitDefEqProofs only[go_sem,ab]|with_reducible refine gl_ ?_)):p:=e
theorem u1_{p q a:Prop}(h:a)(k:q)(e:a->Lf2 q->p:=by intro h k;(repeat first|simp-implicitDefEqProofs only[go_sem,ab,h]|with_reducible refine gl_ ?_);exact k.out):p:=e h ⟨k⟩
theorem v1_{p a:Prop}(h:a)(e:a->p:=by intro h;(repeat first|simp-implicitDefEqProofs only[go_sem,ab,h]|with_reducible refine gl_ ?_)):p:=e h
theorem u3_{p q a:Prop}(h:a)(k:q)(e:a->Lf2 q->p:=by intro h k;(repeat first|simp-implicitDefEqProofs only[go_sem,ab,h]|with_reducible first|refine gl_ ?_|refine ga_ ?_|refine gn_ ?_);exact k.out):p:=e h ⟨k⟩
