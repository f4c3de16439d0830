import Derived.Test.YtmhmahcdanclnaaGreatNr44
set_option linter.unusedSectionVars false
set_option linter.unusedSimpArgs false
set_option linter.unusedVariables false
set_option maxRecDepth 10000
set_option maxHeartbeats 4000000
namespace Go.Proofs.YtmhmahcdanclnaaGreat.V
open Go.Eng
attribute [local go_sem] zDesc aQ ah fzD plR a_ aN aP aD aB ak aE aU z8 z16 z32 z64 encMg ba bP aO aC iD List.map_cons List.map_nil
structure atg(o:ph):Prop where
 m:x8 o.m
 draws:o.draws.length<=1048576
 filter:o.filter.length<=1048576
 fs: ∀s∈o.filter,okS s
 vals:o.vals.length<=1048576
 data:o.data.length<=1048576
section
variable {c:an} {nd:UInt8} {p:af} {o:ph} {k:Int}
end
def nwC:an:={ plainC 2 with buffer:=1 }
def gG(c:an)(p:af)(f:List GSpan):af:=if p.up=false then p else if (br c.schema f).2=0 then ay c { p with filter:=(br c.schema f).1 } []else p
def jK(c:an)(p:af)(f:List GSpan):Int:=if p.up=false then 53 else (br c.schema f).2
def fO:aF:=⟨10,1,1,0,[],[],⟨⟨1,1,1⟩,[3],[]⟩,0,⟨0,0,0⟩,[],[]⟩
def sJ:aF:=⟨12,1,1,0,[],[],zEvt,0,⟨0,0,0⟩,[],[⟨0,1,1⟩,⟨1,1,1⟩]⟩
def nwA:af:=(bc nwC (aY nwC 0)).1
def nwB:af:=gG nwC nwA [⟨0,9⟩]
def nwP:af×GEvt×Bool×List aF×Int:=aT nwC nwB [5] [] []
def nwQ:af×List aF×List GEvt:=bA nwC nwP.1 fO []
theorem aey:az nwC=true:=by kernel_rfl
theorem ss: ∀s∈nwC.schema,okS s:=by
 intro s hs;have hs:s∈[(⟨0,9⟩:GSpan)]:=hs;rw[List.mem_singleton.1 hs];exact⟨by decide,by decide,by decide,by decide⟩
theorem arq: ∀s∈[(⟨0,9⟩:GSpan)],okS s:=by
 intro s hs;rw[List.mem_singleton.1 hs];exact⟨by decide,by decide,by decide,by decide⟩
theorem fV(k f t:UInt8)(i:UInt16)(ev:GEvt)(h:UInt8)(o:GMark)(mk:List GMark)(ids:List GID):okMg ⟨k,f,i,t,[],[],ev,h,o,mk,ids⟩:=⟨Nat.zero_le _,by simp,by simp,Nat.zero_le _⟩
def nwO(w:UInt8)(f:List GSpan)(v:List Int)(m:aF):ph:=⟨w,f,v,[],m,[]⟩
theorem arD:Ew nwC (aY nwC 0) 0:=yk (nd:=0) (inc:=0) (up:=false) (t:=(aY nwC 0).table) (by decide) (by decide) (by decide) (Int.le_refl 0)
theorem qL{p:af}{k:Int}(o:ph)(hm:okMg o.m)(hf: ∀s∈o.filter,okS s)(hk:0<=k)(hB:Bd nwC 0 p)(hE:Ew nwC p k):Bd nwC 0 (mI nwC p o).1/\Ew nwC (mI nwC p o).1 (k+64):=
 ⟨by have:=(sd (o:=o) aey ss hB hE hm hf).bd;rw[hB.node]at this;exact this,wL (by decide) (by decide) (by decide) (by rw[hB.node];decide) hk hE⟩
theorem afB:Bd nwC 0 nwA/\Ew nwC nwA 64:=qL (nwO 0 [] [] fO) (fV ..) (by simp[nwO]) (Int.le_refl 0) (ajB aey 0) arD
theorem aeO:Bd nwC 0 nwB/\Ew nwC nwB 128:=qL (nwO 2 [⟨0,9⟩] [] fO) (fV ..) arq (by decide) afB.1 afB.2
theorem wt:Bd nwC 0 nwP.1/\Ew nwC nwP.1 192:=qL (nwO 4 [] [5] fO) (fV ..) (by simp[nwO]) (by decide) aeO.1 aeO.2
theorem afj:Bd nwC 0 nwQ.1/\Ew nwC nwQ.1 256:=qL (nwO 10 [] [] fO) (fV ..) (by simp[nwO]) (by decide) wt.1 wt.2
theorem asQ:(bc nwC (aY nwC 0)).2=0:=by kernel_rfl
theorem asW:jK nwC nwA [⟨0,9⟩]=0:=by kernel_rfl
theorem asY:nwB.up=true:=by kernel_rfl
theorem aro:nwP.2.1=⟨⟨0,1,1⟩,[5],[]⟩/\nwP.2.2.1=true/\nwP.2.2.2.2=0:=⟨by kernel_rfl,by kernel_rfl,by kernel_rfl⟩
theorem as1:(aT nwC nwP.1 [5] [] []).2.2.2.2=52:=by kernel_rfl
theorem aqN:nwQ.2.1=[]/\nwQ.2.2=[⟨⟨1,1,1⟩,[3],[]⟩]/\nwQ.1.passed=1:=⟨by kernel_rfl,by kernel_rfl,by kernel_rfl⟩
theorem arP:(bA nwC nwQ.1 fO []).2.1=[]/\(bA nwC nwQ.1 fO []).2.2=[]:=⟨by kernel_rfl,by kernel_rfl⟩
theorem asi:(bA nwC nwQ.1 sJ []).2.1=[{ pMsg nwQ.1 10 1 with ev:=⟨⟨0,1,1⟩,[5],[]⟩ }]/\(bA nwC nwQ.1 sJ []).2.2=[]:=⟨by kernel_rfl,by kernel_rfl⟩
theorem v_:x8 fO:=⟨fV ..,by decide,Nat.zero_le _,Nat.zero_le _⟩
theorem ags:x8 sJ:=⟨fV ..,by decide,Nat.zero_le _,by decide⟩
theorem aiJ:Con2 Tryz.prog 39 [] (· =plR (.agg (aB nwC))):=by
 refine Con2.ofEmb ?_;have kp:=ag_ 2;refine en_ Tryz.func39 [.cell 0 26] (g2_ ?_);refine g2_ ?_;refine cw_ kp (g2_ ?_);refine ae ?_ rfl;exact wf_ @nwC.eq_1
theorem abR(s:UInt32)(v:Int):Con2 Tryz.prog 40 [.v (.int .u32 s.toNat),.v (.int .i32 v)] (· =plR (.agg (encMg ⟨10,1,1,0,[],[],⟨⟨1,1,s⟩,[v],[]⟩,0,⟨0,0,0⟩,[],[]⟩))):=by
 refine Con2.ofEmb ?_;refine en_ Tryz.func40 [.cell 4 60] (g2_ ?_);refine g2_ ?_;refine ae ?_ rfl;refine g2_ ?_
 first|done|rfl|trace_state
theorem x7(c:an)(nd:UInt8)(f:List GSpan)(hw:Con2 Tryz.prog 29 [.agg (aB c),.agg (ak (bc c (aY c nd)).1),fzS f] (· =plR (.tup [.agg (ak (gG c (bc c (aY c nd)).1 f)),.v (.int .i64 (jK c (bc c (aY c nd)).1 f))]))):
  Con2 Tryz.prog 28 [.agg (aB c),.v (.int .u8 nd.toNat),fzS f] (· =plR (.tup [.agg (ak (gG c (bc c (aY c nd)).1 f)),.v (.bool (((bc c (aY c nd)).2==0)&&((jK c (bc c (aY c nd)).1 f==0)&&(gG c (bc c (aY c nd)).1 f).up)))])):=by
 refine Con2.ofEmb ?_;have hs:=aet c (aY c nd) (aeV c nd);have hn:=amu c nd;generalize aY c nd=q at hs hn hw ⊢;generalize bc c q=r at hs hw ⊢;obtain⟨r,e⟩:=r;simp only at hs hw ⊢;generalize gG c r f=w at hw ⊢;generalize jK c r f=g at hw ⊢;refine en_ Tryz.func28 [.cell 6 49,.tmp 7] (g2_ ?_);refine g2_ ?_;refine .inr (.inl ⟨(.fl 0 (.fl 1 (.fl 2 (.eff 3 true (.eff 4 false (.fl 5 (.fl 6 (.fl 7 (.eff 8 true (.eff 9 false (.fl 10 .done) .no) .no)))) (.eff 8 true (.eff 4 false (.fl 5 (.fl 6 (.fl 7 (.eff 9 false (.fl 10 .done) .no)))) .no) .no)) (.eff 8 true (.eff 3 true (.eff 4 false (.fl 5 (.fl 6 (.fl 7 (.eff 9 false (.fl 10 .done) .no)))) .no) .no) .no))))),by kernel_rfl,g2_ ?_⟩)
 repeat' (first
  |(with_reducible refine And.intro ?_ ?_)
  |(refine CallS.eq hn ?_ (.inl ?_) ?_;(focus (simp-implicitDefEqProofs only[go_sem,ab];done));(focus (simp-implicitDefEqProofs only[go_sem,ab];done));refine g2_ ?_)
  |(refine CallS.eq hs ?_ (.inl ?_) ?_;(focus (simp-implicitDefEqProofs only[go_sem,ab];done));(focus (simp-implicitDefEqProofs only[go_sem,ab];done));refine g2_ ?_)
  |(with_reducible refine av ?_;refine g2_ ?_))
 all_goals
  refine cw_ hw (g2_ ?_);refine .inr (.inr (.inl ⟨[oF 0,oF 1,oF 2,oF 3,oF 4,oF 5,oF 6,oF 7,oF 8,oF 9,oF 10,oT 11,oF 12],[6],by kernel_rfl,g2_ ?_⟩))
  cases hb1:(e==0)with
  |false=>
   refine g2_ ?_;refine ae ?_ rfl;exact wf_ @Bool.false_and
  | true=>
   refine g2_ ?_;cases hb2:(g==0)with
   |false=>
    refine g2_ ?_;refine ae ?_ rfl;exact wf_ @Bool.false_and
   |true=>
    refine g2_ ?_;refine ae ?_ rfl;exact wx_
