import Derived.Test.YtmhmahcdanclnaaGreatNr46
set_option linter.unusedSectionVars false
set_option linter.unusedSimpArgs false
set_option linter.unusedVariables false
set_option maxRecDepth 10000
set_option maxHeartbeats 4000000
namespace Go.Proofs.YtmhmahcdanclnaaGreat.V
open Go.Eng
attribute [local go_sem] zDesc aQ ah fzD plR a_ aN aP aD aB ak aE aU z8 z16 z32 z64 encMg ba bP aO aC iD List.map_cons List.map_nil List.length_cons List.length_nil bne_self_eq_false
theorem arY:((UInt16.toNat 1:Nat):Int)=1:=rfl
theorem arN:((UInt32.toNat 1:Nat):Int)=1:=rfl
theorem arH:((0:Nat):Int)=0:=rfl
theorem ast:((0+1:Nat):Int)=1:=rfl
attribute [local go_sem] arH ast arY arN
theorem adR:Con2 Tryz.prog 9 [] (· =plR (.v (.bool true))):=by
 refine Con2.ofEmb ?_;have c1:=aiJ
 have w:Con2 Tryz.prog 29 [.agg (aB nwC),.agg (ak nwA),fzS [⟨0,9⟩]] (· =plR (.tup [.agg (ak nwB),.v (.int .i64 (jK nwC nwA [⟨0,9⟩]))])):=by
  have hu:nwA.up=true:=by kernel_rfl
  have h:=aaY nwC nwA [⟨0,9⟩] (by decide) ss afB.1.h.g (by decide) (mO afB.1.h.g (jx ss arq (by decide)).1 (jx ss arq (by decide)).2) hu
  have e1:nwB=if (br nwC.schema [⟨0,9⟩]).2=0 then ay nwC { nwA with filter:=(br nwC.schema [⟨0,9⟩]).1 } []else nwA:=by
   show gG nwC nwA [⟨0,9⟩]=_;unfold gG;rw[if_neg (by rw[hu];decide)]
  have e2:jK nwC nwA [⟨0,9⟩]=(br nwC.schema [⟨0,9⟩]).2:=by unfold jK;rw[if_neg (by rw[hu];decide)]
  rw[e1,e2];exact h
 have c2:=x7 nwC 0 [⟨0,9⟩] w;change Con2 Tryz.prog 28 _ (· =plR (.tup [.agg (ak nwB),.v (.bool (((bc nwC (aY nwC 0)).2==0)&&((jK nwC nwA [⟨0,9⟩]==0)&&nwB.up)))]))at c2
 rw[asQ,asW,asY]at c2
 have c3:Con2 Tryz.prog 32 [.agg (aB nwC),.agg (ak nwB),.fz 1 (([5]:List Int).map bP),.fz 1 (([]:List UInt8).map aC),.fz 1 (([]:List UInt32).map aI)] (· =plR (.tup [.agg (ak nwP.1),.agg (aE nwP.2.1),.v (.bool nwP.2.2.1),.fz 17 (nwP.2.2.2.1.map encMg),.v (.int .i64 nwP.2.2.2.2)])):=
  kN aey (by decide) aeO.1 aeO.2 (by decide) (by decide) (by decide) (by decide)
 rw[aro.1,aro.2.1,aro.2.2]at c3;have c4:=kN aey (by decide) wt.1 wt.2 (by decide) (dr:=[]) (vals:=[5]) (data:=[]) (by decide) (by decide) (by decide)
 rw[as1]at c4
 have c5:Con2 Tryz.prog 31 [.agg (aB nwC),.agg (ak nwP.1),.agg (encMg fO),.fz 1 (([]:List UInt32).map aI)] (· =plR (.tup [.agg (ak nwQ.1),.fz 17 (nwQ.2.1.map encMg),.fz 5 (nwQ.2.2.map aE)])):=
  ik aey ss wt.1 wt.2 (by decide) (by decide) v_
 rw[aqN.1,aqN.2.1]at c5;have c6:=ik aey ss afj.1 afj.2 (by decide) (dr:=[]) (by decide) v_
 rw[arP.1,arP.2]at c6;have c7:=ik aey ss afj.1 afj.2 (by decide) (dr:=[]) (by decide) ags
 rw[asi.1,asi.2]at c7;have h6:=aqN.2.2;have cp:=abR 1 3;have ce:=aee ⟨⟨0,1,1⟩,[5],[]⟩ (by decide)
 clear w;generalize nwB=B at *;generalize (aT nwC nwP.1 [5] [] [])=Z at c4;generalize (bA nwC nwQ.1 fO []).1=T1 at c6;generalize (bA nwC nwQ.1 sJ []).1=T2 at c7;generalize nwQ.1=Q at *;generalize nwP.2.2.2.1=PL at *;generalize nwP.1=P1 at *;unfold fO at c5 c6;unfold sJ at c7;generalize nwC=C at *;refine en_ Tryz.func9 [.tmp 0] (g2_ ?_);refine g2_ ?_;refine cw_ c1 (g2_ ?_);refine cw_ c2 (g2_ ?_);refine cw_ c3 (g2_ ?_);refine cw_ c4 (g2_ ?_);refine o4 (.fl 0 (.fl 1 (.eff 2 true (.eff 3 false (.fl 4 (.fl 5 (.fl 6 (.fl 7 (.eff 8 true (.eff 9 false (.fl 10 (.fl 11 .done)) .no) .no))))) (.eff 8 true (.eff 3 false (.fl 4 (.fl 5 (.fl 6 (.fl 7 (.eff 9 false (.fl 10 (.fl 11 .done)) .no))))) .no) .no)) (.eff 8 true (.eff 2 true (.eff 3 false (.fl 4 (.fl 5 (.fl 6 (.fl 7 (.eff 9 false (.fl 10 (.fl 11 .done)) .no))))) .no) .no) .no)))) [(13,.loc 13 0),(14,.d (.fz 17 [])),(15,.d (.fz 5 [aE ⟨⟨1,1,1⟩,[3],[]⟩]))] [(13,⟨ak Q,49⟩)] ?_ ?_
 ·refine g2_ ?_
  repeat' (first
   |(with_reducible refine And.intro ?_ ?_)
   |(refine cw_ cp (g2_ ?_))
   |(refine cw_ c5 (g2_ ?_))
   |(refine aa [] ?_;(focus (simp-implicitDefEqProofs only[go_sem,ab];done))))
 refine g2_ ?_;refine o4 (.fl 0 (.fl 1 (.eff 2 true (.eff 3 false (.fl 4 (.fl 5 (.fl 6 (.fl 7 (.eff 8 true (.eff 9 false (.fl 10 (.fl 11 .done)) .no) .no))))) (.eff 8 true (.eff 3 false (.fl 4 (.fl 5 (.fl 6 (.fl 7 (.eff 9 false (.fl 10 (.fl 11 .done)) .no))))) .no) .no)) (.eff 8 true (.eff 2 true (.eff 3 false (.fl 4 (.fl 5 (.fl 6 (.fl 7 (.eff 9 false (.fl 10 (.fl 11 .done)) .no))))) .no) .no) .no)))) [(16,.loc 16 0),(17,.d (.fz 17 [])),(18,.d (.fz 5 []))] [(16,⟨ak T1,49⟩)] ?_ ?_
 ·refine g2_ ?_
  repeat' (first
   |(with_reducible refine And.intro ?_ ?_)
   |(refine cw_ cp (g2_ ?_))
   |(refine cw_ c6 (g2_ ?_))
   |(refine aa [] ?_;(focus (simp-implicitDefEqProofs only[go_sem,ab];done))))
 refine g2_ ?_;refine cx_ c7 (by simp-implicitDefEqProofs only[go_sem,ab,zEvt]) (gf_ h6 ?_)
 refine .inl ⟨[oF 0,oF 1,oF 2,oF 3,oF 4,oF 5,oF 6,oF 7,oF 8,oF 9,oF 10,oF 11,oF 12,oF 13,oF 14,oF 15,oF 16,oF 17,oF 18,oF 19,oF 20,oF 21,oF 22,oF 23,oF 24,oF 25,oF 29,oF 26,oF 27,oF 28,oF 30,oF 31,oF 32],by kernel_rfl,gf_ @pMsg.eq_1 ?_⟩
 refine CallS.eqW ce ws_ (.inr ws_) ?_;refine g2_ ?_;refine ae ?_ rfl;exact ws_
