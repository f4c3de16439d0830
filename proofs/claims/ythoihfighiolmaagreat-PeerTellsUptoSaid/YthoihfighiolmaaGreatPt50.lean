import Derived.Test.YthoihfighiolmaaGreatPt42
set_option linter.unusedSectionVars false
set_option linter.unusedSimpArgs false
set_option linter.unusedVariables false
set_option maxRecDepth 10000
set_option maxHeartbeats 8000000
namespace Go.Proofs.YthoihfighiolmaaGreat.V
open Go.Eng
attribute [local go_sem] zDesc aP af fzD plR bb a_ aE bj aC ak bk cR z8 z16 z32 z64 encMg aH dE eI List.map_cons List.map_nil
theorem agb(c:ar)(node:UInt8):Con2 Tryz.prog 43 [.agg (aC c),.v (.int .u8 node.toNat)] (· =plR (.tup [.agg (ak (bU c (bM c node)).1),.v (.bool (decide ((bU c (bM c node)).2=0)&&(bU c (bM c node)).1.up))])):=by
  refine Con2.ofEmb ?_;have hs:=pj c (bM c node) (abg c node);have hn:=pC c node;generalize bM c node=q at hs hn;generalize bU c q=r at hs;obtain⟨r,e⟩:=r;refine en_ Tryz.func43 [.cell 4 49,.tmp 5] (g2_ ?_);refine g2_ ?_;refine .inr (.inl ⟨(.fl 0 (.fl 1 (.fl 2 (.eff 3 true (.eff 4 false (.fl 5 (.fl 6 (.fl 7 (.eff 8 true (.eff 9 false (.fl 10 .done) .no) .no)))) (.eff 8 true (.eff 4 false (.fl 5 (.fl 6 (.fl 7 (.eff 9 false (.fl 10 .done) .no)))) .no) .no)) (.eff 8 true (.eff 3 true (.eff 4 false (.fl 5 (.fl 6 (.fl 7 (.eff 9 false (.fl 10 .done) .no)))) .no) .no) .no))))),by kernel_rfl,g2_ ?_⟩)
  repeat' (first
    |(with_reducible refine And.intro ?_ ?_)
    |(refine CallS.eq hn ?_ (.inl ?_) ?_;(focus (simp-implicitDefEqProofs only[go_sem,ab];done));(focus (simp-implicitDefEqProofs only[go_sem,ab];done));refine g2_ ?_)
    |(refine CallS.eq hs ?_ (.inl ?_) ?_;(focus (simp-implicitDefEqProofs only[go_sem,ab];done));(focus (simp-implicitDefEqProofs only[go_sem,ab];done));refine g2_ ?_)
    |(with_reducible refine aK ?_;refine g2_ ?_))
  all_goals
    refine .inr (.inr (.inl ⟨[oF 0,oF 1,oF 2,oF 3,oF 4,oF 5,oF 6,oT 7,oF 8],[4],by kernel_rfl,g2_ ?_⟩))
    refine ic (fun h=>?_) (fun h=>?_)
    all_goals
      rw[h];refine g2_ ?_;refine ae ?_ rfl
      first
        | (have h2:e=0:=by simpa using h
           repeat first|simp-implicitDefEqProofs only[go_sem,ab,h2]|with_reducible refine gl_ ?_)
        | (have h2: ¬e=0:=by simpa using h
           repeat first|simp-implicitDefEqProofs only[go_sem,ab,h2]|with_reducible refine gl_ ?_)
theorem agv(c:ar)(p:ah)(o:GOp)(hc:c.schema.length<=4)(hcs: ∀s∈c.schema,okS s)(hp:okH p)(hm:okMg o.m)(hdr:o.draws.length<=4000000)(hf:o.filter.length<=1048576)(hws:ok8 p.wait.sent)(hsw:c.swap<=9223372036854775807)(f8:p.filter.length<=8)
  (hn:okG { p with filter:=(aS c.schema o.filter).1 })
  (hL1:Con2 Tryz.prog 21 [.agg (ak p)] (· =plR (.fz 1 ((bA p).map aQ)))) (hL1n:(bA p).length<=4000000)
  (hL2:p.up=true->Con2 Tryz.prog 21 [.agg (ak (dD c (aJ c (aY c p) []) o.draws).1)] (· =plR (.fz 1 ((bA (dD c (aJ c (aY c p) []) o.draws).1).map aQ)))) (hL2n:p.up=true->(bA (dD c (aJ c (aY c p) []) o.draws).1).length<=4000000)
  (hsent:p.up=true->ok8 (dZ (aJ c (aY c p) []).view (pSelf (aJ c (aY c p) [])) c.swap o.draws).2.1) (v8:p.up=true->ok8 (aJ c (aY c p) []).view):
  Con2 Tryz.prog 13 [.agg (aC c),.agg (ak p),.agg (bc o)] (· =plR (.tup [.agg (ak (dY c p o).1),.fz 17 ((dY c p o).2.1.map encMg),.v (.int .i64 (dY c p o).2.2)])):=by
 refine Con2.ofEmb ?_;have k0:=pj c p hp.ok;have k1:=sX c p
 have k2:Con2 Tryz.prog 34 [.agg (aC c),.agg (ak p),fzS o.filter] (· =plR (.tup [.agg (ak (if p.up=false then p else if (aS c.schema o.filter).2=0 then aJ c { p with filter:=(aS c.schema o.filter).1 } []else p)),.v (.int .i64 (if p.up=false then 53 else (aS c.schema o.filter).2))])):=by
  by_cases hu:p.up=false
  ·rw[if_pos hu,if_pos hu];exact acX c p o.filter hp.ok hu
  ·rw[if_neg hu,if_neg hu];exact ahr c p o.filter hc hcs hp.g (by omega) hn (by simpa using hu)
 have k3:=sK c p o.node hp.ok
 have k4:Con2 Tryz.prog 56 [.agg (aC c),.agg (ak p)] (· =plR (.tup [.agg (ak (if p.up=false then p else fQ c p)),.fz 17 ((if p.up=false then []else (bA p).map (pMsg p 9)).map encMg),.v (.int .i64 (if p.up=false then 53 else 0))])):=by
  cases hu:p.up with
  |false=>rw[if_pos rfl,if_pos rfl,if_pos rfl];exact aaX c p hp.ok hu
  |true=>rw[if_neg (by decide),if_neg (by decide),if_neg (by decide)];exact adO c p _ hp.ok hu hL1 hL1n
 have k5:Con2 Tryz.prog 45 [.agg (aC c),.agg (ak p),.fz 1 (o.draws.map aZ)] (· =plR (.tup [.agg (ak (if p.up=false then p else (dq c p o.draws (bA (dD c (aJ c (aY c p) []) o.draws).1)).1)),.fz 17 ((if p.up=false then []else (dq c p o.draws (bA (dD c (aJ c (aY c p) []) o.draws).1)).2).map encMg)])):=by
  cases hu:p.up with
  |false=>rw[if_pos rfl,if_pos rfl];exact acT c p o.draws hp.ok hu
  |true=>rw[if_neg (by decide),if_neg (by decide)];exact vv c p o.draws _ hc hcs hp hu hsw hdr hws (hL2 hu) (hL2n hu) (hsent hu) (v8 hu) f8
 have k6:=xh c p o.node o.inc hp.ok hp.rs;have hh:=ea (c:=c) hp o.node o.inc;have k6b:=vH c (aI c p o.node o.inc).1 [] hc hcs hh.g ⟨by simp,by simp⟩ (by simp)
 have k7:=vH c p o.m.list hc hcs hp.g hm.ds hm.fs2;have k8:=aeZ c p o.m o.draws hc hcs hp hm hdr hws;have hR:dY c p o=dY c p o:=rfl
 conv at hR=>rhs;unfold dY
 generalize dY c p o=R at hR ⊢;have hw:=o.what.toNat_lt;unfold bc;refine en_ Tryz.func13 [.cell 6 49,.tmp 7,.tmp 8] (g2_ ?_);refine gx_ ?_
 by_cases w0:o.what=0
 ·rw[if_pos w0]at hR;rw[show((o.what.toNat:Int)==0)=true by rw[w0];rfl,hR]
  refine g2_ ?_;refine cw_ k0 (g2_ ?_);refine ae ?_ rfl
  repeat first|simp-implicitDefEqProofs only[go_sem,ab,List.map_nil]|with_reducible refine gl_ ?_
  first|done|trace_state
 rw[if_neg w0]at hR;rw[show((o.what.toNat:Int)==0)=false from beq_eq_false_iff_ne.2 (fun h=>w0 (UInt8.toNat_inj.1 (by rw[show(0:UInt8).toNat=0 from rfl];omega)))]
 refine g2_ ?_
 by_cases w1:o.what=1
 ·rw[if_pos w1]at hR;rw[show((o.what.toNat:Int)==1)=true by rw[w1];rfl,hR]
  refine g2_ ?_;refine cw_ k1 (g2_ ?_);refine ae ?_ rfl
  repeat first|simp-implicitDefEqProofs only[go_sem,ab,List.map_nil]|with_reducible refine gl_ ?_
  first|done|trace_state
 rw[if_neg w1]at hR;rw[show((o.what.toNat:Int)==1)=false from beq_eq_false_iff_ne.2 (fun h=>w1 (UInt8.toNat_inj.1 (by rw[show(1:UInt8).toNat=1 from rfl];omega)))]
 refine g2_ ?_
 by_cases w2:o.what=2
 ·rw[if_pos w2]at hR;rw[show((o.what.toNat:Int)==2)=true by rw[w2];rfl,hR]
  refine g2_ ?_;refine cw_ k2 (g2_ ?_);refine ae ?_ rfl
  repeat first|simp-implicitDefEqProofs only[go_sem,ab,List.map_nil]|with_reducible refine gl_ ?_
  first|done|trace_state
 rw[if_neg w2]at hR;rw[show((o.what.toNat:Int)==2)=false from beq_eq_false_iff_ne.2 (fun h=>w2 (UInt8.toNat_inj.1 (by rw[show(2:UInt8).toNat=2 from rfl];omega)))]
 refine g2_ ?_
 by_cases w3:o.what=3
 ·rw[if_pos w3]at hR;rw[show((o.what.toNat:Int)==3)=true by rw[w3];rfl,hR]
  refine g2_ ?_;refine cw_ k3 (g2_ ?_);refine ae ?_ rfl
  repeat first|simp-implicitDefEqProofs only[go_sem,ab,List.map_nil]|with_reducible refine gl_ ?_
  first|done|trace_state
 rw[if_neg w3]at hR;rw[show((o.what.toNat:Int)==3)=false from beq_eq_false_iff_ne.2 (fun h=>w3 (UInt8.toNat_inj.1 (by rw[show(3:UInt8).toNat=3 from rfl];omega)))]
 refine g2_ ?_
 by_cases w4:o.what=4
 ·rw[if_pos w4]at hR;rw[show((o.what.toNat:Int)==4)=true by rw[w4];rfl,hR]
  refine g2_ ?_;refine cw_ k4 (g2_ ?_);refine ae ?_ rfl
  repeat first|simp-implicitDefEqProofs only[go_sem,ab,List.map_nil]|with_reducible refine gl_ ?_
  first|done|trace_state
 rw[if_neg w4]at hR;rw[show((o.what.toNat:Int)==4)=false from beq_eq_false_iff_ne.2 (fun h=>w4 (UInt8.toNat_inj.1 (by rw[show(4:UInt8).toNat=4 from rfl];omega)))]
 refine g2_ ?_
 by_cases w5:o.what=5
 ·rw[if_pos w5]at hR;rw[show((o.what.toNat:Int)==5)=true by rw[w5];rfl,hR]
  refine g2_ ?_;refine cw_ k5 (g2_ ?_);refine ae ?_ rfl
  repeat first|simp-implicitDefEqProofs only[go_sem,ab,List.map_nil]|with_reducible refine gl_ ?_
  first|done|trace_state
 rw[if_neg w5]at hR;rw[show((o.what.toNat:Int)==5)=false from beq_eq_false_iff_ne.2 (fun h=>w5 (UInt8.toNat_inj.1 (by rw[show(5:UInt8).toNat=5 from rfl];omega)))]
 refine g2_ ?_
 by_cases w6:o.what=6
 ·rw[if_pos w6]at hR;rw[show((o.what.toNat:Int)==6)=true by rw[w6];rfl,hR]
  refine g2_ ?_;refine cw_ k6 (g2_ ?_);refine cw_ k6b (g2_ ?_);refine ae ?_ rfl
  repeat first|simp-implicitDefEqProofs only[go_sem,ab,List.map_nil]|with_reducible refine gl_ ?_
  first|done|trace_state
 rw[if_neg w6]at hR;rw[show((o.what.toNat:Int)==6)=false from beq_eq_false_iff_ne.2 (fun h=>w6 (UInt8.toNat_inj.1 (by rw[show(6:UInt8).toNat=6 from rfl];omega)))]
 refine g2_ ?_
 by_cases w7:o.what=7
 ·rw[if_pos w7]at hR;rw[show((o.what.toNat:Int)==7)=true by rw[w7];rfl,hR]
  refine g2_ ?_;refine cw_ k7 (g2_ ?_);refine ae ?_ rfl
  repeat first|simp-implicitDefEqProofs only[go_sem,ab,List.map_nil]|with_reducible refine gl_ ?_
  first|done|trace_state
 rw[if_neg w7]at hR;rw[show((o.what.toNat:Int)==7)=false from beq_eq_false_iff_ne.2 (fun h=>w7 (UInt8.toNat_inj.1 (by rw[show(7:UInt8).toNat=7 from rfl];omega)))]
 refine g2_ ?_;rw[hR];refine cw_ k8 (g2_ ?_);refine ae ?_ rfl
 repeat first|simp-implicitDefEqProofs only[go_sem,ab,List.map_nil]|with_reducible refine gl_ ?_
 first|done|trace_state
