import Derived.Test.YthoihfighiolmaaGreatPt46
import Derived.Test.YthoihfighiolmaaGreatPt47
set_option linter.unusedSectionVars false
set_option linter.unusedSimpArgs false
set_option linter.unusedVariables false
set_option maxRecDepth 10000
set_option maxHeartbeats 8000000
namespace Go.Proofs.YthoihfighiolmaaGreat.V
open Go.Eng
attribute [local go_sem] zDesc aP af fzD plR bb a_ aE bj aC ak bk cR z8 z16 z32 z64 encMg aH dE eI List.map_cons List.map_nil
theorem m7{c:ar}{p:ah}(hc:aB c=true)(h:Iv c p):Con2 Tryz.prog 21 [.agg (ak p)] (· =plR (.fz 1 ((bA p).map aQ))):=by
 have h1:=acv hc h;have h2:=h.m.h.ok;have h3:=cQ p.ring;exact abh p (by omega) (by omega) h2.succ h2.pred (by simp[cy];omega)
theorem Mid.tkq{c:ar}{q:ah}(h:Mid c q):TkQ c q:=⟨h.h,h.pre.view,h.sq,h.pre.table⟩
theorem tF(c:ar)(p:ah)(dr:List UInt32)(hu:p.up=false):Con2 Tryz.prog 63 [.agg (aC c),.agg (ak p),.fz 1 (dr.map aZ)] (· =plR (.tup [.agg (ak p),.fz 17 []])):=by
 refine Con2.ofEmb ?_;refine en_ Tryz.func63 [.cell 6 49,.tmp 7] (g2_ ?_);refine g2_ ?_;rw[hu];refine g2_ ?_;refine ae ?_ rfl;exact wf_ hu
theorem yw(c:ar)(p:ah)(o:GOp)(hc:aB c=true)(hcs: ∀s∈c.schema,okS s)(hp:Iv c p)(hm:okMg o.m)(hdr:o.draws.length<=4000000)(hf:o.filter.length<=1048576)(hfs: ∀s∈o.filter,okS s):
  Con2 Tryz.prog 14 [.agg (aC c),.agg (ak p),.agg (bc o)] (· =plR (.tup [.agg (ak (dY c p o).1),.fz 17 ((dY c p o).2.1.map encMg),.v (.int .i64 (dY c p o).2.2)])):=by
 refine Con2.ofEmb ?_;have hrg:=df hc;have hh:=hp.m.h;have hok:=hh.ok;obtain⟨n1,n2⟩:=m6 (f:=o.filter) hcs hfs (by omega)
 have n3:=wt c.schema o.filter;have h12:=acv hc hp;have k0:=tK c p (by omega) (by omega) hp.m.nd
 have k1:=nv c p (by omega) (by omega)
 have k2:=xr c p o.filter (by omega) hcs (by omega) (hp.m.filter n1 n2 n3).h.g n3 hp.m.fp hp.m.pre.table
 have k3:=wT c p o.node hok;have k4:=uA c p (by omega) (by omega) (by omega) (by omega) (Nat.le_trans (iC hc hp) (by omega))
 have k5:Con2 Tryz.prog 63 [.agg (aC c),.agg (ak p),.fz 1 (o.draws.map aZ)] (· =plR (.tup [.agg (ak (if p.up=false then p else (dq c p o.draws (bA (dD c (aJ c (aY c p) []) o.draws).1)).1)),.fz 17 ((if p.up=false then []else (dq c p o.draws (bA (dD c (aJ c (aY c p) []) o.draws).1)).2).map encMg)])):=by
  cases hu:p.up with
  |false=>rw[if_pos rfl,if_pos rfl];exact tF c p o.draws hu
  |true=>
   rw[if_neg (by decide),if_neg (by decide)]
   have hM:=fL (l:=[]) hc (jf hp.m) hZ nC;have hA:=tm (dr:=o.draws) hc hM;exact ye c p o.draws hc hcs hh.g hu hdr hp.m.ws hp.m.wl hp.m.zr hp.m.fr (jf hp.m).fp hp.m.pre.table hM.m.h.vw.2 (fun d hd=>(hM.nr.2.1 d hd).1) hA.2.toDs (Nat.le_trans (iC hc hA.1) (by omega))
 have k6:=jk c p o.node o.inc hok hh.rs hp.m.sq (by have:=hh.g.table;omega) (by have:=hp.m.pre.table;omega)
 have hq:=hp.m.hear o.node o.inc;have k6b:=fV c (aI c p o.node o.inc).1 [] (by omega) hcs hq.h.g hq.fr hq.fp hq.pre.table hZ nC
 have k7:=fV c p o.m.list (by omega) hcs hh.g hp.m.fr hp.m.fp hp.m.pre.table hm.ds hm.fs2
 have hq2:=hp.m.hear o.m.frm o.m.inc;obtain⟨t1,t2,t3⟩:=uV (dr:=o.draws) hc hq2 hm;have tR:=fL hc t1 t2 t3;have k8:=vl c p o.m o.draws hc hcs hp.m.tkq hm hdr hq2.tkq hq2.ws.toDs ⟨t1.h.g,t1.fp,t1.pre.table,t1.fr⟩ ⟨tR.m.h.ok,acP hc t1⟩;have hR:dY c p o=dY c p o:=rfl
 conv at hR=>rhs;unfold dY
 generalize dY c p o=R at hR ⊢;have hw:=o.what.toNat_lt;clear n1 n2 n3 hq hq2 t1 t2 t3 tR h12;unfold bc;refine en_ Tryz.func14 [.cell 6 49,.tmp 7,.tmp 8] (g2_ ?_);refine gx_ ?_
 by_cases w0:o.what=0
 ·rw[if_pos w0]at hR;rw[show((o.what.toNat:Int)==0)=true by rw[w0];rfl,hR]
  refine g2_ ?_;refine cw_ k0 (g2_ ?_);refine ae ?_ rfl
  repeat first|simp-implicitDefEqProofs only[go_sem,ab,List.map_nil]|with_reducible refine gl_ ?_
  first|done|trace_state
 rw[if_neg w0]at hR;rw[show((o.what.toNat:Int)==0)=false from beq_eq_false_iff_ne.2 (fun h=>w0 (UInt8.toNat_inj.1 (by rw[show(0:UInt8).toNat=0 from rfl];omega)))]
 refine g2_ ?_
 by_cases w1:o.what=1
 ·rw[if_pos w1]at hR;rw[show((o.what.toNat:Int)==1)=true by rw[w1];rfl,hR]
  refine g2_ ?_;refine cw_ k1 (g2_ ?_);refine ae ?_ rfl
  repeat first|simp-implicitDefEqProofs only[go_sem,ab,List.map_nil]|with_reducible refine gl_ ?_
  first|done|trace_state
 rw[if_neg w1]at hR;rw[show((o.what.toNat:Int)==1)=false from beq_eq_false_iff_ne.2 (fun h=>w1 (UInt8.toNat_inj.1 (by rw[show(1:UInt8).toNat=1 from rfl];omega)))]
 refine g2_ ?_
 by_cases w2:o.what=2
 ·rw[if_pos w2]at hR;rw[show((o.what.toNat:Int)==2)=true by rw[w2];rfl,hR]
  refine g2_ ?_;refine cw_ k2 (g2_ ?_);refine ae ?_ rfl
  repeat first|simp-implicitDefEqProofs only[go_sem,ab,List.map_nil]|with_reducible refine gl_ ?_
  first|done|trace_state
 rw[if_neg w2]at hR;rw[show((o.what.toNat:Int)==2)=false from beq_eq_false_iff_ne.2 (fun h=>w2 (UInt8.toNat_inj.1 (by rw[show(2:UInt8).toNat=2 from rfl];omega)))]
 refine g2_ ?_
 by_cases w3:o.what=3
 ·rw[if_pos w3]at hR;rw[show((o.what.toNat:Int)==3)=true by rw[w3];rfl,hR]
  refine g2_ ?_;refine cw_ k3 (g2_ ?_);refine ae ?_ rfl
  repeat first|simp-implicitDefEqProofs only[go_sem,ab,List.map_nil]|with_reducible refine gl_ ?_
  first|done|trace_state
 rw[if_neg w3]at hR;rw[show((o.what.toNat:Int)==3)=false from beq_eq_false_iff_ne.2 (fun h=>w3 (UInt8.toNat_inj.1 (by rw[show(3:UInt8).toNat=3 from rfl];omega)))]
 refine g2_ ?_
 by_cases w4:o.what=4
 ·rw[if_pos w4]at hR;rw[show((o.what.toNat:Int)==4)=true by rw[w4];rfl,hR]
  refine g2_ ?_;refine cw_ k4 (g2_ ?_);refine ae ?_ rfl
  repeat first|simp-implicitDefEqProofs only[go_sem,ab,List.map_nil]|with_reducible refine gl_ ?_
  first|done|trace_state
 rw[if_neg w4]at hR;rw[show((o.what.toNat:Int)==4)=false from beq_eq_false_iff_ne.2 (fun h=>w4 (UInt8.toNat_inj.1 (by rw[show(4:UInt8).toNat=4 from rfl];omega)))]
 refine g2_ ?_
 by_cases w5:o.what=5
 ·rw[if_pos w5]at hR;rw[show((o.what.toNat:Int)==5)=true by rw[w5];rfl,hR]
  refine g2_ ?_;refine cw_ k5 (g2_ ?_);refine ae ?_ rfl
  repeat first|simp-implicitDefEqProofs only[go_sem,ab,List.map_nil]|with_reducible refine gl_ ?_
  first|done|trace_state
 rw[if_neg w5]at hR;rw[show((o.what.toNat:Int)==5)=false from beq_eq_false_iff_ne.2 (fun h=>w5 (UInt8.toNat_inj.1 (by rw[show(5:UInt8).toNat=5 from rfl];omega)))]
 refine g2_ ?_
 by_cases w6:o.what=6
 ·rw[if_pos w6]at hR;rw[show((o.what.toNat:Int)==6)=true by rw[w6];rfl,hR]
  refine g2_ ?_;refine cw_ k6 (g2_ ?_);refine cw_ k6b (g2_ ?_);refine ae ?_ rfl
  repeat first|simp-implicitDefEqProofs only[go_sem,ab,List.map_nil]|with_reducible refine gl_ ?_
  first|done|trace_state
 rw[if_neg w6]at hR;rw[show((o.what.toNat:Int)==6)=false from beq_eq_false_iff_ne.2 (fun h=>w6 (UInt8.toNat_inj.1 (by rw[show(6:UInt8).toNat=6 from rfl];omega)))]
 refine g2_ ?_
 by_cases w7:o.what=7
 ·rw[if_pos w7]at hR;rw[show((o.what.toNat:Int)==7)=true by rw[w7];rfl,hR]
  refine g2_ ?_;refine cw_ k7 (g2_ ?_);refine ae ?_ rfl
  repeat first|simp-implicitDefEqProofs only[go_sem,ab,List.map_nil]|with_reducible refine gl_ ?_
  first|done|trace_state
 rw[if_neg w7]at hR;rw[show((o.what.toNat:Int)==7)=false from beq_eq_false_iff_ne.2 (fun h=>w7 (UInt8.toNat_inj.1 (by rw[show(7:UInt8).toNat=7 from rfl];omega)))]
 refine g2_ ?_;rw[hR];refine cw_ k8 (g2_ ?_);refine ae ?_ rfl
 repeat first|simp-implicitDefEqProofs only[go_sem,ab,List.map_nil]|with_reducible refine gl_ ?_
 first|done|trace_state
end Go.Proofs.YthoihfighiolmaaGreat.V
namespace Go.Eng
structure ua(m:bo):Prop where
 ds:aR m.list
 table:m.table.length<=4000000
 vals:m.ev.vals.length<=4000000
 data:m.ev.data.length<=4000000
 marks:m.marks.length<=4000000
 ids:m.ids.length<=4000000
end Go.Eng
namespace Go.Proofs.YthoihfighiolmaaGreat.V
open Go.Eng
attribute [local go_sem] aP af fzD plR bb a_ aE bj aC ak bk cR z8 z16 z32 z64 encMg aH dE qY
theorem ahg(l:List GID)(hl:l.length<=9223372036854775807):Con2 Tryz.prog 72 [.fz 3 (l.map qY),.fz 3 (l.map qY)] (· =plR (.v (.bool true))):=by
 refine en_ Tryz.func72 [.tmp 4] ?_;refine g2_ ?_;refine cu (fun h=>(h rfl).elim) (fun h=>?_)
 refine g2_ ?_;refine ay l.length (fun k=>[]) (fun _=>[]) (fun k=>[]) 0 (fun k=>True) (aa [] ?_) trivial (fun g k=>ws_) (by omega) (fun g=>ws_) (fun k hk hF=>?_) (fun hF=>?_)
 ·refine g2_ ?_
  first|rfl|exact⟨rfl,rfl⟩
 ·refine g2_ ?_;refine .inl ⟨[oF 0,oF 1,oF 4,oF 5,oF 2,oF 6,oF 3,oF 7,oF 8],by kernel_rfl,?_⟩
  repeat first|simp-implicitDefEqProofs only[go_sem,ab,aX hk,beq_self_eq_true,bne_self_eq_false,Bool.and_self,Bool.not_true,bne]|with_reducible first|refine gl_ ?_|refine ga_ ?_|refine gn_ ?_
  exact⟨k+1,aa [] ws_,rfl⟩
 ·refine g2_ ?_;exact⟨_,rfl,aa [] ws_⟩
theorem vN(m:bo)(h:ua m):Con2 Tryz.prog 17 [.agg (encMg m),.agg (encMg m)] (· =plR (.v (.bool true))):=by
 obtain⟨h1,h2,h3,h4,h5,h6⟩:=h;have k1:=gG m.list (by have:=h1.1;omega) (fun d hd=>by have:=h1.2 d hd;omega)
 have k2:=lD m.table (by omega)
 have k3:=ou m.ev (by omega)
 have k4:=k_ m.marks (by omega)
 have k5:=ahg m.ids (by omega)
 refine en_ Tryz.func17 [.tmp 4] (g2_ ?_);refine x0_ ?_;refine ce_ k1 (x0_ ?_);refine ce_ k2 (x0_ ?_);refine ce_ k3 (x0_ ?_);refine ce_ k4 (x0_ ?_);refine ce_ k5 (g2_ ?_);exact⟨_,rfl,aa [] ws_⟩
theorem ac1(l:List bo)(hl:l.length<=9223372036854775807)(hf: ∀m∈l,ua m):Con2 Tryz.prog 16 [.fz 17 (l.map encMg),.fz 17 (l.map encMg)] (· =plR (.v (.bool true))):=by
 refine en_ Tryz.func16 [.tmp 4] ?_;refine g2_ ?_;refine cu (fun h=>(h rfl).elim) (fun h=>?_)
 refine g2_ ?_;refine ay l.length (fun k=>[]) (fun _=>[]) (fun k=>[]) 0 (fun k=>True) (aa [] ?_) trivial (fun g k=>ws_) (by omega) (fun g=>ws_) (fun k hk hF=>?_) (fun hF=>?_)
 ·refine g2_ ?_
  repeat' (first|rfl|refine And.intro ?_ ?_)
 ·refine g2_ ?_;refine .inl ⟨[oF 0,oF 1,oF 4,oF 5,oF 2,oF 6,oF 3,oF 7,oF 8,oF 9],by kernel_rfl,gf_ (mE_ hk) ?_⟩
  refine ce_ (vN l[k] (hf _ (List.getElem_mem hk))) (g2_ ?_);exact⟨k+1,aa [] ws_,rfl⟩
 ·refine g2_ ?_;exact⟨_,rfl,aa [] ws_⟩
theorem aeG(l:List GDesc)(hl:aR l):Con2 Tryz.prog 53 [fzD l] (· =bb 34 4 (l.map af)):=by
 have hb:=hl.1;refine en_ Tryz.func53 [.tmp 2] ?_;refine g2_ ?_;refine ay l.length (fun k=>[(3,.d (.rf 0 0 k))]) (fun _=>[]) (fun k=>[(0,.arr 34 4 ((l.take k).map af) false)]) 1 (fun _=>True) (aa [(0,.nil 4)] ?_) trivial (fun g k=>ws_) (by omega) (fun g=>ws_) (fun k hk _=>?_) (fun _=>?_)
 ·refine g2_ ?_
  repeat' (first|rfl|refine And.intro ?_ ?_)
 ·have hfk:=hl.2 _ (List.getElem_mem hk);refine gf_ (c2_ (mE_ hk) (yc (Nat.le_of_lt hk))) ?_;refine⟨k+1,aa [(0,.to 3)] ?_,rfl⟩;refine g2_ ?_;exact qA hk
 ·refine g2_ ?_;exact⟨_,rfl,aa [] ws_⟩
theorem v7(m:bo)(h:ua m):Con2 Tryz.prog 12 [.agg (encMg m)] (· =plR (.agg (encMg m))):=by
 refine Con2.ofEmb ?_;obtain⟨h1,h2,h3,h4,h5,h6⟩:=h;have k1:Con2 Tryz.prog 53 [fzD m.list] (· =plR (fzD m.list)):=ep (aeG m.list h1)
 refine en_ Tryz.func12 [.cell 2 60] (g2_ ?_);refine g2_ ?_;refine ce_ k1 ?_
 repeat first|simp-implicitDefEqProofs only[go_sem,ab,List.length_map,List.length_nil]|with_reducible first|refine gl_ ?_|refine ga_ ?_|refine gn_ ?_
 refine ae ?_ rfl
 repeat first|simp-implicitDefEqProofs only[go_sem,ab,List.length_map,aF,List.nil_append]|with_reducible refine gl_ ?_
end Go.Proofs.YthoihfighiolmaaGreat.V
namespace Go.Proofs.YthoihfighiolmaaGreat.V
open Go.Eng
section
variable {c:ar} {p q:ah} {m:bo} {dr:List UInt32}
theorem ma{p:ah}{k to:UInt8}{l:List GDesc}{t:List an}(hl:aR l)(ht:t.length<=4000000):ua { pMsg p k to with list:=l,table:=t }:=⟨hl,ht,Nat.zero_le _,Nat.zero_le _,Nat.zero_le _,Nat.zero_le _⟩
theorem ab1(h:Mid c p):aR [pSelf p]:=⟨by simp,fun d hd=>by rw[List.mem_singleton.1 hd];exact h.h.ok.filter⟩
theorem t7(h:Mid c p){l:List GDesc}(hl:aR l)(hn:l.length<=3900000):aR (bE l (pSelf p)):=so hl h.h.ok.filter hn
theorem aj9(h:Mid c q){nd:UInt8}{many:Int}:aR (bP many (aD q.view nd) [] dr):=by
 have h1:=mc (many:=many) dr (aD q.view nd) [];have h2:=fW q.view nd;have h3:=h.h.v8.1;simp only[List.length_nil]at h1;exact⟨by omega,fun d hd=>(qa many dr _ _ d hd).elim (fun g=>h.h.ok.view.2 d (List.mem_filter.1 g).1) (fun g=>by cases g)⟩
theorem alA(hc:aB c=true)(h:Mid c q): ∀x∈(tkH dr c q m).2.1,ua x:=by
 have hr:=df hc;have hv:=h.pre.view.1;have ht:=h.h.g.table;unfold tkH;split
 ·unfold d9;split
  ·split
   ·intro x hx;rw[List.mem_singleton.1 hx];exact ma (t7 h h.h.ok.view (by omega)) (by omega)
   ·intro x hx;cases hx
  ·intro x hx;cases hx
 split
 ·intro x hx;cases hx
 split
 ·intro x hx;rw[List.mem_singleton.1 hx];exact ma (aj9 h) (Nat.zero_le _)
 repeat' split
 all_goals (intro x hx;cases hx)
theorem ajl(hc:aB c=true)(h:Iv c p)(hm:okMg m): ∀x∈(iG dr c p m).2,ua x:=by
 rw[pT];split
 ·intro x hx;cases hx
 split
 ·have hq:=h.m.hear m.frm m.inc;obtain⟨h1,h2,h3⟩:=uV (dr:=dr) hc hq hm;have hR:=fL hc h1 h2 h3;intro x hx;rcases List.mem_append.1 hx with g|g
  ·exact alA hc hq x g
  ·split at g
   ·rw[List.mem_singleton.1 g];have hrl:=cQ (tkR dr c (aI c p m.frm m.inc).1 m).ring;have hok:=hR.m.h.ok;refine ma (t7 hR.m ⟨by omega,fun d hd=>?_⟩ (by omega)) (Nat.zero_le _)
    rcases dU hd with ⟨_,rfl⟩|⟨_,rfl⟩
    ·exact hok.succ
    ·exact hok.pred
   ·cases g
 ·intro x hx;cases hx
theorem aiQ(hc:aB c=true)(h:Iv c p){L:List UInt8}: ∀x∈(dq c p dr L).2,ua x:=by
 have hM:=fL (l:=[]) hc (jf h.m) hZ nC;obtain⟨hA,h8⟩:=tm (dr:=dr) hc hM;have h12:=acv hc hA;unfold dq;simp only;intro x hx;rcases List.mem_append.1 hx with g|g
 ·rcases List.mem_append.1 g with g|g
  ·rcases List.mem_append.1 g with g|g
   ·unfold dD at g;simp only at g;split at g
    ·rw[List.mem_singleton.1 g];exact ma h8.toDs (Nat.zero_le _)
    ·cases g
   ·unfold f7 at g;split at g
    ·cases g
    ·rw[List.mem_singleton.1 g];exact ma (t7 hA.m hA.m.h.ok.near (by omega)) (Nat.zero_le _)
  ·unfold eh at g;split at g
   ·rw[List.mem_singleton.1 g];exact ma (ab1 hA.m) (Nat.zero_le _)
   ·cases g
 ·obtain⟨d,_,rfl⟩:=List.mem_map.1 g;exact ma hZ hA.m.h.ok.table
theorem ajE(hc:aB c=true)(h:Iv c p){o:GOp}(hm:okMg o.m): ∀x∈(dY c p o).2.1,ua x:=by
 unfold dY;split
 ·intro x hx;cases hx
 split
 ·intro x hx;cases hx
 split
 ·intro x hx;cases hx
 split
 ·simp only;unfold dF;split
  ·intro x hx;cases hx
  split
  ·intro x hx;cases hx
  ·intro x hx;rw[List.mem_singleton.1 hx];exact ma (ab1 h.m) (Nat.zero_le _)
 split
 ·simp only;split
  ·intro x hx;cases hx
  ·intro x hx;obtain⟨d,_,rfl⟩:=List.mem_map.1 hx;exact ma hZ (Nat.zero_le _)
 split
 ·simp only;split
  ·intro x hx;cases hx
  ·exact aiQ hc h
 split
 ·intro x hx;cases hx
 split
 ·intro x hx;cases hx
 ·exact ajl hc h hm
