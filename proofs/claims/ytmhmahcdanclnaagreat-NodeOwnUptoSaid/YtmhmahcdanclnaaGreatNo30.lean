import Derived.Test.YtmhmahcdanclnaaGreatNo29
set_option linter.unusedSectionVars false
set_option linter.unusedSimpArgs false
set_option linter.unusedVariables false
set_option maxRecDepth 10000
set_option maxHeartbeats 4000000
namespace Go.Proofs.YtmhmahcdanclnaaGreat.V
open Go.Eng
structure okH(p:af):Prop where
 g:okG p
 rs:fQ p.reports
 v8:ok8 p.view
 vw:Vw p.node p.view
theorem okH.ok{p:af}(h:okH p):okP p:=h.g.ok
theorem acM(l:List au)(i:UInt8)(inc:UInt16):(iG l i inc).length=l.length:=by simp[iG]
theorem anq{p:af}(h:okP p){t:List au}{r:List (List GMark)}(ht:t.length<=4000000)(hr:fQ r):okP { p with table:=t,reports:=r }:=
 ⟨h.filter,h.view,h.near,h.succ,h.pred,h.sent,ht,h.heard,h.rows,⟨by have:=hr.1;show r.length<=4000000;omega,hr.2⟩,h.evs,h.pulls⟩
theorem afK{p:af}(h:okG p){t:List au}{r:List (List GMark)}(ht:t.length<=12)(hr:fQ r):okG { p with table:=t,reports:=r }:=
 ⟨anq h.ok (by omega) hr,h.filter,h.view,h.near,h.succ,h.pred,ht⟩
theorem xM{p:af}(h:okH p){t:List au}{r:List (List GMark)}(ht:t.length<=12)(hr:fQ r):okH { p with table:=t,reports:=r }:=
 ⟨afK h.g ht hr,hr,h.v8,h.vw⟩
theorem dA{c:ar}{p:af}(h:okH p)(node:UInt8)(inc:UInt16):okH (aw c p node inc).1:=by
 have ht:=h.g.table;unfold aw;split
 ·exact h
 ·split
  ·exact h
  ·split
   ·exact h
   ·refine xM h (by rw[acM];exact ht) ?_
    split
    ·exact lq h.rs
    ·exact h.rs
def fm(c:ar)(p:af)(m:aK):af×List aK:=
 match m.list with
 |[d]=>if d.node=m.frm/\d.inc=m.inc/\fG c d=true then ({ p with view:=fU p.view d p.node c.view },[{ pMsg p 2 m.frm with list:=dY p.view (pSelf p),table:=p.table }])else (p,[])
 |_=>(p,[])
def aak(c:ar)(p:af)(m:aK):af×List aK:=
 let q:=aw c p m.frm m.inc
 if q.2=true then (aB c (fm c q.1 m).1 [],(fm c q.1 m).2)else (q.1,[])
structure okMg(m:aK):Prop where
 list:m.list.length<=1048576
 f8: ∀d∈m.list,d.filter.length<=1048576
 fs: ∀d∈m.list, ∀s∈d.filter,okS s
 table:m.table.length<=1048576
theorem okMg.ds{m:aK}(h:okMg m):cg m.list:=⟨by have:=h.list;omega,fun d hd=>by have:=h.f8 d hd;omega⟩
theorem okMg.fs2{m:aK}(h:okMg m): ∀d∈m.list,okF d:=fun d hd=>⟨by have:=h.f8 d hd;omega,h.fs d hd⟩
theorem ap9(a b:UInt8):((a.toNat:Int)=(b.toNat:Int))↔a=b:=⟨fun h=>UInt8.toNat_inj.1 (by omega),fun h=>by rw[h]⟩
theorem arx(a b:UInt16):((a.toNat:Int)=(b.toNat:Int))↔a=b:=⟨fun h=>UInt16.toNat_inj.1 (by omega),fun h=>by rw[h]⟩
theorem pd{l:List GDesc}{x d:GDesc}{self:UInt8}{room:Int}(h:x∈fU l d self room):x∈l\/x=d:=by
 unfold fU at h;split at h
 ·exact put_mem x h
 ·split at h
  ·exact .inl h
  ·split at h
   ·exact .inl h
   ·split at h
    ·rcases put_mem x h with h|h
     ·exact .inl (List.mem_filter.1 h).1
     ·exact .inr h
    ·exact .inl h
theorem ah4{l:List GDesc}{d:GDesc}{self:UInt8}{room:Int}:(fU l d self room).length<=l.length+1:=by
 unfold fU;split
 ·exact iP d room
 ·split
  ·exact Nat.le_succ _
  ·split
   ·exact Nat.le_succ _
   ·split
    ·refine Nat.le_trans (iP d _) ?_;have:=List.length_filter_le (fun e:GDesc=> !decide (e.node=(‹GDesc›).node)) l
     exact Nat.succ_le_succ (List.length_filter_le _ _)
    ·exact Nat.le_succ _
theorem nU{p:af}(h:okG p){v:List GDesc}(h1:v.length<=4000000)(h2: ∀d∈v,okF d):okG { p with view:=v }:=
 ⟨⟨h.ok.filter,⟨h1,fun d hd=>(h2 d hd).1⟩,h.ok.near,h.ok.succ,h.ok.pred,h.ok.sent,h.ok.table,h.ok.heard,h.ok.rows,h.ok.reports,h.ok.evs,h.ok.pulls⟩,h.filter,h2,h.near,h.succ,h.pred,h.table⟩
attribute[local go_sem] zDesc aS ah fzD plR ba aL aR aC aE ak az aU z8 z16 z32 z64 encMg a_ b_ List.map_cons List.map_nil
theorem ahR(c:ar)(p:af)(m:aK)(dr:List UInt32)(hc:c.schema.length<=4)(hcs: ∀s∈c.schema,okS s)(hp:okH p)(hm:okMg m)(hu:p.up=true)(hto:m.to=p.node)(hk:m.kind=1):
  Con2 Tryz.prog 83 [.agg (aE c),.agg (ak p),.agg (encMg m),.fz 1 (dr.map aH)] (· =plR (.tup [.agg (ak (aak c p m).1),.fz 17 ((aak c p m).2.map encMg)])):=by
 refine Con2.ofEmb ?_;have hf:=bp p hp.ok;have hh:=dP c p m.frm m.inc hp.ok hp.rs;have hq:=dA (c:=c) hp m.frm m.inc;unfold aak;generalize aw c p m.frm m.inc=Q at hh hq;obtain⟨q,hd⟩:=Q;simp only at hq hh ⊢;refine en_ Tryz.func83 [.cell 8 49,.tmp 9] (g2_ ?_);refine g2_ ?_;refine cw_ hf (g2_ ?_);rw[hu,hto];refine gx_ ?_;refine cx_ hh (wg_ hu hto) (g2_ ?_);cases hd with
 |false=>
  refine g2_ ?_;refine ae ?_ rfl;exact wx_
 | true =>
  refine g2_ ?_;refine q0_ ?_;rw[show lkF fW m.kind=some 260 by rw[hk];rfl]
  refine g2_ ?_;have kq:=cD c q [] hc hcs hq.g ⟨by simp,by simp⟩ (by simp)
  have hfin:=ve c m.list (by omega) hm.ds
  have hmf:=hm.f8;have hmi:=hm.fs;cases hml:m.list with
  |nil=>
   rw[show fm c q m=(q,[])by rw[fm,hml]]
   refine im_ Tryz.func260 [] (g2_ ?_);refine g2_ ?_;refine .inl ⟨[oF 0,oF 1,oF 2,oF 3,oF 4,oF 8,oF 5,oF 9,oF 6,oF 10,oF 7,oF 11,oF 12,oF 13,oF 14,oF 15,oF 16,oF 20,oF 17,oF 21,oF 18,oF 22,oF 19,oF 23,oF 24,oF 25,oF 26],by kernel_rfl,gf_ @c00 ?_⟩
   exact q1_ kq
  | cons d r=>
   cases r with
   |cons e r=>
    have hlen:((r.length+1+1:Nat):Int)≠1:=by omega
    rw[show fm c q m=(q,[])by rw[fm,hml]]
    refine im_ Tryz.func260 [] (g2_ ?_);refine g2_ ?_;refine .inl ⟨[oF 0,oF 1,oF 2,oF 3,oF 4,oF 8,oF 5,oF 9,oF 6,oF 10,oF 7,oF 11,oF 12,oF 13,oF 14,oF 15,oF 16,oF 20,oF 17,oF 21,oF 18,oF 22,oF 19,oF 23,oF 24,oF 25,oF 26],by kernel_rfl,gx_ ?_⟩
    rw[show(((r.length+1+1:Nat):Int) !=1)=true from bne_iff_ne.2 hlen]
    refine g2_ ?_;exact q1_ kq
   | nil =>
    rw[hml]at hfin hmf hmi;have hd8:=hmf d (by simp)
    have hdi:=hmi d (by simp)
    refine im_ Tryz.func260 [] (g2_ ?_);refine g2_ ?_;refine .inl ⟨[oF 0,oF 1,oF 2,oF 3,oF 4,oF 8,oF 5,oF 9,oF 6,oF 10,oF 7,oF 11,oF 12,oF 13,oF 14,oF 15,oF 16,oF 20,oF 17,oF 21,oF 18,oF 22,oF 19,oF 23,oF 24,oF 25,oF 26],by kernel_rfl,gx_ ?_⟩
    rw[show(((0+1:Nat):Int) !=1)=false from rfl]
    refine g2_ ?_
    by_cases e1:d.node=m.frm
    ·rw [show((d.node.toNat:Int) !=(m.frm.toNat:Int))=false by rw[e1];exact bne_self_eq_false _]
     refine g2_ ?_
     by_cases e2:d.inc=m.inc
     ·rw [show((d.inc.toNat:Int) !=(m.inc.toNat:Int))=false by rw[e2];exact bne_self_eq_false _]
      refine g2_ ?_;refine cw_ hfin ?_;cases e3:fG c d with
      | true=>
       have ef:pFine c [d]=[d]:=by simp[pFine,e3]
       rw[ef];have hj:fm c q m=({ q with view:=fU q.view d q.node c.view },[{ pMsg q 2 m.frm with list:=dY q.view (pSelf q),table:=q.table }]):=by simp[fm,hml,e1,e2,e3]
       rw[hj];have ks:=ji q hq.g.ok;have kw:=oY q.view (pSelf q) hq.g.ok.view hq.g.ok.filter;have km:=gp q 2 m.frm
       have hwl:cg (dY q.view (pSelf q)):=by
        refine⟨?_,fun x hx=>?_⟩
        ·have h1:=hq.v8.1;simp only[dY,List.length_append,List.length_cons,List.length_take,List.length_drop];omega
        ·simp only[dY,List.mem_append,List.mem_cons]at hx;rcases hx with h|h|h
         ·exact hq.g.ok.view.2 x (List.mem_of_mem_take h)
         ·rw[h];exact hq.g.ok.filter
         ·exact hq.g.ok.view.2 x (List.mem_of_mem_drop h)
       have kc:=bh (dY q.view (pSelf q)) hwl;have kt:=ec (q.table.map aR) (by have:=hq.g.table;rw[List.length_map];omega)
       have ka:=an2 q.view d q.node c.view hq.v8 (aaz hc e3) hq.vw
       have kq':=cD c { q with view:=fU q.view d q.node c.view } [] hc hcs (nU hq.g (Nat.le_trans ah4 (by have:=hq.v8.1;omega)) (fun x hx=>by
        rcases pd hx with h|h
        ·exact hq.g.view x h
        ·rw[h];exact⟨by omega,hdi⟩)) ⟨by simp,by simp⟩ (by simp)
       clear kq;have kq:=kq';clear kq';generalize fU q.view d q.node c.view=V at ka kq ⊢;generalize dY q.view (pSelf q)=Wl at kw kc ⊢;generalize pSelf q=S at ks kw;generalize hM:pMsg q 2 m.frm=M at km ⊢;refine gx_ ?_;rw[show(((1:Nat):Int)==0)=false from rfl]
       refine g2_ ?_;refine .inl ⟨[oF 0,oF 1,oF 6,oF 11,oF 17,oF 2,oF 7,oF 12,oF 18,oF 3,oF 8,oF 13,oF 19,oF 4,oF 9,oF 14,oF 20,oF 5,oF 10,oF 21,oT 15,oT 16,oF 22],by kernel_rfl,g2_ ?_⟩
       refine cw_ ks (g2_ ?_);refine cw_ kw (g2_ ?_);refine im_ Tryz.func177 [] (g2_ ?_);refine g2_ ?_;refine cw_ km (g2_ ?_);refine cw_ kc (g2_ ?_);refine cw_ kt (g2_ ?_);refine .inl ⟨[oF 0,oF 1,oF 5,oF 2,oF 3,oF 4,oT 6,oF 7,oF 8,oF 9,oF 10],by kernel_rfl,g2_ ?_⟩
       refine .inl ⟨[oF 0,oF 1,oF 6,oF 9,oF 14,oF 2,oF 7,oF 10,oF 15,oF 3,oF 8,oF 11,oF 16,oF 4,oF 12,oF 17,oF 5,oF 13,oF 18,oF 19,oF 20,oF 21,oF 22,oF 23],by kernel_rfl,g2_ ?_⟩
       refine cw_ ka (g2_ ?_);exact q1_ kq
      |false=>
       have ef:pFine c [d]=[]:=by simp[pFine,e3]
       have hj:fm c q m=(q,[]):=by simp[fm,hml,e3]
       rw[ef,hj];refine gf_ @c00 ?_;exact q1_ kq
     ·have hj:fm c q m=(q,[]):=by simp[fm,hml,e2]
      rw[hj,show((d.inc.toNat:Int) !=(m.inc.toNat:Int))=true from bne_iff_ne.2 (fun h=>e2 ((arx _ _).1 h))]
      refine g2_ ?_;exact q1_ kq
    ·have hj:fm c q m=(q,[]):=by simp[fm,hml,e1]
     rw[hj,show((d.node.toNat:Int) !=(m.frm.toNat:Int))=true from bne_iff_ne.2 (fun h=>e1 ((ap9 _ _).1 h))]
     refine g2_ ?_;exact q1_ kq
