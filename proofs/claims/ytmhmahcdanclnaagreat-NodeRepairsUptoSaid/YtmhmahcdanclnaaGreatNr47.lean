import Derived.Test.YtmhmahcdanclnaaGreatNr45
import Derived.Test.YtmhmahcdanclnaaGreatNr46
set_option linter.unusedSectionVars false
set_option linter.unusedSimpArgs false
set_option linter.unusedVariables false
set_option maxRecDepth 10000
set_option maxHeartbeats 4000000
namespace Go.Proofs.YtmhmahcdanclnaaGreat.V
open Go.Eng
theorem wT(dom f:List GSpan):fB dom (br dom f).1=true:=by
 unfold br;split
 ·rfl
 ·split
  ·show fB dom (dL dom f)=true;unfold dL;split
   ·rename_i h1 h2 h;unfold fB;rw[Bool.or_eq_true,Bool.and_eq_true];refine .inr ⟨decide_eq_true (by rw[List.length_map,List.length_zip];omega),List.all_eq_true.2 fun x hx=>?_⟩
    obtain⟨i,hi,rfl⟩:=List.mem_iff_getElem.1 hx;rw[List.length_zip,List.length_map,List.length_zip]at hi;rw[List.getElem_zip,List.getElem_map,List.getElem_zip]
    have hn:=List.any_eq_false.1 h.2 (dom[i]'(by omega),f[i]'(by omega)) (by
     rw[<-List.getElem_zip (l:=dom) (l':=f) (i:=i) (h:=by rw[List.length_zip];omega)]
     exact List.getElem_mem _)
    unfold abz;unfold mS jW gJ at hn;unfold jW aj1;simp only[decide_eq_true_eq]at hn;simp only[Bool.and_eq_true,Bool.or_eq_true,decide_eq_true_eq];refine⟨by omega,.inr ⟨?_,?_⟩⟩
    ·unfold fj;simp only;split<;>omega
    ·unfold fj;simp only;split<;>omega
   ·rfl
  ·rfl
def brG(s:GSpan):Int:=if s.b<(if 0<s.a then s.a else 0)then s.b else (if 0<s.a then s.a else 0)
def brK(s:List GSpan):List Int:=s.map brG
theorem ajb{s:List GSpan}(h: ∀x∈s,x.a<=x.b):fK s (brK s)=true:=by
 unfold fK brK;rw[Bool.and_eq_true];refine⟨decide_eq_true (by rw[List.length_map]),List.all_eq_true.2 fun x hx=>?_⟩
 obtain⟨i,hi,rfl⟩:=List.mem_iff_getElem.1 hx;rw[List.length_zip,List.length_map]at hi;rw[List.getElem_zip,List.getElem_map];have:=h _ (List.getElem_mem (l:=s) (n:=i) (by omega))
 simp only[Bool.and_eq_true,decide_eq_true_eq];unfold brG;constructor
 ·split
  ·omega
  ·split<;>omega
 ·split
  ·omega
  ·omega
section
variable {c:an} {f F:List GSpan}
theorem amC(hc:az c=true): ∀x∈c.schema,x.a<=x.b:=by grind [az,ec]
def opW(f:List GSpan):ph:=⟨2,f,[],[],fO,[]⟩
theorem yX(p:af):(mI c p (opW f)).1=gG c p f:=rfl
structure Al(nd:UInt8)(F:List GSpan)(p:af):Prop where
 node:p.node=nd
 up:p.up=true
 inc:p.inc=1
 filter:p.filter=F
 view:p.view=[]
 near:p.near=[]
 ring:p.ring=zR
theorem aph{nd:UInt8}{p:af}(h:Al nd [] p): ∃F,Al nd F (gG c p f)/\gG c p f={ p with filter:=F }/\fB c.schema F=true:=by
 unfold gG;rw[if_neg (by rw[h.up];decide)]
 split
 ·refine⟨(br c.schema f).1,?_,?_,wT _ _⟩
  ·rw[oz (p:={ p with filter:=(br c.schema f).1 }) h.view h.near h.ring];exact⟨h.node,h.up,h.inc,rfl,h.view,h.near,h.ring⟩
  ·exact oz (p:={ p with filter:=(br c.schema f).1 }) h.view h.near h.ring
 ·refine⟨[],h,?_,rfl⟩;rw[<-h.filter]
theorem nD{nd:UInt8}{p:af}(h:Al nd [] p):gG c p []=p/\jK c p []=0:=by
 have hu: ¬p.up=false:=by rw[h.up];decide
 unfold gG jK;rw[if_neg hu,if_pos (show(br c.schema []).2=0 from rfl),if_neg hu]
 refine⟨?_,rfl⟩;have e2:({ p with filter:=([]:List GSpan) }:af)=p:=by rw[<-h.filter]
 show ay c { p with filter:=([]:List GSpan) } []=p;rw[e2];exact oz h.view h.near h.ring
structure Beg(c:an)(F:List GSpan)(P0 Q0:af)(M:aF)(P1:af):Prop where
 m1:iB c Q0 0=([M],0)
 m2:x8 M
 p1:bA c P0 M []=(P1,[],[])\/ ∃W,bA c P0 M []=(P1,[W],[])
 p2:Kn 0 P1
 p3:P1.near=[]
 p4:P1.count=0
 ev:Ev1 P0 P1
theorem anC(hc:az c=true){P0 Q0:af}(h0:Al 0 [] P0)(h1:Al 1 F Q0)(hF:fB c.schema F=true)(hF8:F.length<=8)(hFs: ∀s∈F,okS s)
  (hl:(P0.table.length:Int)=c.nodes) (t0:P0.table[0]? =some ⟨1,1,0⟩) (t1:P0.table[1]? =some ⟨0,0,0⟩) (hrp:2<=P0.reports.length) (hcnt:P0.count=0): ∃M P1,Beg c F P0 Q0 M P1:=by
 have hr:=bJ hc;have es:pSelf Q0=⟨1,1,0,F⟩:=by rw[pSelf,h1.node,h1.inc,h1.filter]
 obtain⟨d,hd⟩: ∃d:GDesc,d=⟨1,1,0,F⟩:=⟨_,rfl⟩;have d1:d.node=1:=by rw[hd]
 have d2:d.inc=1:=by rw[hd]
 have d3:d.filter=F:=by rw[hd]
 have dF:eM c d=true:=by
  rw[hd];simp only[eM,Bool.and_eq_true,decide_eq_true_eq];exact⟨⟨by show(1:Int)<_;omega,by decide⟩,hF⟩
 rw[<-hd]at es;obtain⟨M,hM⟩: ∃M:aF,M={ pMsg Q0 1 0 with list:=[d] }:=⟨_,rfl⟩;have M1:M.frm=1:=by rw[hM];exact h1.node
 have M2:M.inc=1:=by rw[hM];exact h1.inc
 have M3:M.to=0:=by rw[hM];rfl
 have M4:M.kind=1:=by rw[hM];rfl
 have M5:M.list=[d]:=by rw[hM]
 have hJ:iB c Q0 0=([M],0):=by
  unfold iB;rw[if_neg (by rw[h1.up];decide),if_neg (by rw[h1.node];rintro(e|e);exact absurd e (by show ¬c.nodes<=((0:Nat):Int);omega);exact absurd e (by decide)),es, <-hM]
 have hMg:x8 M:=⟨⟨by rw[M5];simp,fun x hx=>by rw[M5]at hx;rw[List.mem_singleton.1 hx,d3];omega,fun x hx s hs=>by rw[M5]at hx;rw[List.mem_singleton.1 hx,d3]at hs;exact hFs s hs,by rw[hM];simp[pMsg]⟩,by rw[hM];simp[pMsg,zEvt],by rw[hM];simp[pMsg],by rw[hM];simp[pMsg]⟩
 have hh:=rU (c:=c) (p:=P0) (node:=1) (inc:=1) (m:=⟨0,0,0⟩) (by show(1:Int)<_;omega) hl (by rw[h0.node];decide) (by decide) t1 (by decide) (by decide)
 obtain⟨p1,hp1⟩: ∃p1:af,p1={ P0 with table:=de P0.table 1 1,reports:=if (0:UInt16)<1 then dU P0.reports 1 else P0.reports }:=⟨_,rfl⟩
 have hh:au c P0 1 1=(p1,true):=by rw[hh,hp1]
 have p1t0:p1.table[0]? =some ⟨1,1,0⟩:=by
  rw[hp1];show(de P0.table 1 1)[0]? =_;rw[jj,t0,if_neg (by decide),Option.map_some,id]
 have p1t1:p1.table[1]? =some ⟨1,1,0⟩:=by
  rw[hp1];show(de P0.table 1 1)[1]? =_;rw[jj,t1,if_pos (by decide),Option.map_some]
  rfl
 have p1r:(xF p1.reports 1 0).inc=0:=by
  rw[hp1];show(xF (dU P0.reports 1) 1 0).inc=0;unfold xF dU;have e1:(P0.reports.set (1:UInt8).toNat (ek P0.reports.length))[(1:UInt8).toNat]? =some (ek P0.reports.length):=List.getElem?_set_self (by show 1<_;omega)
  have e2:(ek P0.reports.length)[(0:UInt8).toNat]? =some ⟨0,0,0⟩:=by
   unfold ek;rw[List.getElem?_map,List.getElem?_range (by show 0<_;omega)]
   rfl
  simp only[e1,e2]
 have p1f:p1.filter=[]:=by rw[hp1];exact h0.filter
 have p1n:p1.node=0:=by rw[hp1];exact h0.node
 have p1v:p1.view=[]:=by rw[hp1];exact h0.view
 have p1e:p1.near=[]:=by rw[hp1];exact h0.near
 have p1g:p1.ring=zR:=by rw[hp1];exact h0.ring
 have e1:ey p1.view d p1.node c.view=[d]:=by rw[p1v,p1n];exact ain (by rw[d1];decide) (by rw[d2];decide) (by omega)
 obtain⟨W,hW⟩: ∃W:aF,W={ pMsg p1 2 1 with list:=dM p1.view (pSelf p1),table:=p1.table }:=⟨_,rfl⟩
 have hjn:ei c p1 M=({ p1 with view:=[d] },[W]):=by
  unfold ei;rw[M5];simp only;rw[if_pos ⟨by rw[d1,M1],by rw[d2,M2],dF⟩,M1,hW,e1]
 have hcur:ch { p1 with view:=[d] } d=true:=by
  rw[s7 (p:=p1) (q:={ p1 with view:=[d] }) rfl rfl];exact ae8 p1n p1t1 d1 (by rw[d2];decide)
 have hm:=agl (c:=c) (p:={ p1 with view:=[d] }) (d:=d) rfl hcur p1e p1g (by show bl p1.node _=_;rw[p1n];exact ahO (by rw[d1];decide) (by rw[d2];decide)) (by show fScored p1.filter _=_;rw[p1f];exact qc _)
 have hT:bA c P0 M []=(ay c { p1 with view:=[d] } [],[W],[]):=by
  unfold bA;rw[if_pos (by rw[M4];decide)]
  have:gr [] c P0 M=(ay c { p1 with view:=[d] } [],[W]):=by
   unfold gr;rw[if_neg (by rw[h0.up,M3,h0.node];simp),if_pos M4]
   unfold v9;simp only;rw[M1,M2,hh];simp only[if_true];rw[hjn]
  rw[this]
 rw[hm]at hT;refine⟨M,_,hJ,hMg,.inr ⟨W,hT⟩,⟨p1n,by rw[hp1];exact h0.up,by rw[hp1];exact h0.inc,p1f,fun x hx=>by rw[List.mem_singleton.1 hx];exact d1,⟨d,rfl,d1,by rw[d2];decide⟩,p1t0,p1t1,p1r⟩,rfl,by rw[hp1];exact hcnt,?_⟩
 rw[hp1];exact⟨rfl,rfl,rfl,rfl,rfl,rfl,rfl,rfl,rfl,rfl,rfl⟩
end
attribute[local go_sem] zDesc aQ ah fzD plR a_ aN aP aD aB ak aE aU z8 z16 z32 z64 encMg ba bP aO aC iD List.map_cons List.map_nil
theorem abJ(v a b:Int):Con2 Tryz.prog 92 [.v (.int .i32 v),.v (.int .i32 a),.v (.int .i32 b)] (· =plR (.v (.int .i32 (if b<(if v<a then a else v)then b else (if v<a then a else v))))):=by
 refine Con2.ofEmb ?_;refine en_ Tryz.func92 [.tmp 6] (g2_ ?_);refine g2_ ?_
 by_cases h1:v<a
 ·rw[decide_eq_true h1,if_pos h1];refine g2_ ?_
  by_cases h2:b<a
  ·rw[decide_eq_true h2,if_pos h2];refine g2_ ?_;refine ae ?_ rfl;exact ws_
  ·rw[decide_eq_false h2,if_neg h2];refine g2_ ?_;refine ae ?_ rfl;exact ws_
 ·rw[decide_eq_false h1,if_neg h1];refine g2_ ?_
  by_cases h2:b<v
  ·rw[decide_eq_true h2,if_pos h2];refine g2_ ?_;refine ae ?_ rfl;exact ws_
  ·rw[decide_eq_false h2,if_neg h2];refine g2_ ?_;refine ae ?_ rfl;exact ws_
def oN(s:List GSpan)(k:Nat):List (List DV):=((s.take k).map fun x=>bP (brG x))++(s.drop k).map fun _=>bP 0
section
variable {s:List GSpan} {k:Nat}
theorem ap0:oN s 0=List.replicate s.length (bP 0):=by
 unfold oN;rw[List.take_zero,List.drop_zero,List.map_nil,List.nil_append,List.map_const']
theorem ajF(h:k<s.length):(oN s k)[k]? =some (bP 0):=by
 unfold oN;rw[List.getElem?_append_right (by simp;omega)]
 have:k-((s.take k).map fun x=>bP (brG x)).length=0:=by simp;omega
 rw[this,List.drop_eq_getElem_cons h];rfl
theorem abb:(oN s k).length=s.length:=by
 unfold oN;simp only[List.length_append,List.length_map,List.length_take,List.length_drop];omega
theorem aiR(h:k<s.length):(oN s k).set k (bP (brG s[k]))=oN s (k+1):=by
 unfold oN;have hl:((s.take k).map fun x=>bP (brG x)).length=k:=by simp;omega
 rw[List.set_append_right _ _ (by omega),hl,Nat.sub_self,List.drop_eq_getElem_cons h,List.map_cons,List.set_cons_zero,List.take_add_one,List.getElem?_eq_getElem h,List.map_append,List.append_assoc]
 rfl
theorem ajR:oN s s.length=(brK s).map bP:=by
 unfold oN brK;rw[List.take_length,List.drop_length,List.map_nil,List.append_nil,List.map_map];rfl
end
theorem aiy(s:List GSpan)(hs0:1<=s.length)(hs:s.length<=4000000):Con2 Tryz.prog 33 [fzS s,.fz 1 ([]:List (List DV))] (· =plR (.fz 1 ((brK s).map bP))):=by
 refine Con2.ofEmb ?_;refine en_ Tryz.func33 [.tmp 4] (g2_ ?_);refine gx_ ?_;refine aw s.length (fun k=>[]) (fun _=>[]) (fun k=>[(0,.arr 21 1 (oN s k) false)]) 1 (fun _=>True) (aa [] ?_) trivial (fun g k=>ws_) (by omega) (fun g=>ws_) (fun k hk _=>?_) (fun _=>?_)
 ·refine gf_ @ap0 ?_
  first|done|rfl|exact⟨rfl,rfl⟩
 ·have hg:(oN s k)[k]? =some (bP 0):=ajF hk;have hw:=abJ 0 s[k].a s[k].b;have hst:=aiR hk;unfold brG at hst;simp only[bP]at hg hst;refine gf_ (mE_ hk) ?_;refine .inl ⟨[oF 0,oF 1,oF 2,oF 3,oF 6,oF 8,oF 4,oF 7,oF 9,oF 5,oF 10,oF 11,oF 12],by kernel_rfl,?_⟩
  refine gg_ hg @abb ?_;refine cw_ hw ?_;refine gg_ @abb hg ?_;refine⟨k+1,aa [] ?_,rfl⟩
  repeat first|simp-implicitDefEqProofs only[go_sem,ab,hst]|with_reducible refine gl_ ?_
  first|done|rfl|exact⟨rfl,rfl⟩
 ·refine g2_ ?_;rw[ajR];refine ae ?_ rfl;refine gf_ @brK.eq_1 ?_;rw[List.take_of_length_le (by simp)]
