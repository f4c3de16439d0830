import Derived.Test.YtmhmahcdanclnaaGreatNr39
set_option linter.unusedSectionVars false
set_option linter.unusedSimpArgs false
set_option linter.unusedVariables false
set_option maxRecDepth 10000
set_option maxHeartbeats 4000000
namespace Go.Proofs.YtmhmahcdanclnaaGreat.V
open Go.Eng
attribute [local go_sem] aQ ah fzD plR a_ aN aP aD aB ak aE aU z8 z16 z32 z64 encMg aO bP aC dZ aI ba iD ar
theorem mz(b:eo)(x:GID):(cT b x=(b,151))\/((cT b x).2=0/\(cT b x).1.room=b.room/\ ∃i,(cT b x).1.evs=b.evs.eraseIdx i):=by grind [cT]
theorem aeG{b:eo}(x:GID)(h:okB b):okB (cT b x).1:=by
 rcases mz b x with e|⟨_,_,i,e⟩
 ·rw[e];exact h
 ·refine⟨?_,fun y hy=>?_⟩
  ·rw[e];exact Nat.le_trans (List.eraseIdx_sublist b.evs i).length_le h.1
  ·rw[e]at hy;exact h.2 y ((List.eraseIdx_sublist b.evs i).subset hy)
def gnB(p:af)(k:Nat):eo:=(((eIds p.buf.evs).take k).foldl cq p).buf
def gnC(p:af)(k:Nat):Int:=(((eIds p.buf.evs).take k).foldl cq p).collected
theorem aqj(p:af)(x:GID):cq p x={ p with buf:=(cq p x).buf,collected:=(cq p x).collected }:=by
 unfold cq;split
 ·rfl
 ·split<;>rfl
theorem ako: ∀(l:List GID) (p:af),l.foldl cq p={ p with buf:=(l.foldl cq p).buf,collected:=(l.foldl cq p).collected }
 |[],p=>rfl
 |x::l,p=>by
  have h:=ako l (cq p x);rw[List.foldl_cons,h];rw[aqj p x]
theorem ajA(p:af)(k:Nat):((eIds p.buf.evs).take k).foldl cq p={ p with buf:=gnB p k,collected:=gnC p k }:=ako _ p
theorem aq9(p:af):lB p={ p with buf:=gnB p p.buf.evs.length,collected:=gnC p p.buf.evs.length }:=by
 rw[<-ajA,List.take_of_length_le (by simp[eIds])];rfl
theorem afw(p:af){k:Nat}(hk:k<(eIds p.buf.evs).length):cq { p with buf:=gnB p k,collected:=gnC p k } (eIds p.buf.evs)[k]={ p with buf:=gnB p (k+1),collected:=gnC p (k+1) }:=by
 rw[<-ajA, <-ajA,List.take_add_one,List.getElem?_eq_getElem hk,List.foldl_append];rfl
theorem oq(p:af){k:Nat}(hk:k<(eIds p.buf.evs).length)(h:cG p.reports p.table p.node p.rows (eIds p.buf.evs)[k]=false\/(cT (gnB p k) (eIds p.buf.evs)[k]).2≠0):gnB p (k+1)=gnB p k/\gnC p (k+1)=gnC p k:=by grind [afw,cq,cG,eIds]
theorem aki(p:af){k:Nat}(hk:k<(eIds p.buf.evs).length)(h:cG p.reports p.table p.node p.rows (eIds p.buf.evs)[k]=true)(h2:(cT (gnB p k) (eIds p.buf.evs)[k]).2=0):gnB p (k+1)=(cT (gnB p k) (eIds p.buf.evs)[k]).1/\gnC p (k+1)=gnC p k+1:=by grind [afw,cq,cG,eIds]
theorem apV(p:af)(hb:okB p.buf): ∀k,okB (gnB p k)/\p.collected<=gnC p k/\gnC p k<=p.collected+k
 |0=>⟨hb,Int.le_refl _,by show p.collected<=_;omega⟩
 | k+1=>by
  obtain⟨h1,h2,h3⟩:=apV p hb k
  by_cases hk:k<(eIds p.buf.evs).length
  ·cases hs:cG p.reports p.table p.node p.rows (eIds p.buf.evs)[k]with
   |false=>rw[(oq p hk (.inl hs)).1,(oq p hk (.inl hs)).2];exact⟨h1,h2,by omega⟩
   |true=>
    by_cases h4:(cT (gnB p k) (eIds p.buf.evs)[k]).2=0
    ·rw[(aki p hk hs h4).1,(aki p hk hs h4).2];exact⟨aeG _ h1,by omega,by omega⟩
    ·rw[(oq p hk (.inr h4)).1,(oq p hk (.inr h4)).2];exact⟨h1,h2,by omega⟩
  ·have e:(eIds p.buf.evs).take (k+1)=(eIds p.buf.evs).take k:=by rw[List.take_of_length_le (by omega),List.take_of_length_le (by omega)]
   have e1:gnB p (k+1)=gnB p k:=by unfold gnB;rw[e]
   have e2:gnC p (k+1)=gnC p k:=by unfold gnC;rw[e]
   rw[e1,e2];exact⟨h1,h2,by omega⟩
def oU(p:af):af:=lB { p with pulls:=Eng.pTick p.pulls }
def gK(c:an)(p:af)(dr:List UInt32):af×List aF:=V.pTick c (oU p) dr (aH (dy c (ay c (bQ c (oU p)) []) dr).1)
def mK(q:af):af:={ q with count:=if q.count.toNat<4294967295 then q.count+1 else q.count }
theorem aaU(c:an)(p:af)(dr:List UInt32)(h:p.up=true):gI c p dr=(mK (gK c p dr).1,(gK c p dr).2++(aH (mK (gK c p dr).1)).map (dg (mK (gK c p dr).1))):=by
 unfold gI;rw[if_neg (by rw[h];decide)]
 rfl
theorem ah5(c:an)(p:af)(dr:List UInt32)(hp:okP p)(hr1:alC p.reports)(hcol:0<=p.collected/\p.collected<=1000000000)
  (kt:p.up=true->Con2 Tryz.prog 96 [.agg (aB c),.agg (ak (oU p)),.fz 1 (dr.map aI)] (· =⟨.tup [.agg (ak (gK c p dr).1),.rf 0 0 (gK c p dr).2.length],[(0,.arr 60 17 ((gK c p dr).2.map encMg) false)],1⟩))
  (hml:p.up=true->(gK c p dr).2.length<=1000000) (hmo:p.up=true->okP (gK c p dr).1) (hmr:p.up=true->(gK c p dr).1.rows.length<=256)
  (kl:p.up=true->Con2 Tryz.prog 91 [.agg (ak (mK (gK c p dr).1))] (· =plR (.fz 1 ((aH (mK (gK c p dr).1)).map aC)))) (hll:p.up=true->(aH (mK (gK c p dr).1)).length<=1000000):
  Con2 Tryz.prog 35 [.agg (aB c),.agg (ak p),.fz 1 (dr.map aI)] (· =plR (.tup [.agg (ak (gI c p dr).1),.fz 17 ((gI c p dr).2.map encMg)])):=by
 refine Con2.ofEmb ?_;have kf:=ix c p hp;have ka:=adM p.pulls hp.pulls;have hBk:=apV { p with pulls:=Eng.pTick p.pulls } hp.evs;have hBs:=fun k hk=>oq { p with pulls:=Eng.pTick p.pulls } (k:=k) hk
 have hBg:=fun k hk=>aki { p with pulls:=Eng.pTick p.pulls } (k:=k) hk
 have hBe:=aq9 { p with pulls:=Eng.pTick p.pulls };have hB0:gnB { p with pulls:=Eng.pTick p.pulls } 0=p.buf:=rfl;have hC0:gnC { p with pulls:=Eng.pTick p.pulls } 0=p.collected:=rfl;have ki:=aaE p.buf hp.evs;have hil:(eIds p.buf.evs).length=p.buf.evs.length:=by simp[eIds]
 have hel:=hp.evs.1;generalize gnB { p with pulls:=Eng.pTick p.pulls }=B at hBk hBs hBg hBe hB0;generalize gnC { p with pulls:=Eng.pTick p.pulls }=C at hBk hBs hBg hBe hC0;change oU p=_ at hBe;simp only at hBk hBs hBg hBe hB0 hC0;have ks:=fun x=>adK p.reports p.table p.node p.rows x hr1 hp.table hp.rows
 generalize eIds p.buf.evs=I at ki hil hBs hBg;rw[hBe]at kt;refine en_ Tryz.func35 [.cell 6 49,.tmp 7] (g2_ ?_);refine g2_ ?_;refine cw_ kf (g2_ ?_);cases hu:p.up with
 |false=>
  have e1:gI c p dr=(p,[]):=by unfold gI;rw[if_pos hu]
  rw[e1];refine g2_ ?_;refine ae ?_ rfl;exact wf_ hu
 | true=>
  rw[aaU c p dr hu];have kt:=kt hu;have kl:=kl hu;have hml:=hml hu;have hmo:=hmo hu;have hmr:=hmr hu;have hll:=hll hu;refine g2_ ?_;refine cx_ ka (wf_ hu) (g2_ ?_);refine cx_ ki (wf_ hu) (gx_ ?_);refine aw I.length (fun k=>[]) (fun k=>[(4,⟨ak { p with pulls:=Eng.pTick p.pulls,buf:=B k,collected:=C k },49⟩)]) (fun k=>[]) 0 (fun _=>True) (aa [] ?_) trivial (fun g k=>ws_) (by omega) (fun g=>ws_) (fun k hk _=>?_) (fun _=>?_)
  ·refine gf_ (c3_ hB0 hC0 hu) ?_;rfl
  ·obtain⟨b1,b2,b3⟩:=hBk k;have b4:=hBs k hk;have b5:=hBg k hk;have kr:=aai (B k) I[k] b1;have ks:=ks I[k];have hg:(I.map aO)[k]? =some (aO I[k]):=aZ hk;have hrc:=mz (B k) I[k];generalize I[k]=x at b4 b5 kr ks hg hrc;refine gf_ hg ?_;refine cw_ ks (g2_ ?_);cases hst:cG p.reports p.table p.node p.rows x with
   |false=>
    obtain⟨e1,e2⟩:=b4 (.inl hst);refine g2_ ?_;refine⟨k+1,aa [] ?_,rfl⟩;exact wh_ e1 e2 hu
   | true=>
    refine g2_ ?_;refine cw_ kr (g2_ ?_);rcases hrc with e3|⟨e3,_,_,_⟩
    ·obtain⟨e1,e2⟩:=b4 (.inr (by rw[e3];exact(by decide:(151:Int)≠0)))
     rw[e3];refine g2_ ?_;refine⟨k+1,aa [] ?_,rfl⟩;exact wh_ e1 e2 hu
    ·obtain⟨e1,e2⟩:=b5 hst e3;rw[e3];refine g2_ ?_;refine⟨k+1,aa [] ?_,rfl⟩;exact wh_ e1 e2 hu
  ·have hBn:=hBk I.length;rw[<-hil]at kt;generalize gK c p dr=M at kt hml hmo hmr kl hll ⊢;obtain⟨q,S⟩:=M;simp only at kt hml hmo hmr kl hll ⊢;refine g2_ ?_;refine cx_ kt (wf_ hu) (g2_ ?_);have h32:=q.count.toNat_lt;have h1:((4294967295:Nat):Int)=4294967295:=rfl;refine bb (fun hc=>?_) (fun hc=>?_)
   have hcc:q.count.toNat<4294967295:=by omega
   have hn:mK q={ q with count:=q.count+1 }:=by unfold mK;rw[if_pos hcc]
   rw[hn]at kl hll⊢
   have hc1:((q.count+1).toNat:Int)=(q.count.toNat:Int)+1:=by
    have h2:=UInt32.toNat_add q.count 1;rw[show(1:UInt32).toNat=1 from rfl]at h2
    omega
   refine g2_ ?_;rw[yi];refine g2_ ?_;generalize q.count+1=n at kl hll⊢
   rotate_left
   obtain⟨n,hn2⟩: ∃n,n=q.count:=⟨_,rfl⟩;have hn:mK q={ q with count:=n }:=by rw[hn2];unfold mK;rw[if_neg (by omega)]
   rw[hn]at kl hll ⊢;rw[<-hn2];clear hn hn2
   all_goals
    have kmm:=fun to=>kI { q with count:=n } 11 to
    have kta:=dY (q.table.map aP) (by rw[List.length_map];have:=hmo.table;omega)
    have kma:=adq q.rows hmr;have kid:=aaE q.buf hmo.evs;generalize aH { q with count:=n }=L at kl hll ⊢;obtain⟨f,hf⟩: ∃f:UInt8->aF,f=dg { q with count:=n }:=⟨_,rfl⟩;have hfe: ∀to,encMg (f to)=[.v (.int .u8 11),.v (.int .u8 q.node.toNat),.v (.int .u16 q.inc.toNat),.v (.int .u8 to.toNat),.fz 4 [],.fz 3 (q.table.map aP),.v (.int .u8 0),.v (.int .u16 0),.v (.int .u32 0),.fz 1 [],.fz 1 [],.v (.int .u8 12),.v (.int .u8 q.node.toNat),.v (.int .u16 q.inc.toNat),.v (.int .u32 n.toNat),.fz 3 ((iY q.rows).map aN),.fz 3 ((eIds q.buf.evs).map aO)]:=fun to=>by rw[hf];rfl
    rw[<-hf];clear hf;refine g2_ ?_;refine cw_ kl (gx_ ?_);refine aw L.length (fun k=>[(12,.d (.rf 0 0 (S++(L.take k).map f).length)),(71,.unk),(65,.unk),(69,.unk)]) (fun _=>[]) (fun k=>[(0,.arr 60 17 ((S++(L.take k).map f).map encMg) false)]) 1 (fun _=>True) (aa [] ?_) trivial (fun g k=>ws_) (by omega) (fun g=>ws_) (fun k hk _=>?_) (fun _=>?_)
    ·refine x0_ ?_
     first|done|rfl|exact⟨rfl,rfl⟩
    ·have hg:(L.map aC)[k]? =some [.v (.int .u8 L[k].toNat)]:=by rw[List.getElem?_map,List.getElem?_eq_getElem hk];rfl
     have hsn:S++(L.take (k+1)).map f=(S++(L.take k).map f)++[f L[k]]:=by rw[List.take_add_one,List.getElem?_eq_getElem hk,List.map_append,List.append_assoc];rfl
     have hsl:(S++(L.take (k+1)).map f).length=(S++(L.take k).map f).length+1:=by rw[hsn,List.length_append];rfl
     have hsl2:(S++(L.take k).map f).length<=4000000:=by rw[List.length_append,List.length_map,List.length_take];omega
     have kk:=kmm L[k];have hfk:=hfe L[k];generalize S++(L.take k).map f=A at hsn hsl hsl2;generalize f L[k]=x at hsn hfk;refine gf_ hg ?_;refine cw_ kk ?_
     repeat first|simp-implicitDefEqProofs only[go_sem,ab,pMsg,zEvt,List.map_nil]|with_reducible first|refine gl_ ?_|refine ga_ ?_|refine gn_ ?_
     refine cw_ kta (g2_ ?_);refine cw_ kma (g2_ ?_);refine cw_ kid (gx_ ?_);refine⟨k+1,aa [(0,.to 2)] ?_,rfl⟩;refine x1_ (c2_ hsn hsl) ?_
     first|done|exact congrArg (fun z=>List.map encMg A++[z]) hfk|trace_state
    ·rw[List.take_of_length_le (Nat.le_refl L.length)];have hsl3:(S++L.map f).length<=4000000:=by rw[List.length_append,List.length_map];omega
     generalize S++L.map f=A at hsl3 ⊢;refine g2_ ?_;refine ae ?_ rfl;exact wf_ @ao
