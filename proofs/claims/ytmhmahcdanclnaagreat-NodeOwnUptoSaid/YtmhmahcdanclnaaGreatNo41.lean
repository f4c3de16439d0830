import Derived.Test.YtmhmahcdanclnaaGreatNo40
set_option linter.unusedSectionVars false
set_option linter.unusedSimpArgs false
set_option linter.unusedVariables false
set_option maxRecDepth 10000
set_option maxHeartbeats 4000000
namespace Go.Proofs.YtmhmahcdanclnaaGreat.V
open Go.Eng
attribute [local go_sem] aS ah fzD plR ba aL aR aC aE ak az aU z8 z16 z32 z64 encMg aN b_ aA d_ aH a_ gj ao
theorem mw(b:d7)(x:GID):(bY b x=(b,151))\/((bY b x).2=0/\(bY b x).1.room=b.room/\ ∃i,(bY b x).1.evs=b.evs.eraseIdx i):=by grind [bY]
theorem abZ{b:d7}(x:GID)(h:okB b):okB (bY b x).1:=by
 rcases mw b x with e|⟨_,_,i,e⟩
 ·rw[e];exact h
 ·refine⟨?_,fun y hy=>?_⟩
  ·rw[e];exact Nat.le_trans (List.eraseIdx_sublist b.evs i).length_le h.1
  ·rw[e]at hy;exact h.2 y ((List.eraseIdx_sublist b.evs i).subset hy)
def gnB(p:af)(k:Nat):d7:=(((eIds p.buf.evs).take k).foldl bC p).buf
def gnC(p:af)(k:Nat):Int:=(((eIds p.buf.evs).take k).foldl bC p).collected
theorem arO(p:af)(x:GID):bC p x={ p with buf:=(bC p x).buf,collected:=(bC p x).collected }:=by
 unfold bC;split
 ·rfl
 ·split<;>rfl
theorem aj1: ∀(l:List GID) (p:af),l.foldl bC p={ p with buf:=(l.foldl bC p).buf,collected:=(l.foldl bC p).collected }
 |[],p=>rfl
 |x::l,p=>by
  have h:=aj1 l (bC p x);rw[List.foldl_cons,h];rw[arO p x]
theorem akR(p:af)(k:Nat):((eIds p.buf.evs).take k).foldl bC p={ p with buf:=gnB p k,collected:=gnC p k }:=aj1 _ p
theorem aqZ(p:af):gn p={ p with buf:=gnB p p.buf.evs.length,collected:=gnC p p.buf.evs.length }:=by
 rw[<-akR,List.take_of_length_le (by simp[eIds])];rfl
theorem afu(p:af){k:Nat}(hk:k<(eIds p.buf.evs).length):bC { p with buf:=gnB p k,collected:=gnC p k } (eIds p.buf.evs)[k]={ p with buf:=gnB p (k+1),collected:=gnC p (k+1) }:=by
 rw[<-akR, <-akR,List.take_add_one,List.getElem?_eq_getElem hk,List.foldl_append];rfl
theorem ou(p:af){k:Nat}(hk:k<(eIds p.buf.evs).length)(h:cm p.reports p.table p.node p.rows (eIds p.buf.evs)[k]=false\/(bY (gnB p k) (eIds p.buf.evs)[k]).2≠0):gnB p (k+1)=gnB p k/\gnC p (k+1)=gnC p k:=by grind [afu,bC,cm,eIds]
theorem amN(p:af){k:Nat}(hk:k<(eIds p.buf.evs).length)(h:cm p.reports p.table p.node p.rows (eIds p.buf.evs)[k]=true)(h2:(bY (gnB p k) (eIds p.buf.evs)[k]).2=0):gnB p (k+1)=(bY (gnB p k) (eIds p.buf.evs)[k]).1/\gnC p (k+1)=gnC p k+1:=by grind [afu,bC,cm,eIds]
theorem aqf(p:af)(hb:okB p.buf): ∀k,okB (gnB p k)/\p.collected<=gnC p k/\gnC p k<=p.collected+k
 |0=>⟨hb,Int.le_refl _,by show p.collected<=_;omega⟩
 | k+1=>by
  obtain⟨h1,h2,h3⟩:=aqf p hb k
  by_cases hk:k<(eIds p.buf.evs).length
  ·cases hs:cm p.reports p.table p.node p.rows (eIds p.buf.evs)[k]with
   |false=>rw[(ou p hk (.inl hs)).1,(ou p hk (.inl hs)).2];exact⟨h1,h2,by omega⟩
   |true=>
    by_cases h4:(bY (gnB p k) (eIds p.buf.evs)[k]).2=0
    ·rw[(amN p hk hs h4).1,(amN p hk hs h4).2];exact⟨abZ _ h1,by omega,by omega⟩
    ·rw[(ou p hk (.inr h4)).1,(ou p hk (.inr h4)).2];exact⟨h1,h2,by omega⟩
  ·have e:(eIds p.buf.evs).take (k+1)=(eIds p.buf.evs).take k:=by rw[List.take_of_length_le (by omega),List.take_of_length_le (by omega)]
   have e1:gnB p (k+1)=gnB p k:=by unfold gnB;rw[e]
   have e2:gnC p (k+1)=gnC p k:=by unfold gnC;rw[e]
   rw[e1,e2];exact⟨h1,h2,by omega⟩
def rU(p:af):af:=gn { p with pulls:=Eng.pTick p.pulls }
def kE(c:ar)(p:af)(dr:List UInt32):af×List aK:=V.pTick c (rU p) dr (aQ (ez c (aB c (ct c (rU p)) []) dr).1)
def qt(q:af):af:={ q with count:=if q.count.toNat<4294967295 then q.count+1 else q.count }
theorem ajU(c:ar)(p:af)(dr:List UInt32)(h:p.up=true):eu c p dr=(qt (kE c p dr).1,(kE c p dr).2++(aQ (qt (kE c p dr).1)).map (xQ (qt (kE c p dr).1))):=by
 unfold eu;rw[if_neg (by rw[h];decide)]
 rfl
theorem aiM(c:ar)(p:af)(dr:List UInt32)(hp:okP p)(hr1:ajH p.reports)(hcol:0<=p.collected/\p.collected<=1000000000)
  (kt:p.up=true->Con2 Tryz.prog 96 [.agg (aE c),.agg (ak (rU p)),.fz 1 (dr.map aH)] (· =⟨.tup [.agg (ak (kE c p dr).1),.rf 0 0 (kE c p dr).2.length],[(0,.arr 60 17 ((kE c p dr).2.map encMg) false)],1⟩))
  (hml:p.up=true->(kE c p dr).2.length<=1000000) (hmo:p.up=true->okP (kE c p dr).1) (hmr:p.up=true->(kE c p dr).1.rows.length<=256)
  (kl:p.up=true->Con2 Tryz.prog 91 [.agg (ak (qt (kE c p dr).1))] (· =plR (.fz 1 ((aQ (qt (kE c p dr).1)).map aA)))) (hll:p.up=true->(aQ (qt (kE c p dr).1)).length<=1000000):
  Con2 Tryz.prog 35 [.agg (aE c),.agg (ak p),.fz 1 (dr.map aH)] (· =plR (.tup [.agg (ak (eu c p dr).1),.fz 17 ((eu c p dr).2.map encMg)])):=by
 refine Con2.ofEmb ?_;have kf:=iA c p hp;have ka:=adi p.pulls hp.pulls;have hBk:=aqf { p with pulls:=Eng.pTick p.pulls } hp.evs;have hBs:=fun k hk=>ou { p with pulls:=Eng.pTick p.pulls } (k:=k) hk
 have hBg:=fun k hk=>amN { p with pulls:=Eng.pTick p.pulls } (k:=k) hk
 have hBe:=aqZ { p with pulls:=Eng.pTick p.pulls };have hB0:gnB { p with pulls:=Eng.pTick p.pulls } 0=p.buf:=rfl;have hC0:gnC { p with pulls:=Eng.pTick p.pulls } 0=p.collected:=rfl;have ki:=aaM p.buf hp.evs;have hil:(eIds p.buf.evs).length=p.buf.evs.length:=by simp[eIds]
 have hel:=hp.evs.1;generalize gnB { p with pulls:=Eng.pTick p.pulls }=B at hBk hBs hBg hBe hB0;generalize gnC { p with pulls:=Eng.pTick p.pulls }=C at hBk hBs hBg hBe hC0;change rU p=_ at hBe;simp only at hBk hBs hBg hBe hB0 hC0;have ks:=fun x=>jG p.reports p.table p.node p.rows x hr1 hp.table hp.rows
 generalize eIds p.buf.evs=I at ki hil hBs hBg;rw[hBe]at kt;refine en_ Tryz.func35 [.cell 6 49,.tmp 7] (g2_ ?_);refine g2_ ?_;refine cw_ kf (g2_ ?_);cases hu:p.up with
 |false=>
  have e1:eu c p dr=(p,[]):=by unfold eu;rw[if_pos hu]
  rw[e1];refine g2_ ?_;refine ae ?_ rfl;exact wf_ hu
 | true=>
  rw[ajU c p dr hu];have kt:=kt hu;have kl:=kl hu;have hml:=hml hu;have hmo:=hmo hu;have hmr:=hmr hu;have hll:=hll hu;refine g2_ ?_;refine cx_ ka (wf_ hu) (g2_ ?_);refine cx_ ki (wf_ hu) (gx_ ?_);refine aq I.length (fun k=>[]) (fun k=>[(4,⟨ak { p with pulls:=Eng.pTick p.pulls,buf:=B k,collected:=C k },49⟩)]) (fun k=>[]) 0 (fun _=>True) (aa [] ?_) trivial (fun g k=>ws_) (by omega) (fun g=>ws_) (fun k hk _=>?_) (fun _=>?_)
  ·refine gf_ (c3_ hB0 hC0 hu) ?_;rfl
  ·obtain⟨b1,b2,b3⟩:=hBk k;have b4:=hBs k hk;have b5:=hBg k hk;have kr:=zJ (B k) I[k] b1;have ks:=ks I[k];have hg:(I.map aN)[k]? =some (aN I[k]):=aV hk;have hrc:=mw (B k) I[k];generalize I[k]=x at b4 b5 kr ks hg hrc;refine gf_ hg ?_;refine cw_ ks (g2_ ?_);cases hst:cm p.reports p.table p.node p.rows x with
   |false=>
    obtain⟨e1,e2⟩:=b4 (.inl hst);refine g2_ ?_;refine⟨k+1,aa [] ?_,rfl⟩;exact wh_ e1 e2 hu
   | true=>
    refine g2_ ?_;refine cw_ kr (g2_ ?_);rcases hrc with e3|⟨e3,_,_,_⟩
    ·obtain⟨e1,e2⟩:=b4 (.inr (by rw[e3];exact(by decide:(151:Int)≠0)))
     rw[e3];refine g2_ ?_;refine⟨k+1,aa [] ?_,rfl⟩;exact wh_ e1 e2 hu
    ·obtain⟨e1,e2⟩:=b5 hst e3;rw[e3];refine g2_ ?_;refine⟨k+1,aa [] ?_,rfl⟩;exact wh_ e1 e2 hu
  ·have hBn:=hBk I.length;rw[<-hil]at kt;generalize kE c p dr=M at kt hml hmo hmr kl hll ⊢;obtain⟨q,S⟩:=M;simp only at kt hml hmo hmr kl hll ⊢;refine g2_ ?_;refine cx_ kt (wf_ hu) (g2_ ?_);have h32:=q.count.toNat_lt;have h1:((4294967295:Nat):Int)=4294967295:=rfl;refine aZ (fun hc=>?_) (fun hc=>?_)
   have hcc:q.count.toNat<4294967295:=by omega
   have hn:qt q={ q with count:=q.count+1 }:=by unfold qt;rw[if_pos hcc]
   rw[hn]at kl hll⊢
   have hc1:((q.count+1).toNat:Int)=(q.count.toNat:Int)+1:=by
    have h2:=UInt32.toNat_add q.count 1;rw[show(1:UInt32).toNat=1 from rfl]at h2
    omega
   refine g2_ ?_;rw[yf];refine g2_ ?_;generalize q.count+1=n at kl hll⊢
   rotate_left
   obtain⟨n,hn2⟩: ∃n,n=q.count:=⟨_,rfl⟩;have hn:qt q={ q with count:=n }:=by rw[hn2];unfold qt;rw[if_neg (by omega)]
   rw[hn]at kl hll ⊢;rw[<-hn2];clear hn hn2
   all_goals
    have kmm:=fun to=>kz { q with count:=n } 11 to
    have kta:=ec (q.table.map aR) (by rw[List.length_map];have:=hmo.table;omega)
    have kma:=ado q.rows hmr;have kid:=aaM q.buf hmo.evs;generalize aQ { q with count:=n }=L at kl hll ⊢;obtain⟨f,hf⟩: ∃f:UInt8->aK,f=xQ { q with count:=n }:=⟨_,rfl⟩;have hfe: ∀to,encMg (f to)=[.v (.int .u8 11),.v (.int .u8 q.node.toNat),.v (.int .u16 q.inc.toNat),.v (.int .u8 to.toNat),.fz 4 [],.fz 3 (q.table.map aR),.v (.int .u8 0),.v (.int .u16 0),.v (.int .u32 0),.fz 1 [],.fz 1 [],.v (.int .u8 12),.v (.int .u8 q.node.toNat),.v (.int .u16 q.inc.toNat),.v (.int .u32 n.toNat),.fz 3 ((kU q.rows).map aL),.fz 3 ((eIds q.buf.evs).map aN)]:=fun to=>by rw[hf];rfl
    rw[<-hf];clear hf;refine g2_ ?_;refine cw_ kl (gx_ ?_);refine aq L.length (fun k=>[(12,.d (.rf 0 0 (S++(L.take k).map f).length)),(71,.unk),(65,.unk),(69,.unk)]) (fun _=>[]) (fun k=>[(0,.arr 60 17 ((S++(L.take k).map f).map encMg) false)]) 1 (fun _=>True) (aa [] ?_) trivial (fun g k=>ws_) (by omega) (fun g=>ws_) (fun k hk _=>?_) (fun _=>?_)
    ·refine x0_ ?_
     first|done|rfl|exact⟨rfl,rfl⟩
    ·have hg:(L.map aA)[k]? =some [.v (.int .u8 L[k].toNat)]:=by rw[List.getElem?_map,List.getElem?_eq_getElem hk];rfl
     have hsn:S++(L.take (k+1)).map f=(S++(L.take k).map f)++[f L[k]]:=by rw[List.take_add_one,List.getElem?_eq_getElem hk,List.map_append,List.append_assoc];rfl
     have hsl:(S++(L.take (k+1)).map f).length=(S++(L.take k).map f).length+1:=by rw[hsn,List.length_append];rfl
     have hsl2:(S++(L.take k).map f).length<=4000000:=by rw[List.length_append,List.length_map,List.length_take];omega
     have kk:=kmm L[k];have hfk:=hfe L[k];generalize S++(L.take k).map f=A at hsn hsl hsl2;generalize f L[k]=x at hsn hfk;refine gf_ hg ?_;refine cw_ kk ?_
     repeat first|simp-implicitDefEqProofs only[go_sem,ab,pMsg,zEvt,List.map_nil]|with_reducible first|refine gl_ ?_|refine ga_ ?_|refine gn_ ?_
     refine cw_ kta (g2_ ?_);refine cw_ kma (g2_ ?_);refine cw_ kid (gx_ ?_);refine⟨k+1,aa [(0,.to 2)] ?_,rfl⟩;refine x1_ (c2_ hsn hsl) ?_
     first|done|exact congrArg (fun z=>List.map encMg A++[z]) hfk|trace_state
    ·rw[List.take_of_length_le (Nat.le_refl L.length)];have hsl3:(S++L.map f).length<=4000000:=by rw[List.length_append,List.length_map];omega
     generalize S++L.map f=A at hsl3 ⊢;refine g2_ ?_;refine ae ?_ rfl;exact wf_ @an
end Go.Proofs.YtmhmahcdanclnaaGreat.V
namespace Go.Proofs.YtmhmahcdanclnaaGreat.V
open Go.Eng
attribute [local go_sem] aS ah fzD plR ba aL aR aC aE ak az aU z8 z16 z32 z64 encMg aN b_ aA d_ aH List.set_cons_succ List.set_cons_zero
theorem agV{b:d7}(n:UInt8)(i:UInt16)(h:okB b):okB (bK b n i).1:=by
 unfold bK;split
 ·exact h
 ·rename_i j _;split
  ·exact h
  ·exact⟨Nat.le_trans (List.eraseIdx_sublist b.evs j).length_le h.1,fun y hy=>h.2 y ((List.eraseIdx_sublist b.evs j).subset hy)⟩
theorem yT(c:ar)(p:af)(vals:List Int)(data:List UInt8)(dr:List UInt32):aD c p vals data dr=
  if p.up=false then (p,zEvt,false,[],53)else if bZ c.schema (da p vals data)=false then (p,zEvt,false,[],51)else if c.last.toNat<=p.seq.toNat then (p,zEvt,false,[],55)
  else if decide (p.buf.room<=(p.buf.evs.length:Int))=true/\(bK p.buf p.node p.inc).2.2≠0 then (p,zEvt,false,[],(bK p.buf p.node p.inc).2.2)
  else if (dk (if decide (p.buf.room<=(p.buf.evs.length:Int))=true then (bK p.buf p.node p.inc).1 else p.buf) (da p vals data)).2≠0 then (p,zEvt,false,[],(dk (if decide (p.buf.room<=(p.buf.evs.length:Int))=true then (bK p.buf p.node p.inc).1 else p.buf) (da p vals data)).2)
  else (ix p (dk (if decide (p.buf.room<=(p.buf.evs.length:Int))=true then (bK p.buf p.node p.inc).1 else p.buf) (da p vals data)).1 (if decide (p.buf.room<=(p.buf.evs.length:Int))=true then p.evicted+1 else p.evicted),da p vals data,fb p.filter vals,
   gb c (ix p (dk (if decide (p.buf.room<=(p.buf.evs.length:Int))=true then (bK p.buf p.node p.inc).1 else p.buf) (da p vals data)).1 (if decide (p.buf.room<=(p.buf.evs.length:Int))=true then p.evicted+1 else p.evicted)) (da p vals data) (UInt8.ofNat (c.hops % 256).toNat) (aQ p) dr,0):=rfl
theorem wS(c:ar)(p:af)(vals:List Int)(data:List UInt8)(dr:List UInt32)(hp:okP p)(hs:c.schema.length<=4000000)(hv:vals.length<=4000000)(hd:data.length<=4000000)(hdr:dr.length<=4000000)
  (hn:p.node.toNat<p.rows.length) (hev:0<=p.evicted/\p.evicted<=1000000000) (hsw:0<=c.swap/\c.swap<=1000000) (hhop:0<=c.hops/\c.hops<=255)
  (kl: ∀b ev,Con2 Tryz.prog 91 [.agg (ak (ix p b ev))] (· =plR (.fz 1 ((aQ p).map aA)))) (hll:(aQ p).length<=4000000):
  Con2 Tryz.prog 32 [.agg (aE c),.agg (ak p),.fz 1 (vals.map b_),.fz 1 (data.map aA),.fz 1 (dr.map aH)] (· =plR (.tup [.agg (ak (aD c p vals data dr).1),.agg (az (aD c p vals data dr).2.1),.v (.bool (aD c p vals data dr).2.2.1),.fz 17 ((aD c p vals data dr).2.2.2.1.map encMg),.v (.int .i64 (aD c p vals data dr).2.2.2.2)])):=by
 refine Con2.ofEmb ?_;have kf:=lg c p hp;obtain⟨E,hE⟩: ∃E,E=da p vals data:=⟨_,rfl⟩;have hEe:az E=[.v (.int .u8 p.node.toNat),.v (.int .u16 p.inc.toNat),.v (.int .u32 (p.seq+1).toNat),.fz 1 (vals.map b_),.fz 1 (data.map aA)]:=by rw[hE];rfl
 have hE1:E.vals.length<=4000000/\E.data.length<=4000000:=by rw[hE];exact⟨hv,hd⟩
 have kc:=jL E hE1.1 hE1.2;have ke:=sM c.schema E hs hE1.1 hE1.2;rw[hEe]at kc ke;have hh8:((UInt8.ofNat (c.hops % 256).toNat).toNat:Int)=c.hops:=by rw[UInt8.toNat_ofNat'];omega
 have hbd:=p.node.toNat_lt;have hrl:=hp.rows;obtain⟨R,hR⟩: ∃R,aD c p vals data dr=R:=⟨_,rfl⟩;rw[hR];rw[yT, <-hE]at hR;refine en_ Tryz.func32 [.cell 10 49,.cell 11 56,.tmp 12,.tmp 13,.tmp 14] (g2_ ?_);refine g2_ ?_;refine cw_ kf (g2_ ?_);cases hu:p.up with
 |false=>
  rw[if_pos hu]at hR;subst hR;refine g2_ ?_;refine im_ Tryz.func86 [.cell 3 49,.cell 4 56,.tmp 5,.tmp 6,.tmp 7] (g2_ ?_);refine g2_ ?_;refine ae ?_ rfl;exact v1_ (c4_ hu @zEvt.eq_1 @List.map_nil.{0,0} (c2_ @List.length_map.{0,0} @an))
  trace_state
 | true=>
  rw[if_neg (by rw[hu];decide)]at hR
  refine gf_ @yf ?_;refine cw_ kc (g2_ ?_);refine CallS.eqW ke ws_ (.inr ws_) ?_;refine g2_ ?_;cases h2:bZ c.schema E with
  |false=>
   rw[if_pos h2]at hR;subst hR;refine g2_ ?_;refine im_ Tryz.func86 [.cell 3 49,.cell 4 56,.tmp 5,.tmp 6,.tmp 7] (g2_ ?_);refine g2_ ?_;refine ae ?_ rfl
   repeat first|simp-implicitDefEqProofs only[go_sem,ab,hu,zEvt,List.map_nil,List.length_map,an]|with_reducible refine gl_ ?_
  |true=>
  rw[if_neg (by rw[h2];decide)]at hR
  refine g2_ ?_;refine aZ (fun h3=>?_) (fun h3=>?_)
  ·rw[if_pos (by omega)]at hR
   subst hR;refine g2_ ?_;refine im_ Tryz.func86 [.cell 3 49,.cell 4 56,.tmp 5,.tmp 6,.tmp 7] (g2_ ?_);refine g2_ ?_;refine ae ?_ rfl
   repeat first|simp-implicitDefEqProofs only[go_sem,ab,hu,zEvt,List.map_nil,List.length_map,an]|with_reducible refine gl_ ?_
  rw[if_neg (by omega)]at hR
  refine gx_ ?_;refine aZ (fun h4=>?_) (fun h4=>?_)
  have e4:decide (p.buf.room<=(p.buf.evs.length:Int))=true:=decide_eq_true h4;have kv:=adI p.buf p.node p.inc hp.evs;rw[e4]at hR;simp only[if_true,true_and]at hR;have hBok:=agV p.node p.inc hp.evs;generalize bK p.buf p.node p.inc=V at kv hR hBok;obtain⟨B,x,k⟩:=V;simp only at kv hR hBok;refine g2_ ?_;refine cx_ kv (wf_ hu) (g2_ ?_)
  by_cases h5:k=0
  rotate_left
  ·rw[if_pos h5]at hR;rw[show(k !=0)=true by simp[h5]]
   subst hR;refine g2_ ?_;refine im_ Tryz.func86 [.cell 3 49,.cell 4 56,.tmp 5,.tmp 6,.tmp 7] (g2_ ?_);refine g2_ ?_;refine ae ?_ rfl
   repeat first|simp-implicitDefEqProofs only[go_sem,ab,hu,zEvt,List.map_nil,List.length_map,an]|with_reducible refine gl_ ?_
  have e4:decide (p.buf.room<=(p.buf.evs.length:Int))=false:=decide_eq_false h4;have hBok:okB p.buf:=hp.evs;rw[e4]at hR;simp only[Bool.false_eq_true,false_and,if_false]at hR;obtain⟨B,hB⟩: ∃B,B=p.buf:=⟨_,rfl⟩;rw[<-hB]at hR hBok;obtain⟨EV,hEV⟩: ∃EV,EV=p.evicted:=⟨_,rfl⟩;rw[<-hEV]at hR
  rotate_left
  rw[if_neg (by simp[h5])]at hR
  rw[show(k !=0)=false by simp[h5]]
  obtain⟨EV,hEV⟩: ∃EV,EV=p.evicted+1:=⟨_,rfl⟩;rw[<-hEV]at hR;have hB:(0:Nat)=0:=rfl
  all_goals
   have kb:=sP B E hBok hE1;rw[hEe]at kb
   have h6:(dk B E).2=150\/(dk B E).2=52\/(dk B E).2=0:=by
    rcases dm B E with ⟨e,_⟩|⟨e,_⟩|⟨e,_,_⟩
    ·exact .inl (by rw[e])
    ·exact .inr (.inl (by rw[e]))
    ·exact .inr (.inr (by rw[e]))
   refine g2_ ?_;refine cx_ kb (wg_ hu hB) ?_;generalize dk B E=Q at h6 hR ⊢;obtain⟨K,k2⟩:=Q;simp only at h6 hR ⊢;refine g2_ ?_;rcases h6 with rfl|rfl|rfl
   ·rw[if_pos (by decide)]at hR
    subst hR;refine g2_ ?_;refine im_ Tryz.func86 [.cell 3 49,.cell 4 56,.tmp 5,.tmp 6,.tmp 7] (g2_ ?_);refine g2_ ?_;refine ae ?_ rfl
    repeat first|simp-implicitDefEqProofs only[go_sem,ab,hu,zEvt,List.map_nil,List.length_map,an]|with_reducible refine gl_ ?_
   ·rw[if_pos (by decide)]at hR
    subst hR;refine g2_ ?_;refine im_ Tryz.func86 [.cell 3 49,.cell 4 56,.tmp 5,.tmp 6,.tmp 7] (g2_ ?_);refine g2_ ?_;refine ae ?_ rfl
    repeat first|simp-implicitDefEqProofs only[go_sem,ab,hu,zEvt,List.map_nil,List.length_map,an]|with_reducible refine gl_ ?_
   ·rw[if_neg (by decide)]at hR
    have hR2:((ix p K EV,E,fb p.filter vals,gb c (ix p K EV) E (UInt8.ofNat (c.hops % 256).toNat) (aQ p) dr,0):af×GEvt×Bool×List aK×Int)=R:=hR;clear hR;subst hR2;have k7:=kl K EV;have k8:=rH c (ix p K EV) E (UInt8.ofNat (c.hops % 256).toNat) (aQ p) dr hE1 hll hdr hsw;have k9:=mF p.filter vals hp.filter hv;generalize gb c (ix p K EV) E (UInt8.ofNat (c.hops % 256).toNat) (aQ p) dr=S at k8 ⊢;rw[hEe]at k8;unfold ix at k7 k8 ⊢;refine gx_ ?_;refine aZ (fun h7=>?_) (fun h7=>absurd hn (by omega))
    repeat first|simp-implicitDefEqProofs only[go_sem,ab,List.length_map,List.contains_nil,aV hn]|with_reducible first|refine gl_ ?_|refine ga_ ?_|refine gn_ ?_
    refine .inl ⟨[oF 0,oF 1,oF 2,oF 3,oF 6,oF 8,oF 4,oF 5,oT 7,oF 9,oF 10],by kernel_rfl,gx_ ?_⟩
    refine gF (by omega) ?_
    refine g2_ ?_;have hrw:List.map aC (p.rows.set p.node.toNat ⟨p.inc,p.seq+1,0⟩)=(p.rows.map aC).set p.node.toNat [.v (.int .u16 p.inc.toNat),.v (.int .u32 (p.seq+1).toNat),.v (.int .u64 0)]:=by rw[List.map_set];rfl
    have hrn:(p.rows.set p.node.toNat ⟨p.inc,p.seq+1,0⟩).length=p.rows.length:=List.length_set;rw[<-hrw];generalize p.rows.set p.node.toNat ⟨p.inc,p.seq+1,0⟩=rows' at hrn k7 k8 ⊢;have hrt:List.take p.rows.length (List.map aC rows')=List.map aC rows':=by rw[List.take_of_length_le (by rw[List.length_map,hrn];exact Nat.le_refl _)]
    refine cx_ k7 (by simp-implicitDefEqProofs only[go_sem,ab,hu,hEV,hrt,hrn,List.length_map,Int.add_zero]) (g2_ ?_)
    refine cx_ k8 (by simp-implicitDefEqProofs only[go_sem,ab,hu,hEV,hh8,hrt,hrn,List.length_map,Int.add_zero]) (g2_ ?_)
    refine .inr (.inr (.inl ⟨[oF 0,oF 1,oF 2,oF 4,oF 7,oF 3,oF 5,oT 6,oT 8,oF 9,oF 10,oF 11,oF 12],[10],by kernel_rfl,g2_ ?_⟩))
    refine CallS.eqW k9 ws_ (.inr ws_) ?_;refine g2_ ?_;refine ae ?_ rfl
    repeat first|simp-implicitDefEqProofs only[go_sem,ab,hu,hEV,hrt,hrn,List.length_map,hE,da,Int.add_zero]|with_reducible refine gl_ ?_
def nFns:List (UInt8×DV):=[(10,.fn 153 [.pt 0 0] []),(12,.fn 154 [.pt 0 0] []),(11,.fn 155 [.pt 0 0] [])]
theorem anw:al6 Tryz.prog 1 (.v .nilFunc):=⟨_,fun w=>by kernel_rfl,fun us β=>⟨rfl,rfl⟩⟩
theorem ad9(q:af)(f:UInt8)(l:List GID)(x:GID): ∀m:aK,m.frm=f->nN q { m with ids:=l++[x] }=nN q { m with ids:=l }++if (om q.buf x).2=0 then [{ pMsg q 10 f with ev:=(om q.buf x).1 }]else []:=by grind [nN,om]
theorem ajy(b:d7)(x:GID):(om b x).2=0\/(om b x).2=151:=by
 unfold om;split
 ·exact .inl rfl
 ·exact .inr rfl
def mb(c:ar)(p:af)(m:aK)(dr:List UInt32)(Q:Res->Prop):PSigma fun H:Prop=>H->Con2 Tryz.prog 31 [.agg (aE c),.agg (ak p),.agg (encMg m),.fz 1 (dr.map aH)] Q:=⟨_,fun h=>by
 refine en_ Tryz.func31 [.cell 8 49,.tmp 9,.tmp 10] (g2_ ?_)
 refine g2_ ?_
 refine .inr (.inr (.inr (.inl ⟨[oF 0,oF 2,oF 3,oF 1,oF 4,oF 5,oF 6,oF 7,oF 8,oF 9],[3],[6],by kernel_rfl,g2_ ?_⟩)))
 refine im_ Tryz.func82 [.tmp 2] (g2_ ?_)
 refine g2_ ?_
 refine zQ (κ:=UInt8) (kv:=kv8) ?_
 refine g2_ ?_
 refine yc (id:=1) (kd:=.v (.int .u8 10)) (l:=([]:List (UInt8×DV))) (k:=10) (vd:=.fn 153 [.pt 0 0] []) (dZ Tryz.underlying5) Tryz.underlying146 ws_ ws_ rfl ws_ rfl ?_
 rw[show kI ([]:List (UInt8×DV)) 10 (.fn 153 [.pt 0 0] [])=nFns.take 1 from rfl]
 refine g2_ ?_
 refine yc (id:=1) (kd:=.v (.int .u8 12)) (l:=nFns.take 1) (k:=12) (vd:=.fn 154 [.pt 0 0] []) (dZ Tryz.underlying5) Tryz.underlying146 ws_ ws_ rfl ws_ rfl ?_
 rw[show kI (nFns.take 1) 12 (.fn 154 [.pt 0 0] [])=nFns.take 2 from rfl]
 refine g2_ ?_
 refine yc (id:=1) (kd:=.v (.int .u8 11)) (l:=nFns.take 2) (k:=11) (vd:=.fn 155 [.pt 0 0] []) (dZ Tryz.underlying5) Tryz.underlying146 ws_ ws_ rfl ws_ rfl ?_
 rw[show kI (nFns.take 2) 11 (.fn 155 [.pt 0 0] [])=nFns from rfl]
 refine g2_ ?_
 refine afB (zd:=.v .nilFunc) (l:=nFns) (k:=m.kind) (kd:=.v (.int .u8 m.kind.toNat)) (dZ Tryz.underlying5) Tryz.underlying146 anw true ws_ ws_ rfl rfl ?_
 exact h⟩
theorem adR(c:ar)(p:af)(m:aK)(dr:List UInt32)(hc:c.schema.length<=4)(hcs: ∀s∈c.schema,okS s)(hp:okH p)(hk:m.kind=12)(hu:p.up=true)(hto:m.to=p.node)(hids:m.ids.length<=3000000):
  Con2 Tryz.prog 31 [.agg (aE c),.agg (ak p),.agg (encMg m),.fz 1 (dr.map aH)] (· =plR (.tup [.agg (ak (bN c p m dr).1),.fz 17 ((bN c p m dr).2.1.map encMg),.fz 5 ((bN c p m dr).2.2.map az)])):=by
 refine Con2.ofEmb ?_;have kf:=iA c p hp.ok;have kh:=tv c p m.frm m.inc hp.ok hp.rs;have hq:=dA (c:=c) hp m.frm m.inc
 have hN:bN c p m dr=if (aw c p m.frm m.inc).2=false then ((aw c p m.frm m.inc).1,[],[])else (aB c (aB c (aw c p m.frm m.inc).1 []) [],nN (aB c (aw c p m.frm m.inc).1 []) m,[]):=by
  unfold bN;rw[if_neg (by rw[hk];decide),if_neg (by rw[hu,hto];simp)]
  simp only[hk];rfl
 rw[hN];clear hN;generalize aw c p m.frm m.inc=Q at kh hq ⊢;obtain⟨q,b⟩:=Q;simp only at kh hq ⊢;have km:=iv c q [] hc hcs hq.g ⟨by simp,by simp⟩ (by simp)
 have hg2:=je (c:=c) (l:=[]) hq.g ⟨by simp,by simp⟩ (by simp)
 have km2:=iv c (aB c q []) [] hc hcs hg2 ⟨by simp,by simp⟩ (by simp)
 generalize aB c (aB c q []) []=r2 at km2 ⊢;generalize aB c q []=r at km km2 hg2 ⊢;have hp:=hp.ok;refine(mb c p m dr _).2 ?_;dsimp only[mb];rw[show gw nFns m.kind=some (.fn 154 [.pt 0 0] [])by rw[hk];rfl]
 refine x0_ ?_;refine cw_ kf (g2_ ?_);rw[hu,hto];refine gx_ ?_;refine cx_ kh (wg_ hu hto) (g2_ ?_);cases b with
 |false=>
  refine g2_ ?_;refine ae ?_ rfl;exact wg_ hu hto
 |true=>
 rw[if_neg (by decide)]
 refine g2_ ?_;refine cw_ km (g2_ ?_);refine im_ Tryz.func154 [] (g2_ ?_);refine gx_ ?_;obtain⟨S,hS⟩: ∃S:Nat->List aK,S=fun k=>nN r { m with ids:=m.ids.take k }:=⟨_,rfl⟩
 have hS0:S 0=[]:=by rw[hS];rfl
 have hSe:S m.ids.length=nN r m:=by rw[hS];simp only[List.take_length]
 have hSn: ∀k (hk:k<m.ids.length),S (k+1)=S k++if (om r.buf m.ids[k]).2=0 then [{ pMsg r 10 m.frm with ev:=(om r.buf m.ids[k]).1 }]else []:=fun k hk=>by
  rw[hS];simp only;rw[List.take_add_one,List.getElem?_eq_getElem hk];exact ad9 r m.frm (m.ids.take k) m.ids[k] m rfl
 have hSl: ∀k,(S k).length<=k:=fun k=>by
  rw[hS];simp only[nN];exact Nat.le_trans (List.length_filterMap_le _ _) (by rw[List.length_take];omega)
 rw[<-hSe];clear hS hSe;refine aq m.ids.length (fun k=>[]) (fun _=>[]) (fun k=>[(2,.arr 60 17 ((S k).map encMg) false),(0,.var 144 (aE c++(ak r++(encMg m++[.fz 1 (dr.map aH),.rf 2 0 (S k).length,.v (.slice none 0 0)]))))]) 3 (fun _=>True) (aa [(2,.nil 17)] ?_) trivial (fun g k=>ws_) (by omega) (fun g=>ws_) (fun k hk _=>?_) (fun _=>?_)
 ·refine gf_ (c2_ hS0 hto) ?_
  first|done|rfl|exact⟨rfl,rfl⟩
 ·have hg:(m.ids.map aN)[k]? =some (aN m.ids[k]):=aV hk;have kg:=ai5 r.buf m.ids[k] hg2.ok.evs;have h2:=ajy r.buf m.ids[k];have hSk:=hSn k hk;have hSl2:=hSl k;have kn:=kz r 10 m.frm;generalize m.ids[k]=x at hg kg h2 hSk;generalize om r.buf x=G at kg h2 hSk;obtain⟨e,ge⟩:=G;simp only at kg h2 hSk;generalize S k=A at hSk hSl2;refine gf_ hg ?_;refine rS (.fl 0 (.fl 5 (.fl 1 (.fl 2 (.fl 3 (.fl 4 (.eff 6 false (.fl 7 (.fl 8 (.fl 9 (.eff 10 true (.eff 11 false (.fl 12 .done) .no) .no)))) (.eff 10 true (.eff 6 false (.fl 7 (.fl 8 (.fl 9 (.eff 11 false (.fl 12 .done) .no)))) .no) .no)))))))) [(4,.loc 4 0),(5,.d (.v (.int .i64 ge)))] [(4,⟨az e,56⟩)] ?_ ?_
  ·refine g2_ ?_
   repeat' (first
    |(with_reducible refine And.intro ?_ ?_)
    |(refine cw_ kg (g2_ ?_))
    |(refine aa [] ?_;(focus (simp-implicitDefEqProofs only[go_sem,ab];done))))
  refine g2_ ?_;rcases h2 with rfl|rfl
  ·rw[if_pos rfl]at hSk;obtain⟨M,hM⟩: ∃M:aK,M={ pMsg r 10 m.frm with ev:=e }:=⟨_,rfl⟩;rw[<-hM]at hSk;have hMe:encMg M=[.v (.int .u8 10),.v (.int .u8 r.node.toNat),.v (.int .u16 r.inc.toNat),.v (.int .u8 m.frm.toNat),.fz 4 [],.fz 3 [],.v (.int .u8 e.id.node.toNat),.v (.int .u16 e.id.inc.toNat),.v (.int .u32 e.id.seq.toNat),.fz 1 (e.vals.map b_),.fz 1 (e.data.map aA),.v (.int .u8 0),.v (.int .u8 0),.v (.int .u16 0),.v (.int .u32 0),.fz 3 [],.fz 3 []]:=by rw[hM];rfl
   clear hM;have hAl:(A++[M]).length=A.length+1:=by rw[List.length_append];rfl
   refine g2_ ?_;refine rS (.fl 0 (.fl 4 (.fl 1 (.fl 5 (.fl 2 (.fl 6 (.fl 3 (.fl 7 (.fl 8 (.eff 9 false (.eff 10 true (.eff 11 false .done .no) .no) (.eff 10 true (.eff 9 false (.eff 11 false .done .no) .no) .no))))))))))) [(6,.loc 6 0)] [(6,⟨encMg (pMsg r 10 m.frm),60⟩)] ?_ ?_
   ·refine g2_ ?_
    repeat' (first
     |(with_reducible refine And.intro ?_ ?_)
     |(refine cw_ kn (g2_ ?_))
     |(refine aa [] ?_;(focus (simp-implicitDefEqProofs only[go_sem,ab];done))))
   refine gf_ (c2_ @pMsg.eq_1 @zEvt.eq_1) ?_;refine .inl ⟨[oF 0,oF 1,oF 5,oF 2,oF 3,oF 4,oT 6,oF 7,oF 8,oF 9,oF 10],by kernel_rfl,gx_ ?_⟩
   refine⟨k+1,aa [(2,.to 4)] ?_,rfl⟩;refine x1_ (c3_ hSk hto hAl) ?_
   first|done|exact congrArg (fun z=>List.map encMg A++[z]) hMe|trace_state
  ·rw[if_neg (by decide),List.append_nil]at hSk
   refine g2_ ?_;refine⟨k+1,aa [(2,.to 2)] ?_,rfl⟩;exact v1_ (c4_ hSk hto @List.append_eq.{0} (c2_ @List.cons_append.{0} @List.nil_append.{0}))
   first|done|rfl|exact⟨rfl,rfl⟩
 ·have hSl2:=hSl m.ids.length;generalize S m.ids.length=A at hSl2 ⊢;exact q2_ km2
theorem zW(c:ar)(p:af)(m:aK)(dr:List UInt32)(q:af)(L:List aK)(hk: ¬(m.kind=10\/m.kind=11\/m.kind=12))
  (kT:Con2 Tryz.prog 83 [.agg (aE c),.agg (ak p),.agg (encMg m),.fz 1 (dr.map aH)] (· =plR (.tup [.agg (ak q),.fz 17 (L.map encMg)]))):
  Con2 Tryz.prog 31 [.agg (aE c),.agg (ak p),.agg (encMg m),.fz 1 (dr.map aH)] (· =plR (.tup [.agg (ak q),.fz 17 (L.map encMg),.fz 5 (([]:List GEvt).map az)])):=by
 refine Con2.ofEmb ?_
 have hn:gw nFns m.kind=none:=by
  have e1: ¬m.kind=10:=fun e=>hk (.inl e)
  have e2: ¬m.kind=11:=fun e=>hk (.inr (.inl e))
  have e3: ¬m.kind=12:=fun e=>hk (.inr (.inr e))
  simp[gw,z0,nFns,List.findIdx?_cons,e1,e2,e3]
 refine(mb c p m dr _).2 ?_;dsimp only[mb];rw[hn];refine gf_ (c2_ @Option.getD_none.{0} @Option.isSome_none.{0}) ?_;refine cw_ kT (g2_ ?_);refine ae ?_ rfl;exact wx_
theorem af0(c:ar)(p:af)(m:aK)(dr:List UInt32)(hp:okP p)(hk:m.kind=10\/m.kind=11\/m.kind=12)(hu:p.up=false\/m.to≠p.node):
  Con2 Tryz.prog 31 [.agg (aE c),.agg (ak p),.agg (encMg m),.fz 1 (dr.map aH)] (· =plR (.tup [.agg (ak p),.fz 17 (([]:List aK).map encMg),.fz 5 (([]:List GEvt).map az)])):=by
 refine Con2.ofEmb ?_;have kf:=iA c p hp
 have hn: ∃v,gw nFns m.kind=some (.fn v [.pt 0 0] []):=by
  rcases hk with h|h|h
  ·exact⟨_,by rw[h];rfl⟩
  ·exact⟨_,by rw[h];rfl⟩
  ·exact⟨_,by rw[h];rfl⟩
 obtain⟨v,hn⟩:=hn;refine(mb c p m dr _).2 ?_;dsimp only[mb];rw[hn];refine x0_ ?_;refine cw_ kf (g2_ ?_);cases h1:p.up with
 |false=>
  refine g2_ ?_;refine ae ?_ rfl;exact wf_ h1
 | true=>
  have h2:m.to≠p.node:=by
   rcases hu with h|h
   ·rw[h1]at h;cases h
   ·exact h
  refine g2_ ?_;rw[show((m.to.toNat:Int) !=(p.node.toNat:Int))=true from bne_iff_ne.2 (fun e=>h2 (UInt8.toNat_inj.1 (by omega)))]
  refine g2_ ?_;refine ae ?_ rfl;exact wf_ h1
end Go.Proofs.YtmhmahcdanclnaaGreat.V
namespace Go.Proofs.YtmhmahcdanclnaaGreat.V
open Go.Eng
attribute [local go_sem] aS ah fzD plR ba aL aR aC aE ak az aU z8 z16 z32 z64 encMg aN b_ aA d_ List.set_cons_succ List.set_cons_zero
def lr(q:af)(n:Nat):List DV:=((ak q).set 24 (.rf 2 0 n)).set 28 (.rf 3 0 q.pulls.length)
theorem ak9(c:ar)(p:af)(e:GEvt)(hp:okP p)(hs:c.schema.length<=4000000)(he:e.vals.length<=4000000/\e.data.length<=4000000)(hps:0<=p.passed/\p.passed<=1000000000)
  {R0 R1:Row} {ρ σ nb K} (hR: ∀r:Nat->Option Rn,r 0=some (.to 0)->r 1=some (.to 1)->r 2=some (.to 2)->wkRow r R0 (some R0)/\wkRow r R1 (some R1)) (hno:p.up=false\/j5 c p e=false->K (.tup [.agg ((ak p).set 24 (.rf 2 0 p.rows.length)),.v (.bool false),.v (.bool false)]) ⟨ρ,σ,[(2,.arr 84 3 (p.rows.map aC) false),(1,R1),(0,R0)],3,nb⟩)
  (hyes:p.up=true->j5 c p e=true->K (.tup [.agg (lr (aI c p e).1 p.rows.length),.v (.bool true),.v (.bool (fb p.filter e.vals))]) ⟨ρ,σ,[(3,.arr 178 5 ((aI c p e).1.pulls.map aU) false),(2,.arr 84 3 ((aI c p e).1.rows.map aC) false),(1,R1),(0,R0)],4,nb⟩):
  CallS Tryz.prog false 75 [.agg (aE c),.agg ((ak p).set 24 (.rf 2 0 p.rows.length)),.agg (az e)] ⟨ρ,σ,[(2,.arr 84 3 (p.rows.map aC) false),(1,R1),(0,R0)],3,nb⟩ K:=by
 have hx:=e.id.bd;obtain⟨q1,q2⟩:=hR (rnOf [] 5) rfl rfl rfl;obtain⟨q3,q4⟩:=hR (rnOf [] 4) rfl rfl rfl;obtain⟨q5,q6⟩:=hR (rnOf [(3,.to 3)] 4) rfl rfl rfl;clear hR;have ka:=kV c p e hs he.1 he.2 (by have:=hp.rows;omega)
 have kd:=qP p.pulls e.id hp.pulls;have kb:=sP p.buf e hp.evs he;have km:=mF p.filter e.vals hp.filter he.1;refine g2_ ?_;refine il_ Tryz.func75 [.cell 6 49,.tmp 7,.tmp 8] ?_;refine Vc2.sq (g2_ ?_);refine Vc2.sq (gx_ ?_);cases hu:p.up with
 |false=>
  have h0:=hno (.inl hu);simp only[ak,List.set_cons_succ,List.set_cons_zero,hu]at h0;refine g2_ ?_;exact h0
 |true=>
 refine g2_ ?_;refine CallS.eqW ka (wg_ hu @an) (.inr ws_) ?_;refine g2_ ?_;cases hm:j5 c p e with
 |false=>
  have h0:=hno (.inr hm);simp only[ak,List.set_cons_succ,List.set_cons_zero,hu]at h0;refine g2_ ?_;exact h0
 |true=>
 have hyes:=hyes hu hm;rw[kG hu hm]at hyes;clear hno;obtain⟨_,_,_,_,r,hr,hrm⟩:=jq hm;obtain⟨h6,hr6⟩:=List.getElem?_eq_some_iff.1 hr;have kt:=uK p.rows[e.id.node.toNat] e.id c.window;refine g2_ ?_;refine Vc2.sq (g2_ ?_);refine Vc2.sq ?_;refine .inl ⟨[oF 0,oF 2,oF 4,oF 6,oF 10,oF 11,oF 1,oF 3,oF 5,oF 7,oF 12,oF 8,oF 9,oT 13,oF 14,oF 15,oF 16,oF 17,oF 18],by kernel_rfl,gf_ (mE_ h6) ?_⟩
 refine cw_ kt (gf_ (mE_ h6) ?_);have hrw:(p.rows.modify e.id.node.toNat fun r=>(cO r e.id c.window).1).map aC=(p.rows.map aC).set e.id.node.toNat (aC (cO p.rows[e.id.node.toNat] e.id c.window).1):=by rw[gl _ _ h6,List.map_set]
 have hrl:(p.rows.modify e.id.node.toNat fun r=>(cO r e.id c.window).1).length=p.rows.length:=List.length_modify ..
 generalize (p.rows.modify e.id.node.toNat fun r=>(cO r e.id c.window).1)=rows' at hrw hrl hyes⊢
 have hL4:(Eng.pDrop p.pulls e.id).length<=4000000:=Nat.le_trans (List.length_filter_le _ _) hp.pulls;have hFl:((Eng.pDrop p.pulls e.id).filter fun a=> !cL e.id a).length<=4000000:=Nat.le_trans (List.length_filter_le _ _) hL4
 have hdf:=xt (q:=cL e.id) (l:=Eng.pDrop p.pulls e.id);have hdn:=qK (q:=cL e.id) (l:=Eng.pDrop p.pulls e.id);have kq:=oa e.id
 refine Vc2.seqJ (γ:=Unit) (fun _=>⟨[(3,.loc 3 0),(4,.loc 4 0),(5,.loc 5 0),(6,.loc 6 0)],[(6,⟨zPc,49⟩),(5,⟨az e,56⟩),(4,⟨((ak { p with rows:=rows',pulls:=(Eng.pDrop p.pulls e.id).filter fun a=> !cL e.id a }).set 24 (.rf 2 0 p.rows.length)).set 28 (.rf 3 0 ((Eng.pDrop p.pulls e.id).filter fun a=> !cL e.id a).length),49⟩),(3,⟨aE c,26⟩)],
  [(3,.arr 178 5 (((Eng.pDrop p.pulls e.id).filter fun a=> !cL e.id a).map aU) false),(2,.arr 84 3 (rows'.map aC) false),(1,R1),(0,R0)],4,3⟩) (fun _=>True) ?_ (fun _ _=>?_)
 ·refine g2_ ?_;refine cw_ kd ?_;generalize Eng.pDrop p.pulls e.id=L at hL4 hFl hdf hdn ⊢;generalize hFF:(L.filter fun a=> !cL e.id a)=F at hFl hdf hdn⊢
  refine gx_ ?_;refine im_ Tryz.func138 [.tmp 4] (g2_ ?_);refine g2_ ?_;refine CallS.eq (jF 140 [.fp (aN e.id)] L (cL e.id) hL4 (fun _=>ws_) ws_ (fun _=>ws_) (fun a _=>kq a)) (wf_ @an) (.inr ws_) ?_
  cases hi:L.findIdx? (cL e.id)with
  | none=>
   have e1:F=L:=by
    rw[<-hFF];exact List.filter_eq_self.2 fun x hx=>by simp[List.findIdx?_eq_none_iff.1 hi x hx]
   rw[show fH none= -1 from rfl]
   refine g2_ ?_;refine⟨(),aa [(3,.to 3)] ?_⟩
   repeat first|simp-implicitDefEqProofs only[go_sem,ab,zPc,e1,hu,q5,q6]|with_reducible refine gl_ ?_
   exact hrw
  | some i=>
   obtain⟨hil,hib,hif⟩:=List.findIdx?_eq_some_iff_getElem.1 hi;have hbi:cL e.id L[i]=true:=hib
   have hF0: ∀x∈L.take i,cL e.id x=false:=fun x hx=>by
    obtain⟨j,hj,rfl⟩:=List.mem_take_iff_getElem.1 hx;have:=hif j (by omega)
    simpa using this
   obtain⟨d1,d2⟩:=nD hil hbi hF0;rw[show fH (some i)=((i:Nat):Int)from rfl]
   refine g2_ ?_;rw[show(((i:Nat):Int)== -1)=false from beq_eq_false_iff_ne.2 (by omega)]
   refine g2_ ?_;refine bt (γ:=Nat) (fun j=>[(6,.d (.v (.int .i64 (j:Nat)))),(5,.d (.v (.int .i64 (dfN (cL e.id) L j:Nat))))]) (fun _=>[]) (fun j=>[(4,.var 54 (aN e.id)),(3,.arr 178 5 ((dfR (cL e.id) L j).map aU) false),(2,.arr 84 3 (rows'.map aC) false),(1,R1),(0,R0)]) 5 (fun j=>i+1<=j/\j<=L.length/\dfN (cL e.id) L j<j) (fun j=>L.length-j) (i+1) (aa [] ?_) ⟨Nat.le_refl _,by omega,by omega⟩ (fun j hj=>?_)
   ·refine gf_ (c4_ d1 d2 hrw (c2_ q1 q2)) ?_
    first|done|rfl|exact⟨rfl,rfl⟩
   ·obtain⟨j1,j2,j3⟩:=hj;have hdl:=qQ (q:=cL e.id) (l:=L) (j:=j);have hrl2:=qH (q:=cL e.id) j2
    by_cases hjl:j<L.length
    ·have hg:((dfR (cL e.id) L j).map aU)[j]? =some (aU L[j]):=by rw[List.getElem?_map,qN hjl];rfl
     refine gf_ hrl2 ?_;rw[decide_eq_true (show(j:Int)<(L.length:Int)by omega)]
     refine gg_ hg hrl2 ?_;refine CallS.eq (kq L[j]) ws_ (.inr ws_) ?_;refine g2_ ?_;cases hb:cL e.id L[j]with
     |true=>
      refine g2_ ?_;refine⟨j+1,aa [] ?_,⟨by omega,by omega,by rw[fC hjl hb];omega⟩,by omega⟩
      refine gf_ (c4_ (fC hjl hb) (nQ hjl hb) q1 q2) ?_
      first|done|rfl|exact⟨rfl,rfl⟩
     |false=>
      have hg2:((dfR (cL e.id) L j).map aU)[dfN (cL e.id) L j]? =some (aU (dfR (cL e.id) L j)[dfN (cL e.id) L j]):=aV (by omega)
      refine gg_ hg2 hrl2 ?_;refine⟨j+1,aa [] ?_,⟨by omega,by omega,by rw[fB hjl hb];omega⟩,by omega⟩
      refine u1_ (c4_ (fB hjl hb) (oe hjl hb).symm @List.map_set.{0,0} (c2_ q1 q2)) ?_;exact⟨rfl,rfl,rfl,rfl⟩
    ·obtain rfl:j=L.length:=by omega
     refine gf_ hrl2 ?_;rw[decide_eq_false (show ¬(L.length:Int)<(L.length:Int)by omega)]
     refine gf_ hrl2 ?_;refine⟨by kernel_rfl,⟨by omega,by omega⟩,(),aa [] ?_⟩
     repeat first|simp-implicitDefEqProofs only[go_sem,ab,zPc,hu,hdn,q3,q4]|with_reducible refine gl_ ?_
     exact⟨by rw[Nat.sub_zero],by rw[<-hdn, <-List.map_take,hdf]⟩
 ·generalize (Eng.pDrop p.pulls e.id).filter (fun a=> !cL e.id a)=F at hFl hyes
  refine Vc2.sq (g2_ ?_);refine cw_ kb (g2_ ?_);have h3:=dm p.buf e;generalize dk p.buf e=Q at h3 hyes⊢
  refine Vc2.seqJ (γ:=Unit) (fun _=>⟨[(3,.loc 3 0),(4,.loc 4 0),(5,.loc 5 0),(6,.loc 6 0)],[(6,⟨zPc,49⟩),(5,⟨az e,56⟩),(4,⟨lr { p with rows:=rows',pulls:=F,buf:=Q.1,passed:=if Q.2=52 then p.passed+1 else p.passed } p.rows.length,49⟩),(3,⟨aE c,26⟩)],
   [(3,.arr 178 5 (F.map aU) false),(2,.arr 84 3 (rows'.map aC) false),(1,R1),(0,R0)],4,3⟩) (fun _=>True) ?_ (fun _ _=>?_)
  ·rcases h3 with ⟨rfl,_⟩|⟨rfl,_⟩|⟨rfl,_,_⟩
   all_goals
    refine g2_ ?_;refine⟨(),aa [] ?_⟩
    repeat first|simp-implicitDefEqProofs only[go_sem,ab,zPc,hu,lr,q3,q4]|with_reducible refine gl_ ?_
    first|done|rfl|exact⟨rfl,rfl⟩
  ·refine Vc2.of ?_;simp only[lr]at hyes
   repeat first|simp-implicitDefEqProofs only[go_sem,ab,lr]|with_reducible first|refine gl_ ?_|refine ga_ ?_|refine gn_ ?_
   refine .inr (.inr (.inl ⟨[oF 0,oF 1,oF 3,oF 2,oF 4,oT 5,oF 6,oF 7,oF 8],[],by kernel_rfl,?_⟩))
   repeat first|simp-implicitDefEqProofs only[go_sem,ab,zPc,lr]|with_reducible first|refine gl_ ?_|refine ga_ ?_|refine gn_ ?_
   refine cw_ km ?_
   repeat first|simp-implicitDefEqProofs only[go_sem,ab,zPc]|with_reducible first|refine gl_ ?_|refine ga_ ?_|refine gn_ ?_
   exact hyes
@[local go_sem] theorem as8:aaw Tryz.prog 5=true:=by kernel_rfl
theorem zV(f:FuncId)(cap:List DV)(l:List UInt8)(q:UInt8->Bool)(hl:l.length<=4000000)(hc1: ∀H,embDs H cap=some cap)(hc2:noPts cap=true)(hc3: ∀r,wkDs r cap cap)
  (hq: ∀x∈l,Con2 Tryz.prog f (.v (.int .u8 x.toNat)::cap) (· =plR (.v (.bool (q x))))):
  Con2 Tryz.prog 371 [.fz 1 (l.map aA),.fn f [] cap] (· =plR (.v (.int .i64 (fH (l.findIdx? q))))):=by
 refine Con2.ofEmb ?_;refine en_ Tryz.func371 [.tmp 4] (g2_ ?_);refine g2_ ?_;refine aq l.length (fun _=>[]) (fun _=>[]) (fun _=>[]) 0 (fun k=> ∀x∈l.take k,q x=false) (aa [] ?_) (by simp) (fun g k=>ws_) (by omega) (fun g=>ws_) (fun k hk hF=>?_) (fun hF=>?_)
 ·refine gf_ hc3 ?_
  try rfl
 ·have hx:=hq l[k] (List.getElem_mem hk);refine gf_ (mE_ hk) ?_;refine CallS.eq hx (wf_ hc1) (.inl (wf_ hc2)) ?_;refine g2_ ?_;cases hb:q l[k]with
  |true=>
   refine g2_ ?_;refine ae ?_ rfl;exact wf_ (aem hk hb hF)
  |false=>
   refine g2_ ?_;refine⟨k+1,aa [] ?_,rfl,yb hk hb hF⟩;exact wf_ hc3
 ·rw[List.take_of_length_le (Nat.le_refl _)]at hF;refine g2_ ?_;refine ae ?_ rfl;exact wf_ (ac4 hF)
theorem vk(a b x:UInt8):Con2 Tryz.prog 317 [.v (.int .u8 x.toNat),.fp [.v (.int .u8 a.toNat)],.fp [.v (.int .u8 b.toNat)]] (· =plR (.v (.bool (decide (x=a)||decide (x=b))))):=by
 refine Con2.ofEmb ?_;refine en_ Tryz.func317 [.tmp 4] (g2_ ?_);refine g2_ ?_;rw[ch]
 by_cases h:x=a
 ·rw[decide_eq_true h];refine g2_ ?_;refine ae ?_ rfl;exact wf_ @Bool.true_or
 ·rw[decide_eq_false h];refine g2_ ?_;rw[ch];refine ae ?_ rfl;exact wf_ @Bool.false_or
theorem aj_(L:List UInt8)(a b:UInt8)(hl:L.length<=4000000){R0 R2 R3 R4:Row}{ρ σ nb K}(hR: ∀r:Nat->Option Rn,(∀i,i<5->r i=some (.to i))->wkRow r R0 (some R0)/\wkRow r R2 (some R2)/\wkRow r R3 (some R3)/\wkRow r R4 (some R4))
  (hk:K (.rf 5 0 (dN L a b).length) ⟨ρ,σ,[(7,.var 5 [.v (.int .u8 b.toNat)]),(6,.var 5 [.v (.int .u8 a.toNat)]),(5,.arr 5 1 ((dN L a b).map aA) false),(4,R4),(3,R3),(2,R2),(0,R0)],8,nb⟩):
  CallS Tryz.prog false 251 [.rf 5 0 L.length,.v (.int .u8 a.toNat),.v (.int .u8 b.toNat)] ⟨ρ,σ,[(5,.arr 5 1 (L.map aA) false),(4,R4),(3,R3),(2,R2),(0,R0)],6,nb⟩ K:=by
 have hQ:=hR (rnOf [] 8) (fun i hi=>by
  have:i<8:=by omega
  simp only[rnOf,decide_eq_true this,cond_true];rfl)
 obtain⟨q,hq⟩: ∃q:UInt8->Bool,q=fun x=>decide (x=a)||decide (x=b):=⟨_,rfl⟩
 have kq: ∀x,Con2 Tryz.prog 317 [.v (.int .u8 x.toNat),.fp [.v (.int .u8 a.toNat)],.fp [.v (.int .u8 b.toNat)]] (· =plR (.v (.bool (q x)))):=fun x=>by rw[hq];exact vk a b x
 have hU:dN L a b=L.filter fun x=> !q x:=by rw[hq];rfl
 rw[hU]at hk;clear hq hU hR;have hdf:=xt (q:=q) (l:=L);have hdn:=qK (q:=q) (l:=L);have hFl:(L.filter fun x=> !q x).length<=4000000:=Nat.le_trans (List.length_filter_le _ _) hl
 refine im_ Tryz.func251 [.tmp 6] (g2_ ?_);refine g2_ ?_;refine im_ Tryz.func316 [.tmp 4] (g2_ ?_);refine g2_ ?_;refine CallS.eq (zV 317 [.fp [.v (.int .u8 a.toNat)],.fp [.v (.int .u8 b.toNat)]] L q hl (fun _=>ws_) ws_ (fun _=>ws_) (fun x _=>kq x)) (wf_ @an) (.inr ws_) ?_
 cases hi:L.findIdx? q with
 |none=>
  have e1:(L.filter fun x=> !q x)=L:=List.filter_eq_self.2 fun x hx=>by simp[List.findIdx?_eq_none_iff.1 hi x hx]
  rw[show fH none= -1 from rfl]
  rw[e1]at hk;refine g2_ ?_;exact hk
 | some i=>
  obtain⟨hil,hib,hif⟩:=List.findIdx?_eq_some_iff_getElem.1 hi;have hbi:q L[i]=true:=hib
  have hF0: ∀x∈L.take i,q x=false:=fun x hx=>by
   obtain⟨j,hj,rfl⟩:=List.mem_take_iff_getElem.1 hx;have:=hif j (by omega)
   simpa using this
  obtain⟨d1,d2⟩:=nD hil hbi hF0;rw[show fH (some i)=((i:Nat):Int)from rfl]
  refine g2_ ?_;rw[show(((i:Nat):Int)== -1)=false from beq_eq_false_iff_ne.2 (by omega)]
  refine g2_ ?_;refine bt (γ:=Nat) (fun j=>[(6,.d (.v (.int .i64 (j:Nat)))),(5,.d (.v (.int .i64 (dfN q L j:Nat))))]) (fun _=>[]) (fun j=>[(7,.var 5 [.v (.int .u8 b.toNat)]),(6,.var 5 [.v (.int .u8 a.toNat)]),(5,.arr 5 1 ((dfR q L j).map aA) false),(4,R4),(3,R3),(2,R2),(0,R0)]) 8 (fun j=>i+1<=j/\j<=L.length/\dfN q L j<j) (fun j=>L.length-j) (i+1) (aa [] ?_) ⟨Nat.le_refl _,by omega,by omega⟩ (fun j hj=>?_)
  ·refine gf_ (c3_ d1 d2 hQ) ?_
   first|done|rfl|exact⟨rfl,rfl⟩
  ·obtain⟨j1,j2,j3⟩:=hj;have hdl:=qQ (q:=q) (l:=L) (j:=j);have hrl2:=qH (q:=q) j2
   by_cases hjl:j<L.length
   ·have hg:((dfR q L j).map aA)[j]? =some (aA L[j]):=by rw[List.getElem?_map,qN hjl];rfl
    refine gf_ hrl2 ?_;rw[decide_eq_true (show(j:Int)<(L.length:Int)by omega)]
    refine gg_ hg hrl2 ?_;refine CallS.eq (kq L[j]) ws_ (.inr ws_) ?_;refine g2_ ?_;cases hb:q L[j]with
    |true=>
     refine g2_ ?_;refine⟨j+1,aa [] ?_,⟨by omega,by omega,by rw[fC hjl hb];omega⟩,by omega⟩
     repeat first|simp-implicitDefEqProofs only[go_sem,ab,fC hjl hb,nQ hjl hb,hQ]|with_reducible refine gl_ ?_
     first|done|rfl|exact⟨rfl,rfl⟩
    |false=>
     have hg2:((dfR q L j).map aA)[dfN q L j]? =some (aA (dfR q L j)[dfN q L j]):=aV (by omega)
     refine gg_ hg2 hrl2 ?_;refine⟨j+1,aa [] ?_,⟨by omega,by omega,by rw[fB hjl hb];omega⟩,by omega⟩
     repeat first|simp-implicitDefEqProofs only[go_sem,ab,fB hjl hb, <-oe hjl hb,List.map_set,hQ]|with_reducible refine gl_ ?_
     first|done|rfl|exact⟨rfl,rfl,rfl,rfl⟩|trace_state
   ·obtain rfl:j=L.length:=by omega
    refine gf_ hrl2 ?_;rw[decide_eq_false (show ¬(L.length:Int)<(L.length:Int)by omega)]
    refine gf_ hrl2 ?_;rw[Nat.sub_zero, <-List.map_take,hdf,hdn];exact hk
end Go.Proofs.YtmhmahcdanclnaaGreat.V
namespace Go.Eng
def opN(n:Nat):DV:=.fz 0 (List.replicate n [])
def ab3(id:Nat):DV->DV
 | .rf j off len=>bif j==id then opN len else .rf j off len
 |d=>d
def anj(id:Nat):DV->DV
 | .agg cs=>.agg (cs.map (ab3 id))
 |d=>d
section
variable {id j off len sz:Nat} {x:Value} {l:List (List DV)} {cs:List DV}
theorem afi:ab3 id (.rf j off len)=bif j==id then opN len else .rf j off len:=rfl
theorem aqE:ab3 id (.v x)= .v x:=rfl
theorem aox:ab3 id (.fz sz l)= .fz sz l:=rfl
theorem ajw:anj id (.agg cs)= .agg (cs.map (ab3 id)):=rfl
theorem ao1:anj id (.fz sz l)= .fz sz l:=rfl
end
section
variable {P:Program} {u0 u us:World} {β0:Bse} {β:Nat->PB} {ds:DS} {s:S} {id e sz:Nat} {l:List (List DV)}
theorem yw: ∀n:Nat,HVss us (List.replicate n []) (List.replicate n [])
 |0=>rfl
 |n+1=>⟨[],_,rfl,rfl,yw n⟩
theorem abI(h:Rel u0 β0 β us ds s u)(hlk:lk ds.H id=some (.arr e sz l false)): ∀(d:DV) (v:Value),HV us d β v->HV us (ab3 id d) β v:=by
 intro d v hv;cases d with
 | rf j off len=>
  rw[afi];cases hj:(j==id)with
  |false=>exact hv
  | true=>
   obtain rfl:j=id:=by simpa using hj
   obtain⟨p,c,sz',q,hb,rfl,hle,hq,hsm⟩:=hv;obtain⟨p',c',g1,g2,g3⟩:=(h.row j _ hlk).2;rw[hb]at g1;cases g1;refine⟨q,len,c-off,List.replicate len [],rfl,⟨by simp,by omega,fun x hx=>by rw[(List.mem_replicate.1 hx).2];rfl,fun hn=>?_,fun a ha=>⟨fun h0=>?_,fun i x hx k v hk=>?_⟩⟩,fun y hy=>by rw[(List.mem_replicate.1 hy).2];rfl,yw len⟩
   ·by_cases hc:c=off
    ·exact⟨by omega,by omega⟩
    ·have h1:=hq hc;have h2:=hsm (by omega)
     rw[hn]at h1;cases p with
     |none=>cases h2
     |some a=>cases h1
   ·have h1:=hq (by omega)
    rcases g3 with ⟨h3,_⟩|⟨_,V,h4,_⟩
    ·omega
    ·rcases h4.at_ with ⟨_,_,h5⟩|⟨g,cur,rfl,_⟩
     ·omega
     ·rw[ha]at h1;cases h1;show(Addr.add ⟨g,0,none⟩ (off*sz)).spot=none;rw[Addr.add_lit]
   ·have:=List.mem_of_getElem? hx;rw[(List.mem_replicate.1 this).2]at hk;cases hk
 |_=>exact hv
theorem pQ(h:Rel u0 β0 β us ds s u)(hlk:lk ds.H id=some (.arr e sz l false)): ∀(d:List DV) (v:List Value),HVs us d β v->HVs us (d.map (ab3 id)) β v
 |[],v,hv=>hv
 |a::r,v,⟨w,W,e1,h1,h2⟩=>⟨w,W,e1,abI h hlk a w h1,pQ h hlk r W h2⟩
theorem pz(h:Rel u0 β0 β us ds s u)(hlk:lk ds.H id=some (.arr e sz l false)): ∀(d:List DV) (v:List Value),HVs us d β v->HVs us (d.map (anj id)) β v
 |[],v,hv=>hv
 | a::r,v,⟨w,W,e1,h1,h2⟩=>⟨w,W,e1,by
   cases a with
   |agg cs=>
    obtain⟨V,rfl,h3⟩:=h1;exact⟨V,rfl,pQ h hlk cs V h3⟩
   |_=>exact h1,pz h hlk r W h2⟩
theorem CallS.opq{x:Bool}{f:FuncId}{args:List DV}{K:DV->DS->Prop}(id:Nat)(hlk:lk ds.H id=some (.arr e sz l false))(hk:CallS P x f (args.map (anj id)) ds K):CallS P x f args ds K:=
 fun u0 β0 β us s u vs hr hv=>hk u0 β0 β us s u vs hr (pz hr hlk args vs hv)
end
theorem aj2{H:List (Nat×Row)}{n:Nat}:idsD H (opN n)=[]:=rfl
theorem amZ{H:List (Nat×Row)}{n:Nat}:embD H (opN n)=some (opN n):=rfl
theorem amg{n:Nat}:fT (opN n)=true:=rfl
theorem aow{r:Nat->Option Rn}{n:Nat}:wkD r (opN n) (opN n)=True:=eq_true ⟨rfl,rfl⟩
attribute [go_sem] aj2 amZ amg aow afi aqE aox ajw ao1
end Go.Eng
namespace Go.Proofs.YtmhmahcdanclnaaGreat.V
open Go.Eng
attribute [local go_sem] aS ah fzD plR ba aL aR aC aE ak az aU z8 z16 z32 z64 encMg List.set_cons_succ List.set_cons_zero
theorem tK(n:Nat)(p:af)(d:GDesc)(hp:okP p):Con2 Tryz.prog 148 [.agg ((ak p).set 24 (opN n)),.agg (ah d)] (· =plR (.v (.bool (cC p d)))):=mI 0 (List.replicate n []) p d hp
theorem vu(n:Nat)(p:af)(l:List GDesc)(hp:okP p)(hl:cg l):Con2 Tryz.prog 147 [.agg ((ak p).set 24 (opN n)),fzD l] (· =plR (fzD (pCur p l))):=vf 0 (List.replicate n []) p l hp hl
theorem afX(n:Nat)(c:ar)(p:af)(l:List GDesc)(hc:c.schema.length<=4000000)(hp:okP p)(hl:cg l):Con2 Tryz.prog 150 [.agg (aE c),.agg ((ak p).set 24 (opN n)),fzD l] (· =plR (fzD (pUse c p l))):=vH 0 (List.replicate n []) c p l hc hp hl
theorem acD(n:Nat)(p:af)(hp:okP p):Con2 Tryz.prog 81 [.agg ((ak p).set 24 (opN n))] (· =plR (.agg (ah (pSelf p)))):=rh 0 (List.replicate n []) p hp
