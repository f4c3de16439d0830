import Derived.Test.YthoihfighiolmaaGreatPt52
set_option linter.unusedSectionVars false
set_option linter.unusedSimpArgs false
set_option linter.unusedVariables false
set_option maxRecDepth 10000
namespace Go.Proofs.YthoihfighiolmaaGreat.V
open Go.Eng Go.ChangeShapes Go.WideShapes Go.RowKit
theorem aml{n:Int}(h:(Lit.int .i32 n).wf=true): -2147483648<=n/\n<=2147483647:=by
 simpa[Lit.wf,IntKind.min,IntKind.max,IntKind.signed,IntKind.bits]using h
def Bk{H:Type}(d:DataW H):Prop:=Rows.uptoBulk d<=1048576
theorem alj{H:Type}(d:DataW H):1<=Rows.uptoBulk d:=by
 cases d with
 |lit l=>cases l<;>simp[Rows.uptoBulk]
 |nil=>simp[Rows.uptoBulk]
 |ptr d=>simp[Rows.uptoBulk]
 |slice elems spare=>simp[Rows.uptoBulk]
 |agg parts=>simp[Rows.uptoBulk]
 |iface t d=>simp[Rows.uptoBulk]
 |map entries=>simp[Rows.uptoBulk]
 |held h=>simp[Rows.uptoBulk]
theorem bk_part{H:Type}{d:DataW H}: ∀{l:List (DataW H)},d∈l->Rows.uptoBulk d<=Rows.uptoBulkAll l
 |x::r,h=>by
  simp only[Rows.uptoBulkAll];cases List.mem_cons.1 h with
  |inl e=>subst e;omega
  |inr e=>have:=bk_part e;omega
theorem agQ{H:Type}: ∀(l:List (DataW H)),l.length<=Rows.uptoBulkAll l
 |[]=>Nat.zero_le _
 |x::r=>by have:=alj x;have:=agQ r;simp only[Rows.uptoBulkAll,List.length_cons];omega
theorem abP{H:Type}{es:List (DataW H)}{sp:List (DataW H)}(h:Bk (.slice es sp)):(∀d∈es,Bk d)/\es.length<=1048576:=by
 have:=agQ es;simp only[Bk,Rows.uptoBulk]at h;exact⟨fun d hd=>by have:=bk_part hd;simp only[Bk];omega,by omega⟩
def agP(P:Program):List Field->List (TypeId×Nat)->Nat->Nat->Bool
 |[],l,o,n=>l.isEmpty&&Nat.ble n o
 |f::r,l,o,n=>match l with
  |[]=>false
  |p::l=>f.type==p.1&&(P.cellsOf f.type==p.2&&(f.offset==o&&agP P r l (o+p.2) n))
def Rd{α:Type}(T:TypeId)(e:α->List DV)(R:α->Prop):Prop:=
 ∀(H:Type) (enc:TypeId×Value->H) (w:World) (base:Nat) (sp:Nat->Bool) (held:Bool) (n:Nat) (cs:List Value) (x:DataW H×List MemPlace),Bk x.1->DataW.trod enc Tryz.prog w base sp held n T cs=some x-> ∃g,HVs w (e g) noB cs/\R g
def RdF{α:Type}(l:List (TypeId×Nat))(e:α->List DV)(R:α->Prop):Prop:=
 ∀(H:Type) (enc:TypeId×Value->H) (w:World) (base:Nat) (sp:Nat->Bool) (held:Bool) (cs:List Value) (fs:List Field) (o:Nat),agP Tryz.prog fs l o cs.length=true->
  (∀f∈fs, ∃y n,DataW.trod enc Tryz.prog w base sp held n f.type ((cs.drop f.offset).take (Tryz.prog.cellsOf f.type))=some y/\Bk y.1)-> ∃g,HVs w (e g) noB (cs.drop o)/\R g
theorem RdF.nil:RdF [] (fun _:Unit=>[]) fun _=>True:=fun _ _ _ _ _ _ cs fs o ho _=>by
 cases fs with
 |nil=>exact⟨(),List.drop_of_length_le (Nat.le_of_ble_eq_true (by simpa[agP]using ho)),trivial⟩
 |cons f r=>cases ho
theorem RdF.cons{α β:Type}{T:TypeId}{s:Nat}{l:List (TypeId×Nat)}{e:α->List DV}{R:α->Prop}{e':β->List DV}{R':β->Prop}(h:Rd T e R)(h':RdF l e' R'):RdF ((T,s)::l) (fun g:α×β=>e g.1++e' g.2) fun g=>R g.1/\R' g.2:=fun _ _ _ _ _ _ cs fs o ho hf=>by
 cases fs with
 |nil=>cases ho
 |cons f r=>
  simp only[agP,Bool.and_eq_true,beq_iff_eq]at ho;obtain⟨rfl,h1,h2,h3⟩:=ho;obtain⟨y,n,h4,h5⟩:=hf f List.mem_cons_self;rw[h1,h2]at h4;obtain⟨g,g1,g2⟩:=h _ _ _ _ _ _ _ _ _ h5 h4;obtain⟨g',g3,g4⟩:=h' _ _ _ _ _ _ _ r (o+s) h3 fun f hf'=>hf f (List.mem_cons_of_mem _ hf')
  refine⟨(g,g'),?_,g2,g4⟩;have:=HVs.append g1 g3
  rwa[<-List.drop_drop,List.take_append_drop]at this
theorem Rd.st{α β:Type}{T:Nat}{fs:Array Field}{l:List (TypeId×Nat)}{e:α->List DV}{R:α->Prop}{e':β->List DV}{R':β->Prop}(ht:Tryz.prog.underlying T=some (.struct fs))(h:RdF l e R)(hl:agP Tryz.prog fs.toList l 0 (Tryz.prog.cellsOf T)=true)
  (mk:α->β) (he: ∀g,e g=e' (mk g)) (hR: ∀g,R g->R' (mk g)):Rd T e' R':=by
 intro H enc w base sp held n cs x hb hx;obtain⟨xs,m,_,rfl,h1,hlen,hf⟩:=DataW.trod_struct ht hx
 obtain⟨g,g1,g2⟩:=h _ _ _ _ _ _ _ fs.toList 0 (by rw[h1];exact hl) fun f hi=>by
  obtain⟨i,hi⟩:=List.getElem?_of_mem hi;have hi:fs[i]? =some f:=by simpa using hi
  have h3:=hf i f hi;have h2:i<xs.length:=by rw[hlen];exact(Array.getElem?_eq_some_iff.1 hi).1
  rw[List.getElem?_eq_getElem h2]at h3;exact⟨_,m,h3,by have:=bk_part (List.mem_map.2 ⟨_,List.getElem_mem h2,rfl⟩:(xs[i]).1∈xs.map (·.1));simp only[Bk,Rows.uptoBulk]at hb ⊢; omega⟩
 exact⟨mk g,by rw[<-he];exact g1,hR g g2⟩
abbrev Rs{α:Type}(T:TypeId)(sz:Nat)(e:α->List DV)(R:α->Prop):Prop:=Rd T (fun l:List α=>[.fz sz (l.map e)]) fun l=>(∀g∈l,R g)/\l.length<=1048576
theorem Rd.sl{α:Type}{T E sz:Nat}{e:α->List DV}{R:α->Prop}(h:Rd E e R)(ht:Tryz.prog.underlying T=some (.slice E))(hc:Tryz.prog.cellsOf E=sz)(hsz:0<sz)(hone: ∀g,onesD (e g)=true)(hlen: ∀g,(e g).length=sz):Rs T sz e R:=by
 intro H enc w base sp held n cs x hb hx;obtain⟨l,h1,h2,_,h4⟩:=tW (Q:=Bk) ht hc hsz hone hlen (fun xs rest e d hd=>by rw[e]at hb;exact(abP hb).1 d hd) (fun n cs x h1 b=>h _ _ _ _ _ _ _ _ _ b h1) hx
 refine⟨l,h1,h2,?_⟩;rcases h4 with ⟨_,h4⟩|⟨xs,rest,e,h4⟩
 ·omega
 ·rw[e]at hb;have:=(abP hb).2;omega
theorem u8_r:Rd 5 aQ fun _=>True:=by
 intro H enc w base sp held n cs x hb h;obtain⟨i0,rfl,_,w0⟩:=DataW.trod_int Tryz.underlying5 h;obtain⟨k0,rfl⟩:=akJ w0;exact⟨k0,HVs.one (HV.plain rfl),trivial⟩
theorem rq:Rd 30 (fun g:UInt16=>[.v (.int .u16 g.toNat)]) fun _=>True:=by
 intro H enc w base sp held n cs x hb h;obtain⟨i0,rfl,_,w0⟩:=DataW.trod_int Tryz.underlying30 h;obtain⟨k0,rfl⟩:=al7 w0;exact⟨k0,HVs.one (HV.plain rfl),trivial⟩
theorem u32_r:Rd 24 aZ fun _=>True:=by
 intro H enc w base sp held n cs x hb h;obtain⟨i0,rfl,_,w0⟩:=DataW.trod_int Tryz.underlying24 h;obtain⟨k0,rfl⟩:=alv w0;exact⟨k0,HVs.one (HV.plain rfl),trivial⟩
theorem i32_r:Rd 21 dE fun g=> -2147483648<=g/\g<=2147483647:=by
 intro H enc w base sp held n cs x hb h;obtain⟨i0,rfl,_,w0⟩:=DataW.trod_int Tryz.underlying21 h;exact⟨i0,HVs.one (HV.plain rfl),aml w0⟩
theorem iz:Rd 3 (fun g:Int=>[.v (.int .i64 g)]) fun _=>True:=by
 intro H enc w base sp held n cs x hb h;obtain⟨i0,rfl,_,w0⟩:=DataW.trod_int Tryz.underlying3 h;exact⟨i0,HVs.one (HV.plain rfl),trivial⟩
theorem span_r:Rd 138 aP okS:=.st (l:=[(21,1),(21,1)]) Tryz.underlying138 (.cons i32_r (.cons i32_r .nil)) (by kernel_rfl) (fun (a,b,_)=>⟨a,b⟩) (fun _=>rfl) fun _ h=>⟨h.1.1,h.1.2,h.2.1.1,h.2.1.2⟩
theorem vu:Rs 31 2 aP okS:=span_r.sl Tryz.underlying31 (by kernel_rfl) (by omega) (fun _=>rfl) fun _=>rfl
theorem ae1:Rs 23 2 aP okS:=span_r.sl Tryz.underlying23 (by kernel_rfl) (by omega) (fun _=>rfl) fun _=>rfl
theorem desc_r:Rd 34 af fun g=>(∀s∈g.filter,okS s)/\g.filter.length<=1048576:=.st (l:=[(5,1),(30,1),(5,1),(31,1)]) Tryz.underlying34 (.cons u8_r (.cons rq (.cons u8_r (.cons vu .nil)))) (by kernel_rfl) (fun (a,b,c,d,_)=>⟨a,b,c,d⟩) (fun _=>rfl) fun _ h=>h.2.2.2.1
theorem member_r:Rd 111 aE fun _=>True:=.st (l:=[(30,1),(5,1),(5,1)]) Tryz.underlying111 (.cons rq (.cons u8_r (.cons u8_r .nil))) (by kernel_rfl) (fun (a,b,c,_)=>⟨a,b,c⟩) (fun _=>rfl) fun _ _=>trivial
theorem mark_r:Rd 57 a_ fun _=>True:=.st (l:=[(5,1),(30,1),(24,1)]) Tryz.underlying57 (.cons u8_r (.cons rq (.cons u32_r .nil))) (by kernel_rfl) (fun (a,b,c,_)=>⟨a,b,c⟩) (fun _=>rfl) fun _ _=>trivial
theorem id_r:Rd 52 qY fun _=>True:=.st (l:=[(5,1),(30,1),(24,1)]) Tryz.underlying52 (.cons u8_r (.cons rq (.cons u32_r .nil))) (by kernel_rfl) (fun (a,b,c,_)=>⟨a,b,c⟩) (fun _=>rfl) fun _ _=>trivial
theorem al0:Rs 53 1 dE fun g=> -2147483648<=g/\g<=2147483647:=i32_r.sl Tryz.underlying53 (by kernel_rfl) (by omega) (fun _=>rfl) fun _=>rfl
theorem anb:Rs 54 1 aQ fun _=>True:=u8_r.sl Tryz.underlying54 (by kernel_rfl) (by omega) (fun _=>rfl) fun _=>rfl
theorem ak2:Rs 61 1 aZ fun _=>True:=u32_r.sl Tryz.underlying61 (by kernel_rfl) (by omega) (fun _=>rfl) fun _=>rfl
theorem aic:Rs 32 4 af fun g=>(∀s∈g.filter,okS s)/\g.filter.length<=1048576:=desc_r.sl Tryz.underlying32 (by kernel_rfl) (by omega) (fun _=>rfl) fun _=>rfl
theorem ado:Rs 39 3 aE fun _=>True:=member_r.sl Tryz.underlying39 (by kernel_rfl) (by omega) (fun _=>rfl) fun _=>rfl
theorem ajz:Rs 40 3 a_ fun _=>True:=mark_r.sl Tryz.underlying40 (by kernel_rfl) (by omega) (fun _=>rfl) fun _=>rfl
theorem amr:Rs 58 3 qY fun _=>True:=id_r.sl Tryz.underlying58 (by kernel_rfl) (by omega) (fun _=>rfl) fun _=>rfl
theorem aj5:Rd 56 bk fun g=>g.vals.length<=1048576/\g.data.length<=1048576:=.st (l:=[(52,3),(53,1),(54,1)]) Tryz.underlying56 (.cons id_r (.cons al0 (.cons anb .nil))) (by kernel_rfl) (fun (a,b,c,_)=>⟨a,b,c⟩) (fun _=>rfl) fun _ h=>⟨h.2.1.2,h.2.2.1.2⟩
def ant(g:bo):Prop:=(∀d∈g.list,(∀s∈d.filter,okS s)/\d.filter.length<=1048576)/\g.list.length<=1048576/\g.table.length<=1048576/\g.ev.vals.length<=1048576/\g.ev.data.length<=1048576/\g.marks.length<=1048576/\g.ids.length<=1048576
theorem am6:Rd 60 encMg ant:=.st (l:=[(5,1),(5,1),(30,1),(5,1),(32,1),(39,1),(56,5),(5,1),(57,3),(40,1),(58,1)]) Tryz.underlying60
 (.cons u8_r (.cons u8_r (.cons rq (.cons u8_r (.cons aic (.cons ado (.cons aj5 (.cons u8_r (.cons mark_r (.cons ajz (.cons amr .nil))))))))))) (by kernel_rfl) (fun (a,b,c,d,e,f,g,h,i,j,k,_)=>⟨a,b,c,d,e,f,g,h,i,j,k⟩) (fun _=>rfl) fun _ h=>⟨h.2.2.2.2.1.1,h.2.2.2.2.1.2,h.2.2.2.2.2.1.2,h.2.2.2.2.2.2.1.1,h.2.2.2.2.2.2.1.2,h.2.2.2.2.2.2.2.2.2.1.2,h.2.2.2.2.2.2.2.2.2.2.1.2⟩
def am_(g:GOp):Prop:=ant g.m/\(∀s∈g.filter,okS s)/\g.filter.length<=1048576/\g.draws.length<=1048576
theorem op24_r:Rd 63 bc am_:=.st (l:=[(5,1),(5,1),(30,1),(31,1),(60,17),(61,1)]) Tryz.underlying63 (.cons u8_r (.cons u8_r (.cons rq (.cons vu (.cons am6 (.cons ak2 .nil)))))) (by kernel_rfl) (fun (a,b,c,d,e,f,_)=>⟨a,b,c,d,e,f⟩) (fun _=>rfl) fun _ h=>⟨h.2.2.2.2.1,h.2.2.2.1.1,h.2.2.2.1.2,h.2.2.2.2.2.1.2⟩
theorem ops24_r:Rs 27 22 bc am_:=op24_r.sl Tryz.underlying27 (by kernel_rfl) (by omega) (fun _=>rfl) fun _=>rfl
theorem ama:Rd 26 aC fun g=>(∀s∈g.schema,okS s)/\g.schema.length<=1048576:=.st (l:=[(3,1),(23,1),(3,1),(3,1),(3,1),(3,1),(3,1),(3,1),(3,1),(3,1),(3,1),(3,1),(3,1),(3,1),(24,1)]) Tryz.underlying26
 (.cons iz (.cons ae1 (.cons iz (.cons iz (.cons iz (.cons iz (.cons iz (.cons iz (.cons iz (.cons iz (.cons iz (.cons iz (.cons iz (.cons iz (.cons u32_r .nil))))))))))))))) (by kernel_rfl) (fun (a,b,c,d,e,f,g,h,i,j,k,l,m,n,o,_)=>⟨a,b,c,d,e,f,g,h,i,j,k,l,m,n,o⟩) (fun _=>rfl) fun _ h=>h.2.1
section
variable {H:Type} {enc:TypeId×Value->H} {w:World} {base:Nat} {sp:Nat->Bool} {held:Bool}
theorem conf_arg{v:Value}{d:DataW H}{ps:List MemPlace}{b0:Nat}(hval:Value.okWide Tryz.prog w .any b0 26 v)(hb:Bk d)(h:DataW.Trod enc Tryz.prog w base sp held 26 v d ps):
  ∃g:ar,HV w (.agg (aC g)) noB v/\((∀s∈g.schema,okS s)/\g.schema.length<=1048576):=by
 obtain⟨n,hn⟩:=h;obtain⟨g,h1,h2⟩:=ama _ _ _ _ _ _ _ _ (d,ps) hb hn;exact⟨g,uD Tryz.underlying26 hval h1,h2⟩
theorem Rd.arg{α:Type}{T E sz:Nat}{e:α->List DV}{R:α->Prop}(h:Rs T sz e R)(ht:Tryz.prog.underlying T=some (.slice E)){v:Value}{d:DataW H}{ps:List MemPlace}{b0:Nat}(hval:Value.okWide Tryz.prog w .any b0 T v)(hb:Bk d)(hd:DataW.Trod enc Tryz.prog w base sp held T v d ps):
  ∃l:List α,HV w (.fz sz (l.map e)) noB v/\(∀g∈l,R g)/\l.length<=1048576:=by
 obtain⟨a0,len0,cap0,rfl⟩:=okWide_slice ht hval;obtain⟨fuel,hf⟩:=hd;obtain⟨l,⟨v,V,e1,h1,h2⟩,h3,h4⟩:=h _ _ _ _ _ _ _ _ (d,ps) hb hf
 obtain rfl:v= .slice a0 len0 cap0:=by
  have:[Value.slice a0 len0 cap0]=v::V:=e1;cases this;rfl
 exact⟨l,h1,h3,h4⟩
