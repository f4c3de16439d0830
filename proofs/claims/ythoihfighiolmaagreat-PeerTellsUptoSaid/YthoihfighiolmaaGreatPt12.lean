import Derived.Test.YthoihfighiolmaaGreatPt11
set_option linter.unusedSectionVars false
set_option linter.unusedSimpArgs false
set_option linter.unusedVariables false
namespace Go.Eng
section
variable {κ:Type} [DecidableEq κ] {es:List (κ×Value)} {k:κ} {v:Value}
end
theorem wo{κ:Type}[DecidableEq κ]{kv:κ->Value}{td:TypeDesc}(hs: ∀x y,Instr.sameNow td (kv x) (kv y)=some (decide (x=y)))(k:κ):
  ∀(ents:List MapEntry) (ks:List κ) (j:Nat),ents.map (·.key)=ks.map kv->
   Instr.findNow td (kv k) ents j=some ((ks.findIdx? fun y=>decide (k=y)).bind fun i=>(ents[i]?).map fun e=>(j+i,e.val)):=by
 intro ents
 induction ents with
 |nil=>
  intro ks j h;cases ks with
  |nil=>simp[Instr.findNow]
  |cons a b=>simp at h
 | cons e r ih=>
  intro ks j h;cases ks with
  |nil=>simp at h
  | cons a b=>
   simp only[List.map_cons,List.cons.injEq]at h;obtain⟨h1,h2⟩:=h;simp only[Instr.findNow,h1,hs]
   by_cases hk:k=a
   ·simp[hk,List.findIdx?_cons]
   ·simp only[hk,decide_false,ih b (j+1) h2,List.findIdx?_cons]
    congr 1
    cases hf:b.findIdx? fun y=>decide (k=y)with
    |none=>simp
    |some i=>simp[Nat.add_assoc,Nat.add_comm 1 i]
theorem aeV{P:Program}{K:TypeId}{κ:Type}[DecidableEq κ]{kv:κ->Value}{td:TypeDesc}(hu:P.underlying K=some td)(hs: ∀x y,Instr.sameNow td (kv x) (kv y)=some (decide (x=y)))
  (hc: ∀b x w,(Instr.checkKey b 10000 K (kv x)).run P w= .ok () w) (hb: ∀x,Instr.sameBits 10000 (kv x) (kv x)=true):ahR P K kv:=by
 refine⟨hc,hb,fun k ents ks h w=>?_⟩
 simp only[Instr.findKey,Sem.run_bind,run_underlying hu,Result.andThen_ok,wo hs k ents ks 0 h,Nat.zero_add,Sem.run_pure]
def kv8(x:UInt8):Value:=.int .u8 x.toNat
theorem aln(x y:UInt8):Instr.sameNow (.int .u8) (kv8 x) (kv8 y)=some (decide (x=y)):=by
 simp only[kv8,Instr.sameNow,if_true]
 congr 1
 rw[Bool.eq_iff_iff];simp only[beq_iff_eq,decide_eq_true_eq];rw[<-UInt8.toNat_inj];omega
theorem fK{P:Program}{K:TypeId}(hu:P.underlying K=some (.int .u8)):ahR P K kv8:=by
 refine aeV hu aln (fun b x w=>?_) (fun x=>?_)
 ·rw[show(10000:Nat)=9999+1 from rfl,Instr.checkKey]
  simp only[Sem.run_bind,run_underlying hu,Result.andThen_ok,kv8,Sem.run_pure]
 ·rw[show(10000:Nat)=9999+1 from rfl]
  simp only[Instr.sameBits,kv8,beq_self_eq_true,Bool.and_self,decide_true]
