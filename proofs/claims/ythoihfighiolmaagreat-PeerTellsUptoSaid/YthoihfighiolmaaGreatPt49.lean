import Derived.Test.YthoihfighiolmaaGreatPt37
set_option linter.unusedSectionVars false
set_option linter.unusedSimpArgs false
set_option linter.unusedVariables false
set_option maxRecDepth 10000
set_option maxHeartbeats 8000000
namespace Go.Proofs.YthoihfighiolmaaGreat.V
open Go.Eng
attribute [local go_sem] aP af fzD plR bb a_ aE aC List.map_cons List.map_nil
theorem adE(c:ar):aB c=(inR c.nodes 2 12&&ch c.schema&&inR c.view 1 12&&inR c.swap 1 c.view&&inR c.near 0 12&&inR c.fanout 0 12&&inR c.hops 0 12&&inR c.window 1 64&&inR c.buffer 1 64&&inR c.pulls 1 64&&inR c.patience 1 255&&inR c.suspect 1 255&&inR c.out 1 1000&&inR c.pool 1 10000&&decide (1<=c.last.toNat)):=by
 have e:(inR c.view 1 12&&inR c.swap 1 c.view)=(inR c.view 1 12&&inR c.swap 1 12&&decide (c.swap<=c.view)):=by
  rw[Bool.eq_iff_iff];simp only[inR,Bool.and_eq_true,decide_eq_true_eq];omega
 have e2:(inR c.nodes 2 12&&ch c.schema&&inR c.view 1 12&&inR c.swap 1 c.view)=(inR c.nodes 2 12&&ch c.schema&&inR c.view 1 12&&inR c.swap 1 12&&decide (c.swap<=c.view)):=by
  rw[Bool.and_assoc (inR c.nodes 2 12&&ch c.schema),e, <-Bool.and_assoc, <-Bool.and_assoc]
 rw[aB,e2]
theorem tN(c:ar)(hl:c.schema.length<=1000000000):Con2 Tryz.prog 8 [.agg (aC c)] (· =plR (.v (.bool (aB c)))):=by
 have kin:=fun a b c=>adx a b c
 have ks:=xE c.schema hl;rw[adE];have hla:=c.last.toNat_lt;refine en_ Tryz.func8 [.tmp 2] (g2_ ?_);refine g2_ ?_;refine ce_ (kin c.nodes 2 12) ?_;cases a0:inR c.nodes 2 12 with
 |false=>
  refine g2_ ?_;exact⟨_,rfl,aa [] (wg_ @Bool.and_false @Bool.false_and)⟩
 |true=>
 refine g2_ ?_;refine ce_ (ks) ?_;cases a1:ch c.schema with
 |false=>
  refine g2_ ?_;exact⟨_,rfl,aa [] (wg_ @Bool.and_false @Bool.false_and)⟩
 |true=>
 refine g2_ ?_;refine ce_ (kin c.view 1 12) ?_;cases a2:inR c.view 1 12 with
 |false=>
  refine g2_ ?_;exact⟨_,rfl,aa [] (wg_ @Bool.and_false @Bool.false_and)⟩
 |true=>
 refine g2_ ?_;refine ce_ (kin c.swap 1 c.view) ?_;cases a3:inR c.swap 1 c.view with
 |false=>
  refine g2_ ?_;exact⟨_,rfl,aa [] (wg_ @Bool.and_false @Bool.false_and)⟩
 |true=>
 refine g2_ ?_;refine ce_ (kin c.near 0 12) ?_;cases a4:inR c.near 0 12 with
 |false=>
  refine g2_ ?_;exact⟨_,rfl,aa [] (wg_ @Bool.and_false @Bool.false_and)⟩
 |true=>
 refine g2_ ?_;refine ce_ (kin c.fanout 0 12) ?_;cases a5:inR c.fanout 0 12 with
 |false=>
  refine g2_ ?_;exact⟨_,rfl,aa [] (wg_ @Bool.and_false @Bool.false_and)⟩
 |true=>
 refine g2_ ?_;refine ce_ (kin c.hops 0 12) ?_;cases a6:inR c.hops 0 12 with
 |false=>
  refine g2_ ?_;exact⟨_,rfl,aa [] (wg_ @Bool.and_false @Bool.false_and)⟩
 |true=>
 refine g2_ ?_;refine ce_ (kin c.window 1 64) ?_;cases a7:inR c.window 1 64 with
 |false=>
  refine g2_ ?_;exact⟨_,rfl,aa [] (wg_ @Bool.and_false @Bool.false_and)⟩
 |true=>
 refine g2_ ?_;refine ce_ (kin c.buffer 1 64) ?_;cases a8:inR c.buffer 1 64 with
 |false=>
  refine g2_ ?_;exact⟨_,rfl,aa [] (wg_ @Bool.and_false @Bool.false_and)⟩
 |true=>
 refine g2_ ?_;refine ce_ (kin c.pulls 1 64) ?_;cases a9:inR c.pulls 1 64 with
 |false=>
  refine g2_ ?_;exact⟨_,rfl,aa [] (wg_ @Bool.and_false @Bool.false_and)⟩
 |true=>
 refine g2_ ?_;refine ce_ (kin c.patience 1 255) ?_;cases a10:inR c.patience 1 255 with
 |false=>
  refine g2_ ?_;exact⟨_,rfl,aa [] (wg_ @Bool.and_false @Bool.false_and)⟩
 |true=>
 refine g2_ ?_;refine ce_ (kin c.suspect 1 255) ?_;cases a11:inR c.suspect 1 255 with
 |false=>
  refine g2_ ?_;exact⟨_,rfl,aa [] (wg_ @Bool.and_false @Bool.false_and)⟩
 |true=>
 refine g2_ ?_;refine ce_ (kin c.out 1 1000) ?_;cases a12:inR c.out 1 1000 with
 |false=>
  refine g2_ ?_;exact⟨_,rfl,aa [] (wg_ @Bool.and_false @Bool.false_and)⟩
 |true=>
 refine g2_ ?_;refine ce_ (kin c.pool 1 10000) ?_;cases a13:inR c.pool 1 10000 with
 |false=>
  refine g2_ ?_;exact⟨_,rfl,aa [] (wg_ @Bool.and_false @Bool.false_and)⟩
 |true=>
 refine g2_ ?_;have el:decide ((1:Int)<=(c.last.toNat:Int))=decide (1<=c.last.toNat):=by rw[decide_eq_decide];omega
 exact⟨_,rfl,aa [] (wg_ @Bool.and_true el)⟩
