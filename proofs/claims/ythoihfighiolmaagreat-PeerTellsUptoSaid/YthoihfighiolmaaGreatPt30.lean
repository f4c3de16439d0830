import Derived.Test.YthoihfighiolmaaGreatPt26
set_option linter.unusedSectionVars false
set_option linter.unusedSimpArgs false
set_option linter.unusedVariables false
set_option maxRecDepth 10000
namespace Go.Eng
@[go_sem] theorem akj{P:Program}{u0 u:World}{s:S}{K:S->World->Prop}{x:Bool}{o:Oper}{b:Bool}:oH P x u0 o K s u b (.v undef)=K (s.put o.dst (.v undef)) u:=rfl
section
variable {L:List GDesc} {node:UInt8} {k:Nat}
end
end Go.Eng
namespace Go.Proofs.YthoihfighiolmaaGreat
open Go.Eng
attribute [local go_sem] GSpan.val GSpan.enc PD.val PD.enc
