import Derived.Test.YthoihfighiolmaaGreatPt24
set_option linter.unusedSectionVars false
set_option linter.unusedSimpArgs false
set_option linter.unusedVariables false
set_option maxRecDepth 10000
namespace Go.Proofs.YthoihfighiolmaaGreat
open Go.Eng
attribute [local go_sem] GSpan.val GSpan.enc PD.val PD.enc
