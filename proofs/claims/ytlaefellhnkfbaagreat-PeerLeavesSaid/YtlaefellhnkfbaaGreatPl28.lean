/-
  Part 28 of the proof of Pl: the engine and the walks, in their order.
-/
import Derived.Test.YtlaefellhnkfbaaGreatPl22
import Derived.Test.YtlaefellhnkfbaaGreatPl27
set_option linter.unusedSimpArgs false
set_option linter.unusedVariables false
set_option maxRecDepth 10000
namespace Go.Proofs.YtlaefellhnkfbaaGreat.V
open Go.Eng
attribute [local go_sem] encS encDD fzD plR rowR
end Go.Proofs.YtlaefellhnkfbaaGreat.V
