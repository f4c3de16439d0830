/-
 Part 33 of the proof of Pj: the engine and the walks, in their order.
-/
import Derived.Test.YtlaefellhnkfbaaGreatPj15
set_option linter.unusedSimpArgs false
set_option linter.unusedVariables false
namespace Go.Eng
end Go.Eng
