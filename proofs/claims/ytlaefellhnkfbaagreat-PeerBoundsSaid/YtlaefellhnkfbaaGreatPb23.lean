/-
 bF 23 of the proof of Pb: the engine and the walks, in their order.
-/
import Derived.Test.YtlaefellhnkfbaaGreatPb22
set_option linter.unusedSimpArgs false
set_option linter.unusedVariables false
namespace Go.Eng
end Go.Eng

namespace Go.Eng
section
variable {l : List GDesc} {self : UInt8} {x : GDesc} {room : Int}
end
end Go.Eng
