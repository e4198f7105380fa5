/- Names that are alike. -/
import Derived.Test.YtcnjbifdlieboaaLower
namespace Go.Proofs.Ytcnjbifdlieboaa
open Go.RowKit
set_option linter.unusedSimpArgs false
set_option linter.unusedVariables false

def alikeB (a b : ByteArray) : Bool := (lowS a).toList == (lowS b).toList
end Go.Proofs.Ytcnjbifdlieboaa
