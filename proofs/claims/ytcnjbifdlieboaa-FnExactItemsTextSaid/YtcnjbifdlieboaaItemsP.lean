/- Plain words: the text of items. No program in sight. -/
import Derived.Test.YtcnjbifdlieboaaFaultP
import Derived.Test.YtcnjbifdlieboaaJoinP
import Derived.Test.YtcnjbifdlieboaaQuoteP
import Derived.Lib.Join
namespace Go.Proofs.Ytcnjbifdlieboaa
open Go.RowKit
def itText (x : ByteArray) (b : Bool) (y : ByteArray) : ByteArray := if b then (if wordS y then x ++ (⟨#[61]⟩ ++ y) else x ++ (⟨#[61]⟩ ++ quoteS y)) else x
end Go.Proofs.Ytcnjbifdlieboaa
