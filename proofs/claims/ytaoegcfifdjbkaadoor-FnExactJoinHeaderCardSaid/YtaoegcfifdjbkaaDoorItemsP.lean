/- Plain words: the text of items. No program in sight. -/
import Derived.Test.YtaoegcfifdjbkaaDoorFaultP
import Derived.Test.YtaoegcfifdjbkaaDoorJoinP
import Derived.Test.YtaoegcfifdjbkaaDoorQuoteP
import Derived.Lib.Join
namespace Go.Proofs.YtaoegcfifdjbkaaDoor
open Go.RowKit
def itText (x : ByteArray) (b : Bool) (y : ByteArray) : ByteArray := if b then (if wordS y then x ++ (⟨#[61]⟩ ++ y) else x ++ (⟨#[61]⟩ ++ quoteS y)) else x
end Go.Proofs.YtaoegcfifdjbkaaDoor
