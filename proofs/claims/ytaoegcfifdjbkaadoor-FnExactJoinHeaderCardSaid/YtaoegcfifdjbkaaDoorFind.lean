/- Items: the code of one; the place of the first with a name. -/
import Derived.Test.YtaoegcfifdjbkaaDoorItems
import Derived.Test.YtaoegcfifdjbkaaDoorAlike
import Derived.Test.YtaoegcfifdjbkaaDoorQuote
import Derived.Test.YtaoegcfifdjbkaaDoorTimes
namespace Go.Proofs.YtaoegcfifdjbkaaDoor
open Go.RowKit
set_option linter.unusedSimpArgs false
set_option linter.unusedVariables false

def itemFault (i : It) : Int := if wordS i.1 = false then 5 else if (!i.2.1 && !i.2.2.toList.isEmpty) = true then 1 else if 1000 < i.2.2.size then 2 else if allB plainB i.2.2 = false then 5 else 0
def alikeI (name : ByteArray) (i : It) : Bool := alikeB i.1 name
def findR (l : List It) (name : ByteArray) : Int × Int := if 20 < l.length then (2, 0) else if wordS name = false then (5, 0) else if idxI (alikeI name) l < 0 then (4, 0) else (0, idxI (alikeI name) l)
end Go.Proofs.YtaoegcfifdjbkaaDoor
