-- Cut by a program of this session (slim.py) out of the kit's printed words: what this law never names is left out; no printed text.
import Derived.Test.YtknalcnbkbkjdaaVWInv
import Derived.Test.YtknalcnbkbkjdaaVWFootNe
namespace Go.Proofs.YtknalcnbkbkjdaaW.PrintWords
open Go.RowKit
end Go.Proofs.YtknalcnbkbkjdaaW.PrintWords
namespace Go.Proofs.YtknalcnbkbkjdaaW.PrintLast
section
variable {ops : Array Oper} {a : Act} {o og : Oper} {g : Nat} {t : Tmp} {u : Bool}
end
end Go.Proofs.YtknalcnbkbkjdaaW.PrintLast
