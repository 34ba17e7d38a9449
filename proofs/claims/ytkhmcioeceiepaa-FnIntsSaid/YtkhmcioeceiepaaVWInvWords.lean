-- Cut by a program of this session (slim.py) out of the kit's printed words: what this law never names is left out; no printed text.
import Derived.Test.YtkhmcioeceiepaaVWInv
import Derived.Test.YtkhmcioeceiepaaVWFootNe
namespace Go.Proofs.YtkhmcioeceiepaaW.PrintWords
open Go.RowKit
end Go.Proofs.YtkhmcioeceiepaaW.PrintWords
namespace Go.Proofs.YtkhmcioeceiepaaW.PrintLast
section
variable {ops : Array Oper} {a : Act} {o og : Oper} {g : Nat} {t : Tmp} {u : Bool}
end
end Go.Proofs.YtkhmcioeceiepaaW.PrintLast
