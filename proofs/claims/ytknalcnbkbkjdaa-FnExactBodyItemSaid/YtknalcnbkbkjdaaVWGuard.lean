-- Cut by a program of this session (slim.py) out of the kit's printed words: what this law never names is left out; no printed text.
import Derived.Test.YtknalcnbkbkjdaaVWWords
/-! ### 58. A guarded operation whose guard is known to want it: the same goal without the guard -/
namespace Go.Proofs.YtknalcnbkbkjdaaW.PrintWords
open Go.RowKit
section
variable {P : Program} {ops : Array Oper} {rest : List Oper} {o : Oper} {a : Act} {Q : Exit → Act → World → Prop} {W : World}
end
end Go.Proofs.YtknalcnbkbkjdaaW.PrintWords
