-- Cut by a program of this session (slim.py) out of the kit's printed words: what this law never names is left out; no printed text.
import Derived.Test.YtkhmcioeceiepaaVWWords
import Derived.Laws.StructEq
/-! ### 53. '==' of structs as_ one Bool -/
namespace Go.Proofs.YtkhmcioeceiepaaW.PrintWords
open Go.RowKit
section
variable {P : Program} {d : Nat} {xs ys : Array Value} {f : Field} {fs : List Field} {a b : Value} {r s : Bool} {w : World}
end
end Go.Proofs.YtkhmcioeceiepaaW.PrintWords
