-- Written by a program of this session (lawrow.py): no printed text.
import Derived.Test.YtkhmcioeceiepaaDoorRows
import Derived.Test.YtkhmcioeceiepaaDoorGFnExactNamesOkx2
import Derived.Deep.Strs
import Derived.OpenShut
set_option autoImplicit false
set_option maxRecDepth 100000
namespace Go.Proofs.YtkhmcioeceiepaaDoor.GFnExactNamesOk
open Go.ChangeShapes Go.WideShapes Go.RowKit Go.Proofs.YtkhmcioeceiepaaDoorW.PrintWords
def laws_FnExactNamesOk.Pure : Prop := ∀ (l0 : List ByteArray), l0.length ≤ 9223372036854775807 → (∀ s ∈ l0, s.size ≤ 9223372036854775807) → ∃ k, laws_FnExactNamesOk.f k l0 = some true
end Go.Proofs.YtkhmcioeceiepaaDoor.GFnExactNamesOk
