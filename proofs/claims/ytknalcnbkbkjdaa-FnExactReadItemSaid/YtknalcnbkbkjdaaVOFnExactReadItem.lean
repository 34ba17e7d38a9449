-- Written by a program of this session (lawrow.py): no printed text.
import Derived.Test.YtknalcnbkbkjdaaRows
import Derived.Test.YtknalcnbkbkjdaaVLawReadW
import Derived.Deep.Strs
import Derived.OpenShut
set_option autoImplicit false
set_option maxRecDepth 100000
namespace Go.Proofs.Ytknalcnbkbkjdaa.GAFnExactReadItem
open Go.ChangeShapes Go.WideShapes Go.RowKit Go.Proofs.Ytknalcnbkbkjdaa.GFnExactReadItem Go.Proofs.YtknalcnbkbkjdaaW.PrintWords
def laws_FnExactReadItem.Pure : Prop := ∀ (a0 : ByteArray), a0.size ≤ 140737488351232 → ∃ k, laws_FnExactReadItem.f k a0 = some true
end Go.Proofs.Ytknalcnbkbkjdaa.GAFnExactReadItem
