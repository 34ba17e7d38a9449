-- Written by a program of this session (lawrow.py): no printed text.
import Derived.Test.YtkhmcioeceiepaaRows
import Derived.Test.YtkhmcioeceiepaaGFnExactAllowedx2
import Derived.Deep.Strs
import Derived.OpenShut
set_option autoImplicit false
set_option maxRecDepth 100000
namespace Go.Proofs.Ytkhmcioeceiepaa.GFnExactAllowed
open Go.ChangeShapes Go.WideShapes Go.RowKit Go.Proofs.YtkhmcioeceiepaaW.PrintWords
def laws_FnExactAllowed.Pure : Prop := ∀ (a0 : ByteArray) (l1 : List ByteArray) (l2 : List ByteArray), a0.size ≤ 140737488351232 → l1.length ≤ 9223372036854775807 → (∀ s ∈ l1, s.size ≤ 9223372036854775807) → l2.length ≤ 9223372036854775807 → (∀ s ∈ l2, s.size ≤ 9223372036854775807) → ∃ k, laws_FnExactAllowed.f k a0 l1 l2 = some true
end Go.Proofs.Ytkhmcioeceiepaa.GFnExactAllowed
