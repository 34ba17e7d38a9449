-- Cut by a program of this session (slim.py) out of the kit's printed words: what this law never names is left out; no printed text.
import Derived.Test.YtkhmcioeceiepaaVWN
/-! ### 52. A row that stays read whatever happens to a block (a set of blocks) doesn't lie there -/
namespace Go.Proofs.YtkhmcioeceiepaaW.PrintWords
open Go.RowKit
namespace Kd
section
variable {α : Type} {d : Kd α} {W : World} {g n : Nat} {S ok : Nat → Prop} {A : Option Addr} {ad : Addr} {xs : List α}
end
end Kd
end Go.Proofs.YtkhmcioeceiepaaW.PrintWords
