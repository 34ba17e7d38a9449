/-
  NARROWER THAN 'FOR EVERY INPUT', by the rows' own cells (each row's printed sentence says how): FnExactListItem: loops.
  DERIVED. THE GIVEN ROWS OF THIS SEAT. 5 by the template 'for every input the law returns true; each argument reads behind the call as it read before'; 0 by the template 'total and deterministic' (their statements: YtknalcnbkbkjdaaTotals.lean).
  GIVEN WITH THE SEED: the statements are not yours to turn. If you find one false, say at which input.
  Laid BY PROGRAM, IN A SANDBOX (cutbox-rows.mjs): the forced cells as the released guide's own fill.sh prints them over the translation 0046ca562a2172c0… (all of the seat's roots in one cut). By AI agents, Wed Nov 11 2026. No macro, syntax, notation, axiom, sorry.
-/
import Derived.Test.YtknalcnbkbkjdaaChecked
import GoSem.Claim
import GoSem.ClaimJoined
import GoSem.ClaimMapViews
import Derived.JoinedTies
import Derived.KernelRfl
namespace Go.Proofs.Ytknalcnbkbkjdaa
/- THE CELL 'sum', in the pinned program and in every row, IS THE sha256 OF THE DUMP (.gsa) THAT YtknalcnbkbkjdaaProg.lean LOADS. Nothing in Lean hashes anything: it is a label: what it is worth is what the hold of that sum in a sandbox is worth. -/
noncomputable def Try.pinned : Pinned := { name := "ytknalcnbkbkjdaa", sum := "0046ca562a2172c06790fb300b6bb8503d5010f7d60cf39156f38d52ea778691", checked := Try.checked }
namespace Rows
def none {H : Type} : Left H := { results := [], args := [] }

/-- 'laws.FnItems': WHATEVER THE INPUT: true; the input reads as it did. -/
def fnItemsSpec : ChangeSpec := { name := "fnItems", fn := fun _ => fun
  | [d] => { results := [.lit (.bool true)], args := [d] }
  | _ => none }
def fnItemsRow : OpenClaim := { program := "ytknalcnbkbkjdaa", sum := "0046ca562a2172c06790fb300b6bb8503d5010f7d60cf39156f38d52ea778691", func := "loop.example/g00394/laws.FnItems", spec := "fnItems", unfollowed := true, recurses := true, apart := false }
def FnItemsSaid : Prop := fnItemsRow.holds Try.pinned (OpenSpec.ofChange fnItemsSpec)

/-- ITS FALSE NEIGHBOUR: 'it returns false'. Refute it at one input. -/
def fnItemsWrong : ChangeSpec := { name := "fnItems", fn := fun _ => fun
  | [d] => { results := [.lit (.bool false)], args := [d] }
  | _ => none }
def FnItemsWrongFalsely : Prop := fnItemsRow.holds Try.pinned (OpenSpec.ofChange fnItemsWrong)

/-- 'laws.FnExactListItem': WHATEVER THE INPUT: true; the input reads as it did. -/
def fnExactListItemSpec : ChangeSpec := { name := "fnExactListItem", fn := fun _ => fun
  | [d] => { results := [.lit (.bool true)], args := [d] }
  | _ => none }
def fnExactListItemRow : OpenClaim := { program := "ytknalcnbkbkjdaa", sum := "0046ca562a2172c06790fb300b6bb8503d5010f7d60cf39156f38d52ea778691", func := "loop.example/g00394/laws.FnExactListItem", spec := "fnExactListItem", recurses := true, loops := true, apart := false }
def FnExactListItemSaid : Prop := fnExactListItemRow.holds Try.pinned (OpenSpec.ofChange fnExactListItemSpec)

/-- ITS FALSE NEIGHBOUR: 'it returns false'. Refute it at one input. -/
def fnExactListItemWrong : ChangeSpec := { name := "fnExactListItem", fn := fun _ => fun
  | [d] => { results := [.lit (.bool false)], args := [d] }
  | _ => none }
def FnExactListItemWrongFalsely : Prop := fnExactListItemRow.holds Try.pinned (OpenSpec.ofChange fnExactListItemWrong)

/-- 'laws.FnExactReadItem': WHATEVER THE INPUT: true; the input reads as it did. -/
def fnExactReadItemSpec : ChangeSpec := { name := "fnExactReadItem", fn := fun _ => fun
  | [d] => { results := [.lit (.bool true)], args := [d] }
  | _ => none }
def fnExactReadItemRow : OpenClaim := { program := "ytknalcnbkbkjdaa", sum := "0046ca562a2172c06790fb300b6bb8503d5010f7d60cf39156f38d52ea778691", func := "loop.example/g00394/laws.FnExactReadItem", spec := "fnExactReadItem", recurses := true, apart := false }
def FnExactReadItemSaid : Prop := fnExactReadItemRow.holds Try.pinned (OpenSpec.ofChange fnExactReadItemSpec)

/-- ITS FALSE NEIGHBOUR: 'it returns false'. Refute it at one input. -/
def fnExactReadItemWrong : ChangeSpec := { name := "fnExactReadItem", fn := fun _ => fun
  | [d] => { results := [.lit (.bool false)], args := [d] }
  | _ => none }
def FnExactReadItemWrongFalsely : Prop := fnExactReadItemRow.holds Try.pinned (OpenSpec.ofChange fnExactReadItemWrong)

/-- 'laws.FnExactBodyItem': WHATEVER THE INPUT: true; the input reads as it did. -/
def fnExactBodyItemSpec : ChangeSpec := { name := "fnExactBodyItem", fn := fun _ => fun
  | [d] => { results := [.lit (.bool true)], args := [d] }
  | _ => none }
def fnExactBodyItemRow : OpenClaim := { program := "ytknalcnbkbkjdaa", sum := "0046ca562a2172c06790fb300b6bb8503d5010f7d60cf39156f38d52ea778691", func := "loop.example/g00394/laws.FnExactBodyItem", spec := "fnExactBodyItem", unfollowed := true, recurses := true, apart := false }
def FnExactBodyItemSaid : Prop := fnExactBodyItemRow.holds Try.pinned (OpenSpec.ofChange fnExactBodyItemSpec)

/-- ITS FALSE NEIGHBOUR: 'it returns false'. Refute it at one input. -/
def fnExactBodyItemWrong : ChangeSpec := { name := "fnExactBodyItem", fn := fun _ => fun
  | [d] => { results := [.lit (.bool false)], args := [d] }
  | _ => none }
def FnExactBodyItemWrongFalsely : Prop := fnExactBodyItemRow.holds Try.pinned (OpenSpec.ofChange fnExactBodyItemWrong)

/-- 'laws.FnExactBodyText': WHATEVER THE INPUT: true; the input reads as it did. -/
def fnExactBodyTextSpec : ChangeSpec := { name := "fnExactBodyText", fn := fun _ => fun
  | [d] => { results := [.lit (.bool true)], args := [d] }
  | _ => none }
def fnExactBodyTextRow : OpenClaim := { program := "ytknalcnbkbkjdaa", sum := "0046ca562a2172c06790fb300b6bb8503d5010f7d60cf39156f38d52ea778691", func := "loop.example/g00394/laws.FnExactBodyText", spec := "fnExactBodyText", unfollowed := true, recurses := true, apart := false }
def FnExactBodyTextSaid : Prop := fnExactBodyTextRow.holds Try.pinned (OpenSpec.ofChange fnExactBodyTextSpec)

/-- ITS FALSE NEIGHBOUR: 'it returns false'. Refute it at one input. -/
def fnExactBodyTextWrong : ChangeSpec := { name := "fnExactBodyText", fn := fun _ => fun
  | [d] => { results := [.lit (.bool false)], args := [d] }
  | _ => none }
def FnExactBodyTextWrongFalsely : Prop := fnExactBodyTextRow.holds Try.pinned (OpenSpec.ofChange fnExactBodyTextWrong)

/- THE SECOND FORM. 'bulk': how many values and letters a reading holds, each counted each time it is reached (what is shared counts as often as it is met; a slice's spare places count too). A statement '..UptoSaid' is the law's where the arguments, and the package variables that the reading takes, are together of bulk at most 1048576: NARROWER than '..Said'. Prove '..Said' where nothing that the law and all that it calls make is longer than what came in: it says more and counts as full. Else prove '..UptoSaid'. A law counts once. -/
mutual
def uptoBulk {H : Type} : DataW H → Nat
  | .lit (.string bytes) => bytes.length + 1
  | .lit _ => 1
  | .nil => 1
  | .ptr d => uptoBulk d + 1
  | .slice elems spare => uptoBulkAll elems + uptoBulkAll spare + 1
  | .agg parts => uptoBulkAll parts + 1
  | .iface _ d => uptoBulk d + 1
  | .map entries => uptoBulkEntries entries + 1
  | .held _ => 1
def uptoBulkAll {H : Type} : List (DataW H) → Nat
  | [] => 0
  | d :: r => uptoBulk d + uptoBulkAll r
def uptoBulkEntries {H : Type} : List (Lit × DataW H) → Nat
  | [] => 0
  | x :: r => uptoBulkEntry x + uptoBulkEntries r
def uptoBulkEntry {H : Type} : Lit × DataW H → Nat
  | (.string bytes, d) => bytes.length + uptoBulk d + 1
  | (_, d) => uptoBulk d + 1
 end
def uptoSmall : (H : Type) → List (DataW H) → Bool := fun _ ds => decide (uptoBulkAll ds ≤ 1048576)
def OpenSpec.upto (s : _root_.Go.ChangeSpec) : _root_.Go.OpenSpec := { _root_.Go.OpenSpec.ofChange s with cond := some uptoSmall }

/-- 'laws.FnItems', WHERE WHAT IT READS IS OF BULK AT MOST 1048576: true; the input reads as it did. -/
def fnItemsUptoRow : OpenClaim := { program := "ytknalcnbkbkjdaa", sum := "0046ca562a2172c06790fb300b6bb8503d5010f7d60cf39156f38d52ea778691", func := "loop.example/g00394/laws.FnItems", spec := "fnItems", unfollowed := true, recurses := true, apart := false, narrowed := true }
def FnItemsUptoSaid : Prop := fnItemsUptoRow.holds Try.pinned (OpenSpec.upto fnItemsSpec)

/-- 'laws.FnExactListItem', WHERE WHAT IT READS IS OF BULK AT MOST 1048576: true; the input reads as it did. -/
def fnExactListItemUptoRow : OpenClaim := { program := "ytknalcnbkbkjdaa", sum := "0046ca562a2172c06790fb300b6bb8503d5010f7d60cf39156f38d52ea778691", func := "loop.example/g00394/laws.FnExactListItem", spec := "fnExactListItem", recurses := true, loops := true, apart := false, narrowed := true }
def FnExactListItemUptoSaid : Prop := fnExactListItemUptoRow.holds Try.pinned (OpenSpec.upto fnExactListItemSpec)

/-- 'laws.FnExactReadItem', WHERE WHAT IT READS IS OF BULK AT MOST 1048576: true; the input reads as it did. -/
def fnExactReadItemUptoRow : OpenClaim := { program := "ytknalcnbkbkjdaa", sum := "0046ca562a2172c06790fb300b6bb8503d5010f7d60cf39156f38d52ea778691", func := "loop.example/g00394/laws.FnExactReadItem", spec := "fnExactReadItem", recurses := true, apart := false, narrowed := true }
def FnExactReadItemUptoSaid : Prop := fnExactReadItemUptoRow.holds Try.pinned (OpenSpec.upto fnExactReadItemSpec)

/-- 'laws.FnExactBodyItem', WHERE WHAT IT READS IS OF BULK AT MOST 1048576: true; the input reads as it did. -/
def fnExactBodyItemUptoRow : OpenClaim := { program := "ytknalcnbkbkjdaa", sum := "0046ca562a2172c06790fb300b6bb8503d5010f7d60cf39156f38d52ea778691", func := "loop.example/g00394/laws.FnExactBodyItem", spec := "fnExactBodyItem", unfollowed := true, recurses := true, apart := false, narrowed := true }
def FnExactBodyItemUptoSaid : Prop := fnExactBodyItemUptoRow.holds Try.pinned (OpenSpec.upto fnExactBodyItemSpec)

/-- 'laws.FnExactBodyText', WHERE WHAT IT READS IS OF BULK AT MOST 1048576: true; the input reads as it did. -/
def fnExactBodyTextUptoRow : OpenClaim := { program := "ytknalcnbkbkjdaa", sum := "0046ca562a2172c06790fb300b6bb8503d5010f7d60cf39156f38d52ea778691", func := "loop.example/g00394/laws.FnExactBodyText", spec := "fnExactBodyText", unfollowed := true, recurses := true, apart := false, narrowed := true }
def FnExactBodyTextUptoSaid : Prop := fnExactBodyTextUptoRow.holds Try.pinned (OpenSpec.upto fnExactBodyTextSpec)

end Rows
end Go.Proofs.Ytknalcnbkbkjdaa
