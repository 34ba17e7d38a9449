/-
  NARROWER THAN 'FOR EVERY INPUT', by the rows' own cells (each row's printed sentence says how): FnExactItemOk: loops · FnExactListItem: loops · FnExactItemText: loops.
  DERIVED. THE GIVEN ROWS OF THIS SEAT. 12 by the template 'for every input the law returns true; each argument reads behind the call as it read before'; 0 by the template 'total and deterministic' (their statements: YtgjmkljhllbanaaTotals.lean).
  GIVEN WITH THE SEED: the statements are not yours to turn. If you find one false, say at which input.
  Laid BY PROGRAM, IN A SANDBOX (cutbox-rows.mjs): the forced cells as the released guide's own fill.sh prints them over the translation ff84c0e4fb8e9f54… (all of the seat's roots in one cut). By AI agents, Wed Nov 11 2026. No macro, syntax, notation, axiom, sorry.
-/
import Derived.Test.YtgjmkljhllbanaaChecked
import GoSem.Claim
import GoSem.ClaimJoined
import GoSem.ClaimMapViews
import Derived.JoinedTies
import Derived.KernelRfl
namespace Go.Proofs.Ytgjmkljhllbanaa
/- THE CELL 'sum', in the pinned program and in every row, IS THE sha256 OF THE DUMP (.gsa) THAT YtgjmkljhllbanaaProg.lean LOADS. Nothing in Lean hashes anything: it is a label: what it is worth is what the hold of that sum in a sandbox is worth. -/
noncomputable def Try.pinned : Pinned := { name := "ytgjmkljhllbanaa", sum := "ff84c0e4fb8e9f54855aa2d963c596b9c8482a0f970409a7e020e6dfc171e7f6", checked := Try.checked }
namespace Rows
def none {H : Type} : Left H := { results := [], args := [] }

/-- 'laws.FnExactUnhex': WHATEVER THE INPUT: true; the input reads as it did. -/
def fnExactUnhexSpec : ChangeSpec := { name := "fnExactUnhex", fn := fun _ => fun
  | [d] => { results := [.lit (.bool true)], args := [d] }
  | _ => none }
def fnExactUnhexRow : OpenClaim := { program := "ytgjmkljhllbanaa", sum := "ff84c0e4fb8e9f54855aa2d963c596b9c8482a0f970409a7e020e6dfc171e7f6", func := "loop.example/g00394/laws.FnExactUnhex", spec := "fnExactUnhex", inPlace := ["internal/bytealg.IndexByteString"], apart := false }
def FnExactUnhexSaid : Prop := fnExactUnhexRow.holds Try.pinned (OpenSpec.ofChange fnExactUnhexSpec)

/-- ITS FALSE NEIGHBOUR: 'it returns false'. Refute it at one input. -/
def fnExactUnhexWrong : ChangeSpec := { name := "fnExactUnhex", fn := fun _ => fun
  | [d] => { results := [.lit (.bool false)], args := [d] }
  | _ => none }
def FnExactUnhexWrongFalsely : Prop := fnExactUnhexRow.holds Try.pinned (OpenSpec.ofChange fnExactUnhexWrong)

/-- 'laws.FnExactUnsealed': WHATEVER THE INPUT: true; the input reads as it did. -/
def fnExactUnsealedSpec : ChangeSpec := { name := "fnExactUnsealed", fn := fun _ => fun
  | [d] => { results := [.lit (.bool true)], args := [d] }
  | _ => none }
def fnExactUnsealedRow : OpenClaim := { program := "ytgjmkljhllbanaa", sum := "ff84c0e4fb8e9f54855aa2d963c596b9c8482a0f970409a7e020e6dfc171e7f6", func := "loop.example/g00394/laws.FnExactUnsealed", spec := "fnExactUnsealed", apart := false }
def FnExactUnsealedSaid : Prop := fnExactUnsealedRow.holds Try.pinned (OpenSpec.ofChange fnExactUnsealedSpec)

/-- ITS FALSE NEIGHBOUR: 'it returns false'. Refute it at one input. -/
def fnExactUnsealedWrong : ChangeSpec := { name := "fnExactUnsealed", fn := fun _ => fun
  | [d] => { results := [.lit (.bool false)], args := [d] }
  | _ => none }
def FnExactUnsealedWrongFalsely : Prop := fnExactUnsealedRow.holds Try.pinned (OpenSpec.ofChange fnExactUnsealedWrong)

/-- 'laws.FnExactReadVar': WHATEVER THE INPUT: true; the input reads as it did. -/
def fnExactReadVarSpec : ChangeSpec := { name := "fnExactReadVar", fn := fun _ => fun
  | [d1, d2] => { results := [.lit (.bool true)], args := [d1, d2] }
  | _ => none }
def fnExactReadVarRow : OpenClaim := { program := "ytgjmkljhllbanaa", sum := "ff84c0e4fb8e9f54855aa2d963c596b9c8482a0f970409a7e020e6dfc171e7f6", func := "loop.example/g00394/laws.FnExactReadVar", spec := "fnExactReadVar", apart := false }
def FnExactReadVarSaid : Prop := fnExactReadVarRow.holds Try.pinned (OpenSpec.ofChange fnExactReadVarSpec)

/-- ITS FALSE NEIGHBOUR: 'it returns false'. Refute it at one input. -/
def fnExactReadVarWrong : ChangeSpec := { name := "fnExactReadVar", fn := fun _ => fun
  | [d1, d2] => { results := [.lit (.bool false)], args := [d1, d2] }
  | _ => none }
def FnExactReadVarWrongFalsely : Prop := fnExactReadVarRow.holds Try.pinned (OpenSpec.ofChange fnExactReadVarWrong)

/-- 'laws.FnExactReadShort': WHATEVER THE INPUT: true; the input reads as it did. -/
def fnExactReadShortSpec : ChangeSpec := { name := "fnExactReadShort", fn := fun _ => fun
  | [d1, d2] => { results := [.lit (.bool true)], args := [d1, d2] }
  | _ => none }
def fnExactReadShortRow : OpenClaim := { program := "ytgjmkljhllbanaa", sum := "ff84c0e4fb8e9f54855aa2d963c596b9c8482a0f970409a7e020e6dfc171e7f6", func := "loop.example/g00394/laws.FnExactReadShort", spec := "fnExactReadShort", apart := false }
def FnExactReadShortSaid : Prop := fnExactReadShortRow.holds Try.pinned (OpenSpec.ofChange fnExactReadShortSpec)

/-- ITS FALSE NEIGHBOUR: 'it returns false'. Refute it at one input. -/
def fnExactReadShortWrong : ChangeSpec := { name := "fnExactReadShort", fn := fun _ => fun
  | [d1, d2] => { results := [.lit (.bool false)], args := [d1, d2] }
  | _ => none }
def FnExactReadShortWrongFalsely : Prop := fnExactReadShortRow.holds Try.pinned (OpenSpec.ofChange fnExactReadShortWrong)

/-- 'laws.FnTurned': WHATEVER THE INPUT: true; the input reads as it did. -/
def fnTurnedSpec : ChangeSpec := { name := "fnTurned", fn := fun _ => fun
  | [d] => { results := [.lit (.bool true)], args := [d] }
  | _ => none }
def fnTurnedRow : OpenClaim := { program := "ytgjmkljhllbanaa", sum := "ff84c0e4fb8e9f54855aa2d963c596b9c8482a0f970409a7e020e6dfc171e7f6", func := "loop.example/g00394/laws.FnTurned", spec := "fnTurned", apart := false }
def FnTurnedSaid : Prop := fnTurnedRow.holds Try.pinned (OpenSpec.ofChange fnTurnedSpec)

/-- ITS FALSE NEIGHBOUR: 'it returns false'. Refute it at one input. -/
def fnTurnedWrong : ChangeSpec := { name := "fnTurned", fn := fun _ => fun
  | [d] => { results := [.lit (.bool false)], args := [d] }
  | _ => none }
def FnTurnedWrongFalsely : Prop := fnTurnedRow.holds Try.pinned (OpenSpec.ofChange fnTurnedWrong)

/-- 'laws.FnExactTextItem': WHATEVER THE INPUT: true; the input reads as it did. -/
def fnExactTextItemSpec : ChangeSpec := { name := "fnExactTextItem", fn := fun _ => fun
  | [d] => { results := [.lit (.bool true)], args := [d] }
  | _ => none }
def fnExactTextItemRow : OpenClaim := { program := "ytgjmkljhllbanaa", sum := "ff84c0e4fb8e9f54855aa2d963c596b9c8482a0f970409a7e020e6dfc171e7f6", func := "loop.example/g00394/laws.FnExactTextItem", spec := "fnExactTextItem", recurses := true, apart := false }
def FnExactTextItemSaid : Prop := fnExactTextItemRow.holds Try.pinned (OpenSpec.ofChange fnExactTextItemSpec)

/-- ITS FALSE NEIGHBOUR: 'it returns false'. Refute it at one input. -/
def fnExactTextItemWrong : ChangeSpec := { name := "fnExactTextItem", fn := fun _ => fun
  | [d] => { results := [.lit (.bool false)], args := [d] }
  | _ => none }
def FnExactTextItemWrongFalsely : Prop := fnExactTextItemRow.holds Try.pinned (OpenSpec.ofChange fnExactTextItemWrong)

/-- 'laws.FnExactIntItem': WHATEVER THE INPUT: true; the input reads as it did. -/
def fnExactIntItemSpec : ChangeSpec := { name := "fnExactIntItem", fn := fun _ => fun
  | [d] => { results := [.lit (.bool true)], args := [d] }
  | _ => none }
def fnExactIntItemRow : OpenClaim := { program := "ytgjmkljhllbanaa", sum := "ff84c0e4fb8e9f54855aa2d963c596b9c8482a0f970409a7e020e6dfc171e7f6", func := "loop.example/g00394/laws.FnExactIntItem", spec := "fnExactIntItem", recurses := true, apart := false }
def FnExactIntItemSaid : Prop := fnExactIntItemRow.holds Try.pinned (OpenSpec.ofChange fnExactIntItemSpec)

/-- ITS FALSE NEIGHBOUR: 'it returns false'. Refute it at one input. -/
def fnExactIntItemWrong : ChangeSpec := { name := "fnExactIntItem", fn := fun _ => fun
  | [d] => { results := [.lit (.bool false)], args := [d] }
  | _ => none }
def FnExactIntItemWrongFalsely : Prop := fnExactIntItemRow.holds Try.pinned (OpenSpec.ofChange fnExactIntItemWrong)

/-- 'laws.FnExactItemOk': WHATEVER THE INPUT: true; the input reads as it did. -/
def fnExactItemOkSpec : ChangeSpec := { name := "fnExactItemOk", fn := fun _ => fun
  | [d] => { results := [.lit (.bool true)], args := [d] }
  | _ => none }
def fnExactItemOkRow : OpenClaim := { program := "ytgjmkljhllbanaa", sum := "ff84c0e4fb8e9f54855aa2d963c596b9c8482a0f970409a7e020e6dfc171e7f6", func := "loop.example/g00394/laws.FnExactItemOk", spec := "fnExactItemOk", recurses := true, loops := true, apart := false }
def FnExactItemOkSaid : Prop := fnExactItemOkRow.holds Try.pinned (OpenSpec.ofChange fnExactItemOkSpec)

/-- ITS FALSE NEIGHBOUR: 'it returns false'. Refute it at one input. -/
def fnExactItemOkWrong : ChangeSpec := { name := "fnExactItemOk", fn := fun _ => fun
  | [d] => { results := [.lit (.bool false)], args := [d] }
  | _ => none }
def FnExactItemOkWrongFalsely : Prop := fnExactItemOkRow.holds Try.pinned (OpenSpec.ofChange fnExactItemOkWrong)

/-- 'laws.FnExactListItem': WHATEVER THE INPUT: true; the input reads as it did. -/
def fnExactListItemSpec : ChangeSpec := { name := "fnExactListItem", fn := fun _ => fun
  | [d] => { results := [.lit (.bool true)], args := [d] }
  | _ => none }
def fnExactListItemRow : OpenClaim := { program := "ytgjmkljhllbanaa", sum := "ff84c0e4fb8e9f54855aa2d963c596b9c8482a0f970409a7e020e6dfc171e7f6", func := "loop.example/g00394/laws.FnExactListItem", spec := "fnExactListItem", recurses := true, loops := true, apart := false }
def FnExactListItemSaid : Prop := fnExactListItemRow.holds Try.pinned (OpenSpec.ofChange fnExactListItemSpec)

/-- ITS FALSE NEIGHBOUR: 'it returns false'. Refute it at one input. -/
def fnExactListItemWrong : ChangeSpec := { name := "fnExactListItem", fn := fun _ => fun
  | [d] => { results := [.lit (.bool false)], args := [d] }
  | _ => none }
def FnExactListItemWrongFalsely : Prop := fnExactListItemRow.holds Try.pinned (OpenSpec.ofChange fnExactListItemWrong)

/-- 'laws.FnExactItemText': WHATEVER THE INPUT: true; the input reads as it did. -/
def fnExactItemTextSpec : ChangeSpec := { name := "fnExactItemText", fn := fun _ => fun
  | [d] => { results := [.lit (.bool true)], args := [d] }
  | _ => none }
def fnExactItemTextRow : OpenClaim := { program := "ytgjmkljhllbanaa", sum := "ff84c0e4fb8e9f54855aa2d963c596b9c8482a0f970409a7e020e6dfc171e7f6", func := "loop.example/g00394/laws.FnExactItemText", spec := "fnExactItemText", recurses := true, loops := true, apart := false }
def FnExactItemTextSaid : Prop := fnExactItemTextRow.holds Try.pinned (OpenSpec.ofChange fnExactItemTextSpec)

/-- ITS FALSE NEIGHBOUR: 'it returns false'. Refute it at one input. -/
def fnExactItemTextWrong : ChangeSpec := { name := "fnExactItemText", fn := fun _ => fun
  | [d] => { results := [.lit (.bool false)], args := [d] }
  | _ => none }
def FnExactItemTextWrongFalsely : Prop := fnExactItemTextRow.holds Try.pinned (OpenSpec.ofChange fnExactItemTextWrong)

/-- 'laws.FnExactReadItem': WHATEVER THE INPUT: true; the input reads as it did. -/
def fnExactReadItemSpec : ChangeSpec := { name := "fnExactReadItem", fn := fun _ => fun
  | [d] => { results := [.lit (.bool true)], args := [d] }
  | _ => none }
def fnExactReadItemRow : OpenClaim := { program := "ytgjmkljhllbanaa", sum := "ff84c0e4fb8e9f54855aa2d963c596b9c8482a0f970409a7e020e6dfc171e7f6", func := "loop.example/g00394/laws.FnExactReadItem", spec := "fnExactReadItem", recurses := true, apart := false }
def FnExactReadItemSaid : Prop := fnExactReadItemRow.holds Try.pinned (OpenSpec.ofChange fnExactReadItemSpec)

/-- ITS FALSE NEIGHBOUR: 'it returns false'. Refute it at one input. -/
def fnExactReadItemWrong : ChangeSpec := { name := "fnExactReadItem", fn := fun _ => fun
  | [d] => { results := [.lit (.bool false)], args := [d] }
  | _ => none }
def FnExactReadItemWrongFalsely : Prop := fnExactReadItemRow.holds Try.pinned (OpenSpec.ofChange fnExactReadItemWrong)

/-- 'laws.FnExactBodyItem': WHATEVER THE INPUT: true; the input reads as it did. -/
def fnExactBodyItemSpec : ChangeSpec := { name := "fnExactBodyItem", fn := fun _ => fun
  | [d] => { results := [.lit (.bool true)], args := [d] }
  | _ => none }
def fnExactBodyItemRow : OpenClaim := { program := "ytgjmkljhllbanaa", sum := "ff84c0e4fb8e9f54855aa2d963c596b9c8482a0f970409a7e020e6dfc171e7f6", func := "loop.example/g00394/laws.FnExactBodyItem", spec := "fnExactBodyItem", unfollowed := true, recurses := true, apart := false }
def FnExactBodyItemSaid : Prop := fnExactBodyItemRow.holds Try.pinned (OpenSpec.ofChange fnExactBodyItemSpec)

/-- ITS FALSE NEIGHBOUR: 'it returns false'. Refute it at one input. -/
def fnExactBodyItemWrong : ChangeSpec := { name := "fnExactBodyItem", fn := fun _ => fun
  | [d] => { results := [.lit (.bool false)], args := [d] }
  | _ => none }
def FnExactBodyItemWrongFalsely : Prop := fnExactBodyItemRow.holds Try.pinned (OpenSpec.ofChange fnExactBodyItemWrong)

/- THE SECOND FORM. 'bulk': how many values and letters a reading holds, each counted each time it is reached (what is shared counts as often as it is met; a slice's spare places count too). A statement '..UptoSaid' is the law's where the arguments, and the package variables that the reading takes, are together of bulk at most 1048576: NARROWER than '..Said'. Prove '..Said' where nothing that the law and all that it calls make is longer than what came in: it says more and counts as full. Else prove '..UptoSaid'. A law counts once. -/
mutual
def uptoBulk {H : Type} : DataW H → Nat
  | .lit (.string bytes) => bytes.length + 1
  | .lit _ => 1
  | .nil => 1
  | .ptr d => uptoBulk d + 1
  | .slice elems spare => uptoBulkAll elems + uptoBulkAll spare + 1
  | .agg parts => uptoBulkAll parts + 1
  | .iface _ d => uptoBulk d + 1
  | .map entries => uptoBulkEntries entries + 1
  | .held _ => 1
def uptoBulkAll {H : Type} : List (DataW H) → Nat
  | [] => 0
  | d :: r => uptoBulk d + uptoBulkAll r
def uptoBulkEntries {H : Type} : List (Lit × DataW H) → Nat
  | [] => 0
  | x :: r => uptoBulkEntry x + uptoBulkEntries r
def uptoBulkEntry {H : Type} : Lit × DataW H → Nat
  | (.string bytes, d) => bytes.length + uptoBulk d + 1
  | (_, d) => uptoBulk d + 1
 end
def uptoSmall : (H : Type) → List (DataW H) → Bool := fun _ ds => decide (uptoBulkAll ds ≤ 1048576)
def OpenSpec.upto (s : _root_.Go.ChangeSpec) : _root_.Go.OpenSpec := { _root_.Go.OpenSpec.ofChange s with cond := some uptoSmall }

/-- 'laws.FnExactUnhex', WHERE WHAT IT READS IS OF BULK AT MOST 1048576: true; the input reads as it did. -/
def fnExactUnhexUptoRow : OpenClaim := { program := "ytgjmkljhllbanaa", sum := "ff84c0e4fb8e9f54855aa2d963c596b9c8482a0f970409a7e020e6dfc171e7f6", func := "loop.example/g00394/laws.FnExactUnhex", spec := "fnExactUnhex", inPlace := ["internal/bytealg.IndexByteString"], apart := false, narrowed := true }
def FnExactUnhexUptoSaid : Prop := fnExactUnhexUptoRow.holds Try.pinned (OpenSpec.upto fnExactUnhexSpec)

/-- 'laws.FnExactUnsealed', WHERE WHAT IT READS IS OF BULK AT MOST 1048576: true; the input reads as it did. -/
def fnExactUnsealedUptoRow : OpenClaim := { program := "ytgjmkljhllbanaa", sum := "ff84c0e4fb8e9f54855aa2d963c596b9c8482a0f970409a7e020e6dfc171e7f6", func := "loop.example/g00394/laws.FnExactUnsealed", spec := "fnExactUnsealed", apart := false, narrowed := true }
def FnExactUnsealedUptoSaid : Prop := fnExactUnsealedUptoRow.holds Try.pinned (OpenSpec.upto fnExactUnsealedSpec)

/-- 'laws.FnExactReadVar', WHERE WHAT IT READS IS OF BULK AT MOST 1048576: true; the input reads as it did. -/
def fnExactReadVarUptoRow : OpenClaim := { program := "ytgjmkljhllbanaa", sum := "ff84c0e4fb8e9f54855aa2d963c596b9c8482a0f970409a7e020e6dfc171e7f6", func := "loop.example/g00394/laws.FnExactReadVar", spec := "fnExactReadVar", apart := false, narrowed := true }
def FnExactReadVarUptoSaid : Prop := fnExactReadVarUptoRow.holds Try.pinned (OpenSpec.upto fnExactReadVarSpec)

/-- 'laws.FnExactReadShort', WHERE WHAT IT READS IS OF BULK AT MOST 1048576: true; the input reads as it did. -/
def fnExactReadShortUptoRow : OpenClaim := { program := "ytgjmkljhllbanaa", sum := "ff84c0e4fb8e9f54855aa2d963c596b9c8482a0f970409a7e020e6dfc171e7f6", func := "loop.example/g00394/laws.FnExactReadShort", spec := "fnExactReadShort", apart := false, narrowed := true }
def FnExactReadShortUptoSaid : Prop := fnExactReadShortUptoRow.holds Try.pinned (OpenSpec.upto fnExactReadShortSpec)

/-- 'laws.FnTurned', WHERE WHAT IT READS IS OF BULK AT MOST 1048576: true; the input reads as it did. -/
def fnTurnedUptoRow : OpenClaim := { program := "ytgjmkljhllbanaa", sum := "ff84c0e4fb8e9f54855aa2d963c596b9c8482a0f970409a7e020e6dfc171e7f6", func := "loop.example/g00394/laws.FnTurned", spec := "fnTurned", apart := false, narrowed := true }
def FnTurnedUptoSaid : Prop := fnTurnedUptoRow.holds Try.pinned (OpenSpec.upto fnTurnedSpec)

/-- 'laws.FnExactTextItem', WHERE WHAT IT READS IS OF BULK AT MOST 1048576: true; the input reads as it did. -/
def fnExactTextItemUptoRow : OpenClaim := { program := "ytgjmkljhllbanaa", sum := "ff84c0e4fb8e9f54855aa2d963c596b9c8482a0f970409a7e020e6dfc171e7f6", func := "loop.example/g00394/laws.FnExactTextItem", spec := "fnExactTextItem", recurses := true, apart := false, narrowed := true }
def FnExactTextItemUptoSaid : Prop := fnExactTextItemUptoRow.holds Try.pinned (OpenSpec.upto fnExactTextItemSpec)

/-- 'laws.FnExactIntItem', WHERE WHAT IT READS IS OF BULK AT MOST 1048576: true; the input reads as it did. -/
def fnExactIntItemUptoRow : OpenClaim := { program := "ytgjmkljhllbanaa", sum := "ff84c0e4fb8e9f54855aa2d963c596b9c8482a0f970409a7e020e6dfc171e7f6", func := "loop.example/g00394/laws.FnExactIntItem", spec := "fnExactIntItem", recurses := true, apart := false, narrowed := true }
def FnExactIntItemUptoSaid : Prop := fnExactIntItemUptoRow.holds Try.pinned (OpenSpec.upto fnExactIntItemSpec)

/-- 'laws.FnExactItemOk', WHERE WHAT IT READS IS OF BULK AT MOST 1048576: true; the input reads as it did. -/
def fnExactItemOkUptoRow : OpenClaim := { program := "ytgjmkljhllbanaa", sum := "ff84c0e4fb8e9f54855aa2d963c596b9c8482a0f970409a7e020e6dfc171e7f6", func := "loop.example/g00394/laws.FnExactItemOk", spec := "fnExactItemOk", recurses := true, loops := true, apart := false, narrowed := true }
def FnExactItemOkUptoSaid : Prop := fnExactItemOkUptoRow.holds Try.pinned (OpenSpec.upto fnExactItemOkSpec)

/-- 'laws.FnExactListItem', WHERE WHAT IT READS IS OF BULK AT MOST 1048576: true; the input reads as it did. -/
def fnExactListItemUptoRow : OpenClaim := { program := "ytgjmkljhllbanaa", sum := "ff84c0e4fb8e9f54855aa2d963c596b9c8482a0f970409a7e020e6dfc171e7f6", func := "loop.example/g00394/laws.FnExactListItem", spec := "fnExactListItem", recurses := true, loops := true, apart := false, narrowed := true }
def FnExactListItemUptoSaid : Prop := fnExactListItemUptoRow.holds Try.pinned (OpenSpec.upto fnExactListItemSpec)

/-- 'laws.FnExactItemText', WHERE WHAT IT READS IS OF BULK AT MOST 1048576: true; the input reads as it did. -/
def fnExactItemTextUptoRow : OpenClaim := { program := "ytgjmkljhllbanaa", sum := "ff84c0e4fb8e9f54855aa2d963c596b9c8482a0f970409a7e020e6dfc171e7f6", func := "loop.example/g00394/laws.FnExactItemText", spec := "fnExactItemText", recurses := true, loops := true, apart := false, narrowed := true }
def FnExactItemTextUptoSaid : Prop := fnExactItemTextUptoRow.holds Try.pinned (OpenSpec.upto fnExactItemTextSpec)

/-- 'laws.FnExactReadItem', WHERE WHAT IT READS IS OF BULK AT MOST 1048576: true; the input reads as it did. -/
def fnExactReadItemUptoRow : OpenClaim := { program := "ytgjmkljhllbanaa", sum := "ff84c0e4fb8e9f54855aa2d963c596b9c8482a0f970409a7e020e6dfc171e7f6", func := "loop.example/g00394/laws.FnExactReadItem", spec := "fnExactReadItem", recurses := true, apart := false, narrowed := true }
def FnExactReadItemUptoSaid : Prop := fnExactReadItemUptoRow.holds Try.pinned (OpenSpec.upto fnExactReadItemSpec)

/-- 'laws.FnExactBodyItem', WHERE WHAT IT READS IS OF BULK AT MOST 1048576: true; the input reads as it did. -/
def fnExactBodyItemUptoRow : OpenClaim := { program := "ytgjmkljhllbanaa", sum := "ff84c0e4fb8e9f54855aa2d963c596b9c8482a0f970409a7e020e6dfc171e7f6", func := "loop.example/g00394/laws.FnExactBodyItem", spec := "fnExactBodyItem", unfollowed := true, recurses := true, apart := false, narrowed := true }
def FnExactBodyItemUptoSaid : Prop := fnExactBodyItemUptoRow.holds Try.pinned (OpenSpec.upto fnExactBodyItemSpec)

end Rows
end Go.Proofs.Ytgjmkljhllbanaa
