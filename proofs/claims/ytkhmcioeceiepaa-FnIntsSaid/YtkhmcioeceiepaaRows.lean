/-
  NARROWER THAN 'FOR EVERY INPUT', by the rows' own cells (each row's printed sentence says how): FnExactSameItem: loops · FnExactIntIn: loops.
  DERIVED. THE GIVEN ROWS OF THIS SEAT. 8 by the template 'for every input the law returns true; each argument reads behind the call as it read before'; 0 by the template 'total and deterministic' (their statements: YtkhmcioeceiepaaTotals.lean).
  GIVEN WITH THE SEED: the statements are not yours to turn. If you find one false, say at which input.
  Laid BY PROGRAM, IN A SANDBOX (cutbox-rows.mjs): the forced cells as the released guide's own fill.sh prints them over the translation 14203e0c86cf2479… (all of the seat's roots in one cut). By AI agents, Wed Nov 11 2026. No macro, syntax, notation, axiom, sorry.
-/
import Derived.Test.YtkhmcioeceiepaaChecked
import GoSem.Claim
import GoSem.ClaimJoined
import GoSem.ClaimMapViews
import Derived.JoinedTies
import Derived.KernelRfl
namespace Go.Proofs.Ytkhmcioeceiepaa
/- THE CELL 'sum', in the pinned program and in every row, IS THE sha256 OF THE DUMP (.gsa) THAT YtkhmcioeceiepaaProg.lean LOADS. Nothing in Lean hashes anything: it is a label: what it is worth is what the hold of that sum in a sandbox is worth. -/
noncomputable def Try.pinned : Pinned := { name := "ytkhmcioeceiepaa", sum := "14203e0c86cf247914c1ef4113fcf646cca14e413fdaa2295a49bdd52856d25e", checked := Try.checked }
namespace Rows
def none {H : Type} : Left H := { results := [], args := [] }

/-- 'laws.FnExactBodyText': WHATEVER THE INPUT: true; the input reads as it did. -/
def fnExactBodyTextSpec : ChangeSpec := { name := "fnExactBodyText", fn := fun _ => fun
  | [d] => { results := [.lit (.bool true)], args := [d] }
  | _ => none }
def fnExactBodyTextRow : OpenClaim := { program := "ytkhmcioeceiepaa", sum := "14203e0c86cf247914c1ef4113fcf646cca14e413fdaa2295a49bdd52856d25e", func := "loop.example/g00394/laws.FnExactBodyText", spec := "fnExactBodyText", unfollowed := true, recurses := true, apart := false }
def FnExactBodyTextSaid : Prop := fnExactBodyTextRow.holds Try.pinned (OpenSpec.ofChange fnExactBodyTextSpec)

/-- ITS FALSE NEIGHBOUR: 'it returns false'. Refute it at one input. -/
def fnExactBodyTextWrong : ChangeSpec := { name := "fnExactBodyText", fn := fun _ => fun
  | [d] => { results := [.lit (.bool false)], args := [d] }
  | _ => none }
def FnExactBodyTextWrongFalsely : Prop := fnExactBodyTextRow.holds Try.pinned (OpenSpec.ofChange fnExactBodyTextWrong)

/-- 'laws.FnExactSameItem': WHATEVER THE INPUT: true; the input reads as it did. -/
def fnExactSameItemSpec : ChangeSpec := { name := "fnExactSameItem", fn := fun _ => fun
  | [d1, d2] => { results := [.lit (.bool true)], args := [d1, d2] }
  | _ => none }
def fnExactSameItemRow : OpenClaim := { program := "ytkhmcioeceiepaa", sum := "14203e0c86cf247914c1ef4113fcf646cca14e413fdaa2295a49bdd52856d25e", func := "loop.example/g00394/laws.FnExactSameItem", spec := "fnExactSameItem", unfollowed := true, recurses := true, loops := true, apart := false }
def FnExactSameItemSaid : Prop := fnExactSameItemRow.holds Try.pinned (OpenSpec.ofChange fnExactSameItemSpec)

/-- ITS FALSE NEIGHBOUR: 'it returns false'. Refute it at one input. -/
def fnExactSameItemWrong : ChangeSpec := { name := "fnExactSameItem", fn := fun _ => fun
  | [d1, d2] => { results := [.lit (.bool false)], args := [d1, d2] }
  | _ => none }
def FnExactSameItemWrongFalsely : Prop := fnExactSameItemRow.holds Try.pinned (OpenSpec.ofChange fnExactSameItemWrong)

/-- 'laws.FnExactIntIn': WHATEVER THE INPUT: true; the input reads as it did. -/
def fnExactIntInSpec : ChangeSpec := { name := "fnExactIntIn", fn := fun _ => fun
  | [d] => { results := [.lit (.bool true)], args := [d] }
  | _ => none }
def fnExactIntInRow : OpenClaim := { program := "ytkhmcioeceiepaa", sum := "14203e0c86cf247914c1ef4113fcf646cca14e413fdaa2295a49bdd52856d25e", func := "loop.example/g00394/laws.FnExactIntIn", spec := "fnExactIntIn", unfollowed := true, recurses := true, loops := true, apart := false }
def FnExactIntInSaid : Prop := fnExactIntInRow.holds Try.pinned (OpenSpec.ofChange fnExactIntInSpec)

/-- ITS FALSE NEIGHBOUR: 'it returns false'. Refute it at one input. -/
def fnExactIntInWrong : ChangeSpec := { name := "fnExactIntIn", fn := fun _ => fun
  | [d] => { results := [.lit (.bool false)], args := [d] }
  | _ => none }
def FnExactIntInWrongFalsely : Prop := fnExactIntInRow.holds Try.pinned (OpenSpec.ofChange fnExactIntInWrong)

/-- 'laws.FnItems': WHATEVER THE INPUT: true; the input reads as it did. -/
def fnItemsSpec : ChangeSpec := { name := "fnItems", fn := fun _ => fun
  | [d] => { results := [.lit (.bool true)], args := [d] }
  | _ => none }
def fnItemsRow : OpenClaim := { program := "ytkhmcioeceiepaa", sum := "14203e0c86cf247914c1ef4113fcf646cca14e413fdaa2295a49bdd52856d25e", func := "loop.example/g00394/laws.FnItems", spec := "fnItems", unfollowed := true, recurses := true, apart := false }
def FnItemsSaid : Prop := fnItemsRow.holds Try.pinned (OpenSpec.ofChange fnItemsSpec)

/-- ITS FALSE NEIGHBOUR: 'it returns false'. Refute it at one input. -/
def fnItemsWrong : ChangeSpec := { name := "fnItems", fn := fun _ => fun
  | [d] => { results := [.lit (.bool false)], args := [d] }
  | _ => none }
def FnItemsWrongFalsely : Prop := fnItemsRow.holds Try.pinned (OpenSpec.ofChange fnItemsWrong)

/-- 'laws.FnInts': WHATEVER THE INPUT: true; the input reads as it did. -/
def fnIntsSpec : ChangeSpec := { name := "fnInts", fn := fun _ => fun
  | [d] => { results := [.lit (.bool true)], args := [d] }
  | _ => none }
def fnIntsRow : OpenClaim := { program := "ytkhmcioeceiepaa", sum := "14203e0c86cf247914c1ef4113fcf646cca14e413fdaa2295a49bdd52856d25e", func := "loop.example/g00394/laws.FnInts", spec := "fnInts", unfollowed := true, recurses := true, apart := false }
def FnIntsSaid : Prop := fnIntsRow.holds Try.pinned (OpenSpec.ofChange fnIntsSpec)

/-- ITS FALSE NEIGHBOUR: 'it returns false'. Refute it at one input. -/
def fnIntsWrong : ChangeSpec := { name := "fnInts", fn := fun _ => fun
  | [d] => { results := [.lit (.bool false)], args := [d] }
  | _ => none }
def FnIntsWrongFalsely : Prop := fnIntsRow.holds Try.pinned (OpenSpec.ofChange fnIntsWrong)

/-- 'laws.FnExactAllowed': WHATEVER THE INPUT: true; the input reads as it did. -/
def fnExactAllowedSpec : ChangeSpec := { name := "fnExactAllowed", fn := fun _ => fun
  | [d1, d2, d3] => { results := [.lit (.bool true)], args := [d1, d2, d3] }
  | _ => none }
def fnExactAllowedRow : OpenClaim := { program := "ytkhmcioeceiepaa", sum := "14203e0c86cf247914c1ef4113fcf646cca14e413fdaa2295a49bdd52856d25e", func := "loop.example/g00394/laws.FnExactAllowed", spec := "fnExactAllowed", unfollowed := true, recurses := true, apart := false }
def FnExactAllowedSaid : Prop := fnExactAllowedRow.holds Try.pinned (OpenSpec.ofChange fnExactAllowedSpec)

/-- ITS FALSE NEIGHBOUR: 'it returns false'. Refute it at one input. -/
def fnExactAllowedWrong : ChangeSpec := { name := "fnExactAllowed", fn := fun _ => fun
  | [d1, d2, d3] => { results := [.lit (.bool false)], args := [d1, d2, d3] }
  | _ => none }
def FnExactAllowedWrongFalsely : Prop := fnExactAllowedRow.holds Try.pinned (OpenSpec.ofChange fnExactAllowedWrong)

/-- 'laws.FnExactJoinPolicies': WHATEVER THE INPUT: true; the input reads as it did. -/
def fnExactJoinPoliciesSpec : ChangeSpec := { name := "fnExactJoinPolicies", fn := fun _ => fun
  | [d1, d2, d3] => { results := [.lit (.bool true)], args := [d1, d2, d3] }
  | _ => none }
def fnExactJoinPoliciesRow : OpenClaim := { program := "ytkhmcioeceiepaa", sum := "14203e0c86cf247914c1ef4113fcf646cca14e413fdaa2295a49bdd52856d25e", func := "loop.example/g00394/laws.FnExactJoinPolicies", spec := "fnExactJoinPolicies", unfollowed := true, recurses := true, apart := false }
def FnExactJoinPoliciesSaid : Prop := fnExactJoinPoliciesRow.holds Try.pinned (OpenSpec.ofChange fnExactJoinPoliciesSpec)

/-- ITS FALSE NEIGHBOUR: 'it returns false'. Refute it at one input. -/
def fnExactJoinPoliciesWrong : ChangeSpec := { name := "fnExactJoinPolicies", fn := fun _ => fun
  | [d1, d2, d3] => { results := [.lit (.bool false)], args := [d1, d2, d3] }
  | _ => none }
def FnExactJoinPoliciesWrongFalsely : Prop := fnExactJoinPoliciesRow.holds Try.pinned (OpenSpec.ofChange fnExactJoinPoliciesWrong)

/-- 'laws.FnPolicies': WHATEVER THE INPUT: true; the input reads as it did. -/
def fnPoliciesSpec : ChangeSpec := { name := "fnPolicies", fn := fun _ => fun
  | [d] => { results := [.lit (.bool true)], args := [d] }
  | _ => none }
def fnPoliciesRow : OpenClaim := { program := "ytkhmcioeceiepaa", sum := "14203e0c86cf247914c1ef4113fcf646cca14e413fdaa2295a49bdd52856d25e", func := "loop.example/g00394/laws.FnPolicies", spec := "fnPolicies", unfollowed := true, recurses := true, apart := false }
def FnPoliciesSaid : Prop := fnPoliciesRow.holds Try.pinned (OpenSpec.ofChange fnPoliciesSpec)

/-- ITS FALSE NEIGHBOUR: 'it returns false'. Refute it at one input. -/
def fnPoliciesWrong : ChangeSpec := { name := "fnPolicies", fn := fun _ => fun
  | [d] => { results := [.lit (.bool false)], args := [d] }
  | _ => none }
def FnPoliciesWrongFalsely : Prop := fnPoliciesRow.holds Try.pinned (OpenSpec.ofChange fnPoliciesWrong)

/- THE SECOND FORM. 'bulk': how many values and letters a reading holds, each counted each time it is reached (what is shared counts as often as it is met; a slice's spare places count too). A statement '..UptoSaid' is the law's where the arguments, and the package variables that the reading takes, are together of bulk at most 1048576: NARROWER than '..Said'. Prove '..Said' where nothing that the law and all that it calls make is longer than what came in: it says more and counts as full. Else prove '..UptoSaid'. A law counts once. -/
mutual
def uptoBulk {H : Type} : DataW H → Nat
  | .lit (.string bytes) => bytes.length + 1
  | .lit _ => 1
  | .nil => 1
  | .ptr d => uptoBulk d + 1
  | .slice elems spare => uptoBulkAll elems + uptoBulkAll spare + 1
  | .agg parts => uptoBulkAll parts + 1
  | .iface _ d => uptoBulk d + 1
  | .map entries => uptoBulkEntries entries + 1
  | .held _ => 1
def uptoBulkAll {H : Type} : List (DataW H) → Nat
  | [] => 0
  | d :: r => uptoBulk d + uptoBulkAll r
def uptoBulkEntries {H : Type} : List (Lit × DataW H) → Nat
  | [] => 0
  | x :: r => uptoBulkEntry x + uptoBulkEntries r
def uptoBulkEntry {H : Type} : Lit × DataW H → Nat
  | (.string bytes, d) => bytes.length + uptoBulk d + 1
  | (_, d) => uptoBulk d + 1
 end
def uptoSmall : (H : Type) → List (DataW H) → Bool := fun _ ds => decide (uptoBulkAll ds ≤ 1048576)
def OpenSpec.upto (s : _root_.Go.ChangeSpec) : _root_.Go.OpenSpec := { _root_.Go.OpenSpec.ofChange s with cond := some uptoSmall }

/-- 'laws.FnExactBodyText', WHERE WHAT IT READS IS OF BULK AT MOST 1048576: true; the input reads as it did. -/
def fnExactBodyTextUptoRow : OpenClaim := { program := "ytkhmcioeceiepaa", sum := "14203e0c86cf247914c1ef4113fcf646cca14e413fdaa2295a49bdd52856d25e", func := "loop.example/g00394/laws.FnExactBodyText", spec := "fnExactBodyText", unfollowed := true, recurses := true, apart := false, narrowed := true }
def FnExactBodyTextUptoSaid : Prop := fnExactBodyTextUptoRow.holds Try.pinned (OpenSpec.upto fnExactBodyTextSpec)

/-- 'laws.FnExactSameItem', WHERE WHAT IT READS IS OF BULK AT MOST 1048576: true; the input reads as it did. -/
def fnExactSameItemUptoRow : OpenClaim := { program := "ytkhmcioeceiepaa", sum := "14203e0c86cf247914c1ef4113fcf646cca14e413fdaa2295a49bdd52856d25e", func := "loop.example/g00394/laws.FnExactSameItem", spec := "fnExactSameItem", unfollowed := true, recurses := true, loops := true, apart := false, narrowed := true }
def FnExactSameItemUptoSaid : Prop := fnExactSameItemUptoRow.holds Try.pinned (OpenSpec.upto fnExactSameItemSpec)

/-- 'laws.FnExactIntIn', WHERE WHAT IT READS IS OF BULK AT MOST 1048576: true; the input reads as it did. -/
def fnExactIntInUptoRow : OpenClaim := { program := "ytkhmcioeceiepaa", sum := "14203e0c86cf247914c1ef4113fcf646cca14e413fdaa2295a49bdd52856d25e", func := "loop.example/g00394/laws.FnExactIntIn", spec := "fnExactIntIn", unfollowed := true, recurses := true, loops := true, apart := false, narrowed := true }
def FnExactIntInUptoSaid : Prop := fnExactIntInUptoRow.holds Try.pinned (OpenSpec.upto fnExactIntInSpec)

/-- 'laws.FnItems', WHERE WHAT IT READS IS OF BULK AT MOST 1048576: true; the input reads as it did. -/
def fnItemsUptoRow : OpenClaim := { program := "ytkhmcioeceiepaa", sum := "14203e0c86cf247914c1ef4113fcf646cca14e413fdaa2295a49bdd52856d25e", func := "loop.example/g00394/laws.FnItems", spec := "fnItems", unfollowed := true, recurses := true, apart := false, narrowed := true }
def FnItemsUptoSaid : Prop := fnItemsUptoRow.holds Try.pinned (OpenSpec.upto fnItemsSpec)

/-- 'laws.FnInts', WHERE WHAT IT READS IS OF BULK AT MOST 1048576: true; the input reads as it did. -/
def fnIntsUptoRow : OpenClaim := { program := "ytkhmcioeceiepaa", sum := "14203e0c86cf247914c1ef4113fcf646cca14e413fdaa2295a49bdd52856d25e", func := "loop.example/g00394/laws.FnInts", spec := "fnInts", unfollowed := true, recurses := true, apart := false, narrowed := true }
def FnIntsUptoSaid : Prop := fnIntsUptoRow.holds Try.pinned (OpenSpec.upto fnIntsSpec)

/-- 'laws.FnExactAllowed', WHERE WHAT IT READS IS OF BULK AT MOST 1048576: true; the input reads as it did. -/
def fnExactAllowedUptoRow : OpenClaim := { program := "ytkhmcioeceiepaa", sum := "14203e0c86cf247914c1ef4113fcf646cca14e413fdaa2295a49bdd52856d25e", func := "loop.example/g00394/laws.FnExactAllowed", spec := "fnExactAllowed", unfollowed := true, recurses := true, apart := false, narrowed := true }
def FnExactAllowedUptoSaid : Prop := fnExactAllowedUptoRow.holds Try.pinned (OpenSpec.upto fnExactAllowedSpec)

/-- 'laws.FnExactJoinPolicies', WHERE WHAT IT READS IS OF BULK AT MOST 1048576: true; the input reads as it did. -/
def fnExactJoinPoliciesUptoRow : OpenClaim := { program := "ytkhmcioeceiepaa", sum := "14203e0c86cf247914c1ef4113fcf646cca14e413fdaa2295a49bdd52856d25e", func := "loop.example/g00394/laws.FnExactJoinPolicies", spec := "fnExactJoinPolicies", unfollowed := true, recurses := true, apart := false, narrowed := true }
def FnExactJoinPoliciesUptoSaid : Prop := fnExactJoinPoliciesUptoRow.holds Try.pinned (OpenSpec.upto fnExactJoinPoliciesSpec)

/-- 'laws.FnPolicies', WHERE WHAT IT READS IS OF BULK AT MOST 1048576: true; the input reads as it did. -/
def fnPoliciesUptoRow : OpenClaim := { program := "ytkhmcioeceiepaa", sum := "14203e0c86cf247914c1ef4113fcf646cca14e413fdaa2295a49bdd52856d25e", func := "loop.example/g00394/laws.FnPolicies", spec := "fnPolicies", unfollowed := true, recurses := true, apart := false, narrowed := true }
def FnPoliciesUptoSaid : Prop := fnPoliciesUptoRow.holds Try.pinned (OpenSpec.upto fnPoliciesSpec)

end Rows
end Go.Proofs.Ytkhmcioeceiepaa
