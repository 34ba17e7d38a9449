/-
  No cell of these rows narrows 'for every input' (looked for: loops, veiled, ifaces, maps, wideKeys, modest, calm, conditions, laid).
  DERIVED. THE GIVEN ROWS OF THIS SEAT. 12 by the template 'for every input the law returns true; each argument reads behind the call as it read before'; 0 by the template 'total and deterministic' (their statements: YtjbpollbjkkniaaTotals.lean).
  GIVEN WITH THE SEED: the statements are not yours to turn. If you find one false, say at which input.
  Laid BY PROGRAM, IN A SANDBOX (cutbox-rows.mjs): the forced cells as the released guide's own fill.sh prints them over the translation aabc24cc5c00d29c… (all of the seat's roots in one cut). By AI agents, Wed Nov 11 2026. No macro, syntax, notation, axiom, sorry.
-/
import Derived.Test.YtjbpollbjkkniaaChecked
import GoSem.Claim
import GoSem.ClaimJoined
import GoSem.ClaimMapViews
import Derived.JoinedTies
import Derived.KernelRfl
namespace Go.Proofs.Ytjbpollbjkkniaa
/- THE CELL 'sum', in the pinned program and in every row, IS THE sha256 OF THE DUMP (.gsa) THAT YtjbpollbjkkniaaProg.lean LOADS. Nothing in Lean hashes anything: it is a label: what it is worth is what the hold of that sum in a sandbox is worth. -/
noncomputable def Try.pinned : Pinned := { name := "ytjbpollbjkkniaa", sum := "aabc24cc5c00d29c4c3b4a9d8b0a80021f22d69faa5382ae02c8cc705db06581", checked := Try.checked }
namespace Rows
def none {H : Type} : Left H := { results := [], args := [] }

/-- 'laws.FnExactConstants': WHATEVER THE INPUT: true; the input reads as it did. -/
def fnExactConstantsSpec : ChangeSpec := { name := "fnExactConstants", fn := fun _ => fun
  | [] => { results := [.lit (.bool true)], args := [] }
  | _ => none }
def fnExactConstantsRow : OpenClaim := { program := "ytjbpollbjkkniaa", sum := "aabc24cc5c00d29c4c3b4a9d8b0a80021f22d69faa5382ae02c8cc705db06581", func := "loop.example/g00394/laws.FnExactConstants", spec := "fnExactConstants", apart := false }
def FnExactConstantsSaid : Prop := fnExactConstantsRow.holds Try.pinned (OpenSpec.ofChange fnExactConstantsSpec)

/-- ITS FALSE NEIGHBOUR: 'it returns false'. Refute it at one input. -/
def fnExactConstantsWrong : ChangeSpec := { name := "fnExactConstants", fn := fun _ => fun
  | [] => { results := [.lit (.bool false)], args := [] }
  | _ => none }
def FnExactConstantsWrongFalsely : Prop := fnExactConstantsRow.holds Try.pinned (OpenSpec.ofChange fnExactConstantsWrong)

/-- 'laws.FnExactUnder': WHATEVER THE INPUT: true; the input reads as it did. -/
def fnExactUnderSpec : ChangeSpec := { name := "fnExactUnder", fn := fun _ => fun
  | [d1, d2] => { results := [.lit (.bool true)], args := [d1, d2] }
  | _ => none }
def fnExactUnderRow : OpenClaim := { program := "ytjbpollbjkkniaa", sum := "aabc24cc5c00d29c4c3b4a9d8b0a80021f22d69faa5382ae02c8cc705db06581", func := "loop.example/g00394/laws.FnExactUnder", spec := "fnExactUnder", apart := false }
def FnExactUnderSaid : Prop := fnExactUnderRow.holds Try.pinned (OpenSpec.ofChange fnExactUnderSpec)

/-- ITS FALSE NEIGHBOUR: 'it returns false'. Refute it at one input. -/
def fnExactUnderWrong : ChangeSpec := { name := "fnExactUnder", fn := fun _ => fun
  | [d1, d2] => { results := [.lit (.bool false)], args := [d1, d2] }
  | _ => none }
def FnExactUnderWrongFalsely : Prop := fnExactUnderRow.holds Try.pinned (OpenSpec.ofChange fnExactUnderWrong)

/-- 'laws.FnExactPadText': WHATEVER THE INPUT: true; the input reads as it did. -/
def fnExactPadTextSpec : ChangeSpec := { name := "fnExactPadText", fn := fun _ => fun
  | [d] => { results := [.lit (.bool true)], args := [d] }
  | _ => none }
def fnExactPadTextRow : OpenClaim := { program := "ytjbpollbjkkniaa", sum := "aabc24cc5c00d29c4c3b4a9d8b0a80021f22d69faa5382ae02c8cc705db06581", func := "loop.example/g00394/laws.FnExactPadText", spec := "fnExactPadText", apart := false }
def FnExactPadTextSaid : Prop := fnExactPadTextRow.holds Try.pinned (OpenSpec.ofChange fnExactPadTextSpec)

/-- ITS FALSE NEIGHBOUR: 'it returns false'. Refute it at one input. -/
def fnExactPadTextWrong : ChangeSpec := { name := "fnExactPadText", fn := fun _ => fun
  | [d] => { results := [.lit (.bool false)], args := [d] }
  | _ => none }
def FnExactPadTextWrongFalsely : Prop := fnExactPadTextRow.holds Try.pinned (OpenSpec.ofChange fnExactPadTextWrong)

/-- 'laws.FnExactSumMore': WHATEVER THE INPUT: true; the input reads as it did. -/
def fnExactSumMoreSpec : ChangeSpec := { name := "fnExactSumMore", fn := fun _ => fun
  | [d1, d2] => { results := [.lit (.bool true)], args := [d1, d2] }
  | _ => none }
def fnExactSumMoreRow : OpenClaim := { program := "ytjbpollbjkkniaa", sum := "aabc24cc5c00d29c4c3b4a9d8b0a80021f22d69faa5382ae02c8cc705db06581", func := "loop.example/g00394/laws.FnExactSumMore", spec := "fnExactSumMore", apart := false }
def FnExactSumMoreSaid : Prop := fnExactSumMoreRow.holds Try.pinned (OpenSpec.ofChange fnExactSumMoreSpec)

/-- ITS FALSE NEIGHBOUR: 'it returns false'. Refute it at one input. -/
def fnExactSumMoreWrong : ChangeSpec := { name := "fnExactSumMore", fn := fun _ => fun
  | [d1, d2] => { results := [.lit (.bool false)], args := [d1, d2] }
  | _ => none }
def FnExactSumMoreWrongFalsely : Prop := fnExactSumMoreRow.holds Try.pinned (OpenSpec.ofChange fnExactSumMoreWrong)

/-- 'laws.FnExactHex': WHATEVER THE INPUT: true; the input reads as it did. -/
def fnExactHexSpec : ChangeSpec := { name := "fnExactHex", fn := fun _ => fun
  | [d] => { results := [.lit (.bool true)], args := [d] }
  | _ => none }
def fnExactHexRow : OpenClaim := { program := "ytjbpollbjkkniaa", sum := "aabc24cc5c00d29c4c3b4a9d8b0a80021f22d69faa5382ae02c8cc705db06581", func := "loop.example/g00394/laws.FnExactHex", spec := "fnExactHex", apart := false }
def FnExactHexSaid : Prop := fnExactHexRow.holds Try.pinned (OpenSpec.ofChange fnExactHexSpec)

/-- ITS FALSE NEIGHBOUR: 'it returns false'. Refute it at one input. -/
def fnExactHexWrong : ChangeSpec := { name := "fnExactHex", fn := fun _ => fun
  | [d] => { results := [.lit (.bool false)], args := [d] }
  | _ => none }
def FnExactHexWrongFalsely : Prop := fnExactHexRow.holds Try.pinned (OpenSpec.ofChange fnExactHexWrong)

/-- 'laws.FnExactVarText': WHATEVER THE INPUT: true; the input reads as it did. -/
def fnExactVarTextSpec : ChangeSpec := { name := "fnExactVarText", fn := fun _ => fun
  | [d] => { results := [.lit (.bool true)], args := [d] }
  | _ => none }
def fnExactVarTextRow : OpenClaim := { program := "ytjbpollbjkkniaa", sum := "aabc24cc5c00d29c4c3b4a9d8b0a80021f22d69faa5382ae02c8cc705db06581", func := "loop.example/g00394/laws.FnExactVarText", spec := "fnExactVarText", apart := false }
def FnExactVarTextSaid : Prop := fnExactVarTextRow.holds Try.pinned (OpenSpec.ofChange fnExactVarTextSpec)

/-- ITS FALSE NEIGHBOUR: 'it returns false'. Refute it at one input. -/
def fnExactVarTextWrong : ChangeSpec := { name := "fnExactVarText", fn := fun _ => fun
  | [d] => { results := [.lit (.bool false)], args := [d] }
  | _ => none }
def FnExactVarTextWrongFalsely : Prop := fnExactVarTextRow.holds Try.pinned (OpenSpec.ofChange fnExactVarTextWrong)

/-- 'laws.FnExactSumOf': WHATEVER THE INPUT: true; the input reads as it did. -/
def fnExactSumOfSpec : ChangeSpec := { name := "fnExactSumOf", fn := fun _ => fun
  | [d] => { results := [.lit (.bool true)], args := [d] }
  | _ => none }
def fnExactSumOfRow : OpenClaim := { program := "ytjbpollbjkkniaa", sum := "aabc24cc5c00d29c4c3b4a9d8b0a80021f22d69faa5382ae02c8cc705db06581", func := "loop.example/g00394/laws.FnExactSumOf", spec := "fnExactSumOf", apart := false }
def FnExactSumOfSaid : Prop := fnExactSumOfRow.holds Try.pinned (OpenSpec.ofChange fnExactSumOfSpec)

/-- ITS FALSE NEIGHBOUR: 'it returns false'. Refute it at one input. -/
def fnExactSumOfWrong : ChangeSpec := { name := "fnExactSumOf", fn := fun _ => fun
  | [d] => { results := [.lit (.bool false)], args := [d] }
  | _ => none }
def FnExactSumOfWrongFalsely : Prop := fnExactSumOfRow.holds Try.pinned (OpenSpec.ofChange fnExactSumOfWrong)

/-- 'laws.FnExactShortText': WHATEVER THE INPUT: true; the input reads as it did. -/
def fnExactShortTextSpec : ChangeSpec := { name := "fnExactShortText", fn := fun _ => fun
  | [d] => { results := [.lit (.bool true)], args := [d] }
  | _ => none }
def fnExactShortTextRow : OpenClaim := { program := "ytjbpollbjkkniaa", sum := "aabc24cc5c00d29c4c3b4a9d8b0a80021f22d69faa5382ae02c8cc705db06581", func := "loop.example/g00394/laws.FnExactShortText", spec := "fnExactShortText", apart := false }
def FnExactShortTextSaid : Prop := fnExactShortTextRow.holds Try.pinned (OpenSpec.ofChange fnExactShortTextSpec)

/-- ITS FALSE NEIGHBOUR: 'it returns false'. Refute it at one input. -/
def fnExactShortTextWrong : ChangeSpec := { name := "fnExactShortText", fn := fun _ => fun
  | [d] => { results := [.lit (.bool false)], args := [d] }
  | _ => none }
def FnExactShortTextWrongFalsely : Prop := fnExactShortTextRow.holds Try.pinned (OpenSpec.ofChange fnExactShortTextWrong)

/-- 'laws.FnExactNatOk': WHATEVER THE INPUT: true; the input reads as it did. -/
def fnExactNatOkSpec : ChangeSpec := { name := "fnExactNatOk", fn := fun _ => fun
  | [d] => { results := [.lit (.bool true)], args := [d] }
  | _ => none }
def fnExactNatOkRow : OpenClaim := { program := "ytjbpollbjkkniaa", sum := "aabc24cc5c00d29c4c3b4a9d8b0a80021f22d69faa5382ae02c8cc705db06581", func := "loop.example/g00394/laws.FnExactNatOk", spec := "fnExactNatOk", apart := false }
def FnExactNatOkSaid : Prop := fnExactNatOkRow.holds Try.pinned (OpenSpec.ofChange fnExactNatOkSpec)

/-- ITS FALSE NEIGHBOUR: 'it returns false'. Refute it at one input. -/
def fnExactNatOkWrong : ChangeSpec := { name := "fnExactNatOk", fn := fun _ => fun
  | [d] => { results := [.lit (.bool false)], args := [d] }
  | _ => none }
def FnExactNatOkWrongFalsely : Prop := fnExactNatOkRow.holds Try.pinned (OpenSpec.ofChange fnExactNatOkWrong)

/-- 'laws.FnExactPoliciesOk': WHATEVER THE INPUT: true; the input reads as it did. -/
def fnExactPoliciesOkSpec : ChangeSpec := { name := "fnExactPoliciesOk", fn := fun _ => fun
  | [d] => { results := [.lit (.bool true)], args := [d] }
  | _ => none }
def fnExactPoliciesOkRow : OpenClaim := { program := "ytjbpollbjkkniaa", sum := "aabc24cc5c00d29c4c3b4a9d8b0a80021f22d69faa5382ae02c8cc705db06581", func := "loop.example/g00394/laws.FnExactPoliciesOk", spec := "fnExactPoliciesOk", apart := false }
def FnExactPoliciesOkSaid : Prop := fnExactPoliciesOkRow.holds Try.pinned (OpenSpec.ofChange fnExactPoliciesOkSpec)

/-- ITS FALSE NEIGHBOUR: 'it returns false'. Refute it at one input. -/
def fnExactPoliciesOkWrong : ChangeSpec := { name := "fnExactPoliciesOk", fn := fun _ => fun
  | [d] => { results := [.lit (.bool false)], args := [d] }
  | _ => none }
def FnExactPoliciesOkWrongFalsely : Prop := fnExactPoliciesOkRow.holds Try.pinned (OpenSpec.ofChange fnExactPoliciesOkWrong)

/-- 'laws.FnExactNatOf': WHATEVER THE INPUT: true; the input reads as it did. -/
def fnExactNatOfSpec : ChangeSpec := { name := "fnExactNatOf", fn := fun _ => fun
  | [d] => { results := [.lit (.bool true)], args := [d] }
  | _ => none }
def fnExactNatOfRow : OpenClaim := { program := "ytjbpollbjkkniaa", sum := "aabc24cc5c00d29c4c3b4a9d8b0a80021f22d69faa5382ae02c8cc705db06581", func := "loop.example/g00394/laws.FnExactNatOf", spec := "fnExactNatOf", apart := false }
def FnExactNatOfSaid : Prop := fnExactNatOfRow.holds Try.pinned (OpenSpec.ofChange fnExactNatOfSpec)

/-- ITS FALSE NEIGHBOUR: 'it returns false'. Refute it at one input. -/
def fnExactNatOfWrong : ChangeSpec := { name := "fnExactNatOf", fn := fun _ => fun
  | [d] => { results := [.lit (.bool false)], args := [d] }
  | _ => none }
def FnExactNatOfWrongFalsely : Prop := fnExactNatOfRow.holds Try.pinned (OpenSpec.ofChange fnExactNatOfWrong)

/-- 'laws.FnExactSealed': WHATEVER THE INPUT: true; the input reads as it did. -/
def fnExactSealedSpec : ChangeSpec := { name := "fnExactSealed", fn := fun _ => fun
  | [d] => { results := [.lit (.bool true)], args := [d] }
  | _ => none }
def fnExactSealedRow : OpenClaim := { program := "ytjbpollbjkkniaa", sum := "aabc24cc5c00d29c4c3b4a9d8b0a80021f22d69faa5382ae02c8cc705db06581", func := "loop.example/g00394/laws.FnExactSealed", spec := "fnExactSealed", apart := false }
def FnExactSealedSaid : Prop := fnExactSealedRow.holds Try.pinned (OpenSpec.ofChange fnExactSealedSpec)

/-- ITS FALSE NEIGHBOUR: 'it returns false'. Refute it at one input. -/
def fnExactSealedWrong : ChangeSpec := { name := "fnExactSealed", fn := fun _ => fun
  | [d] => { results := [.lit (.bool false)], args := [d] }
  | _ => none }
def FnExactSealedWrongFalsely : Prop := fnExactSealedRow.holds Try.pinned (OpenSpec.ofChange fnExactSealedWrong)

/- THE SECOND FORM. 'bulk': how many values and letters a reading holds, each counted each time it is reached (what is shared counts as often as it is met; a slice's spare places count too). A statement '..UptoSaid' is the law's where the arguments, and the package variables that the reading takes, are together of bulk at most 1048576: NARROWER than '..Said'. Prove '..Said' where nothing that the law and all that it calls make is longer than what came in: it says more and counts as full. Else prove '..UptoSaid'. A law counts once. -/
mutual
def uptoBulk {H : Type} : DataW H → Nat
  | .lit (.string bytes) => bytes.length + 1
  | .lit _ => 1
  | .nil => 1
  | .ptr d => uptoBulk d + 1
  | .slice elems spare => uptoBulkAll elems + uptoBulkAll spare + 1
  | .agg parts => uptoBulkAll parts + 1
  | .iface _ d => uptoBulk d + 1
  | .map entries => uptoBulkEntries entries + 1
  | .held _ => 1
def uptoBulkAll {H : Type} : List (DataW H) → Nat
  | [] => 0
  | d :: r => uptoBulk d + uptoBulkAll r
def uptoBulkEntries {H : Type} : List (Lit × DataW H) → Nat
  | [] => 0
  | x :: r => uptoBulkEntry x + uptoBulkEntries r
def uptoBulkEntry {H : Type} : Lit × DataW H → Nat
  | (.string bytes, d) => bytes.length + uptoBulk d + 1
  | (_, d) => uptoBulk d + 1
 end
def uptoSmall : (H : Type) → List (DataW H) → Bool := fun _ ds => decide (uptoBulkAll ds ≤ 1048576)
def OpenSpec.upto (s : _root_.Go.ChangeSpec) : _root_.Go.OpenSpec := { _root_.Go.OpenSpec.ofChange s with cond := some uptoSmall }

/-- 'laws.FnExactConstants', WHERE WHAT IT READS IS OF BULK AT MOST 1048576: true; the input reads as it did. -/
def fnExactConstantsUptoRow : OpenClaim := { program := "ytjbpollbjkkniaa", sum := "aabc24cc5c00d29c4c3b4a9d8b0a80021f22d69faa5382ae02c8cc705db06581", func := "loop.example/g00394/laws.FnExactConstants", spec := "fnExactConstants", apart := false, narrowed := true }
def FnExactConstantsUptoSaid : Prop := fnExactConstantsUptoRow.holds Try.pinned (OpenSpec.upto fnExactConstantsSpec)

/-- 'laws.FnExactUnder', WHERE WHAT IT READS IS OF BULK AT MOST 1048576: true; the input reads as it did. -/
def fnExactUnderUptoRow : OpenClaim := { program := "ytjbpollbjkkniaa", sum := "aabc24cc5c00d29c4c3b4a9d8b0a80021f22d69faa5382ae02c8cc705db06581", func := "loop.example/g00394/laws.FnExactUnder", spec := "fnExactUnder", apart := false, narrowed := true }
def FnExactUnderUptoSaid : Prop := fnExactUnderUptoRow.holds Try.pinned (OpenSpec.upto fnExactUnderSpec)

/-- 'laws.FnExactPadText', WHERE WHAT IT READS IS OF BULK AT MOST 1048576: true; the input reads as it did. -/
def fnExactPadTextUptoRow : OpenClaim := { program := "ytjbpollbjkkniaa", sum := "aabc24cc5c00d29c4c3b4a9d8b0a80021f22d69faa5382ae02c8cc705db06581", func := "loop.example/g00394/laws.FnExactPadText", spec := "fnExactPadText", apart := false, narrowed := true }
def FnExactPadTextUptoSaid : Prop := fnExactPadTextUptoRow.holds Try.pinned (OpenSpec.upto fnExactPadTextSpec)

/-- 'laws.FnExactSumMore', WHERE WHAT IT READS IS OF BULK AT MOST 1048576: true; the input reads as it did. -/
def fnExactSumMoreUptoRow : OpenClaim := { program := "ytjbpollbjkkniaa", sum := "aabc24cc5c00d29c4c3b4a9d8b0a80021f22d69faa5382ae02c8cc705db06581", func := "loop.example/g00394/laws.FnExactSumMore", spec := "fnExactSumMore", apart := false, narrowed := true }
def FnExactSumMoreUptoSaid : Prop := fnExactSumMoreUptoRow.holds Try.pinned (OpenSpec.upto fnExactSumMoreSpec)

/-- 'laws.FnExactHex', WHERE WHAT IT READS IS OF BULK AT MOST 1048576: true; the input reads as it did. -/
def fnExactHexUptoRow : OpenClaim := { program := "ytjbpollbjkkniaa", sum := "aabc24cc5c00d29c4c3b4a9d8b0a80021f22d69faa5382ae02c8cc705db06581", func := "loop.example/g00394/laws.FnExactHex", spec := "fnExactHex", apart := false, narrowed := true }
def FnExactHexUptoSaid : Prop := fnExactHexUptoRow.holds Try.pinned (OpenSpec.upto fnExactHexSpec)

/-- 'laws.FnExactVarText', WHERE WHAT IT READS IS OF BULK AT MOST 1048576: true; the input reads as it did. -/
def fnExactVarTextUptoRow : OpenClaim := { program := "ytjbpollbjkkniaa", sum := "aabc24cc5c00d29c4c3b4a9d8b0a80021f22d69faa5382ae02c8cc705db06581", func := "loop.example/g00394/laws.FnExactVarText", spec := "fnExactVarText", apart := false, narrowed := true }
def FnExactVarTextUptoSaid : Prop := fnExactVarTextUptoRow.holds Try.pinned (OpenSpec.upto fnExactVarTextSpec)

/-- 'laws.FnExactSumOf', WHERE WHAT IT READS IS OF BULK AT MOST 1048576: true; the input reads as it did. -/
def fnExactSumOfUptoRow : OpenClaim := { program := "ytjbpollbjkkniaa", sum := "aabc24cc5c00d29c4c3b4a9d8b0a80021f22d69faa5382ae02c8cc705db06581", func := "loop.example/g00394/laws.FnExactSumOf", spec := "fnExactSumOf", apart := false, narrowed := true }
def FnExactSumOfUptoSaid : Prop := fnExactSumOfUptoRow.holds Try.pinned (OpenSpec.upto fnExactSumOfSpec)

/-- 'laws.FnExactShortText', WHERE WHAT IT READS IS OF BULK AT MOST 1048576: true; the input reads as it did. -/
def fnExactShortTextUptoRow : OpenClaim := { program := "ytjbpollbjkkniaa", sum := "aabc24cc5c00d29c4c3b4a9d8b0a80021f22d69faa5382ae02c8cc705db06581", func := "loop.example/g00394/laws.FnExactShortText", spec := "fnExactShortText", apart := false, narrowed := true }
def FnExactShortTextUptoSaid : Prop := fnExactShortTextUptoRow.holds Try.pinned (OpenSpec.upto fnExactShortTextSpec)

/-- 'laws.FnExactNatOk', WHERE WHAT IT READS IS OF BULK AT MOST 1048576: true; the input reads as it did. -/
def fnExactNatOkUptoRow : OpenClaim := { program := "ytjbpollbjkkniaa", sum := "aabc24cc5c00d29c4c3b4a9d8b0a80021f22d69faa5382ae02c8cc705db06581", func := "loop.example/g00394/laws.FnExactNatOk", spec := "fnExactNatOk", apart := false, narrowed := true }
def FnExactNatOkUptoSaid : Prop := fnExactNatOkUptoRow.holds Try.pinned (OpenSpec.upto fnExactNatOkSpec)

/-- 'laws.FnExactPoliciesOk', WHERE WHAT IT READS IS OF BULK AT MOST 1048576: true; the input reads as it did. -/
def fnExactPoliciesOkUptoRow : OpenClaim := { program := "ytjbpollbjkkniaa", sum := "aabc24cc5c00d29c4c3b4a9d8b0a80021f22d69faa5382ae02c8cc705db06581", func := "loop.example/g00394/laws.FnExactPoliciesOk", spec := "fnExactPoliciesOk", apart := false, narrowed := true }
def FnExactPoliciesOkUptoSaid : Prop := fnExactPoliciesOkUptoRow.holds Try.pinned (OpenSpec.upto fnExactPoliciesOkSpec)

/-- 'laws.FnExactNatOf', WHERE WHAT IT READS IS OF BULK AT MOST 1048576: true; the input reads as it did. -/
def fnExactNatOfUptoRow : OpenClaim := { program := "ytjbpollbjkkniaa", sum := "aabc24cc5c00d29c4c3b4a9d8b0a80021f22d69faa5382ae02c8cc705db06581", func := "loop.example/g00394/laws.FnExactNatOf", spec := "fnExactNatOf", apart := false, narrowed := true }
def FnExactNatOfUptoSaid : Prop := fnExactNatOfUptoRow.holds Try.pinned (OpenSpec.upto fnExactNatOfSpec)

/-- 'laws.FnExactSealed', WHERE WHAT IT READS IS OF BULK AT MOST 1048576: true; the input reads as it did. -/
def fnExactSealedUptoRow : OpenClaim := { program := "ytjbpollbjkkniaa", sum := "aabc24cc5c00d29c4c3b4a9d8b0a80021f22d69faa5382ae02c8cc705db06581", func := "loop.example/g00394/laws.FnExactSealed", spec := "fnExactSealed", apart := false, narrowed := true }
def FnExactSealedUptoSaid : Prop := fnExactSealedUptoRow.holds Try.pinned (OpenSpec.upto fnExactSealedSpec)

end Rows
end Go.Proofs.Ytjbpollbjkkniaa
