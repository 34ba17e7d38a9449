/-
  NARROWER THAN 'FOR EVERY INPUT', by the rows' own cells (each row's printed sentence says how): FnExactShaBlock: laid · FnExactDigest: laid · FnExactCutDigest: laid · FnExactDigestHex: laid · FnExactPadded: laid · FnKnown: laid · FnBlocks: laid · FnDigestTurned: laid.
  DERIVED. THE GIVEN ROWS OF THIS SEAT. 8 by the template 'for every input the law returns true; each argument reads behind the call as it read before'; 0 by the template 'total and deterministic' (their statements: YtekplhhkbeemnaaDoorTotals.lean).
  GIVEN WITH THE SEED: the statements are not yours to turn. If you find one false, say at which input.
  Laid BY PROGRAM, IN A SANDBOX (cutbox-rows.mjs): the forced cells as the released guide's own fill.sh prints them over the translation 0bb7f296bc8e1fa8… (all of the seat's roots in one cut). By AI agents, Wed Nov 11 2026. No macro, syntax, notation, axiom, sorry.
-/
import Derived.Test.YtekplhhkbeemnaaDoorChecked
import GoSem.Claim
import GoSem.ClaimJoined
import GoSem.ClaimMapViews
import Derived.JoinedTies
import Derived.KernelRfl
namespace Go.Proofs.YtekplhhkbeemnaaDoor
/- THE CELL 'sum', in the pinned program and in every row, IS THE sha256 OF THE DUMP (.gsa) THAT YtekplhhkbeemnaaDoorProg.lean LOADS. Nothing in Lean hashes anything: it is a label: what it is worth is what the hold of that sum in a sandbox is worth. -/
noncomputable def Tryd.pinned : Pinned := { name := "ytekplhhkbeemnaadoor", sum := "0bb7f296bc8e1fa89e5a3d0c6297f5df5e044ae404366ea7226787f7faa08a86", checked := Tryd.checked }
namespace Rows
def none {H : Type} : Left H := { results := [], args := [] }

/- WHAT THE LISTED PACKAGE-LEVEL VARIABLES READ AS WHEN THE CALL BEGINS. Each datum BY PROGRAM (the guide's laid-datum.mjs) off the statement by which the dump's own 'gosem.cut.vars' lays the variable. In a bare row this is a premise. The card (YtekplhhkbeemnaaDoorCards.lean) ties it to the program's text. -/
def laid_loop_example_g00394_impl_rounds {H : Type} : DataW H := .agg [.lit (.int .u32 1116352408), .lit (.int .u32 1899447441), .lit (.int .u32 3049323471), .lit (.int .u32 3921009573), .lit (.int .u32 961987163), .lit (.int .u32 1508970993), .lit (.int .u32 2453635748), .lit (.int .u32 2870763221), .lit (.int .u32 3624381080), .lit (.int .u32 310598401), .lit (.int .u32 607225278), .lit (.int .u32 1426881987), .lit (.int .u32 1925078388), .lit (.int .u32 2162078206), .lit (.int .u32 2614888103), .lit (.int .u32 3248222580), .lit (.int .u32 3835390401), .lit (.int .u32 4022224774), .lit (.int .u32 264347078), .lit (.int .u32 604807628), .lit (.int .u32 770255983), .lit (.int .u32 1249150122), .lit (.int .u32 1555081692), .lit (.int .u32 1996064986), .lit (.int .u32 2554220882), .lit (.int .u32 2821834349), .lit (.int .u32 2952996808), .lit (.int .u32 3210313671), .lit (.int .u32 3336571891), .lit (.int .u32 3584528711), .lit (.int .u32 113926993), .lit (.int .u32 338241895), .lit (.int .u32 666307205), .lit (.int .u32 773529912), .lit (.int .u32 1294757372), .lit (.int .u32 1396182291), .lit (.int .u32 1695183700), .lit (.int .u32 1986661051), .lit (.int .u32 2177026350), .lit (.int .u32 2456956037), .lit (.int .u32 2730485921), .lit (.int .u32 2820302411), .lit (.int .u32 3259730800), .lit (.int .u32 3345764771), .lit (.int .u32 3516065817), .lit (.int .u32 3600352804), .lit (.int .u32 4094571909), .lit (.int .u32 275423344), .lit (.int .u32 430227734), .lit (.int .u32 506948616), .lit (.int .u32 659060556), .lit (.int .u32 883997877), .lit (.int .u32 958139571), .lit (.int .u32 1322822218), .lit (.int .u32 1537002063), .lit (.int .u32 1747873779), .lit (.int .u32 1955562222), .lit (.int .u32 2024104815), .lit (.int .u32 2227730452), .lit (.int .u32 2361852424), .lit (.int .u32 2428436474), .lit (.int .u32 2756734187), .lit (.int .u32 3204031479), .lit (.int .u32 3329325298)]

/-- 'laws.FnExactShaBlock': WHATEVER THE INPUT: true; the input reads as it did. -/
def fnExactShaBlockSpec : ChangeSpec := { name := "fnExactShaBlock", vars := ["loop.example/g00394/impl.rounds"], fn := fun _ => fun
  | [d1, d2, g1] => { results := [.lit (.bool true)], args := [d1, d2], vars := [g1] }
  | _ => none }
def fnExactShaBlockRow : OpenClaim := { program := "ytekplhhkbeemnaadoor", sum := "0bb7f296bc8e1fa89e5a3d0c6297f5df5e044ae404366ea7226787f7faa08a86", func := "loop.example/g00394/laws.FnExactShaBlock", spec := "fnExactShaBlock", named := ["loop.example/g00394/impl.rounds"], apart := false, laid := [("loop.example/g00394/impl.rounds", laid_loop_example_g00394_impl_rounds)] }
def FnExactShaBlockSaid : Prop := fnExactShaBlockRow.holds Tryd.pinned (OpenSpec.ofChange fnExactShaBlockSpec)

/-- ITS FALSE NEIGHBOUR: 'it returns false'. Refute it at one input. -/
def fnExactShaBlockWrong : ChangeSpec := { name := "fnExactShaBlock", vars := ["loop.example/g00394/impl.rounds"], fn := fun _ => fun
  | [d1, d2, g1] => { results := [.lit (.bool false)], args := [d1, d2], vars := [g1] }
  | _ => none }
def FnExactShaBlockWrongFalsely : Prop := fnExactShaBlockRow.holds Tryd.pinned (OpenSpec.ofChange fnExactShaBlockWrong)

/-- 'laws.FnExactDigest': WHATEVER THE INPUT: true; the input reads as it did. -/
def fnExactDigestSpec : ChangeSpec := { name := "fnExactDigest", vars := ["loop.example/g00394/impl.rounds"], fn := fun _ => fun
  | [d, g1] => { results := [.lit (.bool true)], args := [d], vars := [g1] }
  | _ => none }
def fnExactDigestRow : OpenClaim := { program := "ytekplhhkbeemnaadoor", sum := "0bb7f296bc8e1fa89e5a3d0c6297f5df5e044ae404366ea7226787f7faa08a86", func := "loop.example/g00394/laws.FnExactDigest", spec := "fnExactDigest", named := ["loop.example/g00394/impl.rounds"], apart := false, laid := [("loop.example/g00394/impl.rounds", laid_loop_example_g00394_impl_rounds)] }
def FnExactDigestSaid : Prop := fnExactDigestRow.holds Tryd.pinned (OpenSpec.ofChange fnExactDigestSpec)

/-- ITS FALSE NEIGHBOUR: 'it returns false'. Refute it at one input. -/
def fnExactDigestWrong : ChangeSpec := { name := "fnExactDigest", vars := ["loop.example/g00394/impl.rounds"], fn := fun _ => fun
  | [d, g1] => { results := [.lit (.bool false)], args := [d], vars := [g1] }
  | _ => none }
def FnExactDigestWrongFalsely : Prop := fnExactDigestRow.holds Tryd.pinned (OpenSpec.ofChange fnExactDigestWrong)

/-- 'laws.FnExactCutDigest': WHATEVER THE INPUT: true; the input reads as it did. -/
def fnExactCutDigestSpec : ChangeSpec := { name := "fnExactCutDigest", vars := ["loop.example/g00394/impl.rounds"], fn := fun _ => fun
  | [d1, d2, g1] => { results := [.lit (.bool true)], args := [d1, d2], vars := [g1] }
  | _ => none }
def fnExactCutDigestRow : OpenClaim := { program := "ytekplhhkbeemnaadoor", sum := "0bb7f296bc8e1fa89e5a3d0c6297f5df5e044ae404366ea7226787f7faa08a86", func := "loop.example/g00394/laws.FnExactCutDigest", spec := "fnExactCutDigest", named := ["loop.example/g00394/impl.rounds"], apart := false, laid := [("loop.example/g00394/impl.rounds", laid_loop_example_g00394_impl_rounds)] }
def FnExactCutDigestSaid : Prop := fnExactCutDigestRow.holds Tryd.pinned (OpenSpec.ofChange fnExactCutDigestSpec)

/-- ITS FALSE NEIGHBOUR: 'it returns false'. Refute it at one input. -/
def fnExactCutDigestWrong : ChangeSpec := { name := "fnExactCutDigest", vars := ["loop.example/g00394/impl.rounds"], fn := fun _ => fun
  | [d1, d2, g1] => { results := [.lit (.bool false)], args := [d1, d2], vars := [g1] }
  | _ => none }
def FnExactCutDigestWrongFalsely : Prop := fnExactCutDigestRow.holds Tryd.pinned (OpenSpec.ofChange fnExactCutDigestWrong)

/-- 'laws.FnExactDigestHex': WHATEVER THE INPUT: true; the input reads as it did. -/
def fnExactDigestHexSpec : ChangeSpec := { name := "fnExactDigestHex", vars := ["loop.example/g00394/impl.rounds"], fn := fun _ => fun
  | [d, g1] => { results := [.lit (.bool true)], args := [d], vars := [g1] }
  | _ => none }
def fnExactDigestHexRow : OpenClaim := { program := "ytekplhhkbeemnaadoor", sum := "0bb7f296bc8e1fa89e5a3d0c6297f5df5e044ae404366ea7226787f7faa08a86", func := "loop.example/g00394/laws.FnExactDigestHex", spec := "fnExactDigestHex", named := ["loop.example/g00394/impl.rounds"], apart := false, laid := [("loop.example/g00394/impl.rounds", laid_loop_example_g00394_impl_rounds)] }
def FnExactDigestHexSaid : Prop := fnExactDigestHexRow.holds Tryd.pinned (OpenSpec.ofChange fnExactDigestHexSpec)

/-- ITS FALSE NEIGHBOUR: 'it returns false'. Refute it at one input. -/
def fnExactDigestHexWrong : ChangeSpec := { name := "fnExactDigestHex", vars := ["loop.example/g00394/impl.rounds"], fn := fun _ => fun
  | [d, g1] => { results := [.lit (.bool false)], args := [d], vars := [g1] }
  | _ => none }
def FnExactDigestHexWrongFalsely : Prop := fnExactDigestHexRow.holds Tryd.pinned (OpenSpec.ofChange fnExactDigestHexWrong)

/-- 'laws.FnExactPadded': WHATEVER THE INPUT: true; the input reads as it did. -/
def fnExactPaddedSpec : ChangeSpec := { name := "fnExactPadded", vars := ["loop.example/g00394/impl.rounds"], fn := fun _ => fun
  | [d, g1] => { results := [.lit (.bool true)], args := [d], vars := [g1] }
  | _ => none }
def fnExactPaddedRow : OpenClaim := { program := "ytekplhhkbeemnaadoor", sum := "0bb7f296bc8e1fa89e5a3d0c6297f5df5e044ae404366ea7226787f7faa08a86", func := "loop.example/g00394/laws.FnExactPadded", spec := "fnExactPadded", inPlace := ["internal/abi.NoEscape", "internal/bytealg.MakeNoZero"], named := ["loop.example/g00394/impl.rounds"], apart := false, laid := [("loop.example/g00394/impl.rounds", laid_loop_example_g00394_impl_rounds)] }
def FnExactPaddedSaid : Prop := fnExactPaddedRow.holds Tryd.pinned (OpenSpec.ofChange fnExactPaddedSpec)

/-- ITS FALSE NEIGHBOUR: 'it returns false'. Refute it at one input. -/
def fnExactPaddedWrong : ChangeSpec := { name := "fnExactPadded", vars := ["loop.example/g00394/impl.rounds"], fn := fun _ => fun
  | [d, g1] => { results := [.lit (.bool false)], args := [d], vars := [g1] }
  | _ => none }
def FnExactPaddedWrongFalsely : Prop := fnExactPaddedRow.holds Tryd.pinned (OpenSpec.ofChange fnExactPaddedWrong)

/-- 'laws.FnKnown': WHATEVER THE INPUT: true; the input reads as it did. -/
def fnKnownSpec : ChangeSpec := { name := "fnKnown", vars := ["loop.example/g00394/impl.rounds"], fn := fun _ => fun
  | [d, g1] => { results := [.lit (.bool true)], args := [d], vars := [g1] }
  | _ => none }
def fnKnownRow : OpenClaim := { program := "ytekplhhkbeemnaadoor", sum := "0bb7f296bc8e1fa89e5a3d0c6297f5df5e044ae404366ea7226787f7faa08a86", func := "loop.example/g00394/laws.FnKnown", spec := "fnKnown", named := ["loop.example/g00394/impl.rounds"], apart := false, laid := [("loop.example/g00394/impl.rounds", laid_loop_example_g00394_impl_rounds)] }
def FnKnownSaid : Prop := fnKnownRow.holds Tryd.pinned (OpenSpec.ofChange fnKnownSpec)

/-- ITS FALSE NEIGHBOUR: 'it returns false'. Refute it at one input. -/
def fnKnownWrong : ChangeSpec := { name := "fnKnown", vars := ["loop.example/g00394/impl.rounds"], fn := fun _ => fun
  | [d, g1] => { results := [.lit (.bool false)], args := [d], vars := [g1] }
  | _ => none }
def FnKnownWrongFalsely : Prop := fnKnownRow.holds Tryd.pinned (OpenSpec.ofChange fnKnownWrong)

/-- 'laws.FnBlocks': WHATEVER THE INPUT: true; the input reads as it did. -/
def fnBlocksSpec : ChangeSpec := { name := "fnBlocks", vars := ["loop.example/g00394/impl.rounds"], fn := fun _ => fun
  | [d, g1] => { results := [.lit (.bool true)], args := [d], vars := [g1] }
  | _ => none }
def fnBlocksRow : OpenClaim := { program := "ytekplhhkbeemnaadoor", sum := "0bb7f296bc8e1fa89e5a3d0c6297f5df5e044ae404366ea7226787f7faa08a86", func := "loop.example/g00394/laws.FnBlocks", spec := "fnBlocks", named := ["loop.example/g00394/impl.rounds"], apart := false, laid := [("loop.example/g00394/impl.rounds", laid_loop_example_g00394_impl_rounds)] }
def FnBlocksSaid : Prop := fnBlocksRow.holds Tryd.pinned (OpenSpec.ofChange fnBlocksSpec)

/-- ITS FALSE NEIGHBOUR: 'it returns false'. Refute it at one input. -/
def fnBlocksWrong : ChangeSpec := { name := "fnBlocks", vars := ["loop.example/g00394/impl.rounds"], fn := fun _ => fun
  | [d, g1] => { results := [.lit (.bool false)], args := [d], vars := [g1] }
  | _ => none }
def FnBlocksWrongFalsely : Prop := fnBlocksRow.holds Tryd.pinned (OpenSpec.ofChange fnBlocksWrong)

/-- 'laws.FnDigestTurned': WHATEVER THE INPUT: true; the input reads as it did. -/
def fnDigestTurnedSpec : ChangeSpec := { name := "fnDigestTurned", vars := ["loop.example/g00394/impl.rounds"], fn := fun _ => fun
  | [d, g1] => { results := [.lit (.bool true)], args := [d], vars := [g1] }
  | _ => none }
def fnDigestTurnedRow : OpenClaim := { program := "ytekplhhkbeemnaadoor", sum := "0bb7f296bc8e1fa89e5a3d0c6297f5df5e044ae404366ea7226787f7faa08a86", func := "loop.example/g00394/laws.FnDigestTurned", spec := "fnDigestTurned", named := ["loop.example/g00394/impl.rounds"], apart := false, laid := [("loop.example/g00394/impl.rounds", laid_loop_example_g00394_impl_rounds)] }
def FnDigestTurnedSaid : Prop := fnDigestTurnedRow.holds Tryd.pinned (OpenSpec.ofChange fnDigestTurnedSpec)

/-- ITS FALSE NEIGHBOUR: 'it returns false'. Refute it at one input. -/
def fnDigestTurnedWrong : ChangeSpec := { name := "fnDigestTurned", vars := ["loop.example/g00394/impl.rounds"], fn := fun _ => fun
  | [d, g1] => { results := [.lit (.bool false)], args := [d], vars := [g1] }
  | _ => none }
def FnDigestTurnedWrongFalsely : Prop := fnDigestTurnedRow.holds Tryd.pinned (OpenSpec.ofChange fnDigestTurnedWrong)

/- THE SECOND FORM. 'bulk': how many values and letters a reading holds, each counted each time it is reached (what is shared counts as often as it is met; a slice's spare places count too). A statement '..UptoSaid' is the law's where the arguments, and the package variables that the reading takes, are together of bulk at most 1048576: NARROWER than '..Said'. Prove '..Said' where nothing that the law and all that it calls make is longer than what came in: it says more and counts as full. Else prove '..UptoSaid'. A law counts once. -/
mutual
def uptoBulk {H : Type} : DataW H → Nat
  | .lit (.string bytes) => bytes.length + 1
  | .lit _ => 1
  | .nil => 1
  | .ptr d => uptoBulk d + 1
  | .slice elems spare => uptoBulkAll elems + uptoBulkAll spare + 1
  | .agg parts => uptoBulkAll parts + 1
  | .iface _ d => uptoBulk d + 1
  | .map entries => uptoBulkEntries entries + 1
  | .held _ => 1
def uptoBulkAll {H : Type} : List (DataW H) → Nat
  | [] => 0
  | d :: r => uptoBulk d + uptoBulkAll r
def uptoBulkEntries {H : Type} : List (Lit × DataW H) → Nat
  | [] => 0
  | x :: r => uptoBulkEntry x + uptoBulkEntries r
def uptoBulkEntry {H : Type} : Lit × DataW H → Nat
  | (.string bytes, d) => bytes.length + uptoBulk d + 1
  | (_, d) => uptoBulk d + 1
 end
def uptoSmall : (H : Type) → List (DataW H) → Bool := fun _ ds => decide (uptoBulkAll ds ≤ 1048576)
def OpenSpec.upto (s : _root_.Go.ChangeSpec) : _root_.Go.OpenSpec := { _root_.Go.OpenSpec.ofChange s with cond := some uptoSmall }

/-- 'laws.FnExactShaBlock', WHERE WHAT IT READS IS OF BULK AT MOST 1048576: true; the input reads as it did. -/
def fnExactShaBlockUptoRow : OpenClaim := { program := "ytekplhhkbeemnaadoor", sum := "0bb7f296bc8e1fa89e5a3d0c6297f5df5e044ae404366ea7226787f7faa08a86", func := "loop.example/g00394/laws.FnExactShaBlock", spec := "fnExactShaBlock", named := ["loop.example/g00394/impl.rounds"], apart := false, laid := [("loop.example/g00394/impl.rounds", laid_loop_example_g00394_impl_rounds)], narrowed := true }
def FnExactShaBlockUptoSaid : Prop := fnExactShaBlockUptoRow.holds Tryd.pinned (OpenSpec.upto fnExactShaBlockSpec)

/-- 'laws.FnExactDigest', WHERE WHAT IT READS IS OF BULK AT MOST 1048576: true; the input reads as it did. -/
def fnExactDigestUptoRow : OpenClaim := { program := "ytekplhhkbeemnaadoor", sum := "0bb7f296bc8e1fa89e5a3d0c6297f5df5e044ae404366ea7226787f7faa08a86", func := "loop.example/g00394/laws.FnExactDigest", spec := "fnExactDigest", named := ["loop.example/g00394/impl.rounds"], apart := false, laid := [("loop.example/g00394/impl.rounds", laid_loop_example_g00394_impl_rounds)], narrowed := true }
def FnExactDigestUptoSaid : Prop := fnExactDigestUptoRow.holds Tryd.pinned (OpenSpec.upto fnExactDigestSpec)

/-- 'laws.FnExactCutDigest', WHERE WHAT IT READS IS OF BULK AT MOST 1048576: true; the input reads as it did. -/
def fnExactCutDigestUptoRow : OpenClaim := { program := "ytekplhhkbeemnaadoor", sum := "0bb7f296bc8e1fa89e5a3d0c6297f5df5e044ae404366ea7226787f7faa08a86", func := "loop.example/g00394/laws.FnExactCutDigest", spec := "fnExactCutDigest", named := ["loop.example/g00394/impl.rounds"], apart := false, laid := [("loop.example/g00394/impl.rounds", laid_loop_example_g00394_impl_rounds)], narrowed := true }
def FnExactCutDigestUptoSaid : Prop := fnExactCutDigestUptoRow.holds Tryd.pinned (OpenSpec.upto fnExactCutDigestSpec)

/-- 'laws.FnExactDigestHex', WHERE WHAT IT READS IS OF BULK AT MOST 1048576: true; the input reads as it did. -/
def fnExactDigestHexUptoRow : OpenClaim := { program := "ytekplhhkbeemnaadoor", sum := "0bb7f296bc8e1fa89e5a3d0c6297f5df5e044ae404366ea7226787f7faa08a86", func := "loop.example/g00394/laws.FnExactDigestHex", spec := "fnExactDigestHex", named := ["loop.example/g00394/impl.rounds"], apart := false, laid := [("loop.example/g00394/impl.rounds", laid_loop_example_g00394_impl_rounds)], narrowed := true }
def FnExactDigestHexUptoSaid : Prop := fnExactDigestHexUptoRow.holds Tryd.pinned (OpenSpec.upto fnExactDigestHexSpec)

/-- 'laws.FnExactPadded', WHERE WHAT IT READS IS OF BULK AT MOST 1048576: true; the input reads as it did. -/
def fnExactPaddedUptoRow : OpenClaim := { program := "ytekplhhkbeemnaadoor", sum := "0bb7f296bc8e1fa89e5a3d0c6297f5df5e044ae404366ea7226787f7faa08a86", func := "loop.example/g00394/laws.FnExactPadded", spec := "fnExactPadded", inPlace := ["internal/abi.NoEscape", "internal/bytealg.MakeNoZero"], named := ["loop.example/g00394/impl.rounds"], apart := false, laid := [("loop.example/g00394/impl.rounds", laid_loop_example_g00394_impl_rounds)], narrowed := true }
def FnExactPaddedUptoSaid : Prop := fnExactPaddedUptoRow.holds Tryd.pinned (OpenSpec.upto fnExactPaddedSpec)

/-- 'laws.FnKnown', WHERE WHAT IT READS IS OF BULK AT MOST 1048576: true; the input reads as it did. -/
def fnKnownUptoRow : OpenClaim := { program := "ytekplhhkbeemnaadoor", sum := "0bb7f296bc8e1fa89e5a3d0c6297f5df5e044ae404366ea7226787f7faa08a86", func := "loop.example/g00394/laws.FnKnown", spec := "fnKnown", named := ["loop.example/g00394/impl.rounds"], apart := false, laid := [("loop.example/g00394/impl.rounds", laid_loop_example_g00394_impl_rounds)], narrowed := true }
def FnKnownUptoSaid : Prop := fnKnownUptoRow.holds Tryd.pinned (OpenSpec.upto fnKnownSpec)

/-- 'laws.FnBlocks', WHERE WHAT IT READS IS OF BULK AT MOST 1048576: true; the input reads as it did. -/
def fnBlocksUptoRow : OpenClaim := { program := "ytekplhhkbeemnaadoor", sum := "0bb7f296bc8e1fa89e5a3d0c6297f5df5e044ae404366ea7226787f7faa08a86", func := "loop.example/g00394/laws.FnBlocks", spec := "fnBlocks", named := ["loop.example/g00394/impl.rounds"], apart := false, laid := [("loop.example/g00394/impl.rounds", laid_loop_example_g00394_impl_rounds)], narrowed := true }
def FnBlocksUptoSaid : Prop := fnBlocksUptoRow.holds Tryd.pinned (OpenSpec.upto fnBlocksSpec)

/-- 'laws.FnDigestTurned', WHERE WHAT IT READS IS OF BULK AT MOST 1048576: true; the input reads as it did. -/
def fnDigestTurnedUptoRow : OpenClaim := { program := "ytekplhhkbeemnaadoor", sum := "0bb7f296bc8e1fa89e5a3d0c6297f5df5e044ae404366ea7226787f7faa08a86", func := "loop.example/g00394/laws.FnDigestTurned", spec := "fnDigestTurned", named := ["loop.example/g00394/impl.rounds"], apart := false, laid := [("loop.example/g00394/impl.rounds", laid_loop_example_g00394_impl_rounds)], narrowed := true }
def FnDigestTurnedUptoSaid : Prop := fnDigestTurnedUptoRow.holds Tryd.pinned (OpenSpec.upto fnDigestTurnedSpec)

end Rows
end Go.Proofs.YtekplhhkbeemnaaDoor
