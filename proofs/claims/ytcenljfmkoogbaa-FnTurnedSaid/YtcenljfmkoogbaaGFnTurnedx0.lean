-- Written by a program of this session (gp.py) over the kit's printer: no printed text.
import Derived.Test.YtcenljfmkoogbaaProg
import Derived.Below
import Derived.Deep.Draws
import Derived.Deep.AppendLies
import Derived.Maps.AppendAt
import Derived.OwnWalk
import Derived.Laws.BytesArg
import Derived.Laws.MakeOwn
import Derived.Laws.OwnMore
import Derived.Deep.OwnRows
import Derived.Tactics
import Derived.Lib.ConvBytes
import Derived.Laws.Slices
import Derived.WalkKit
import Derived.KernelRfl
import Derived.RowKit3
import Derived.Deep.LoopGhost
import Derived.Deep.QuietTactic
import Derived.BigQuiet
import Derived.WideLaws
import Derived.Deep.DeepCutAuto
import Derived.Deep.CutBlock
import Derived.Deep.RegionHeld3
import Derived.Laws.Rows
import Derived.Lib.AppendStr
import Derived.ArgAppend
import Derived.Laws.IdiomCopy
import Derived.OrdersHeld
import Derived.Laws.BitsLemmas
import Derived.RowKit
import Derived.Laws.IdiomStrings
import Derived.Test.YtcenljfmkoogbaaShaTurn
import Derived.StillTailTactics
import Derived.Test.YtcenljfmkoogbaaWWords
import Derived.Test.YtcenljfmkoogbaaWLast
import Derived.Test.YtcenljfmkoogbaaWTab
import Derived.Test.YtcenljfmkoogbaaWFour
import Derived.Test.YtcenljfmkoogbaaWQPut
import Derived.Test.YtcenljfmkoogbaaWApart
import Derived.Test.YtcenljfmkoogbaaWArr
import Derived.Test.YtcenljfmkoogbaaWZeros
import Derived.Test.YtcenljfmkoogbaaWFoot
import Derived.Test.YtcenljfmkoogbaaWKept
import Derived.Test.YtcenljfmkoogbaaWShare
import Derived.Test.YtcenljfmkoogbaaWN
import Derived.Test.YtcenljfmkoogbaaWFootNe
import Derived.Test.YtcenljfmkoogbaaWAt
import Derived.Test.YtcenljfmkoogbaaWEqStruct
import Derived.Test.YtcenljfmkoogbaaWRepsOne
import Derived.Test.YtcenljfmkoogbaaWInv
import Derived.Test.YtcenljfmkoogbaaWInvWords
import Derived.Test.YtcenljfmkoogbaaWGuard
import Derived.Test.YtcenljfmkoogbaaWNEv
import Derived.Test.YtcenljfmkoogbaaWMore
namespace Go.Proofs.Ytcenljfmkoogbaa.GFnTurned
open Go.RowKit Go.Proofs.YtcenljfmkoogbaaW.PrintWords Go.Proofs.YtcenljfmkoogbaaW.PrintLast Go.Proofs.YtcenljfmkoogbaaW.PrintMore
attribute [local go_sem] max2_int min2_int max_two min_two max_three min_three max_four min_four   -- for this text's walks alone
set_option linter.unusedVariables false
set_option linter.unusedSimpArgs false



def errW : Option Int → Value
  | none => .nilIface
  | some c => .iface 0 (.int .i64 c)
theorem errW_none : errW none = .nilIface := rfl
theorem errW_some (c : Int) : errW (some c) = .iface 0 (.int .i64 c) := rfl

theorem info3 : (Try.prog.info? 3).map (fun i => (i.zero, i.size, i.bytes)) = some (some (.int .i64 0), 1, 8) := by kernel_rfl
theorem info5 : (Try.prog.info? 5).map (fun i => (i.zero, i.size, i.bytes)) = some (some (.int .u8 0), 1, 1) := by kernel_rfl
-- the values' own types

end Go.Proofs.Ytcenljfmkoogbaa.GFnTurned
