-- Written by a program of this session (gp.py) over the kit's printer: no printed text.
import Derived.Test.YtjbpollbjkkniaaProg
import Derived.Below
import Derived.Deep.Draws
import Derived.Deep.AppendLies
import Derived.Maps.AppendAt
import Derived.OwnWalk
import Derived.Laws.BytesArg
import Derived.Laws.MakeOwn
import Derived.Laws.OwnMore
import Derived.Deep.OwnRows
import Derived.Tactics
import Derived.Lib.ConvBytes
import Derived.Laws.Slices
import Derived.WalkKit
import Derived.KernelRfl
import Derived.RowKit3
import Derived.Deep.LoopGhost
import Derived.Deep.QuietTactic
import Derived.BigQuiet
import Derived.WideLaws
import Derived.Deep.DeepCutAuto
import Derived.Deep.CutBlock
import Derived.Deep.RegionHeld3
import Derived.Laws.Rows
import Derived.Lib.AppendStr
import Derived.ArgAppend
import Derived.Laws.IdiomCopy
import Derived.OrdersHeld
import Derived.Laws.BitsLemmas
import Derived.RowKit
import Derived.Test.YtjbpollbjkkniaaWWords
import Derived.Test.YtjbpollbjkkniaaWLast
import Derived.Test.YtjbpollbjkkniaaWTab
import Derived.Test.YtjbpollbjkkniaaWFour
import Derived.Test.YtjbpollbjkkniaaWQPut
import Derived.Test.YtjbpollbjkkniaaWApart
import Derived.Test.YtjbpollbjkkniaaWArr
import Derived.Test.YtjbpollbjkkniaaWZeros
import Derived.Test.YtjbpollbjkkniaaWFoot
import Derived.Test.YtjbpollbjkkniaaWKept
import Derived.Test.YtjbpollbjkkniaaWShare
import Derived.Test.YtjbpollbjkkniaaWN
import Derived.Test.YtjbpollbjkkniaaWFootNe
import Derived.Test.YtjbpollbjkkniaaWAt
import Derived.Test.YtjbpollbjkkniaaWEqStruct
import Derived.Test.YtjbpollbjkkniaaWRepsOne
import Derived.Test.YtjbpollbjkkniaaWInv
import Derived.Test.YtjbpollbjkkniaaWInvWords
import Derived.Test.YtjbpollbjkkniaaWGuard
import Derived.Test.YtjbpollbjkkniaaWNEv
import Derived.Test.YtjbpollbjkkniaaWMore
namespace Go.Proofs.Ytjbpollbjkkniaa.GFnExactHex
open Go.RowKit Go.Proofs.YtjbpollbjkkniaaW.PrintWords Go.Proofs.YtjbpollbjkkniaaW.PrintLast Go.Proofs.YtjbpollbjkkniaaW.PrintMore
attribute [local go_sem] max2_int min2_int max_two min_two max_three min_three max_four min_four   -- for this text's walks alone
set_option linter.unusedVariables false
set_option linter.unusedSimpArgs false



def errW : Option Int → Value
  | none => .nilIface
  | some c => .iface 0 (.int .i64 c)
theorem errW_none : errW none = .nilIface := rfl
theorem errW_some (c : Int) : errW (some c) = .iface 0 (.int .i64 c) := rfl

theorem info5 : (Try.prog.info? 5).map (fun i => (i.zero, i.size, i.bytes)) = some (some (.int .u8 0), 1, 1) := by kernel_rfl
-- the values' own types

end Go.Proofs.Ytjbpollbjkkniaa.GFnExactHex
