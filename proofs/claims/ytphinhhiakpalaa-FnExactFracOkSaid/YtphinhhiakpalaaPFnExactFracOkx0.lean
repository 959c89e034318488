-- Written by a program of this session over the kit's printer, with contracts proved by hand; Lean checks it.
import Derived.Test.YtphinhhiakpalaaProg
import Derived.Below
import Derived.Deep.Draws
import Derived.Deep.AppendLies
import Derived.Maps.AppendAt
import Derived.OwnWalk
import Derived.Laws.BytesArg
import Derived.Laws.MakeOwn
import Derived.Laws.OwnMore
import Derived.Deep.OwnRows
import Derived.Tactics
import Derived.Lib.ConvBytes
import Derived.Laws.Slices
import Derived.WalkKit
import Derived.KernelRfl
import Derived.RowKit3
import Derived.Deep.LoopGhost
import Derived.Deep.QuietTactic
import Derived.BigQuiet
import Derived.WideLaws
import Derived.Deep.DeepCutAuto
import Derived.Deep.CutBlock
import Derived.Deep.RegionHeld3
import Derived.Laws.Rows
import Derived.Lib.AppendStr
import Derived.ArgAppend
import Derived.Laws.IdiomCopy
import Derived.OrdersHeld
import Derived.Laws.BitsLemmas
import Derived.RowKit
import Derived.Lib.Hide
import Derived.Test.YtphinhhiakpalaaWWords
import Derived.Test.YtphinhhiakpalaaWLast
import Derived.Test.YtphinhhiakpalaaWTab
import Derived.Test.YtphinhhiakpalaaWFour
import Derived.Test.YtphinhhiakpalaaWQPut
import Derived.Test.YtphinhhiakpalaaWApart
import Derived.Test.YtphinhhiakpalaaWArr
import Derived.Test.YtphinhhiakpalaaWZeros
import Derived.Test.YtphinhhiakpalaaWFoot
import Derived.Test.YtphinhhiakpalaaWKept
import Derived.Test.YtphinhhiakpalaaWShare
import Derived.Test.YtphinhhiakpalaaWN
import Derived.Test.YtphinhhiakpalaaWFootNe
import Derived.Test.YtphinhhiakpalaaWAt
import Derived.Test.YtphinhhiakpalaaWEqStruct
import Derived.Test.YtphinhhiakpalaaWRepsOne
import Derived.Test.YtphinhhiakpalaaWInv
import Derived.Test.YtphinhhiakpalaaWInvWords
import Derived.Test.YtphinhhiakpalaaWGuard
import Derived.Test.YtphinhhiakpalaaWNEv
import Derived.Test.YtphinhhiakpalaaWMore
import Derived.Test.YtphinhhiakpalaaWx
namespace Go.Proofs.Ytphinhhiakpalaa.PFnExactFracOk
open Go.RowKit Go.Proofs.YtphinhhiakpalaaW.PrintWords Go.Proofs.YtphinhhiakpalaaW.PrintLast Go.Proofs.YtphinhhiakpalaaW.PrintMore
attribute [local go_sem] max2_int min2_int max_two min_two max_three min_three max_four min_four   -- for this text's walks alone
set_option linter.unusedVariables false
set_option linter.unusedSimpArgs false



def errW : Option Int → Value
  | none => .nilIface
  | some c => .iface 0 (.int .i64 c)
theorem errW_none : errW none = .nilIface := rfl
theorem errW_some (c : Int) : errW (some c) = .iface 0 (.int .i64 c) := rfl

-- the values' own types

end Go.Proofs.Ytphinhhiakpalaa.PFnExactFracOk
