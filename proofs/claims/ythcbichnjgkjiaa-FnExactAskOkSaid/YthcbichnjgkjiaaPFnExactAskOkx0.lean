-- Written by a program of this session over the kit's printer, with contracts proved by hand; Lean checks it.
import Derived.Test.YthcbichnjgkjiaaProg
import Derived.Below
import Derived.Deep.Draws
import Derived.Deep.AppendLies
import Derived.Maps.AppendAt
import Derived.OwnWalk
import Derived.Laws.BytesArg
import Derived.Laws.MakeOwn
import Derived.Laws.OwnMore
import Derived.Deep.OwnRows
import Derived.Tactics
import Derived.Lib.ConvBytes
import Derived.Laws.Slices
import Derived.WalkKit
import Derived.KernelRfl
import Derived.RowKit3
import Derived.Deep.LoopGhost
import Derived.Deep.QuietTactic
import Derived.BigQuiet
import Derived.WideLaws
import Derived.Deep.DeepCutAuto
import Derived.Deep.CutBlock
import Derived.Deep.RegionHeld3
import Derived.Laws.Rows
import Derived.Lib.AppendStr
import Derived.ArgAppend
import Derived.Laws.IdiomCopy
import Derived.OrdersHeld
import Derived.Laws.BitsLemmas
import Derived.RowKit
import Derived.Lib.Hide
import Derived.Test.YthcbichnjgkjiaaWWords
import Derived.Test.YthcbichnjgkjiaaWLast
import Derived.Test.YthcbichnjgkjiaaWTab
import Derived.Test.YthcbichnjgkjiaaWFour
import Derived.Test.YthcbichnjgkjiaaWQPut
import Derived.Test.YthcbichnjgkjiaaWApart
import Derived.Test.YthcbichnjgkjiaaWArr
import Derived.Test.YthcbichnjgkjiaaWZeros
import Derived.Test.YthcbichnjgkjiaaWFoot
import Derived.Test.YthcbichnjgkjiaaWKept
import Derived.Test.YthcbichnjgkjiaaWShare
import Derived.Test.YthcbichnjgkjiaaWN
import Derived.Test.YthcbichnjgkjiaaWFootNe
import Derived.Test.YthcbichnjgkjiaaWAt
import Derived.Test.YthcbichnjgkjiaaWEqStruct
import Derived.Test.YthcbichnjgkjiaaWRepsOne
import Derived.Test.YthcbichnjgkjiaaWInv
import Derived.Test.YthcbichnjgkjiaaWInvWords
import Derived.Test.YthcbichnjgkjiaaWGuard
import Derived.Test.YthcbichnjgkjiaaWNEv
import Derived.Test.YthcbichnjgkjiaaWMore
import Derived.Test.YthcbichnjgkjiaaWx
namespace Go.Proofs.Ythcbichnjgkjiaa.PFnExactAskOk
open Go.RowKit Go.Proofs.YthcbichnjgkjiaaW.PrintWords Go.Proofs.YthcbichnjgkjiaaW.PrintLast Go.Proofs.YthcbichnjgkjiaaW.PrintMore
attribute [local go_sem] max2_int min2_int max_two min_two max_three min_three max_four min_four   -- for this text's walks alone
set_option linter.unusedVariables false
set_option linter.unusedSimpArgs false



def errW : Option Int → Value
  | none => .nilIface
  | some c => .iface 0 (.int .i64 c)
theorem errW_none : errW none = .nilIface := rfl
theorem errW_some (c : Int) : errW (some c) = .iface 0 (.int .i64 c) := rfl

-- the values' own types

end Go.Proofs.Ythcbichnjgkjiaa.PFnExactAskOk
