-- Written by a program of this session over the kit's printer, with contracts proved by hand; Lean checks it.
import Derived.Test.YthmllnigphcpaaaProg
import Derived.Below
import Derived.Deep.Draws
import Derived.Deep.AppendLies
import Derived.Maps.AppendAt
import Derived.OwnWalk
import Derived.Laws.BytesArg
import Derived.Laws.MakeOwn
import Derived.Laws.OwnMore
import Derived.Deep.OwnRows
import Derived.Tactics
import Derived.Lib.ConvBytes
import Derived.Laws.Slices
import Derived.WalkKit
import Derived.KernelRfl
import Derived.RowKit3
import Derived.Deep.LoopGhost
import Derived.Deep.QuietTactic
import Derived.BigQuiet
import Derived.WideLaws
import Derived.Deep.DeepCutAuto
import Derived.Deep.CutBlock
import Derived.Deep.RegionHeld3
import Derived.Laws.Rows
import Derived.Lib.AppendStr
import Derived.ArgAppend
import Derived.Laws.IdiomCopy
import Derived.OrdersHeld
import Derived.Laws.BitsLemmas
import Derived.RowKit
import Derived.Lib.Hide
import Derived.Test.YthmllnigphcpaaaWWords
import Derived.Test.YthmllnigphcpaaaWLast
import Derived.Test.YthmllnigphcpaaaWTab
import Derived.Test.YthmllnigphcpaaaWFour
import Derived.Test.YthmllnigphcpaaaWQPut
import Derived.Test.YthmllnigphcpaaaWApart
import Derived.Test.YthmllnigphcpaaaWArr
import Derived.Test.YthmllnigphcpaaaWZeros
import Derived.Test.YthmllnigphcpaaaWFoot
import Derived.Test.YthmllnigphcpaaaWKept
import Derived.Test.YthmllnigphcpaaaWShare
import Derived.Test.YthmllnigphcpaaaWN
import Derived.Test.YthmllnigphcpaaaWFootNe
import Derived.Test.YthmllnigphcpaaaWAt
import Derived.Test.YthmllnigphcpaaaWEqStruct
import Derived.Test.YthmllnigphcpaaaWRepsOne
import Derived.Test.YthmllnigphcpaaaWInv
import Derived.Test.YthmllnigphcpaaaWInvWords
import Derived.Test.YthmllnigphcpaaaWGuard
import Derived.Test.YthmllnigphcpaaaWNEv
import Derived.Test.YthmllnigphcpaaaWMore
import Derived.Test.YthmllnigphcpaaaWx
namespace Go.Proofs.Ythmllnigphcpaaa.PFnExactNoiseAdd
open Go.RowKit Go.Proofs.YthmllnigphcpaaaW.PrintWords Go.Proofs.YthmllnigphcpaaaW.PrintLast Go.Proofs.YthmllnigphcpaaaW.PrintMore
attribute [local go_sem] max2_int min2_int max_two min_two max_three min_three max_four min_four   -- for this text's walks alone
set_option linter.unusedVariables false
set_option linter.unusedSimpArgs false



def errW : Option Int → Value
  | none => .nilIface
  | some c => .iface 0 (.int .i64 c)
theorem errW_none : errW none = .nilIface := rfl
theorem errW_some (c : Int) : errW (some c) = .iface 0 (.int .i64 c) := rfl

theorem info3 : (Try.prog.info? 3).map (fun i => (i.zero, i.size, i.bytes)) = some (some (.int .i64 0), 1, 8) := by kernel_rfl
-- the values' own types

end Go.Proofs.Ythmllnigphcpaaa.PFnExactNoiseAdd
