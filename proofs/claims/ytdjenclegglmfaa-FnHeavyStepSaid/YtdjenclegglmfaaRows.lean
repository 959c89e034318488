/-
  No cell of these rows narrows 'for every input' (looked for: loops, veiled, ifaces, maps, wideKeys, modest, calm, conditions, laid).
  DERIVED. THE GIVEN ROWS OF THIS SEAT. 15 by the template 'for every input the law returns true; each argument reads behind the call as it read before'; 0 by the template 'total and deterministic' (their statements: YtdjenclegglmfaaTotals.lean).
  GIVEN WITH THE SEED: the statements are not yours to turn. If you find one false, say at which input.
  Laid BY PROGRAM, IN A SANDBOX (cutbox-rows.mjs): the forced cells as the released guide's own fill.sh prints them over the translation a0dbeec19ef1bb0e… (all of the seat's roots in one cut). By AI agents, Wed Nov 11 2026. No macro, syntax, notation, axiom, sorry.
-/
import Derived.Test.YtdjenclegglmfaaChecked
import GoSem.Claim
import GoSem.ClaimJoined
import GoSem.ClaimMapViews
import Derived.JoinedTies
import Derived.KernelRfl
namespace Go.Proofs.Ytdjenclegglmfaa
/- THE CELL 'sum', in the pinned program and in every row, IS THE sha256 OF THE DUMP (.gsa) THAT YtdjenclegglmfaaProg.lean LOADS. Nothing in Lean hashes anything: it is a label: what it is worth is what the hold of that sum in a sandbox is worth. -/
noncomputable def Try.pinned : Pinned := { name := "ytdjenclegglmfaa", sum := "a0dbeec19ef1bb0e7a812811d847f7cc371f0b6dbc29f0b5ac3fa2c9cb566430", checked := Try.checked }
namespace Rows
def none {H : Type} : Left H := { results := [], args := [] }

/-- 'laws.FnExactWordsOk': WHATEVER THE INPUT: true; the input reads as it did. -/
def fnExactWordsOkSpec : ChangeSpec := { name := "fnExactWordsOk", fn := fun _ => fun
  | [d] => { results := [.lit (.bool true)], args := [d] }
  | _ => none }
def fnExactWordsOkRow : OpenClaim := { program := "ytdjenclegglmfaa", sum := "a0dbeec19ef1bb0e7a812811d847f7cc371f0b6dbc29f0b5ac3fa2c9cb566430", func := "loop.example/scrutineer/laws.FnExactWordsOk", spec := "fnExactWordsOk", unfollowed := true, recurses := true, apart := false }
def FnExactWordsOkSaid : Prop := fnExactWordsOkRow.holds Try.pinned (OpenSpec.ofChange fnExactWordsOkSpec)

/-- ITS FALSE NEIGHBOUR: 'it returns false'. Refute it at one input. -/
def fnExactWordsOkWrong : ChangeSpec := { name := "fnExactWordsOk", fn := fun _ => fun
  | [d] => { results := [.lit (.bool false)], args := [d] }
  | _ => none }
def FnExactWordsOkWrongFalsely : Prop := fnExactWordsOkRow.holds Try.pinned (OpenSpec.ofChange fnExactWordsOkWrong)

/-- 'laws.FnWordsForm': WHATEVER THE INPUT: true; the input reads as it did. -/
def fnWordsFormSpec : ChangeSpec := { name := "fnWordsForm", fn := fun _ => fun
  | [d1, d2] => { results := [.lit (.bool true)], args := [d1, d2] }
  | _ => none }
def fnWordsFormRow : OpenClaim := { program := "ytdjenclegglmfaa", sum := "a0dbeec19ef1bb0e7a812811d847f7cc371f0b6dbc29f0b5ac3fa2c9cb566430", func := "loop.example/scrutineer/laws.FnWordsForm", spec := "fnWordsForm", unfollowed := true, recurses := true, apart := false }
def FnWordsFormSaid : Prop := fnWordsFormRow.holds Try.pinned (OpenSpec.ofChange fnWordsFormSpec)

/-- ITS FALSE NEIGHBOUR: 'it returns false'. Refute it at one input. -/
def fnWordsFormWrong : ChangeSpec := { name := "fnWordsForm", fn := fun _ => fun
  | [d1, d2] => { results := [.lit (.bool false)], args := [d1, d2] }
  | _ => none }
def FnWordsFormWrongFalsely : Prop := fnWordsFormRow.holds Try.pinned (OpenSpec.ofChange fnWordsFormWrong)

/-- 'laws.FnHeavyNext': WHATEVER THE INPUT: true; the input reads as it did. -/
def fnHeavyNextSpec : ChangeSpec := { name := "fnHeavyNext", fn := fun _ => fun
  | [d] => { results := [.lit (.bool true)], args := [d] }
  | _ => none }
def fnHeavyNextRow : OpenClaim := { program := "ytdjenclegglmfaa", sum := "a0dbeec19ef1bb0e7a812811d847f7cc371f0b6dbc29f0b5ac3fa2c9cb566430", func := "loop.example/scrutineer/laws.FnHeavyNext", spec := "fnHeavyNext", unfollowed := true, recurses := true, apart := false }
def FnHeavyNextSaid : Prop := fnHeavyNextRow.holds Try.pinned (OpenSpec.ofChange fnHeavyNextSpec)

/-- ITS FALSE NEIGHBOUR: 'it returns false'. Refute it at one input. -/
def fnHeavyNextWrong : ChangeSpec := { name := "fnHeavyNext", fn := fun _ => fun
  | [d] => { results := [.lit (.bool false)], args := [d] }
  | _ => none }
def FnHeavyNextWrongFalsely : Prop := fnHeavyNextRow.holds Try.pinned (OpenSpec.ofChange fnHeavyNextWrong)

/-- 'laws.FnExactHeavyNext': WHATEVER THE INPUT: true; the input reads as it did. -/
def fnExactHeavyNextSpec : ChangeSpec := { name := "fnExactHeavyNext", fn := fun _ => fun
  | [d] => { results := [.lit (.bool true)], args := [d] }
  | _ => none }
def fnExactHeavyNextRow : OpenClaim := { program := "ytdjenclegglmfaa", sum := "a0dbeec19ef1bb0e7a812811d847f7cc371f0b6dbc29f0b5ac3fa2c9cb566430", func := "loop.example/scrutineer/laws.FnExactHeavyNext", spec := "fnExactHeavyNext", unfollowed := true, recurses := true, apart := false }
def FnExactHeavyNextSaid : Prop := fnExactHeavyNextRow.holds Try.pinned (OpenSpec.ofChange fnExactHeavyNextSpec)

/-- ITS FALSE NEIGHBOUR: 'it returns false'. Refute it at one input. -/
def fnExactHeavyNextWrong : ChangeSpec := { name := "fnExactHeavyNext", fn := fun _ => fun
  | [d] => { results := [.lit (.bool false)], args := [d] }
  | _ => none }
def FnExactHeavyNextWrongFalsely : Prop := fnExactHeavyNextRow.holds Try.pinned (OpenSpec.ofChange fnExactHeavyNextWrong)

/-- 'laws.FnExactHeavyMany': WHATEVER THE INPUT: true; the input reads as it did. -/
def fnExactHeavyManySpec : ChangeSpec := { name := "fnExactHeavyMany", fn := fun _ => fun
  | [d1, d2] => { results := [.lit (.bool true)], args := [d1, d2] }
  | _ => none }
def fnExactHeavyManyRow : OpenClaim := { program := "ytdjenclegglmfaa", sum := "a0dbeec19ef1bb0e7a812811d847f7cc371f0b6dbc29f0b5ac3fa2c9cb566430", func := "loop.example/scrutineer/laws.FnExactHeavyMany", spec := "fnExactHeavyMany", unfollowed := true, recurses := true, apart := false }
def FnExactHeavyManySaid : Prop := fnExactHeavyManyRow.holds Try.pinned (OpenSpec.ofChange fnExactHeavyManySpec)

/-- ITS FALSE NEIGHBOUR: 'it returns false'. Refute it at one input. -/
def fnExactHeavyManyWrong : ChangeSpec := { name := "fnExactHeavyMany", fn := fun _ => fun
  | [d1, d2] => { results := [.lit (.bool false)], args := [d1, d2] }
  | _ => none }
def FnExactHeavyManyWrongFalsely : Prop := fnExactHeavyManyRow.holds Try.pinned (OpenSpec.ofChange fnExactHeavyManyWrong)

/-- 'laws.FnHeavyMany': WHATEVER THE INPUT: true; the input reads as it did. -/
def fnHeavyManySpec : ChangeSpec := { name := "fnHeavyMany", fn := fun _ => fun
  | [d] => { results := [.lit (.bool true)], args := [d] }
  | _ => none }
def fnHeavyManyRow : OpenClaim := { program := "ytdjenclegglmfaa", sum := "a0dbeec19ef1bb0e7a812811d847f7cc371f0b6dbc29f0b5ac3fa2c9cb566430", func := "loop.example/scrutineer/laws.FnHeavyMany", spec := "fnHeavyMany", unfollowed := true, recurses := true, apart := false }
def FnHeavyManySaid : Prop := fnHeavyManyRow.holds Try.pinned (OpenSpec.ofChange fnHeavyManySpec)

/-- ITS FALSE NEIGHBOUR: 'it returns false'. Refute it at one input. -/
def fnHeavyManyWrong : ChangeSpec := { name := "fnHeavyMany", fn := fun _ => fun
  | [d] => { results := [.lit (.bool false)], args := [d] }
  | _ => none }
def FnHeavyManyWrongFalsely : Prop := fnHeavyManyRow.holds Try.pinned (OpenSpec.ofChange fnHeavyManyWrong)

/-- 'laws.FnHeavyStep': WHATEVER THE INPUT: true; the input reads as it did. -/
def fnHeavyStepSpec : ChangeSpec := { name := "fnHeavyStep", fn := fun _ => fun
  | [d] => { results := [.lit (.bool true)], args := [d] }
  | _ => none }
def fnHeavyStepRow : OpenClaim := { program := "ytdjenclegglmfaa", sum := "a0dbeec19ef1bb0e7a812811d847f7cc371f0b6dbc29f0b5ac3fa2c9cb566430", func := "loop.example/scrutineer/laws.FnHeavyStep", spec := "fnHeavyStep", unfollowed := true, recurses := true, apart := false }
def FnHeavyStepSaid : Prop := fnHeavyStepRow.holds Try.pinned (OpenSpec.ofChange fnHeavyStepSpec)

/-- ITS FALSE NEIGHBOUR: 'it returns false'. Refute it at one input. -/
def fnHeavyStepWrong : ChangeSpec := { name := "fnHeavyStep", fn := fun _ => fun
  | [d] => { results := [.lit (.bool false)], args := [d] }
  | _ => none }
def FnHeavyStepWrongFalsely : Prop := fnHeavyStepRow.holds Try.pinned (OpenSpec.ofChange fnHeavyStepWrong)

/-- 'laws.FnExactHeavyStep': WHATEVER THE INPUT: true; the input reads as it did. -/
def fnExactHeavyStepSpec : ChangeSpec := { name := "fnExactHeavyStep", fn := fun _ => fun
  | [d1, d2, d3] => { results := [.lit (.bool true)], args := [d1, d2, d3] }
  | _ => none }
def fnExactHeavyStepRow : OpenClaim := { program := "ytdjenclegglmfaa", sum := "a0dbeec19ef1bb0e7a812811d847f7cc371f0b6dbc29f0b5ac3fa2c9cb566430", func := "loop.example/scrutineer/laws.FnExactHeavyStep", spec := "fnExactHeavyStep", unfollowed := true, recurses := true, apart := false }
def FnExactHeavyStepSaid : Prop := fnExactHeavyStepRow.holds Try.pinned (OpenSpec.ofChange fnExactHeavyStepSpec)

/-- ITS FALSE NEIGHBOUR: 'it returns false'. Refute it at one input. -/
def fnExactHeavyStepWrong : ChangeSpec := { name := "fnExactHeavyStep", fn := fun _ => fun
  | [d1, d2, d3] => { results := [.lit (.bool false)], args := [d1, d2, d3] }
  | _ => none }
def FnExactHeavyStepWrongFalsely : Prop := fnExactHeavyStepRow.holds Try.pinned (OpenSpec.ofChange fnExactHeavyStepWrong)

/-- 'laws.FnHeavyOrder': WHATEVER THE INPUT: true; the input reads as it did. -/
def fnHeavyOrderSpec : ChangeSpec := { name := "fnHeavyOrder", fn := fun _ => fun
  | [d] => { results := [.lit (.bool true)], args := [d] }
  | _ => none }
def fnHeavyOrderRow : OpenClaim := { program := "ytdjenclegglmfaa", sum := "a0dbeec19ef1bb0e7a812811d847f7cc371f0b6dbc29f0b5ac3fa2c9cb566430", func := "loop.example/scrutineer/laws.FnHeavyOrder", spec := "fnHeavyOrder", unfollowed := true, recurses := true, apart := false }
def FnHeavyOrderSaid : Prop := fnHeavyOrderRow.holds Try.pinned (OpenSpec.ofChange fnHeavyOrderSpec)

/-- ITS FALSE NEIGHBOUR: 'it returns false'. Refute it at one input. -/
def fnHeavyOrderWrong : ChangeSpec := { name := "fnHeavyOrder", fn := fun _ => fun
  | [d] => { results := [.lit (.bool false)], args := [d] }
  | _ => none }
def FnHeavyOrderWrongFalsely : Prop := fnHeavyOrderRow.holds Try.pinned (OpenSpec.ofChange fnHeavyOrderWrong)

/-- 'laws.FnHeavyFew': WHATEVER THE INPUT: true; the input reads as it did. -/
def fnHeavyFewSpec : ChangeSpec := { name := "fnHeavyFew", fn := fun _ => fun
  | [d1, d2] => { results := [.lit (.bool true)], args := [d1, d2] }
  | _ => none }
def fnHeavyFewRow : OpenClaim := { program := "ytdjenclegglmfaa", sum := "a0dbeec19ef1bb0e7a812811d847f7cc371f0b6dbc29f0b5ac3fa2c9cb566430", func := "loop.example/scrutineer/laws.FnHeavyFew", spec := "fnHeavyFew", unfollowed := true, recurses := true, apart := false }
def FnHeavyFewSaid : Prop := fnHeavyFewRow.holds Try.pinned (OpenSpec.ofChange fnHeavyFewSpec)

/-- ITS FALSE NEIGHBOUR: 'it returns false'. Refute it at one input. -/
def fnHeavyFewWrong : ChangeSpec := { name := "fnHeavyFew", fn := fun _ => fun
  | [d1, d2] => { results := [.lit (.bool false)], args := [d1, d2] }
  | _ => none }
def FnHeavyFewWrongFalsely : Prop := fnHeavyFewRow.holds Try.pinned (OpenSpec.ofChange fnHeavyFewWrong)

/-- 'laws.FnHeavyMore': WHATEVER THE INPUT: true; the input reads as it did. -/
def fnHeavyMoreSpec : ChangeSpec := { name := "fnHeavyMore", fn := fun _ => fun
  | [d1, d2] => { results := [.lit (.bool true)], args := [d1, d2] }
  | _ => none }
def fnHeavyMoreRow : OpenClaim := { program := "ytdjenclegglmfaa", sum := "a0dbeec19ef1bb0e7a812811d847f7cc371f0b6dbc29f0b5ac3fa2c9cb566430", func := "loop.example/scrutineer/laws.FnHeavyMore", spec := "fnHeavyMore", unfollowed := true, recurses := true, apart := false }
def FnHeavyMoreSaid : Prop := fnHeavyMoreRow.holds Try.pinned (OpenSpec.ofChange fnHeavyMoreSpec)

/-- ITS FALSE NEIGHBOUR: 'it returns false'. Refute it at one input. -/
def fnHeavyMoreWrong : ChangeSpec := { name := "fnHeavyMore", fn := fun _ => fun
  | [d1, d2] => { results := [.lit (.bool false)], args := [d1, d2] }
  | _ => none }
def FnHeavyMoreWrongFalsely : Prop := fnHeavyMoreRow.holds Try.pinned (OpenSpec.ofChange fnHeavyMoreWrong)

/-- 'laws.FnHeavyOnce': WHATEVER THE INPUT: true; the input reads as it did. -/
def fnHeavyOnceSpec : ChangeSpec := { name := "fnHeavyOnce", fn := fun _ => fun
  | [d] => { results := [.lit (.bool true)], args := [d] }
  | _ => none }
def fnHeavyOnceRow : OpenClaim := { program := "ytdjenclegglmfaa", sum := "a0dbeec19ef1bb0e7a812811d847f7cc371f0b6dbc29f0b5ac3fa2c9cb566430", func := "loop.example/scrutineer/laws.FnHeavyOnce", spec := "fnHeavyOnce", unfollowed := true, recurses := true, apart := false }
def FnHeavyOnceSaid : Prop := fnHeavyOnceRow.holds Try.pinned (OpenSpec.ofChange fnHeavyOnceSpec)

/-- ITS FALSE NEIGHBOUR: 'it returns false'. Refute it at one input. -/
def fnHeavyOnceWrong : ChangeSpec := { name := "fnHeavyOnce", fn := fun _ => fun
  | [d] => { results := [.lit (.bool false)], args := [d] }
  | _ => none }
def FnHeavyOnceWrongFalsely : Prop := fnHeavyOnceRow.holds Try.pinned (OpenSpec.ofChange fnHeavyOnceWrong)

/-- 'laws.FnHeavySteps': WHATEVER THE INPUT: true; the input reads as it did. -/
def fnHeavyStepsSpec : ChangeSpec := { name := "fnHeavySteps", fn := fun _ => fun
  | [d] => { results := [.lit (.bool true)], args := [d] }
  | _ => none }
def fnHeavyStepsRow : OpenClaim := { program := "ytdjenclegglmfaa", sum := "a0dbeec19ef1bb0e7a812811d847f7cc371f0b6dbc29f0b5ac3fa2c9cb566430", func := "loop.example/scrutineer/laws.FnHeavySteps", spec := "fnHeavySteps", unfollowed := true, recurses := true, apart := false }
def FnHeavyStepsSaid : Prop := fnHeavyStepsRow.holds Try.pinned (OpenSpec.ofChange fnHeavyStepsSpec)

/-- ITS FALSE NEIGHBOUR: 'it returns false'. Refute it at one input. -/
def fnHeavyStepsWrong : ChangeSpec := { name := "fnHeavySteps", fn := fun _ => fun
  | [d] => { results := [.lit (.bool false)], args := [d] }
  | _ => none }
def FnHeavyStepsWrongFalsely : Prop := fnHeavyStepsRow.holds Try.pinned (OpenSpec.ofChange fnHeavyStepsWrong)

/-- 'laws.FnExactHeavyAll': WHATEVER THE INPUT: true; the input reads as it did. -/
def fnExactHeavyAllSpec : ChangeSpec := { name := "fnExactHeavyAll", fn := fun _ => fun
  | [d1, d2] => { results := [.lit (.bool true)], args := [d1, d2] }
  | _ => none }
def fnExactHeavyAllRow : OpenClaim := { program := "ytdjenclegglmfaa", sum := "a0dbeec19ef1bb0e7a812811d847f7cc371f0b6dbc29f0b5ac3fa2c9cb566430", func := "loop.example/scrutineer/laws.FnExactHeavyAll", spec := "fnExactHeavyAll", unfollowed := true, recurses := true, apart := false }
def FnExactHeavyAllSaid : Prop := fnExactHeavyAllRow.holds Try.pinned (OpenSpec.ofChange fnExactHeavyAllSpec)

/-- ITS FALSE NEIGHBOUR: 'it returns false'. Refute it at one input. -/
def fnExactHeavyAllWrong : ChangeSpec := { name := "fnExactHeavyAll", fn := fun _ => fun
  | [d1, d2] => { results := [.lit (.bool false)], args := [d1, d2] }
  | _ => none }
def FnExactHeavyAllWrongFalsely : Prop := fnExactHeavyAllRow.holds Try.pinned (OpenSpec.ofChange fnExactHeavyAllWrong)

/-- 'laws.FnHeavyAll': WHATEVER THE INPUT: true; the input reads as it did. -/
def fnHeavyAllSpec : ChangeSpec := { name := "fnHeavyAll", fn := fun _ => fun
  | [d] => { results := [.lit (.bool true)], args := [d] }
  | _ => none }
def fnHeavyAllRow : OpenClaim := { program := "ytdjenclegglmfaa", sum := "a0dbeec19ef1bb0e7a812811d847f7cc371f0b6dbc29f0b5ac3fa2c9cb566430", func := "loop.example/scrutineer/laws.FnHeavyAll", spec := "fnHeavyAll", unfollowed := true, recurses := true, apart := false }
def FnHeavyAllSaid : Prop := fnHeavyAllRow.holds Try.pinned (OpenSpec.ofChange fnHeavyAllSpec)

/-- ITS FALSE NEIGHBOUR: 'it returns false'. Refute it at one input. -/
def fnHeavyAllWrong : ChangeSpec := { name := "fnHeavyAll", fn := fun _ => fun
  | [d] => { results := [.lit (.bool false)], args := [d] }
  | _ => none }
def FnHeavyAllWrongFalsely : Prop := fnHeavyAllRow.holds Try.pinned (OpenSpec.ofChange fnHeavyAllWrong)

/- THE SECOND FORM. 'bulk': how many values and letters a reading holds, each counted each time it is reached (what is shared counts as often as it is met; a slice's spare places count too). A statement '..UptoSaid' is the law's where the arguments, and the package variables that the reading takes, are together of bulk at most 1048576: NARROWER than '..Said'. Prove '..Said' where nothing that the law and all that it calls make is longer than what came in: it says more and counts as full. Else prove '..UptoSaid'. A law counts once. -/
mutual
def uptoBulk {H : Type} : DataW H → Nat
  | .lit (.string bytes) => bytes.length + 1
  | .lit _ => 1
  | .nil => 1
  | .ptr d => uptoBulk d + 1
  | .slice elems spare => uptoBulkAll elems + uptoBulkAll spare + 1
  | .agg parts => uptoBulkAll parts + 1
  | .iface _ d => uptoBulk d + 1
  | .map entries => uptoBulkEntries entries + 1
  | .held _ => 1
def uptoBulkAll {H : Type} : List (DataW H) → Nat
  | [] => 0
  | d :: r => uptoBulk d + uptoBulkAll r
def uptoBulkEntries {H : Type} : List (Lit × DataW H) → Nat
  | [] => 0
  | x :: r => uptoBulkEntry x + uptoBulkEntries r
def uptoBulkEntry {H : Type} : Lit × DataW H → Nat
  | (.string bytes, d) => bytes.length + uptoBulk d + 1
  | (_, d) => uptoBulk d + 1
 end
def uptoSmall : (H : Type) → List (DataW H) → Bool := fun _ ds => decide (uptoBulkAll ds ≤ 1048576)
def OpenSpec.upto (s : _root_.Go.ChangeSpec) : _root_.Go.OpenSpec := { _root_.Go.OpenSpec.ofChange s with cond := some uptoSmall }

/-- 'laws.FnExactWordsOk', WHERE WHAT IT READS IS OF BULK AT MOST 1048576: true; the input reads as it did. -/
def fnExactWordsOkUptoRow : OpenClaim := { program := "ytdjenclegglmfaa", sum := "a0dbeec19ef1bb0e7a812811d847f7cc371f0b6dbc29f0b5ac3fa2c9cb566430", func := "loop.example/scrutineer/laws.FnExactWordsOk", spec := "fnExactWordsOk", unfollowed := true, recurses := true, apart := false, narrowed := true }
def FnExactWordsOkUptoSaid : Prop := fnExactWordsOkUptoRow.holds Try.pinned (OpenSpec.upto fnExactWordsOkSpec)

/-- 'laws.FnWordsForm', WHERE WHAT IT READS IS OF BULK AT MOST 1048576: true; the input reads as it did. -/
def fnWordsFormUptoRow : OpenClaim := { program := "ytdjenclegglmfaa", sum := "a0dbeec19ef1bb0e7a812811d847f7cc371f0b6dbc29f0b5ac3fa2c9cb566430", func := "loop.example/scrutineer/laws.FnWordsForm", spec := "fnWordsForm", unfollowed := true, recurses := true, apart := false, narrowed := true }
def FnWordsFormUptoSaid : Prop := fnWordsFormUptoRow.holds Try.pinned (OpenSpec.upto fnWordsFormSpec)

/-- 'laws.FnHeavyNext', WHERE WHAT IT READS IS OF BULK AT MOST 1048576: true; the input reads as it did. -/
def fnHeavyNextUptoRow : OpenClaim := { program := "ytdjenclegglmfaa", sum := "a0dbeec19ef1bb0e7a812811d847f7cc371f0b6dbc29f0b5ac3fa2c9cb566430", func := "loop.example/scrutineer/laws.FnHeavyNext", spec := "fnHeavyNext", unfollowed := true, recurses := true, apart := false, narrowed := true }
def FnHeavyNextUptoSaid : Prop := fnHeavyNextUptoRow.holds Try.pinned (OpenSpec.upto fnHeavyNextSpec)

/-- 'laws.FnExactHeavyNext', WHERE WHAT IT READS IS OF BULK AT MOST 1048576: true; the input reads as it did. -/
def fnExactHeavyNextUptoRow : OpenClaim := { program := "ytdjenclegglmfaa", sum := "a0dbeec19ef1bb0e7a812811d847f7cc371f0b6dbc29f0b5ac3fa2c9cb566430", func := "loop.example/scrutineer/laws.FnExactHeavyNext", spec := "fnExactHeavyNext", unfollowed := true, recurses := true, apart := false, narrowed := true }
def FnExactHeavyNextUptoSaid : Prop := fnExactHeavyNextUptoRow.holds Try.pinned (OpenSpec.upto fnExactHeavyNextSpec)

/-- 'laws.FnExactHeavyMany', WHERE WHAT IT READS IS OF BULK AT MOST 1048576: true; the input reads as it did. -/
def fnExactHeavyManyUptoRow : OpenClaim := { program := "ytdjenclegglmfaa", sum := "a0dbeec19ef1bb0e7a812811d847f7cc371f0b6dbc29f0b5ac3fa2c9cb566430", func := "loop.example/scrutineer/laws.FnExactHeavyMany", spec := "fnExactHeavyMany", unfollowed := true, recurses := true, apart := false, narrowed := true }
def FnExactHeavyManyUptoSaid : Prop := fnExactHeavyManyUptoRow.holds Try.pinned (OpenSpec.upto fnExactHeavyManySpec)

/-- 'laws.FnHeavyMany', WHERE WHAT IT READS IS OF BULK AT MOST 1048576: true; the input reads as it did. -/
def fnHeavyManyUptoRow : OpenClaim := { program := "ytdjenclegglmfaa", sum := "a0dbeec19ef1bb0e7a812811d847f7cc371f0b6dbc29f0b5ac3fa2c9cb566430", func := "loop.example/scrutineer/laws.FnHeavyMany", spec := "fnHeavyMany", unfollowed := true, recurses := true, apart := false, narrowed := true }
def FnHeavyManyUptoSaid : Prop := fnHeavyManyUptoRow.holds Try.pinned (OpenSpec.upto fnHeavyManySpec)

/-- 'laws.FnHeavyStep', WHERE WHAT IT READS IS OF BULK AT MOST 1048576: true; the input reads as it did. -/
def fnHeavyStepUptoRow : OpenClaim := { program := "ytdjenclegglmfaa", sum := "a0dbeec19ef1bb0e7a812811d847f7cc371f0b6dbc29f0b5ac3fa2c9cb566430", func := "loop.example/scrutineer/laws.FnHeavyStep", spec := "fnHeavyStep", unfollowed := true, recurses := true, apart := false, narrowed := true }
def FnHeavyStepUptoSaid : Prop := fnHeavyStepUptoRow.holds Try.pinned (OpenSpec.upto fnHeavyStepSpec)

/-- 'laws.FnExactHeavyStep', WHERE WHAT IT READS IS OF BULK AT MOST 1048576: true; the input reads as it did. -/
def fnExactHeavyStepUptoRow : OpenClaim := { program := "ytdjenclegglmfaa", sum := "a0dbeec19ef1bb0e7a812811d847f7cc371f0b6dbc29f0b5ac3fa2c9cb566430", func := "loop.example/scrutineer/laws.FnExactHeavyStep", spec := "fnExactHeavyStep", unfollowed := true, recurses := true, apart := false, narrowed := true }
def FnExactHeavyStepUptoSaid : Prop := fnExactHeavyStepUptoRow.holds Try.pinned (OpenSpec.upto fnExactHeavyStepSpec)

/-- 'laws.FnHeavyOrder', WHERE WHAT IT READS IS OF BULK AT MOST 1048576: true; the input reads as it did. -/
def fnHeavyOrderUptoRow : OpenClaim := { program := "ytdjenclegglmfaa", sum := "a0dbeec19ef1bb0e7a812811d847f7cc371f0b6dbc29f0b5ac3fa2c9cb566430", func := "loop.example/scrutineer/laws.FnHeavyOrder", spec := "fnHeavyOrder", unfollowed := true, recurses := true, apart := false, narrowed := true }
def FnHeavyOrderUptoSaid : Prop := fnHeavyOrderUptoRow.holds Try.pinned (OpenSpec.upto fnHeavyOrderSpec)

/-- 'laws.FnHeavyFew', WHERE WHAT IT READS IS OF BULK AT MOST 1048576: true; the input reads as it did. -/
def fnHeavyFewUptoRow : OpenClaim := { program := "ytdjenclegglmfaa", sum := "a0dbeec19ef1bb0e7a812811d847f7cc371f0b6dbc29f0b5ac3fa2c9cb566430", func := "loop.example/scrutineer/laws.FnHeavyFew", spec := "fnHeavyFew", unfollowed := true, recurses := true, apart := false, narrowed := true }
def FnHeavyFewUptoSaid : Prop := fnHeavyFewUptoRow.holds Try.pinned (OpenSpec.upto fnHeavyFewSpec)

/-- 'laws.FnHeavyMore', WHERE WHAT IT READS IS OF BULK AT MOST 1048576: true; the input reads as it did. -/
def fnHeavyMoreUptoRow : OpenClaim := { program := "ytdjenclegglmfaa", sum := "a0dbeec19ef1bb0e7a812811d847f7cc371f0b6dbc29f0b5ac3fa2c9cb566430", func := "loop.example/scrutineer/laws.FnHeavyMore", spec := "fnHeavyMore", unfollowed := true, recurses := true, apart := false, narrowed := true }
def FnHeavyMoreUptoSaid : Prop := fnHeavyMoreUptoRow.holds Try.pinned (OpenSpec.upto fnHeavyMoreSpec)

/-- 'laws.FnHeavyOnce', WHERE WHAT IT READS IS OF BULK AT MOST 1048576: true; the input reads as it did. -/
def fnHeavyOnceUptoRow : OpenClaim := { program := "ytdjenclegglmfaa", sum := "a0dbeec19ef1bb0e7a812811d847f7cc371f0b6dbc29f0b5ac3fa2c9cb566430", func := "loop.example/scrutineer/laws.FnHeavyOnce", spec := "fnHeavyOnce", unfollowed := true, recurses := true, apart := false, narrowed := true }
def FnHeavyOnceUptoSaid : Prop := fnHeavyOnceUptoRow.holds Try.pinned (OpenSpec.upto fnHeavyOnceSpec)

/-- 'laws.FnHeavySteps', WHERE WHAT IT READS IS OF BULK AT MOST 1048576: true; the input reads as it did. -/
def fnHeavyStepsUptoRow : OpenClaim := { program := "ytdjenclegglmfaa", sum := "a0dbeec19ef1bb0e7a812811d847f7cc371f0b6dbc29f0b5ac3fa2c9cb566430", func := "loop.example/scrutineer/laws.FnHeavySteps", spec := "fnHeavySteps", unfollowed := true, recurses := true, apart := false, narrowed := true }
def FnHeavyStepsUptoSaid : Prop := fnHeavyStepsUptoRow.holds Try.pinned (OpenSpec.upto fnHeavyStepsSpec)

/-- 'laws.FnExactHeavyAll', WHERE WHAT IT READS IS OF BULK AT MOST 1048576: true; the input reads as it did. -/
def fnExactHeavyAllUptoRow : OpenClaim := { program := "ytdjenclegglmfaa", sum := "a0dbeec19ef1bb0e7a812811d847f7cc371f0b6dbc29f0b5ac3fa2c9cb566430", func := "loop.example/scrutineer/laws.FnExactHeavyAll", spec := "fnExactHeavyAll", unfollowed := true, recurses := true, apart := false, narrowed := true }
def FnExactHeavyAllUptoSaid : Prop := fnExactHeavyAllUptoRow.holds Try.pinned (OpenSpec.upto fnExactHeavyAllSpec)

/-- 'laws.FnHeavyAll', WHERE WHAT IT READS IS OF BULK AT MOST 1048576: true; the input reads as it did. -/
def fnHeavyAllUptoRow : OpenClaim := { program := "ytdjenclegglmfaa", sum := "a0dbeec19ef1bb0e7a812811d847f7cc371f0b6dbc29f0b5ac3fa2c9cb566430", func := "loop.example/scrutineer/laws.FnHeavyAll", spec := "fnHeavyAll", unfollowed := true, recurses := true, apart := false, narrowed := true }
def FnHeavyAllUptoSaid : Prop := fnHeavyAllUptoRow.holds Try.pinned (OpenSpec.upto fnHeavyAllSpec)

end Rows
end Go.Proofs.Ytdjenclegglmfaa
