/-
  No cell of these rows narrows 'for every input' (looked for: loops, veiled, ifaces, maps, wideKeys, modest, calm, conditions, laid).
  DERIVED. THE GIVEN ROWS OF THIS SEAT. 12 by the template 'for every input the law returns true; each argument reads behind the call as it read before'; 0 by the template 'total and deterministic' (their statements: YtphinhhiakpalaaTotals.lean).
  GIVEN WITH THE SEED: the statements are not yours to turn. If you find one false, say at which input.
  Laid BY PROGRAM, IN A SANDBOX (cutbox-rows.mjs): the forced cells as the released guide's own fill.sh prints them over the translation a080aca7c841b933… (all of the seat's roots in one cut). By AI agents, Wed Nov 11 2026. No macro, syntax, notation, axiom, sorry.
-/
import Derived.Test.YtphinhhiakpalaaChecked
import GoSem.Claim
import GoSem.ClaimJoined
import GoSem.ClaimMapViews
import Derived.JoinedTies
import Derived.KernelRfl
namespace Go.Proofs.Ytphinhhiakpalaa
/- THE CELL 'sum', in the pinned program and in every row, IS THE sha256 OF THE DUMP (.gsa) THAT YtphinhhiakpalaaProg.lean LOADS. Nothing in Lean hashes anything: it is a label: what it is worth is what the hold of that sum in a sandbox is worth. -/
noncomputable def Try.pinned : Pinned := { name := "ytphinhhiakpalaa", sum := "a080aca7c841b933c69b42b7aed46814253a155dc50e6886a33bfc1a5ea62687", checked := Try.checked }
namespace Rows
def none {H : Type} : Left H := { results := [], args := [] }

/-- 'laws.FnExactFracOk': WHATEVER THE INPUT: true; the input reads as it did. -/
def fnExactFracOkSpec : ChangeSpec := { name := "fnExactFracOk", fn := fun _ => fun
  | [d] => { results := [.lit (.bool true)], args := [d] }
  | _ => none }
def fnExactFracOkRow : OpenClaim := { program := "ytphinhhiakpalaa", sum := "a080aca7c841b933c69b42b7aed46814253a155dc50e6886a33bfc1a5ea62687", func := "loop.example/scrutineer/laws.FnExactFracOk", spec := "fnExactFracOk", apart := false }
def FnExactFracOkSaid : Prop := fnExactFracOkRow.holds Try.pinned (OpenSpec.ofChange fnExactFracOkSpec)

/-- ITS FALSE NEIGHBOUR: 'it returns false'. Refute it at one input. -/
def fnExactFracOkWrong : ChangeSpec := { name := "fnExactFracOk", fn := fun _ => fun
  | [d] => { results := [.lit (.bool false)], args := [d] }
  | _ => none }
def FnExactFracOkWrongFalsely : Prop := fnExactFracOkRow.holds Try.pinned (OpenSpec.ofChange fnExactFracOkWrong)

/-- 'laws.FnFracForm': WHATEVER THE INPUT: true; the input reads as it did. -/
def fnFracFormSpec : ChangeSpec := { name := "fnFracForm", fn := fun _ => fun
  | [d] => { results := [.lit (.bool true)], args := [d] }
  | _ => none }
def fnFracFormRow : OpenClaim := { program := "ytphinhhiakpalaa", sum := "a080aca7c841b933c69b42b7aed46814253a155dc50e6886a33bfc1a5ea62687", func := "loop.example/scrutineer/laws.FnFracForm", spec := "fnFracForm", apart := false }
def FnFracFormSaid : Prop := fnFracFormRow.holds Try.pinned (OpenSpec.ofChange fnFracFormSpec)

/-- ITS FALSE NEIGHBOUR: 'it returns false'. Refute it at one input. -/
def fnFracFormWrong : ChangeSpec := { name := "fnFracForm", fn := fun _ => fun
  | [d] => { results := [.lit (.bool false)], args := [d] }
  | _ => none }
def FnFracFormWrongFalsely : Prop := fnFracFormRow.holds Try.pinned (OpenSpec.ofChange fnFracFormWrong)

/-- 'laws.FnExactFracOf': WHATEVER THE INPUT: true; the input reads as it did. -/
def fnExactFracOfSpec : ChangeSpec := { name := "fnExactFracOf", fn := fun _ => fun
  | [d1, d2] => { results := [.lit (.bool true)], args := [d1, d2] }
  | _ => none }
def fnExactFracOfRow : OpenClaim := { program := "ytphinhhiakpalaa", sum := "a080aca7c841b933c69b42b7aed46814253a155dc50e6886a33bfc1a5ea62687", func := "loop.example/scrutineer/laws.FnExactFracOf", spec := "fnExactFracOf", apart := false }
def FnExactFracOfSaid : Prop := fnExactFracOfRow.holds Try.pinned (OpenSpec.ofChange fnExactFracOfSpec)

/-- ITS FALSE NEIGHBOUR: 'it returns false'. Refute it at one input. -/
def fnExactFracOfWrong : ChangeSpec := { name := "fnExactFracOf", fn := fun _ => fun
  | [d1, d2] => { results := [.lit (.bool false)], args := [d1, d2] }
  | _ => none }
def FnExactFracOfWrongFalsely : Prop := fnExactFracOfRow.holds Try.pinned (OpenSpec.ofChange fnExactFracOfWrong)

/-- 'laws.FnExactFracSum': WHATEVER THE INPUT: true; the input reads as it did. -/
def fnExactFracSumSpec : ChangeSpec := { name := "fnExactFracSum", fn := fun _ => fun
  | [d1, d2] => { results := [.lit (.bool true)], args := [d1, d2] }
  | _ => none }
def fnExactFracSumRow : OpenClaim := { program := "ytphinhhiakpalaa", sum := "a080aca7c841b933c69b42b7aed46814253a155dc50e6886a33bfc1a5ea62687", func := "loop.example/scrutineer/laws.FnExactFracSum", spec := "fnExactFracSum", apart := false }
def FnExactFracSumSaid : Prop := fnExactFracSumRow.holds Try.pinned (OpenSpec.ofChange fnExactFracSumSpec)

/-- ITS FALSE NEIGHBOUR: 'it returns false'. Refute it at one input. -/
def fnExactFracSumWrong : ChangeSpec := { name := "fnExactFracSum", fn := fun _ => fun
  | [d1, d2] => { results := [.lit (.bool false)], args := [d1, d2] }
  | _ => none }
def FnExactFracSumWrongFalsely : Prop := fnExactFracSumRow.holds Try.pinned (OpenSpec.ofChange fnExactFracSumWrong)

/-- 'laws.FnFracOf': WHATEVER THE INPUT: true; the input reads as it did. -/
def fnFracOfSpec : ChangeSpec := { name := "fnFracOf", fn := fun _ => fun
  | [d1, d2] => { results := [.lit (.bool true)], args := [d1, d2] }
  | _ => none }
def fnFracOfRow : OpenClaim := { program := "ytphinhhiakpalaa", sum := "a080aca7c841b933c69b42b7aed46814253a155dc50e6886a33bfc1a5ea62687", func := "loop.example/scrutineer/laws.FnFracOf", spec := "fnFracOf", apart := false }
def FnFracOfSaid : Prop := fnFracOfRow.holds Try.pinned (OpenSpec.ofChange fnFracOfSpec)

/-- ITS FALSE NEIGHBOUR: 'it returns false'. Refute it at one input. -/
def fnFracOfWrong : ChangeSpec := { name := "fnFracOf", fn := fun _ => fun
  | [d1, d2] => { results := [.lit (.bool false)], args := [d1, d2] }
  | _ => none }
def FnFracOfWrongFalsely : Prop := fnFracOfRow.holds Try.pinned (OpenSpec.ofChange fnFracOfWrong)

/-- 'laws.FnExactFracCmp': WHATEVER THE INPUT: true; the input reads as it did. -/
def fnExactFracCmpSpec : ChangeSpec := { name := "fnExactFracCmp", fn := fun _ => fun
  | [d1, d2] => { results := [.lit (.bool true)], args := [d1, d2] }
  | _ => none }
def fnExactFracCmpRow : OpenClaim := { program := "ytphinhhiakpalaa", sum := "a080aca7c841b933c69b42b7aed46814253a155dc50e6886a33bfc1a5ea62687", func := "loop.example/scrutineer/laws.FnExactFracCmp", spec := "fnExactFracCmp", apart := false }
def FnExactFracCmpSaid : Prop := fnExactFracCmpRow.holds Try.pinned (OpenSpec.ofChange fnExactFracCmpSpec)

/-- ITS FALSE NEIGHBOUR: 'it returns false'. Refute it at one input. -/
def fnExactFracCmpWrong : ChangeSpec := { name := "fnExactFracCmp", fn := fun _ => fun
  | [d1, d2] => { results := [.lit (.bool false)], args := [d1, d2] }
  | _ => none }
def FnExactFracCmpWrongFalsely : Prop := fnExactFracCmpRow.holds Try.pinned (OpenSpec.ofChange fnExactFracCmpWrong)

/-- 'laws.FnFracThree': WHATEVER THE INPUT: true; the input reads as it did. -/
def fnFracThreeSpec : ChangeSpec := { name := "fnFracThree", fn := fun _ => fun
  | [d1, d2] => { results := [.lit (.bool true)], args := [d1, d2] }
  | _ => none }
def fnFracThreeRow : OpenClaim := { program := "ytphinhhiakpalaa", sum := "a080aca7c841b933c69b42b7aed46814253a155dc50e6886a33bfc1a5ea62687", func := "loop.example/scrutineer/laws.FnFracThree", spec := "fnFracThree", apart := false }
def FnFracThreeSaid : Prop := fnFracThreeRow.holds Try.pinned (OpenSpec.ofChange fnFracThreeSpec)

/-- ITS FALSE NEIGHBOUR: 'it returns false'. Refute it at one input. -/
def fnFracThreeWrong : ChangeSpec := { name := "fnFracThree", fn := fun _ => fun
  | [d1, d2] => { results := [.lit (.bool false)], args := [d1, d2] }
  | _ => none }
def FnFracThreeWrongFalsely : Prop := fnFracThreeRow.holds Try.pinned (OpenSpec.ofChange fnFracThreeWrong)

/-- 'laws.FnFracTwice': WHATEVER THE INPUT: true; the input reads as it did. -/
def fnFracTwiceSpec : ChangeSpec := { name := "fnFracTwice", fn := fun _ => fun
  | [d] => { results := [.lit (.bool true)], args := [d] }
  | _ => none }
def fnFracTwiceRow : OpenClaim := { program := "ytphinhhiakpalaa", sum := "a080aca7c841b933c69b42b7aed46814253a155dc50e6886a33bfc1a5ea62687", func := "loop.example/scrutineer/laws.FnFracTwice", spec := "fnFracTwice", apart := false }
def FnFracTwiceSaid : Prop := fnFracTwiceRow.holds Try.pinned (OpenSpec.ofChange fnFracTwiceSpec)

/-- ITS FALSE NEIGHBOUR: 'it returns false'. Refute it at one input. -/
def fnFracTwiceWrong : ChangeSpec := { name := "fnFracTwice", fn := fun _ => fun
  | [d] => { results := [.lit (.bool false)], args := [d] }
  | _ => none }
def FnFracTwiceWrongFalsely : Prop := fnFracTwiceRow.holds Try.pinned (OpenSpec.ofChange fnFracTwiceWrong)

/-- 'laws.FnFracSum': WHATEVER THE INPUT: true; the input reads as it did. -/
def fnFracSumSpec : ChangeSpec := { name := "fnFracSum", fn := fun _ => fun
  | [d] => { results := [.lit (.bool true)], args := [d] }
  | _ => none }
def fnFracSumRow : OpenClaim := { program := "ytphinhhiakpalaa", sum := "a080aca7c841b933c69b42b7aed46814253a155dc50e6886a33bfc1a5ea62687", func := "loop.example/scrutineer/laws.FnFracSum", spec := "fnFracSum", apart := false }
def FnFracSumSaid : Prop := fnFracSumRow.holds Try.pinned (OpenSpec.ofChange fnFracSumSpec)

/-- ITS FALSE NEIGHBOUR: 'it returns false'. Refute it at one input. -/
def fnFracSumWrong : ChangeSpec := { name := "fnFracSum", fn := fun _ => fun
  | [d] => { results := [.lit (.bool false)], args := [d] }
  | _ => none }
def FnFracSumWrongFalsely : Prop := fnFracSumRow.holds Try.pinned (OpenSpec.ofChange fnFracSumWrong)

/-- 'laws.FnFracOrder': WHATEVER THE INPUT: true; the input reads as it did. -/
def fnFracOrderSpec : ChangeSpec := { name := "fnFracOrder", fn := fun _ => fun
  | [d1, d2] => { results := [.lit (.bool true)], args := [d1, d2] }
  | _ => none }
def fnFracOrderRow : OpenClaim := { program := "ytphinhhiakpalaa", sum := "a080aca7c841b933c69b42b7aed46814253a155dc50e6886a33bfc1a5ea62687", func := "loop.example/scrutineer/laws.FnFracOrder", spec := "fnFracOrder", apart := false }
def FnFracOrderSaid : Prop := fnFracOrderRow.holds Try.pinned (OpenSpec.ofChange fnFracOrderSpec)

/-- ITS FALSE NEIGHBOUR: 'it returns false'. Refute it at one input. -/
def fnFracOrderWrong : ChangeSpec := { name := "fnFracOrder", fn := fun _ => fun
  | [d1, d2] => { results := [.lit (.bool false)], args := [d1, d2] }
  | _ => none }
def FnFracOrderWrongFalsely : Prop := fnFracOrderRow.holds Try.pinned (OpenSpec.ofChange fnFracOrderWrong)

/-- 'laws.FnFracCmp': WHATEVER THE INPUT: true; the input reads as it did. -/
def fnFracCmpSpec : ChangeSpec := { name := "fnFracCmp", fn := fun _ => fun
  | [d1, d2] => { results := [.lit (.bool true)], args := [d1, d2] }
  | _ => none }
def fnFracCmpRow : OpenClaim := { program := "ytphinhhiakpalaa", sum := "a080aca7c841b933c69b42b7aed46814253a155dc50e6886a33bfc1a5ea62687", func := "loop.example/scrutineer/laws.FnFracCmp", spec := "fnFracCmp", apart := false }
def FnFracCmpSaid : Prop := fnFracCmpRow.holds Try.pinned (OpenSpec.ofChange fnFracCmpSpec)

/-- ITS FALSE NEIGHBOUR: 'it returns false'. Refute it at one input. -/
def fnFracCmpWrong : ChangeSpec := { name := "fnFracCmp", fn := fun _ => fun
  | [d1, d2] => { results := [.lit (.bool false)], args := [d1, d2] }
  | _ => none }
def FnFracCmpWrongFalsely : Prop := fnFracCmpRow.holds Try.pinned (OpenSpec.ofChange fnFracCmpWrong)

/-- 'laws.FnExactAskOk': WHATEVER THE INPUT: true; the input reads as it did. -/
def fnExactAskOkSpec : ChangeSpec := { name := "fnExactAskOk", fn := fun _ => fun
  | [d] => { results := [.lit (.bool true)], args := [d] }
  | _ => none }
def fnExactAskOkRow : OpenClaim := { program := "ytphinhhiakpalaa", sum := "a080aca7c841b933c69b42b7aed46814253a155dc50e6886a33bfc1a5ea62687", func := "loop.example/scrutineer/laws.FnExactAskOk", spec := "fnExactAskOk", apart := false }
def FnExactAskOkSaid : Prop := fnExactAskOkRow.holds Try.pinned (OpenSpec.ofChange fnExactAskOkSpec)

/-- ITS FALSE NEIGHBOUR: 'it returns false'. Refute it at one input. -/
def fnExactAskOkWrong : ChangeSpec := { name := "fnExactAskOk", fn := fun _ => fun
  | [d] => { results := [.lit (.bool false)], args := [d] }
  | _ => none }
def FnExactAskOkWrongFalsely : Prop := fnExactAskOkRow.holds Try.pinned (OpenSpec.ofChange fnExactAskOkWrong)

/- THE SECOND FORM. 'bulk': how many values and letters a reading holds, each counted each time it is reached (what is shared counts as often as it is met; a slice's spare places count too). A statement '..UptoSaid' is the law's where the arguments, and the package variables that the reading takes, are together of bulk at most 1048576: NARROWER than '..Said'. Prove '..Said' where nothing that the law and all that it calls make is longer than what came in: it says more and counts as full. Else prove '..UptoSaid'. A law counts once. -/
mutual
def uptoBulk {H : Type} : DataW H → Nat
  | .lit (.string bytes) => bytes.length + 1
  | .lit _ => 1
  | .nil => 1
  | .ptr d => uptoBulk d + 1
  | .slice elems spare => uptoBulkAll elems + uptoBulkAll spare + 1
  | .agg parts => uptoBulkAll parts + 1
  | .iface _ d => uptoBulk d + 1
  | .map entries => uptoBulkEntries entries + 1
  | .held _ => 1
def uptoBulkAll {H : Type} : List (DataW H) → Nat
  | [] => 0
  | d :: r => uptoBulk d + uptoBulkAll r
def uptoBulkEntries {H : Type} : List (Lit × DataW H) → Nat
  | [] => 0
  | x :: r => uptoBulkEntry x + uptoBulkEntries r
def uptoBulkEntry {H : Type} : Lit × DataW H → Nat
  | (.string bytes, d) => bytes.length + uptoBulk d + 1
  | (_, d) => uptoBulk d + 1
 end
def uptoSmall : (H : Type) → List (DataW H) → Bool := fun _ ds => decide (uptoBulkAll ds ≤ 1048576)
def OpenSpec.upto (s : _root_.Go.ChangeSpec) : _root_.Go.OpenSpec := { _root_.Go.OpenSpec.ofChange s with cond := some uptoSmall }

/-- 'laws.FnExactFracOk', WHERE WHAT IT READS IS OF BULK AT MOST 1048576: true; the input reads as it did. -/
def fnExactFracOkUptoRow : OpenClaim := { program := "ytphinhhiakpalaa", sum := "a080aca7c841b933c69b42b7aed46814253a155dc50e6886a33bfc1a5ea62687", func := "loop.example/scrutineer/laws.FnExactFracOk", spec := "fnExactFracOk", apart := false, narrowed := true }
def FnExactFracOkUptoSaid : Prop := fnExactFracOkUptoRow.holds Try.pinned (OpenSpec.upto fnExactFracOkSpec)

/-- 'laws.FnFracForm', WHERE WHAT IT READS IS OF BULK AT MOST 1048576: true; the input reads as it did. -/
def fnFracFormUptoRow : OpenClaim := { program := "ytphinhhiakpalaa", sum := "a080aca7c841b933c69b42b7aed46814253a155dc50e6886a33bfc1a5ea62687", func := "loop.example/scrutineer/laws.FnFracForm", spec := "fnFracForm", apart := false, narrowed := true }
def FnFracFormUptoSaid : Prop := fnFracFormUptoRow.holds Try.pinned (OpenSpec.upto fnFracFormSpec)

/-- 'laws.FnExactFracOf', WHERE WHAT IT READS IS OF BULK AT MOST 1048576: true; the input reads as it did. -/
def fnExactFracOfUptoRow : OpenClaim := { program := "ytphinhhiakpalaa", sum := "a080aca7c841b933c69b42b7aed46814253a155dc50e6886a33bfc1a5ea62687", func := "loop.example/scrutineer/laws.FnExactFracOf", spec := "fnExactFracOf", apart := false, narrowed := true }
def FnExactFracOfUptoSaid : Prop := fnExactFracOfUptoRow.holds Try.pinned (OpenSpec.upto fnExactFracOfSpec)

/-- 'laws.FnExactFracSum', WHERE WHAT IT READS IS OF BULK AT MOST 1048576: true; the input reads as it did. -/
def fnExactFracSumUptoRow : OpenClaim := { program := "ytphinhhiakpalaa", sum := "a080aca7c841b933c69b42b7aed46814253a155dc50e6886a33bfc1a5ea62687", func := "loop.example/scrutineer/laws.FnExactFracSum", spec := "fnExactFracSum", apart := false, narrowed := true }
def FnExactFracSumUptoSaid : Prop := fnExactFracSumUptoRow.holds Try.pinned (OpenSpec.upto fnExactFracSumSpec)

/-- 'laws.FnFracOf', WHERE WHAT IT READS IS OF BULK AT MOST 1048576: true; the input reads as it did. -/
def fnFracOfUptoRow : OpenClaim := { program := "ytphinhhiakpalaa", sum := "a080aca7c841b933c69b42b7aed46814253a155dc50e6886a33bfc1a5ea62687", func := "loop.example/scrutineer/laws.FnFracOf", spec := "fnFracOf", apart := false, narrowed := true }
def FnFracOfUptoSaid : Prop := fnFracOfUptoRow.holds Try.pinned (OpenSpec.upto fnFracOfSpec)

/-- 'laws.FnExactFracCmp', WHERE WHAT IT READS IS OF BULK AT MOST 1048576: true; the input reads as it did. -/
def fnExactFracCmpUptoRow : OpenClaim := { program := "ytphinhhiakpalaa", sum := "a080aca7c841b933c69b42b7aed46814253a155dc50e6886a33bfc1a5ea62687", func := "loop.example/scrutineer/laws.FnExactFracCmp", spec := "fnExactFracCmp", apart := false, narrowed := true }
def FnExactFracCmpUptoSaid : Prop := fnExactFracCmpUptoRow.holds Try.pinned (OpenSpec.upto fnExactFracCmpSpec)

/-- 'laws.FnFracThree', WHERE WHAT IT READS IS OF BULK AT MOST 1048576: true; the input reads as it did. -/
def fnFracThreeUptoRow : OpenClaim := { program := "ytphinhhiakpalaa", sum := "a080aca7c841b933c69b42b7aed46814253a155dc50e6886a33bfc1a5ea62687", func := "loop.example/scrutineer/laws.FnFracThree", spec := "fnFracThree", apart := false, narrowed := true }
def FnFracThreeUptoSaid : Prop := fnFracThreeUptoRow.holds Try.pinned (OpenSpec.upto fnFracThreeSpec)

/-- 'laws.FnFracTwice', WHERE WHAT IT READS IS OF BULK AT MOST 1048576: true; the input reads as it did. -/
def fnFracTwiceUptoRow : OpenClaim := { program := "ytphinhhiakpalaa", sum := "a080aca7c841b933c69b42b7aed46814253a155dc50e6886a33bfc1a5ea62687", func := "loop.example/scrutineer/laws.FnFracTwice", spec := "fnFracTwice", apart := false, narrowed := true }
def FnFracTwiceUptoSaid : Prop := fnFracTwiceUptoRow.holds Try.pinned (OpenSpec.upto fnFracTwiceSpec)

/-- 'laws.FnFracSum', WHERE WHAT IT READS IS OF BULK AT MOST 1048576: true; the input reads as it did. -/
def fnFracSumUptoRow : OpenClaim := { program := "ytphinhhiakpalaa", sum := "a080aca7c841b933c69b42b7aed46814253a155dc50e6886a33bfc1a5ea62687", func := "loop.example/scrutineer/laws.FnFracSum", spec := "fnFracSum", apart := false, narrowed := true }
def FnFracSumUptoSaid : Prop := fnFracSumUptoRow.holds Try.pinned (OpenSpec.upto fnFracSumSpec)

/-- 'laws.FnFracOrder', WHERE WHAT IT READS IS OF BULK AT MOST 1048576: true; the input reads as it did. -/
def fnFracOrderUptoRow : OpenClaim := { program := "ytphinhhiakpalaa", sum := "a080aca7c841b933c69b42b7aed46814253a155dc50e6886a33bfc1a5ea62687", func := "loop.example/scrutineer/laws.FnFracOrder", spec := "fnFracOrder", apart := false, narrowed := true }
def FnFracOrderUptoSaid : Prop := fnFracOrderUptoRow.holds Try.pinned (OpenSpec.upto fnFracOrderSpec)

/-- 'laws.FnFracCmp', WHERE WHAT IT READS IS OF BULK AT MOST 1048576: true; the input reads as it did. -/
def fnFracCmpUptoRow : OpenClaim := { program := "ytphinhhiakpalaa", sum := "a080aca7c841b933c69b42b7aed46814253a155dc50e6886a33bfc1a5ea62687", func := "loop.example/scrutineer/laws.FnFracCmp", spec := "fnFracCmp", apart := false, narrowed := true }
def FnFracCmpUptoSaid : Prop := fnFracCmpUptoRow.holds Try.pinned (OpenSpec.upto fnFracCmpSpec)

/-- 'laws.FnExactAskOk', WHERE WHAT IT READS IS OF BULK AT MOST 1048576: true; the input reads as it did. -/
def fnExactAskOkUptoRow : OpenClaim := { program := "ytphinhhiakpalaa", sum := "a080aca7c841b933c69b42b7aed46814253a155dc50e6886a33bfc1a5ea62687", func := "loop.example/scrutineer/laws.FnExactAskOk", spec := "fnExactAskOk", apart := false, narrowed := true }
def FnExactAskOkUptoSaid : Prop := fnExactAskOkUptoRow.holds Try.pinned (OpenSpec.upto fnExactAskOkSpec)

end Rows
end Go.Proofs.Ytphinhhiakpalaa
