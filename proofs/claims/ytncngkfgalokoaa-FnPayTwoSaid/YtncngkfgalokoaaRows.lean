/-
  No cell of these rows narrows 'for every input' (looked for: loops, veiled, ifaces, maps, wideKeys, modest, calm, conditions, laid).
  DERIVED. THE GIVEN ROWS OF THIS SEAT. 11 by the template 'for every input the law returns true; each argument reads behind the call as it read before'; 0 by the template 'total and deterministic' (their statements: YtncngkfgalokoaaTotals.lean).
  GIVEN WITH THE SEED: the statements are not yours to turn. If you find one false, say at which input.
  Laid BY PROGRAM, IN A SANDBOX (cutbox-rows.mjs): the forced cells as the released guide's own fill.sh prints them over the translation a954107012b9b5ab… (all of the seat's roots in one cut). By AI agents, Wed Nov 11 2026. No macro, syntax, notation, axiom, sorry.
-/
import Derived.Test.YtncngkfgalokoaaChecked
import GoSem.Claim
import GoSem.ClaimJoined
import GoSem.ClaimMapViews
import Derived.JoinedTies
import Derived.KernelRfl
namespace Go.Proofs.Ytncngkfgalokoaa
/- THE CELL 'sum', in the pinned program and in every row, IS THE sha256 OF THE DUMP (.gsa) THAT YtncngkfgalokoaaProg.lean LOADS. Nothing in Lean hashes anything: it is a label: what it is worth is what the hold of that sum in a sandbox is worth. -/
noncomputable def Try.pinned : Pinned := { name := "ytncngkfgalokoaa", sum := "a954107012b9b5ab9aee8517ced3a5734e6ecd62018422c179ada1dbd735dc3b", checked := Try.checked }
namespace Rows
def none {H : Type} : Left H := { results := [], args := [] }

/-- 'laws.FnExactLedgerOk': WHATEVER THE INPUT: true; the input reads as it did. -/
def fnExactLedgerOkSpec : ChangeSpec := { name := "fnExactLedgerOk", fn := fun _ => fun
  | [d] => { results := [.lit (.bool true)], args := [d] }
  | _ => none }
def fnExactLedgerOkRow : OpenClaim := { program := "ytncngkfgalokoaa", sum := "a954107012b9b5ab9aee8517ced3a5734e6ecd62018422c179ada1dbd735dc3b", func := "loop.example/scrutineer/laws.FnExactLedgerOk", spec := "fnExactLedgerOk", unfollowed := true, recurses := true, apart := false }
def FnExactLedgerOkSaid : Prop := fnExactLedgerOkRow.holds Try.pinned (OpenSpec.ofChange fnExactLedgerOkSpec)

/-- ITS FALSE NEIGHBOUR: 'it returns false'. Refute it at one input. -/
def fnExactLedgerOkWrong : ChangeSpec := { name := "fnExactLedgerOk", fn := fun _ => fun
  | [d] => { results := [.lit (.bool false)], args := [d] }
  | _ => none }
def FnExactLedgerOkWrongFalsely : Prop := fnExactLedgerOkRow.holds Try.pinned (OpenSpec.ofChange fnExactLedgerOkWrong)

/-- 'laws.FnLedgerForm': WHATEVER THE INPUT: true; the input reads as it did. -/
def fnLedgerFormSpec : ChangeSpec := { name := "fnLedgerForm", fn := fun _ => fun
  | [d] => { results := [.lit (.bool true)], args := [d] }
  | _ => none }
def fnLedgerFormRow : OpenClaim := { program := "ytncngkfgalokoaa", sum := "a954107012b9b5ab9aee8517ced3a5734e6ecd62018422c179ada1dbd735dc3b", func := "loop.example/scrutineer/laws.FnLedgerForm", spec := "fnLedgerForm", unfollowed := true, recurses := true, apart := false }
def FnLedgerFormSaid : Prop := fnLedgerFormRow.holds Try.pinned (OpenSpec.ofChange fnLedgerFormSpec)

/-- ITS FALSE NEIGHBOUR: 'it returns false'. Refute it at one input. -/
def fnLedgerFormWrong : ChangeSpec := { name := "fnLedgerForm", fn := fun _ => fun
  | [d] => { results := [.lit (.bool false)], args := [d] }
  | _ => none }
def FnLedgerFormWrongFalsely : Prop := fnLedgerFormRow.holds Try.pinned (OpenSpec.ofChange fnLedgerFormWrong)

/-- 'laws.FnExactLedgerSum': WHATEVER THE INPUT: true; the input reads as it did. -/
def fnExactLedgerSumSpec : ChangeSpec := { name := "fnExactLedgerSum", fn := fun _ => fun
  | [d] => { results := [.lit (.bool true)], args := [d] }
  | _ => none }
def fnExactLedgerSumRow : OpenClaim := { program := "ytncngkfgalokoaa", sum := "a954107012b9b5ab9aee8517ced3a5734e6ecd62018422c179ada1dbd735dc3b", func := "loop.example/scrutineer/laws.FnExactLedgerSum", spec := "fnExactLedgerSum", unfollowed := true, recurses := true, apart := false }
def FnExactLedgerSumSaid : Prop := fnExactLedgerSumRow.holds Try.pinned (OpenSpec.ofChange fnExactLedgerSumSpec)

/-- ITS FALSE NEIGHBOUR: 'it returns false'. Refute it at one input. -/
def fnExactLedgerSumWrong : ChangeSpec := { name := "fnExactLedgerSum", fn := fun _ => fun
  | [d] => { results := [.lit (.bool false)], args := [d] }
  | _ => none }
def FnExactLedgerSumWrongFalsely : Prop := fnExactLedgerSumRow.holds Try.pinned (OpenSpec.ofChange fnExactLedgerSumWrong)

/-- 'laws.FnLedgerSum': WHATEVER THE INPUT: true; the input reads as it did. -/
def fnLedgerSumSpec : ChangeSpec := { name := "fnLedgerSum", fn := fun _ => fun
  | [d] => { results := [.lit (.bool true)], args := [d] }
  | _ => none }
def fnLedgerSumRow : OpenClaim := { program := "ytncngkfgalokoaa", sum := "a954107012b9b5ab9aee8517ced3a5734e6ecd62018422c179ada1dbd735dc3b", func := "loop.example/scrutineer/laws.FnLedgerSum", spec := "fnLedgerSum", unfollowed := true, recurses := true, apart := false }
def FnLedgerSumSaid : Prop := fnLedgerSumRow.holds Try.pinned (OpenSpec.ofChange fnLedgerSumSpec)

/-- ITS FALSE NEIGHBOUR: 'it returns false'. Refute it at one input. -/
def fnLedgerSumWrong : ChangeSpec := { name := "fnLedgerSum", fn := fun _ => fun
  | [d] => { results := [.lit (.bool false)], args := [d] }
  | _ => none }
def FnLedgerSumWrongFalsely : Prop := fnLedgerSumRow.holds Try.pinned (OpenSpec.ofChange fnLedgerSumWrong)

/-- 'laws.FnPayNot': WHATEVER THE INPUT: true; the input reads as it did. -/
def fnPayNotSpec : ChangeSpec := { name := "fnPayNot", fn := fun _ => fun
  | [d] => { results := [.lit (.bool true)], args := [d] }
  | _ => none }
def fnPayNotRow : OpenClaim := { program := "ytncngkfgalokoaa", sum := "a954107012b9b5ab9aee8517ced3a5734e6ecd62018422c179ada1dbd735dc3b", func := "loop.example/scrutineer/laws.FnPayNot", spec := "fnPayNot", unfollowed := true, recurses := true, apart := false }
def FnPayNotSaid : Prop := fnPayNotRow.holds Try.pinned (OpenSpec.ofChange fnPayNotSpec)

/-- ITS FALSE NEIGHBOUR: 'it returns false'. Refute it at one input. -/
def fnPayNotWrong : ChangeSpec := { name := "fnPayNot", fn := fun _ => fun
  | [d] => { results := [.lit (.bool false)], args := [d] }
  | _ => none }
def FnPayNotWrongFalsely : Prop := fnPayNotRow.holds Try.pinned (OpenSpec.ofChange fnPayNotWrong)

/-- 'laws.FnPaySum': WHATEVER THE INPUT: true; the input reads as it did. -/
def fnPaySumSpec : ChangeSpec := { name := "fnPaySum", fn := fun _ => fun
  | [d] => { results := [.lit (.bool true)], args := [d] }
  | _ => none }
def fnPaySumRow : OpenClaim := { program := "ytncngkfgalokoaa", sum := "a954107012b9b5ab9aee8517ced3a5734e6ecd62018422c179ada1dbd735dc3b", func := "loop.example/scrutineer/laws.FnPaySum", spec := "fnPaySum", unfollowed := true, recurses := true, apart := false }
def FnPaySumSaid : Prop := fnPaySumRow.holds Try.pinned (OpenSpec.ofChange fnPaySumSpec)

/-- ITS FALSE NEIGHBOUR: 'it returns false'. Refute it at one input. -/
def fnPaySumWrong : ChangeSpec := { name := "fnPaySum", fn := fun _ => fun
  | [d] => { results := [.lit (.bool false)], args := [d] }
  | _ => none }
def FnPaySumWrongFalsely : Prop := fnPaySumRow.holds Try.pinned (OpenSpec.ofChange fnPaySumWrong)

/-- 'laws.FnExactLedgerCan': WHATEVER THE INPUT: true; the input reads as it did. -/
def fnExactLedgerCanSpec : ChangeSpec := { name := "fnExactLedgerCan", fn := fun _ => fun
  | [d1, d2] => { results := [.lit (.bool true)], args := [d1, d2] }
  | _ => none }
def fnExactLedgerCanRow : OpenClaim := { program := "ytncngkfgalokoaa", sum := "a954107012b9b5ab9aee8517ced3a5734e6ecd62018422c179ada1dbd735dc3b", func := "loop.example/scrutineer/laws.FnExactLedgerCan", spec := "fnExactLedgerCan", unfollowed := true, recurses := true, apart := false }
def FnExactLedgerCanSaid : Prop := fnExactLedgerCanRow.holds Try.pinned (OpenSpec.ofChange fnExactLedgerCanSpec)

/-- ITS FALSE NEIGHBOUR: 'it returns false'. Refute it at one input. -/
def fnExactLedgerCanWrong : ChangeSpec := { name := "fnExactLedgerCan", fn := fun _ => fun
  | [d1, d2] => { results := [.lit (.bool false)], args := [d1, d2] }
  | _ => none }
def FnExactLedgerCanWrongFalsely : Prop := fnExactLedgerCanRow.holds Try.pinned (OpenSpec.ofChange fnExactLedgerCanWrong)

/-- 'laws.FnPay': WHATEVER THE INPUT: true; the input reads as it did. -/
def fnPaySpec : ChangeSpec := { name := "fnPay", fn := fun _ => fun
  | [d] => { results := [.lit (.bool true)], args := [d] }
  | _ => none }
def fnPayRow : OpenClaim := { program := "ytncngkfgalokoaa", sum := "a954107012b9b5ab9aee8517ced3a5734e6ecd62018422c179ada1dbd735dc3b", func := "loop.example/scrutineer/laws.FnPay", spec := "fnPay", unfollowed := true, recurses := true, apart := false }
def FnPaySaid : Prop := fnPayRow.holds Try.pinned (OpenSpec.ofChange fnPaySpec)

/-- ITS FALSE NEIGHBOUR: 'it returns false'. Refute it at one input. -/
def fnPayWrong : ChangeSpec := { name := "fnPay", fn := fun _ => fun
  | [d] => { results := [.lit (.bool false)], args := [d] }
  | _ => none }
def FnPayWrongFalsely : Prop := fnPayRow.holds Try.pinned (OpenSpec.ofChange fnPayWrong)

/-- 'laws.FnLedgerCan': WHATEVER THE INPUT: true; the input reads as it did. -/
def fnLedgerCanSpec : ChangeSpec := { name := "fnLedgerCan", fn := fun _ => fun
  | [d1, d2] => { results := [.lit (.bool true)], args := [d1, d2] }
  | _ => none }
def fnLedgerCanRow : OpenClaim := { program := "ytncngkfgalokoaa", sum := "a954107012b9b5ab9aee8517ced3a5734e6ecd62018422c179ada1dbd735dc3b", func := "loop.example/scrutineer/laws.FnLedgerCan", spec := "fnLedgerCan", unfollowed := true, recurses := true, apart := false }
def FnLedgerCanSaid : Prop := fnLedgerCanRow.holds Try.pinned (OpenSpec.ofChange fnLedgerCanSpec)

/-- ITS FALSE NEIGHBOUR: 'it returns false'. Refute it at one input. -/
def fnLedgerCanWrong : ChangeSpec := { name := "fnLedgerCan", fn := fun _ => fun
  | [d1, d2] => { results := [.lit (.bool false)], args := [d1, d2] }
  | _ => none }
def FnLedgerCanWrongFalsely : Prop := fnLedgerCanRow.holds Try.pinned (OpenSpec.ofChange fnLedgerCanWrong)

/-- 'laws.FnLedgerCap': WHATEVER THE INPUT: true; the input reads as it did. -/
def fnLedgerCapSpec : ChangeSpec := { name := "fnLedgerCap", fn := fun _ => fun
  | [d1, d2] => { results := [.lit (.bool true)], args := [d1, d2] }
  | _ => none }
def fnLedgerCapRow : OpenClaim := { program := "ytncngkfgalokoaa", sum := "a954107012b9b5ab9aee8517ced3a5734e6ecd62018422c179ada1dbd735dc3b", func := "loop.example/scrutineer/laws.FnLedgerCap", spec := "fnLedgerCap", unfollowed := true, recurses := true, apart := false }
def FnLedgerCapSaid : Prop := fnLedgerCapRow.holds Try.pinned (OpenSpec.ofChange fnLedgerCapSpec)

/-- ITS FALSE NEIGHBOUR: 'it returns false'. Refute it at one input. -/
def fnLedgerCapWrong : ChangeSpec := { name := "fnLedgerCap", fn := fun _ => fun
  | [d1, d2] => { results := [.lit (.bool false)], args := [d1, d2] }
  | _ => none }
def FnLedgerCapWrongFalsely : Prop := fnLedgerCapRow.holds Try.pinned (OpenSpec.ofChange fnLedgerCapWrong)

/-- 'laws.FnPayTwo': WHATEVER THE INPUT: true; the input reads as it did. -/
def fnPayTwoSpec : ChangeSpec := { name := "fnPayTwo", fn := fun _ => fun
  | [d1, d2] => { results := [.lit (.bool true)], args := [d1, d2] }
  | _ => none }
def fnPayTwoRow : OpenClaim := { program := "ytncngkfgalokoaa", sum := "a954107012b9b5ab9aee8517ced3a5734e6ecd62018422c179ada1dbd735dc3b", func := "loop.example/scrutineer/laws.FnPayTwo", spec := "fnPayTwo", unfollowed := true, recurses := true, apart := false }
def FnPayTwoSaid : Prop := fnPayTwoRow.holds Try.pinned (OpenSpec.ofChange fnPayTwoSpec)

/-- ITS FALSE NEIGHBOUR: 'it returns false'. Refute it at one input. -/
def fnPayTwoWrong : ChangeSpec := { name := "fnPayTwo", fn := fun _ => fun
  | [d1, d2] => { results := [.lit (.bool false)], args := [d1, d2] }
  | _ => none }
def FnPayTwoWrongFalsely : Prop := fnPayTwoRow.holds Try.pinned (OpenSpec.ofChange fnPayTwoWrong)

/- THE SECOND FORM. 'bulk': how many values and letters a reading holds, each counted each time it is reached (what is shared counts as often as it is met; a slice's spare places count too). A statement '..UptoSaid' is the law's where the arguments, and the package variables that the reading takes, are together of bulk at most 1048576: NARROWER than '..Said'. Prove '..Said' where nothing that the law and all that it calls make is longer than what came in: it says more and counts as full. Else prove '..UptoSaid'. A law counts once. -/
mutual
def uptoBulk {H : Type} : DataW H → Nat
  | .lit (.string bytes) => bytes.length + 1
  | .lit _ => 1
  | .nil => 1
  | .ptr d => uptoBulk d + 1
  | .slice elems spare => uptoBulkAll elems + uptoBulkAll spare + 1
  | .agg parts => uptoBulkAll parts + 1
  | .iface _ d => uptoBulk d + 1
  | .map entries => uptoBulkEntries entries + 1
  | .held _ => 1
def uptoBulkAll {H : Type} : List (DataW H) → Nat
  | [] => 0
  | d :: r => uptoBulk d + uptoBulkAll r
def uptoBulkEntries {H : Type} : List (Lit × DataW H) → Nat
  | [] => 0
  | x :: r => uptoBulkEntry x + uptoBulkEntries r
def uptoBulkEntry {H : Type} : Lit × DataW H → Nat
  | (.string bytes, d) => bytes.length + uptoBulk d + 1
  | (_, d) => uptoBulk d + 1
 end
def uptoSmall : (H : Type) → List (DataW H) → Bool := fun _ ds => decide (uptoBulkAll ds ≤ 1048576)
def OpenSpec.upto (s : _root_.Go.ChangeSpec) : _root_.Go.OpenSpec := { _root_.Go.OpenSpec.ofChange s with cond := some uptoSmall }

/-- 'laws.FnExactLedgerOk', WHERE WHAT IT READS IS OF BULK AT MOST 1048576: true; the input reads as it did. -/
def fnExactLedgerOkUptoRow : OpenClaim := { program := "ytncngkfgalokoaa", sum := "a954107012b9b5ab9aee8517ced3a5734e6ecd62018422c179ada1dbd735dc3b", func := "loop.example/scrutineer/laws.FnExactLedgerOk", spec := "fnExactLedgerOk", unfollowed := true, recurses := true, apart := false, narrowed := true }
def FnExactLedgerOkUptoSaid : Prop := fnExactLedgerOkUptoRow.holds Try.pinned (OpenSpec.upto fnExactLedgerOkSpec)

/-- 'laws.FnLedgerForm', WHERE WHAT IT READS IS OF BULK AT MOST 1048576: true; the input reads as it did. -/
def fnLedgerFormUptoRow : OpenClaim := { program := "ytncngkfgalokoaa", sum := "a954107012b9b5ab9aee8517ced3a5734e6ecd62018422c179ada1dbd735dc3b", func := "loop.example/scrutineer/laws.FnLedgerForm", spec := "fnLedgerForm", unfollowed := true, recurses := true, apart := false, narrowed := true }
def FnLedgerFormUptoSaid : Prop := fnLedgerFormUptoRow.holds Try.pinned (OpenSpec.upto fnLedgerFormSpec)

/-- 'laws.FnExactLedgerSum', WHERE WHAT IT READS IS OF BULK AT MOST 1048576: true; the input reads as it did. -/
def fnExactLedgerSumUptoRow : OpenClaim := { program := "ytncngkfgalokoaa", sum := "a954107012b9b5ab9aee8517ced3a5734e6ecd62018422c179ada1dbd735dc3b", func := "loop.example/scrutineer/laws.FnExactLedgerSum", spec := "fnExactLedgerSum", unfollowed := true, recurses := true, apart := false, narrowed := true }
def FnExactLedgerSumUptoSaid : Prop := fnExactLedgerSumUptoRow.holds Try.pinned (OpenSpec.upto fnExactLedgerSumSpec)

/-- 'laws.FnLedgerSum', WHERE WHAT IT READS IS OF BULK AT MOST 1048576: true; the input reads as it did. -/
def fnLedgerSumUptoRow : OpenClaim := { program := "ytncngkfgalokoaa", sum := "a954107012b9b5ab9aee8517ced3a5734e6ecd62018422c179ada1dbd735dc3b", func := "loop.example/scrutineer/laws.FnLedgerSum", spec := "fnLedgerSum", unfollowed := true, recurses := true, apart := false, narrowed := true }
def FnLedgerSumUptoSaid : Prop := fnLedgerSumUptoRow.holds Try.pinned (OpenSpec.upto fnLedgerSumSpec)

/-- 'laws.FnPayNot', WHERE WHAT IT READS IS OF BULK AT MOST 1048576: true; the input reads as it did. -/
def fnPayNotUptoRow : OpenClaim := { program := "ytncngkfgalokoaa", sum := "a954107012b9b5ab9aee8517ced3a5734e6ecd62018422c179ada1dbd735dc3b", func := "loop.example/scrutineer/laws.FnPayNot", spec := "fnPayNot", unfollowed := true, recurses := true, apart := false, narrowed := true }
def FnPayNotUptoSaid : Prop := fnPayNotUptoRow.holds Try.pinned (OpenSpec.upto fnPayNotSpec)

/-- 'laws.FnPaySum', WHERE WHAT IT READS IS OF BULK AT MOST 1048576: true; the input reads as it did. -/
def fnPaySumUptoRow : OpenClaim := { program := "ytncngkfgalokoaa", sum := "a954107012b9b5ab9aee8517ced3a5734e6ecd62018422c179ada1dbd735dc3b", func := "loop.example/scrutineer/laws.FnPaySum", spec := "fnPaySum", unfollowed := true, recurses := true, apart := false, narrowed := true }
def FnPaySumUptoSaid : Prop := fnPaySumUptoRow.holds Try.pinned (OpenSpec.upto fnPaySumSpec)

/-- 'laws.FnExactLedgerCan', WHERE WHAT IT READS IS OF BULK AT MOST 1048576: true; the input reads as it did. -/
def fnExactLedgerCanUptoRow : OpenClaim := { program := "ytncngkfgalokoaa", sum := "a954107012b9b5ab9aee8517ced3a5734e6ecd62018422c179ada1dbd735dc3b", func := "loop.example/scrutineer/laws.FnExactLedgerCan", spec := "fnExactLedgerCan", unfollowed := true, recurses := true, apart := false, narrowed := true }
def FnExactLedgerCanUptoSaid : Prop := fnExactLedgerCanUptoRow.holds Try.pinned (OpenSpec.upto fnExactLedgerCanSpec)

/-- 'laws.FnPay', WHERE WHAT IT READS IS OF BULK AT MOST 1048576: true; the input reads as it did. -/
def fnPayUptoRow : OpenClaim := { program := "ytncngkfgalokoaa", sum := "a954107012b9b5ab9aee8517ced3a5734e6ecd62018422c179ada1dbd735dc3b", func := "loop.example/scrutineer/laws.FnPay", spec := "fnPay", unfollowed := true, recurses := true, apart := false, narrowed := true }
def FnPayUptoSaid : Prop := fnPayUptoRow.holds Try.pinned (OpenSpec.upto fnPaySpec)

/-- 'laws.FnLedgerCan', WHERE WHAT IT READS IS OF BULK AT MOST 1048576: true; the input reads as it did. -/
def fnLedgerCanUptoRow : OpenClaim := { program := "ytncngkfgalokoaa", sum := "a954107012b9b5ab9aee8517ced3a5734e6ecd62018422c179ada1dbd735dc3b", func := "loop.example/scrutineer/laws.FnLedgerCan", spec := "fnLedgerCan", unfollowed := true, recurses := true, apart := false, narrowed := true }
def FnLedgerCanUptoSaid : Prop := fnLedgerCanUptoRow.holds Try.pinned (OpenSpec.upto fnLedgerCanSpec)

/-- 'laws.FnLedgerCap', WHERE WHAT IT READS IS OF BULK AT MOST 1048576: true; the input reads as it did. -/
def fnLedgerCapUptoRow : OpenClaim := { program := "ytncngkfgalokoaa", sum := "a954107012b9b5ab9aee8517ced3a5734e6ecd62018422c179ada1dbd735dc3b", func := "loop.example/scrutineer/laws.FnLedgerCap", spec := "fnLedgerCap", unfollowed := true, recurses := true, apart := false, narrowed := true }
def FnLedgerCapUptoSaid : Prop := fnLedgerCapUptoRow.holds Try.pinned (OpenSpec.upto fnLedgerCapSpec)

/-- 'laws.FnPayTwo', WHERE WHAT IT READS IS OF BULK AT MOST 1048576: true; the input reads as it did. -/
def fnPayTwoUptoRow : OpenClaim := { program := "ytncngkfgalokoaa", sum := "a954107012b9b5ab9aee8517ced3a5734e6ecd62018422c179ada1dbd735dc3b", func := "loop.example/scrutineer/laws.FnPayTwo", spec := "fnPayTwo", unfollowed := true, recurses := true, apart := false, narrowed := true }
def FnPayTwoUptoSaid : Prop := fnPayTwoUptoRow.holds Try.pinned (OpenSpec.upto fnPayTwoSpec)

end Rows
end Go.Proofs.Ytncngkfgalokoaa
