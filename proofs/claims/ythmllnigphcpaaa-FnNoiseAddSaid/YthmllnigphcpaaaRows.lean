/-
  No cell of these rows narrows 'for every input' (looked for: loops, veiled, ifaces, maps, wideKeys, modest, calm, conditions, laid).
  DERIVED. THE GIVEN ROWS OF THIS SEAT. 10 by the template 'for every input the law returns true; each argument reads behind the call as it read before'; 0 by the template 'total and deterministic' (their statements: YthmllnigphcpaaaTotals.lean).
  GIVEN WITH THE SEED: the statements are not yours to turn. If you find one false, say at which input.
  Laid BY PROGRAM, IN A SANDBOX (cutbox-rows.mjs): the forced cells as the released guide's own fill.sh prints them over the translation d1c4d7708547a64e… (all of the seat's roots in one cut). By AI agents, Wed Nov 11 2026. No macro, syntax, notation, axiom, sorry.
-/
import Derived.Test.YthmllnigphcpaaaChecked
import GoSem.Claim
import GoSem.ClaimJoined
import GoSem.ClaimMapViews
import Derived.JoinedTies
import Derived.KernelRfl
namespace Go.Proofs.Ythmllnigphcpaaa
/- THE CELL 'sum', in the pinned program and in every row, IS THE sha256 OF THE DUMP (.gsa) THAT YthmllnigphcpaaaProg.lean LOADS. Nothing in Lean hashes anything: it is a label: what it is worth is what the hold of that sum in a sandbox is worth. -/
noncomputable def Try.pinned : Pinned := { name := "ythmllnigphcpaaa", sum := "d1c4d7708547a64ebfae0ed0106efbd180170ff8eec37aeec10f38d8bad4dd4b", checked := Try.checked }
namespace Rows
def none {H : Type} : Left H := { results := [], args := [] }

/-- 'laws.FnExactNoiseMany': WHATEVER THE INPUT: true; the input reads as it did. -/
def fnExactNoiseManySpec : ChangeSpec := { name := "fnExactNoiseMany", fn := fun _ => fun
  | [d] => { results := [.lit (.bool true)], args := [d] }
  | _ => none }
def fnExactNoiseManyRow : OpenClaim := { program := "ythmllnigphcpaaa", sum := "d1c4d7708547a64ebfae0ed0106efbd180170ff8eec37aeec10f38d8bad4dd4b", func := "loop.example/scrutineer/laws.FnExactNoiseMany", spec := "fnExactNoiseMany", apart := false }
def FnExactNoiseManySaid : Prop := fnExactNoiseManyRow.holds Try.pinned (OpenSpec.ofChange fnExactNoiseManySpec)

/-- ITS FALSE NEIGHBOUR: 'it returns false'. Refute it at one input. -/
def fnExactNoiseManyWrong : ChangeSpec := { name := "fnExactNoiseMany", fn := fun _ => fun
  | [d] => { results := [.lit (.bool false)], args := [d] }
  | _ => none }
def FnExactNoiseManyWrongFalsely : Prop := fnExactNoiseManyRow.holds Try.pinned (OpenSpec.ofChange fnExactNoiseManyWrong)

/-- 'laws.FnExactNoiseOf': WHATEVER THE INPUT: true; the input reads as it did. -/
def fnExactNoiseOfSpec : ChangeSpec := { name := "fnExactNoiseOf", fn := fun _ => fun
  | [d] => { results := [.lit (.bool true)], args := [d] }
  | _ => none }
def fnExactNoiseOfRow : OpenClaim := { program := "ythmllnigphcpaaa", sum := "d1c4d7708547a64ebfae0ed0106efbd180170ff8eec37aeec10f38d8bad4dd4b", func := "loop.example/scrutineer/laws.FnExactNoiseOf", spec := "fnExactNoiseOf", apart := false }
def FnExactNoiseOfSaid : Prop := fnExactNoiseOfRow.holds Try.pinned (OpenSpec.ofChange fnExactNoiseOfSpec)

/-- ITS FALSE NEIGHBOUR: 'it returns false'. Refute it at one input. -/
def fnExactNoiseOfWrong : ChangeSpec := { name := "fnExactNoiseOf", fn := fun _ => fun
  | [d] => { results := [.lit (.bool false)], args := [d] }
  | _ => none }
def FnExactNoiseOfWrongFalsely : Prop := fnExactNoiseOfRow.holds Try.pinned (OpenSpec.ofChange fnExactNoiseOfWrong)

/-- 'laws.FnNoiseOf': WHATEVER THE INPUT: true; the input reads as it did. -/
def fnNoiseOfSpec : ChangeSpec := { name := "fnNoiseOf", fn := fun _ => fun
  | [d] => { results := [.lit (.bool true)], args := [d] }
  | _ => none }
def fnNoiseOfRow : OpenClaim := { program := "ythmllnigphcpaaa", sum := "d1c4d7708547a64ebfae0ed0106efbd180170ff8eec37aeec10f38d8bad4dd4b", func := "loop.example/scrutineer/laws.FnNoiseOf", spec := "fnNoiseOf", apart := false }
def FnNoiseOfSaid : Prop := fnNoiseOfRow.holds Try.pinned (OpenSpec.ofChange fnNoiseOfSpec)

/-- ITS FALSE NEIGHBOUR: 'it returns false'. Refute it at one input. -/
def fnNoiseOfWrong : ChangeSpec := { name := "fnNoiseOf", fn := fun _ => fun
  | [d] => { results := [.lit (.bool false)], args := [d] }
  | _ => none }
def FnNoiseOfWrongFalsely : Prop := fnNoiseOfRow.holds Try.pinned (OpenSpec.ofChange fnNoiseOfWrong)

/-- 'laws.FnNoiseSum': WHATEVER THE INPUT: true; the input reads as it did. -/
def fnNoiseSumSpec : ChangeSpec := { name := "fnNoiseSum", fn := fun _ => fun
  | [d] => { results := [.lit (.bool true)], args := [d] }
  | _ => none }
def fnNoiseSumRow : OpenClaim := { program := "ythmllnigphcpaaa", sum := "d1c4d7708547a64ebfae0ed0106efbd180170ff8eec37aeec10f38d8bad4dd4b", func := "loop.example/scrutineer/laws.FnNoiseSum", spec := "fnNoiseSum", apart := false }
def FnNoiseSumSaid : Prop := fnNoiseSumRow.holds Try.pinned (OpenSpec.ofChange fnNoiseSumSpec)

/-- ITS FALSE NEIGHBOUR: 'it returns false'. Refute it at one input. -/
def fnNoiseSumWrong : ChangeSpec := { name := "fnNoiseSum", fn := fun _ => fun
  | [d] => { results := [.lit (.bool false)], args := [d] }
  | _ => none }
def FnNoiseSumWrongFalsely : Prop := fnNoiseSumRow.holds Try.pinned (OpenSpec.ofChange fnNoiseSumWrong)

/-- 'laws.FnNoiseLess': WHATEVER THE INPUT: true; the input reads as it did. -/
def fnNoiseLessSpec : ChangeSpec := { name := "fnNoiseLess", fn := fun _ => fun
  | [d] => { results := [.lit (.bool true)], args := [d] }
  | _ => none }
def fnNoiseLessRow : OpenClaim := { program := "ythmllnigphcpaaa", sum := "d1c4d7708547a64ebfae0ed0106efbd180170ff8eec37aeec10f38d8bad4dd4b", func := "loop.example/scrutineer/laws.FnNoiseLess", spec := "fnNoiseLess", apart := false }
def FnNoiseLessSaid : Prop := fnNoiseLessRow.holds Try.pinned (OpenSpec.ofChange fnNoiseLessSpec)

/-- ITS FALSE NEIGHBOUR: 'it returns false'. Refute it at one input. -/
def fnNoiseLessWrong : ChangeSpec := { name := "fnNoiseLess", fn := fun _ => fun
  | [d] => { results := [.lit (.bool false)], args := [d] }
  | _ => none }
def FnNoiseLessWrongFalsely : Prop := fnNoiseLessRow.holds Try.pinned (OpenSpec.ofChange fnNoiseLessWrong)

/-- 'laws.FnExactNoiseBoth': WHATEVER THE INPUT: true; the input reads as it did. -/
def fnExactNoiseBothSpec : ChangeSpec := { name := "fnExactNoiseBoth", fn := fun _ => fun
  | [d1, d2, d3] => { results := [.lit (.bool true)], args := [d1, d2, d3] }
  | _ => none }
def fnExactNoiseBothRow : OpenClaim := { program := "ythmllnigphcpaaa", sum := "d1c4d7708547a64ebfae0ed0106efbd180170ff8eec37aeec10f38d8bad4dd4b", func := "loop.example/scrutineer/laws.FnExactNoiseBoth", spec := "fnExactNoiseBoth", apart := false }
def FnExactNoiseBothSaid : Prop := fnExactNoiseBothRow.holds Try.pinned (OpenSpec.ofChange fnExactNoiseBothSpec)

/-- ITS FALSE NEIGHBOUR: 'it returns false'. Refute it at one input. -/
def fnExactNoiseBothWrong : ChangeSpec := { name := "fnExactNoiseBoth", fn := fun _ => fun
  | [d1, d2, d3] => { results := [.lit (.bool false)], args := [d1, d2, d3] }
  | _ => none }
def FnExactNoiseBothWrongFalsely : Prop := fnExactNoiseBothRow.holds Try.pinned (OpenSpec.ofChange fnExactNoiseBothWrong)

/-- 'laws.FnNoiseBoth': WHATEVER THE INPUT: true; the input reads as it did. -/
def fnNoiseBothSpec : ChangeSpec := { name := "fnNoiseBoth", fn := fun _ => fun
  | [d1, d2] => { results := [.lit (.bool true)], args := [d1, d2] }
  | _ => none }
def fnNoiseBothRow : OpenClaim := { program := "ythmllnigphcpaaa", sum := "d1c4d7708547a64ebfae0ed0106efbd180170ff8eec37aeec10f38d8bad4dd4b", func := "loop.example/scrutineer/laws.FnNoiseBoth", spec := "fnNoiseBoth", apart := false }
def FnNoiseBothSaid : Prop := fnNoiseBothRow.holds Try.pinned (OpenSpec.ofChange fnNoiseBothSpec)

/-- ITS FALSE NEIGHBOUR: 'it returns false'. Refute it at one input. -/
def fnNoiseBothWrong : ChangeSpec := { name := "fnNoiseBoth", fn := fun _ => fun
  | [d1, d2] => { results := [.lit (.bool false)], args := [d1, d2] }
  | _ => none }
def FnNoiseBothWrongFalsely : Prop := fnNoiseBothRow.holds Try.pinned (OpenSpec.ofChange fnNoiseBothWrong)

/-- 'laws.FnExactNoiseAdd': WHATEVER THE INPUT: true; the input reads as it did. -/
def fnExactNoiseAddSpec : ChangeSpec := { name := "fnExactNoiseAdd", fn := fun _ => fun
  | [d1, d2, d3] => { results := [.lit (.bool true)], args := [d1, d2, d3] }
  | _ => none }
def fnExactNoiseAddRow : OpenClaim := { program := "ythmllnigphcpaaa", sum := "d1c4d7708547a64ebfae0ed0106efbd180170ff8eec37aeec10f38d8bad4dd4b", func := "loop.example/scrutineer/laws.FnExactNoiseAdd", spec := "fnExactNoiseAdd", apart := false }
def FnExactNoiseAddSaid : Prop := fnExactNoiseAddRow.holds Try.pinned (OpenSpec.ofChange fnExactNoiseAddSpec)

/-- ITS FALSE NEIGHBOUR: 'it returns false'. Refute it at one input. -/
def fnExactNoiseAddWrong : ChangeSpec := { name := "fnExactNoiseAdd", fn := fun _ => fun
  | [d1, d2, d3] => { results := [.lit (.bool false)], args := [d1, d2, d3] }
  | _ => none }
def FnExactNoiseAddWrongFalsely : Prop := fnExactNoiseAddRow.holds Try.pinned (OpenSpec.ofChange fnExactNoiseAddWrong)

/-- 'laws.FnNoiseAdd': WHATEVER THE INPUT: true; the input reads as it did. -/
def fnNoiseAddSpec : ChangeSpec := { name := "fnNoiseAdd", fn := fun _ => fun
  | [d] => { results := [.lit (.bool true)], args := [d] }
  | _ => none }
def fnNoiseAddRow : OpenClaim := { program := "ythmllnigphcpaaa", sum := "d1c4d7708547a64ebfae0ed0106efbd180170ff8eec37aeec10f38d8bad4dd4b", func := "loop.example/scrutineer/laws.FnNoiseAdd", spec := "fnNoiseAdd", apart := false }
def FnNoiseAddSaid : Prop := fnNoiseAddRow.holds Try.pinned (OpenSpec.ofChange fnNoiseAddSpec)

/-- ITS FALSE NEIGHBOUR: 'it returns false'. Refute it at one input. -/
def fnNoiseAddWrong : ChangeSpec := { name := "fnNoiseAdd", fn := fun _ => fun
  | [d] => { results := [.lit (.bool false)], args := [d] }
  | _ => none }
def FnNoiseAddWrongFalsely : Prop := fnNoiseAddRow.holds Try.pinned (OpenSpec.ofChange fnNoiseAddWrong)

/-- 'laws.FnNoiseSame': WHATEVER THE INPUT: true; the input reads as it did. -/
def fnNoiseSameSpec : ChangeSpec := { name := "fnNoiseSame", fn := fun _ => fun
  | [d1, d2] => { results := [.lit (.bool true)], args := [d1, d2] }
  | _ => none }
def fnNoiseSameRow : OpenClaim := { program := "ythmllnigphcpaaa", sum := "d1c4d7708547a64ebfae0ed0106efbd180170ff8eec37aeec10f38d8bad4dd4b", func := "loop.example/scrutineer/laws.FnNoiseSame", spec := "fnNoiseSame", apart := false }
def FnNoiseSameSaid : Prop := fnNoiseSameRow.holds Try.pinned (OpenSpec.ofChange fnNoiseSameSpec)

/-- ITS FALSE NEIGHBOUR: 'it returns false'. Refute it at one input. -/
def fnNoiseSameWrong : ChangeSpec := { name := "fnNoiseSame", fn := fun _ => fun
  | [d1, d2] => { results := [.lit (.bool false)], args := [d1, d2] }
  | _ => none }
def FnNoiseSameWrongFalsely : Prop := fnNoiseSameRow.holds Try.pinned (OpenSpec.ofChange fnNoiseSameWrong)

/- THE SECOND FORM. 'bulk': how many values and letters a reading holds, each counted each time it is reached (what is shared counts as often as it is met; a slice's spare places count too). A statement '..UptoSaid' is the law's where the arguments, and the package variables that the reading takes, are together of bulk at most 1048576: NARROWER than '..Said'. Prove '..Said' where nothing that the law and all that it calls make is longer than what came in: it says more and counts as full. Else prove '..UptoSaid'. A law counts once. -/
mutual
def uptoBulk {H : Type} : DataW H → Nat
  | .lit (.string bytes) => bytes.length + 1
  | .lit _ => 1
  | .nil => 1
  | .ptr d => uptoBulk d + 1
  | .slice elems spare => uptoBulkAll elems + uptoBulkAll spare + 1
  | .agg parts => uptoBulkAll parts + 1
  | .iface _ d => uptoBulk d + 1
  | .map entries => uptoBulkEntries entries + 1
  | .held _ => 1
def uptoBulkAll {H : Type} : List (DataW H) → Nat
  | [] => 0
  | d :: r => uptoBulk d + uptoBulkAll r
def uptoBulkEntries {H : Type} : List (Lit × DataW H) → Nat
  | [] => 0
  | x :: r => uptoBulkEntry x + uptoBulkEntries r
def uptoBulkEntry {H : Type} : Lit × DataW H → Nat
  | (.string bytes, d) => bytes.length + uptoBulk d + 1
  | (_, d) => uptoBulk d + 1
 end
def uptoSmall : (H : Type) → List (DataW H) → Bool := fun _ ds => decide (uptoBulkAll ds ≤ 1048576)
def OpenSpec.upto (s : _root_.Go.ChangeSpec) : _root_.Go.OpenSpec := { _root_.Go.OpenSpec.ofChange s with cond := some uptoSmall }

/-- 'laws.FnExactNoiseMany', WHERE WHAT IT READS IS OF BULK AT MOST 1048576: true; the input reads as it did. -/
def fnExactNoiseManyUptoRow : OpenClaim := { program := "ythmllnigphcpaaa", sum := "d1c4d7708547a64ebfae0ed0106efbd180170ff8eec37aeec10f38d8bad4dd4b", func := "loop.example/scrutineer/laws.FnExactNoiseMany", spec := "fnExactNoiseMany", apart := false, narrowed := true }
def FnExactNoiseManyUptoSaid : Prop := fnExactNoiseManyUptoRow.holds Try.pinned (OpenSpec.upto fnExactNoiseManySpec)

/-- 'laws.FnExactNoiseOf', WHERE WHAT IT READS IS OF BULK AT MOST 1048576: true; the input reads as it did. -/
def fnExactNoiseOfUptoRow : OpenClaim := { program := "ythmllnigphcpaaa", sum := "d1c4d7708547a64ebfae0ed0106efbd180170ff8eec37aeec10f38d8bad4dd4b", func := "loop.example/scrutineer/laws.FnExactNoiseOf", spec := "fnExactNoiseOf", apart := false, narrowed := true }
def FnExactNoiseOfUptoSaid : Prop := fnExactNoiseOfUptoRow.holds Try.pinned (OpenSpec.upto fnExactNoiseOfSpec)

/-- 'laws.FnNoiseOf', WHERE WHAT IT READS IS OF BULK AT MOST 1048576: true; the input reads as it did. -/
def fnNoiseOfUptoRow : OpenClaim := { program := "ythmllnigphcpaaa", sum := "d1c4d7708547a64ebfae0ed0106efbd180170ff8eec37aeec10f38d8bad4dd4b", func := "loop.example/scrutineer/laws.FnNoiseOf", spec := "fnNoiseOf", apart := false, narrowed := true }
def FnNoiseOfUptoSaid : Prop := fnNoiseOfUptoRow.holds Try.pinned (OpenSpec.upto fnNoiseOfSpec)

/-- 'laws.FnNoiseSum', WHERE WHAT IT READS IS OF BULK AT MOST 1048576: true; the input reads as it did. -/
def fnNoiseSumUptoRow : OpenClaim := { program := "ythmllnigphcpaaa", sum := "d1c4d7708547a64ebfae0ed0106efbd180170ff8eec37aeec10f38d8bad4dd4b", func := "loop.example/scrutineer/laws.FnNoiseSum", spec := "fnNoiseSum", apart := false, narrowed := true }
def FnNoiseSumUptoSaid : Prop := fnNoiseSumUptoRow.holds Try.pinned (OpenSpec.upto fnNoiseSumSpec)

/-- 'laws.FnNoiseLess', WHERE WHAT IT READS IS OF BULK AT MOST 1048576: true; the input reads as it did. -/
def fnNoiseLessUptoRow : OpenClaim := { program := "ythmllnigphcpaaa", sum := "d1c4d7708547a64ebfae0ed0106efbd180170ff8eec37aeec10f38d8bad4dd4b", func := "loop.example/scrutineer/laws.FnNoiseLess", spec := "fnNoiseLess", apart := false, narrowed := true }
def FnNoiseLessUptoSaid : Prop := fnNoiseLessUptoRow.holds Try.pinned (OpenSpec.upto fnNoiseLessSpec)

/-- 'laws.FnExactNoiseBoth', WHERE WHAT IT READS IS OF BULK AT MOST 1048576: true; the input reads as it did. -/
def fnExactNoiseBothUptoRow : OpenClaim := { program := "ythmllnigphcpaaa", sum := "d1c4d7708547a64ebfae0ed0106efbd180170ff8eec37aeec10f38d8bad4dd4b", func := "loop.example/scrutineer/laws.FnExactNoiseBoth", spec := "fnExactNoiseBoth", apart := false, narrowed := true }
def FnExactNoiseBothUptoSaid : Prop := fnExactNoiseBothUptoRow.holds Try.pinned (OpenSpec.upto fnExactNoiseBothSpec)

/-- 'laws.FnNoiseBoth', WHERE WHAT IT READS IS OF BULK AT MOST 1048576: true; the input reads as it did. -/
def fnNoiseBothUptoRow : OpenClaim := { program := "ythmllnigphcpaaa", sum := "d1c4d7708547a64ebfae0ed0106efbd180170ff8eec37aeec10f38d8bad4dd4b", func := "loop.example/scrutineer/laws.FnNoiseBoth", spec := "fnNoiseBoth", apart := false, narrowed := true }
def FnNoiseBothUptoSaid : Prop := fnNoiseBothUptoRow.holds Try.pinned (OpenSpec.upto fnNoiseBothSpec)

/-- 'laws.FnExactNoiseAdd', WHERE WHAT IT READS IS OF BULK AT MOST 1048576: true; the input reads as it did. -/
def fnExactNoiseAddUptoRow : OpenClaim := { program := "ythmllnigphcpaaa", sum := "d1c4d7708547a64ebfae0ed0106efbd180170ff8eec37aeec10f38d8bad4dd4b", func := "loop.example/scrutineer/laws.FnExactNoiseAdd", spec := "fnExactNoiseAdd", apart := false, narrowed := true }
def FnExactNoiseAddUptoSaid : Prop := fnExactNoiseAddUptoRow.holds Try.pinned (OpenSpec.upto fnExactNoiseAddSpec)

/-- 'laws.FnNoiseAdd', WHERE WHAT IT READS IS OF BULK AT MOST 1048576: true; the input reads as it did. -/
def fnNoiseAddUptoRow : OpenClaim := { program := "ythmllnigphcpaaa", sum := "d1c4d7708547a64ebfae0ed0106efbd180170ff8eec37aeec10f38d8bad4dd4b", func := "loop.example/scrutineer/laws.FnNoiseAdd", spec := "fnNoiseAdd", apart := false, narrowed := true }
def FnNoiseAddUptoSaid : Prop := fnNoiseAddUptoRow.holds Try.pinned (OpenSpec.upto fnNoiseAddSpec)

/-- 'laws.FnNoiseSame', WHERE WHAT IT READS IS OF BULK AT MOST 1048576: true; the input reads as it did. -/
def fnNoiseSameUptoRow : OpenClaim := { program := "ythmllnigphcpaaa", sum := "d1c4d7708547a64ebfae0ed0106efbd180170ff8eec37aeec10f38d8bad4dd4b", func := "loop.example/scrutineer/laws.FnNoiseSame", spec := "fnNoiseSame", apart := false, narrowed := true }
def FnNoiseSameUptoSaid : Prop := fnNoiseSameUptoRow.holds Try.pinned (OpenSpec.upto fnNoiseSameSpec)

end Rows
end Go.Proofs.Ythmllnigphcpaaa
