/- A word more for the printed walks: make([]T, 0, c) is an empty row of the call's own. It has no conditions of its own. -/
import Derived.Test.YtncngkfgalokoaaWWords
import Derived.Test.YtncngkfgalokoaaWApart
namespace Go.Proofs.YtncngkfgalokoaaW.PrintWords.Kd
set_option linter.unusedVariables false
open Go.RowKit
section
variable {α : Type} {P : Program} {ops : Array Oper} {rest : List Oper} {o : Oper} {a : Act} {Q : Exit → Act → World → Prop}
end
end Go.Proofs.YtncngkfgalokoaaW.PrintWords.Kd
namespace Go.Proofs.YtncngkfgalokoaaW.PrintWords
open Go.RowKit
theorem C_get {w : World} {A : Option Addr} {l : List ByteArray} (h : Kd.C Kd.string w A l.length l) {k : Nat} (hk : k < l.length) : ∃ ad, A = some ad ∧ w.cell? (ad.add k) = some (.string (l.getD k ByteArray.empty)) := by
  obtain ⟨h1, h2, h3⟩ := Kd.reads_of_C (d := ByteArray.empty) h
  obtain ⟨ad, e, hc⟩ := h3 (by omega)
  exact ⟨ad, e, hc k hk⟩
end Go.Proofs.YtncngkfgalokoaaW.PrintWords
