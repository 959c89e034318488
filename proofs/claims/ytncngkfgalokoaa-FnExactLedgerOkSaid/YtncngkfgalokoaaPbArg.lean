/- A slice of structs of two whole numbers that comes in: what it reads as. It has no conditions of its own. -/
import Derived.Test.YtncngkfgalokoaaWWords
import Derived.Deep.SlicePairs
import Derived.ProofKit
namespace Go.Proofs.Ytncngkfgalokoaa.PbArg
open Go.RowKit Go.ChangeShapes Go.WideShapes Go.Deep Go.Proofs.YtncngkfgalokoaaW.PrintWords
def num : Value → Int
  | .int _ n => n
  | _ => 0
theorem pairs_arg {H : Type} {enc : TypeId × Value → H} {P : Program} {w : World} {base : Nat} {spare : Nat → Bool} {held : Bool} {t e : TypeId} {f0 f1 : Field} {fuel : Nat} {cs : List Value} {x : DataW H × List MemPlace} (ht : P.underlying t = some (.slice e)) (he : P.underlying e = some (.struct #[f0, f1]))
    (ce : P.cellsOf e = 2) (o0 : f0.offset = 0) (o1 : f1.offset = 1) (c0 : P.cellsOf f0.type = 1) (c1 : P.cellsOf f1.type = 1) (u0 : P.underlying f0.type = some (.int .i64)) (u1 : P.underlying f1.type = some (.int .i64))
    (h : DataW.trod enc P w base spare held fuel t cs = some x) :
    ∃ (A : Option Addr) (c : Nat) (l : List (Int × Int)), cs = [.slice A l.length c] ∧ l.length ≤ c ∧ l.length ≤ 9223372036854775807 ∧ (0 < l.length → ∃ ad, A = some ad ∧ ∀ j p, l[j]? = some p → w.cell? (ad.add (j * 2)) = some (.int .i64 p.1) ∧ w.cell? (ad.add (j * 2 + 1)) = some (.int .i64 p.2)) := by
  rcases open_slice_pairs ht he ce o0 o1 c0 c1 h with ⟨rfl, _⟩ | ⟨a, len, cap, m, n, V0, V1, D0, D1, P0, P1, rfl, hb, hl, hm, hmm, rfl, hx⟩
  · exact ⟨none, 0, [], rfl, Nat.le_refl _, by simp, fun h => absurd h (by simp)⟩
  · have hlm : len ≤ m := by rw [hmm]; split <;> omega
    refine ⟨some a, cap, (List.range len).map fun i => (num (V0 i), num (V1 i)), by simp, by simpa using hl, by simp only [maxLen] at hm; simp; omega, fun _ => ⟨a, rfl, fun j p hp => ?_⟩⟩
    rw [List.getElem?_map] at hp
    obtain ⟨i, hi, rfl⟩ := Option.map_eq_some_iff.1 hp
    obtain ⟨hj, hji⟩ := List.getElem?_eq_some_iff.1 hi
    rw [List.getElem_range] at hji
    subst hji
    rw [List.length_range] at hj
    obtain ⟨h1, h2, h3, h4⟩ := hx j (by omega)
    obtain ⟨n0, e0, _, _⟩ := DataW.trod_int u0 h3
    obtain ⟨n1, e1, _, _⟩ := DataW.trod_int u1 h4
    rw [List.cons.injEq] at e0 e1
    rw [h1, h2, e0.1, e1.1]
    exact ⟨rfl, rfl⟩
theorem pairs_row {α : Type} (d : Kd α) (mk : Int × Int → α) (hs : d.sz = 2) (hK : ∀ w z, d.K w (mk z) [.int .i64 z.1, .int .i64 z.2]) {w : World} {A : Option Addr} {l : List (Int × Int)} (hm : l.length ≤ 9223372036854775807)
    (h : 0 < l.length → ∃ ad, A = some ad ∧ ∀ j p, l[j]? = some p → w.cell? (ad.add (j * 2)) = some (.int .i64 p.1) ∧ w.cell? (ad.add (j * 2 + 1)) = some (.int .i64 p.2)) : Kd.C d w A (l.map mk).length (l.map mk) := by
  refine ⟨rfl, by simpa using hm, fun h0 => ?_⟩
  obtain ⟨ad, e, hc⟩ := h (by simpa using h0)
  refine ⟨ad, e, fun j p hp => ?_⟩
  rw [List.getElem?_map] at hp
  obtain ⟨z, hz, rfl⟩ := Option.map_eq_some_iff.1 hp
  obtain ⟨h1, h2⟩ := hc j z hz
  refine ⟨_, by rw [hs]; rfl, hK w z, fun i u hu => ?_⟩
  rw [hs]
  rcases i with _ | _ | i
  · obtain rfl : Value.int .i64 z.1 = u := by simpa using hu
    exact h1
  · obtain rfl : Value.int .i64 z.2 = u := by simpa using hu
    exact h2
  · simp at hu
end Go.Proofs.Ytncngkfgalokoaa.PbArg
