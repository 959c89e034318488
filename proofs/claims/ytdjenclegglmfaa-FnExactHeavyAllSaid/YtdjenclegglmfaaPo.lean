/- A slice of strings that comes in: what it reads as, and how long it may be. It has no conditions of its own. -/
import Derived.Test.YtdjenclegglmfaaWWords
import Derived.SizedLaws
import Derived.SliceStrings
import Derived.ProofKit
namespace Go.Proofs.Ytdjenclegglmfaa.Po
open Go.RowKit Go.ChangeShapes Go.WideShapes Go.Proofs.YtdjenclegglmfaaW.PrintWords
theorem weightsAll_mem {H : Type} {P : Program} {e : TypeId} : ∀ {ds : List (DataW H)} {d : DataW H}, d ∈ ds → ∀ n ∈ d.weights P e, n ∈ DataW.weightsAll P e ds
  | x :: xs, d, h, n, hn => by
    simp only [DataW.weightsAll, List.mem_append]
    rcases List.mem_cons.1 h with rfl | h
    · exact .inl hn
    · exact .inr (weightsAll_mem h n hn)
theorem strings_arg {H : Type} {enc : TypeId × Value → H} {P : Program} {W : World} {base : Nat} {spare : Nat → Bool} {held : Bool} {t e : TypeId} {a : Option Addr} {len cap : Nat} {d : DataW H} {ps : List MemPlace} {ts : List TypeId} {ds : List (DataW H)} {j : Nat}
    (hsz : (DataW.weightsEach P ts ds).all (· ≤ reachBytes) = true) (ht : ts[j]? = some t) (hd : ds[j]? = some d) (hu : P.underlying t = some (.slice e)) (he : P.underlying e = some .string) (hc : P.cellsOf e = 1) (hB : P.bytesOf e = 16)
    (h : DataW.Trod enc P W base spare held t (.slice a len cap) d ps) :
    ∃ l : List ByteArray, len = l.length ∧ Kd.C Kd.string W a l.length l ∧ l.length ≤ cap ∧ l.length * 16 ≤ 140737488351232 ∧ ∀ s ∈ l, s.size ≤ 140737488351232 := by
  obtain ⟨fuel, hf⟩ := h
  rcases open_strings hu he hc hf with ⟨hcs, _⟩ | ⟨x, l, c, ss, hcs, _, hl, hm, hz, hx, hcell, hws⟩
  · simp [Value.cells] at hcs
    obtain ⟨rfl, rfl, rfl⟩ := hcs
    exact ⟨[], rfl, ⟨rfl, by simp, fun h => absurd h (by simp)⟩, Nat.le_refl _, by simp, fun s hs => by cases hs⟩
  · simp [Value.cells] at hcs
    obtain ⟨rfl, rfl, rfl⟩ := hcs
    obtain ⟨hx, _⟩ := Prod.mk.inj hx
    subst hx
    have hl2 : len ≤ ss.length := by
      rw [hz]
      split
      · exact hl
      · exact Nat.le_refl _
    have htl : (ss.take len).length = len := by rw [List.length_take]; omega
    have z := sized_slice hsz ht hd hu
    have hstr : ∀ n : Nat, n ∈ DataW.weightsAll P e (strs (H := H) (ss.take len)) → n ≤ 140737488351232 := by
      intro n hn
      have h1 : n ∈ DataW.weights P t (DataW.slice (strs (H := H) (ss.take len)) (strs (ss.drop len))) := by
        simp only [DataW.weights, hu, List.mem_cons, List.mem_append]
        exact .inr (.inl hn)
      have h2 := DataW.weights_mem_each ht hd n h1
      have h3 := List.all_eq_true.1 hsz n h2
      have h4 : n ≤ reachBytes := by simpa using h3
      exact h4
    refine ⟨ss.take len, htl.symm, ?_, by rw [htl]; exact hl, ?_, ?_⟩
    · rw [htl]
      refine Kd.C_of_reads (d := ByteArray.empty) (h1 := fun _ => rfl) ⟨htl, by simp only [maxLen] at hm; omega, fun h0 => ⟨x, rfl, fun i hi => ?_⟩⟩
      rw [hcell i (by omega)]
      have hi2 : i < (ss.take len).length := by omega
      rw [List.getD_eq_getElem?_getD, List.getD_eq_getElem?_getD, List.getElem?_take, if_pos hi]
    · rw [htl]
      rw [hB] at z
      have h1 : (strs (H := H) (ss.take len)).length + (strs (H := H) (ss.drop len)).length = ss.length := by
        simp [strs]
        omega
      rw [h1] at z
      exact Nat.le_trans (Nat.mul_le_mul_right _ hl2) z
    · intro s hs
      have h1 : s.size ∈ DataW.weightsAll P e (strs (H := H) (ss.take len)) := by
        refine weightsAll_mem (d := .lit (.string s.data.toList)) ?_ _ ?_
        · simp only [strs, List.mem_map]
          exact ⟨s, hs, rfl⟩
        · simp [DataW.weights]
      exact hstr _ h1
end Go.Proofs.Ytdjenclegglmfaa.Po
