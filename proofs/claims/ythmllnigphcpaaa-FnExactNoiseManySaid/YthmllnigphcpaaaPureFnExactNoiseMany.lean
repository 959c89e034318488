/- NoiseMany tells what the reference tells, for any whole number. It has no conditions. -/
import Derived.Test.YthmllnigphcpaaaPFnExactNoiseManyx1
import Derived.Test.YthmllnigphcpaaaPb
namespace Go.Proofs.Ythmllnigphcpaaa.Pure
open Go.RowKit Go.Proofs.Ythmllnigphcpaaa.PFnExactNoiseMany Go.Proofs.YthmllnigphcpaaaW.PrintWords Go.Proofs.YthmllnigphcpaaaW.PrintLast Go.Proofs.Ythmllnigphcpaaa.Pb
set_option linter.unusedVariables false
set_option linter.unusedSimpArgs false

theorem nz_range (n : Int) : -2 ≤ nz n ∧ nz n ≤ 2 := by
  unfold nz; split <;> (try split) <;> (try split) <;> (try split) <;> omega
def noi (n : Int) : Int := if 0 ≤ n ∧ n ≤ 30 then nz n else 0
theorem noi_range (n : Int) : -2 ≤ noi n ∧ noi n ≤ 2 := by
  unfold noi; split
  · exact nz_range n
  · omega
def sOk (s a : Int) : Bool := decide (0 ≤ s ∧ s ≤ 999 ∧ 0 ≤ a ∧ a ≤ 20)
theorem sOk_iff {s a : Int} : sOk s a = true ↔ (0 ≤ s ∧ s ≤ 999 ∧ 0 ≤ a ∧ a ≤ 20) := by simp [sOk]
def rAt (s a : Int) : Int := (s + 7 * (s / 31) + 11 * (a * a) + 26 * (a * (s % 31)) + 3 * a) % 31
theorem rAt_range (s a : Int) : 0 ≤ rAt s a ∧ rAt s a ≤ 30 := by unfold rAt; omega
def nBoth (a b i : Int) : Int := if sOk a i = true ∧ sOk b i = true then nz ((rAt a i + rAt b i) % 31) else 0
theorem nBoth_range (a b i : Int) : -2 ≤ nBoth a b i ∧ nBoth a b i ≤ 2 := by
  unfold nBoth; split
  · exact nz_range _
  · omega
def addAll (a b : Int) : List Int → Nat → List Int
  | [], _ => []
  | x :: xs, i => (x + nBoth a b (i : Int)) :: addAll a b xs (i + 1)
def inR (l : List Int) : Bool := l.all fun x => decide (0 ≤ x ∧ x ≤ 9999)
def nAdd (l : List Int) (a b : Int) : List Int × Bool := if (l.length ≤ 20 ∧ sOk a 0 = true ∧ sOk b 0 = true) ∧ inR l = true then (addAll a b l 0, true) else ([], false)
theorem addAll_get (a b : Int) (l : List Int) : ∀ i j, (addAll a b l i)[j]? = (l[j]?).map fun x => x + nBoth a b ((i + j : Nat) : Int) := by
  induction l with
  | nil => intro i j; simp [addAll]
  | cons x xs ih =>
    intro i j
    cases j with
    | zero => simp [addAll]
    | succ j =>
      simp only [addAll, List.getElem?_cons_succ]
      rw [ih (i + 1) j, show i + 1 + j = i + (j + 1) by omega]
theorem addAll_length (a b : Int) (l : List Int) : ∀ i, (addAll a b l i).length = l.length := by
  induction l with
  | nil => intro i; rfl
  | cons x xs ih => intro i; simp [addAll, ih]
theorem addAll_rd (a b : Int) {l : List Int} {j : Nat} (h : j < l.length) : rd (addAll a b l 0) (j : Int) = rd l (j : Int) + nBoth a b (j : Int) := by
  have := addAll_get a b l 0 j
  rw [List.getElem?_eq_getElem h, List.getElem?_eq_getElem (by rw [addAll_length]; exact h)] at this
  rw [rd_nat h, rd_nat (by rw [addAll_length]; exact h)]
  simpa using this
theorem nBoth_comm (a b i : Int) : nBoth b a i = nBoth a b i := by
  unfold nBoth
  by_cases h : sOk a i = true ∧ sOk b i = true
  · rw [if_pos h, if_pos ⟨h.2, h.1⟩, Int.add_comm]
  · rw [if_neg h, if_neg (fun e => h ⟨e.2, e.1⟩)]
theorem addAll_comm (a b : Int) (l : List Int) : ∀ i, addAll b a l i = addAll a b l i := by
  induction l with
  | nil => intro i; rfl
  | cons x xs ih => intro i; simp [addAll, ih, nBoth_comm a b]
theorem addAll_map (a b d : Int) (l : List Int) : ∀ i, addAll a b (l.map (· + d)) i = (addAll a b l i).map (· + d) := by
  induction l with
  | nil => intro i; rfl
  | cons x xs ih => intro i; simp [addAll, ih]; omega
theorem nAdd_comm (l : List Int) (a b : Int) : nAdd l b a = nAdd l a b := by
  unfold nAdd
  rw [addAll_comm]
  by_cases h : (l.length ≤ 20 ∧ sOk a 0 = true ∧ sOk b 0 = true) ∧ inR l = true
  · rw [if_pos h, if_pos ⟨⟨h.1.1, h.1.2.2, h.1.2.1⟩, h.2⟩]
  · rw [if_neg h, if_neg (fun e => h ⟨⟨e.1.1, e.1.2.2, e.1.2.1⟩, e.2⟩)]
theorem nAdd_length (l : List Int) (a b : Int) : (nAdd l a b).1.length ≤ 20 := by
  unfold nAdd
  split
  · have := addAll_length a b l 0
    dsimp only
    omega
  · simp
theorem nAdd_cases (l : List Int) (a b : Int) : nAdd l a b = ([], false) ∨ (nAdd l a b = (addAll a b l 0, true) ∧ (l.length ≤ 20 ∧ sOk a 0 = true ∧ sOk b 0 = true) ∧ inR l = true) := by
  unfold nAdd
  split
  · exact .inr ⟨rfl, ‹_›⟩
  · exact .inl rfl

theorem spec_l33Of_ok (n : Int) : EvE (fun _ => spec_l33Of.f n) (· = nz n) := by
  unfold spec_l33Of.f nz
  refine EvE.ite (fun h => EvE.now _ (by rw [if_pos (by omega)])) (fun h => ?_)
  refine EvE.ite (fun h2 => EvE.now _ (by rw [if_neg (by omega), if_pos (by omega)])) (fun h2 => ?_)
  refine EvE.ite (fun h3 => EvE.now _ (by rw [if_neg (by omega), if_neg (by omega), if_pos (by omega)])) (fun h3 => ?_)
  exact EvE.ite (fun h4 => EvE.now _ (by rw [if_neg (by omega), if_neg (by omega), if_neg (by omega), if_pos (by omega)])) (fun h4 => EvE.now _ (by rw [if_neg (by omega), if_neg (by omega), if_neg (by omega), if_neg (by omega)]))

theorem spec_NoiseMany_loop (v : Int) (m : Nat) : ∀ i : Nat, i + m = 31 → EvE (fun k => spec_NoiseMany.l0 k v (cnt v i) (i : Int)) (· = cnt v 31) := by
  induction m with
  | zero =>
    intro i hi
    refine EvE.succ ?_
    simp only [spec_NoiseMany.l0]
    exact EvE.neg (by omega) (EvE.now _ (by rw [show i = 31 by omega]))
  | succ m ih =>
    intro i hi
    have hc := cnt_le v i
    have hs := cnt_succ v i
    have h := ih (i + 1) (by omega)
    refine EvE.succ ?_
    simp only [spec_NoiseMany.l0]
    refine EvE.pos (by omega) ?_
    refine EvE.bind (spec_l33Of_ok _) ?_
    rintro _ rfl
    rw [w64 (x := (i : Int) + 1) (by omega) (by omega), w64 (x := cnt v i + 1) (by omega) (by omega)]
    refine EvE.ite (fun e => ?_) (fun e => ?_)
    · rw [hs, if_pos (by rw [e]; simp)] at h
      exact h
    · rw [hs, if_neg (by simpa using e)] at h
      exact h
theorem spec_NoiseMany_ok (v : Int) : EvE (fun k => spec_NoiseMany.f k v) (· = cnt v 31) := spec_NoiseMany_loop v 31 0 (by omega)

theorem impl_NoiseMany_ok (v : Int) : EvE (fun _ => impl_NoiseMany.f v) (· = cnt v 31) := EvE.now _ rfl

theorem FnExactNoiseMany : laws_FnExactNoiseMany.Pure := by
  intro v _
  refine EvE.rounds ?_
  unfold laws_FnExactNoiseMany.f
  refine EvE.bind (spec_NoiseMany_ok v) ?_
  rintro _ rfl
  refine EvE.bind (impl_NoiseMany_ok v) ?_
  rintro _ rfl
  exact EvE.pos (by trivial) (EvE.now _ rfl)

end Go.Proofs.Ythmllnigphcpaaa.Pure
