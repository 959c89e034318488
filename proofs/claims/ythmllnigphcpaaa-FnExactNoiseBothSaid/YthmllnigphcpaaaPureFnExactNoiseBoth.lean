/- NoiseBoth tells what the reference tells, for any three whole numbers. It has no conditions. -/
import Derived.Test.YthmllnigphcpaaaPFnExactNoiseBothx2
import Derived.Test.YthmllnigphcpaaaPb
namespace Go.Proofs.Ythmllnigphcpaaa.Pure
open Go.RowKit Go.Proofs.Ythmllnigphcpaaa.PFnExactNoiseBoth Go.Proofs.YthmllnigphcpaaaW.PrintWords Go.Proofs.YthmllnigphcpaaaW.PrintLast Go.Proofs.Ythmllnigphcpaaa.Pb
set_option linter.unusedVariables false
set_option linter.unusedSimpArgs false

theorem nz_range (n : Int) : -2 ≤ nz n ∧ nz n ≤ 2 := by
  unfold nz; split <;> (try split) <;> (try split) <;> (try split) <;> omega
def noi (n : Int) : Int := if 0 ≤ n ∧ n ≤ 30 then nz n else 0
theorem noi_range (n : Int) : -2 ≤ noi n ∧ noi n ≤ 2 := by
  unfold noi; split
  · exact nz_range n
  · omega
def sOk (s a : Int) : Bool := decide (0 ≤ s ∧ s ≤ 999 ∧ 0 ≤ a ∧ a ≤ 20)
theorem sOk_iff {s a : Int} : sOk s a = true ↔ (0 ≤ s ∧ s ≤ 999 ∧ 0 ≤ a ∧ a ≤ 20) := by simp [sOk]
def rAt (s a : Int) : Int := (s + 7 * (s / 31) + 11 * (a * a) + 26 * (a * (s % 31)) + 3 * a) % 31
theorem rAt_range (s a : Int) : 0 ≤ rAt s a ∧ rAt s a ≤ 30 := by unfold rAt; omega
def nBoth (a b i : Int) : Int := if sOk a i = true ∧ sOk b i = true then nz ((rAt a i + rAt b i) % 31) else 0
theorem nBoth_range (a b i : Int) : -2 ≤ nBoth a b i ∧ nBoth a b i ≤ 2 := by
  unfold nBoth; split
  · exact nz_range _
  · omega
def addAll (a b : Int) : List Int → Nat → List Int
  | [], _ => []
  | x :: xs, i => (x + nBoth a b (i : Int)) :: addAll a b xs (i + 1)
def inR (l : List Int) : Bool := l.all fun x => decide (0 ≤ x ∧ x ≤ 9999)
def nAdd (l : List Int) (a b : Int) : List Int × Bool := if (l.length ≤ 20 ∧ sOk a 0 = true ∧ sOk b 0 = true) ∧ inR l = true then (addAll a b l 0, true) else ([], false)
theorem addAll_get (a b : Int) (l : List Int) : ∀ i j, (addAll a b l i)[j]? = (l[j]?).map fun x => x + nBoth a b ((i + j : Nat) : Int) := by
  induction l with
  | nil => intro i j; simp [addAll]
  | cons x xs ih =>
    intro i j
    cases j with
    | zero => simp [addAll]
    | succ j =>
      simp only [addAll, List.getElem?_cons_succ]
      rw [ih (i + 1) j, show i + 1 + j = i + (j + 1) by omega]
theorem addAll_length (a b : Int) (l : List Int) : ∀ i, (addAll a b l i).length = l.length := by
  induction l with
  | nil => intro i; rfl
  | cons x xs ih => intro i; simp [addAll, ih]
theorem addAll_rd (a b : Int) {l : List Int} {j : Nat} (h : j < l.length) : rd (addAll a b l 0) (j : Int) = rd l (j : Int) + nBoth a b (j : Int) := by
  have := addAll_get a b l 0 j
  rw [List.getElem?_eq_getElem h, List.getElem?_eq_getElem (by rw [addAll_length]; exact h)] at this
  rw [rd_nat h, rd_nat (by rw [addAll_length]; exact h)]
  simpa using this
theorem nBoth_comm (a b i : Int) : nBoth b a i = nBoth a b i := by
  unfold nBoth
  by_cases h : sOk a i = true ∧ sOk b i = true
  · rw [if_pos h, if_pos ⟨h.2, h.1⟩, Int.add_comm]
  · rw [if_neg h, if_neg (fun e => h ⟨e.2, e.1⟩)]
theorem addAll_comm (a b : Int) (l : List Int) : ∀ i, addAll b a l i = addAll a b l i := by
  induction l with
  | nil => intro i; rfl
  | cons x xs ih => intro i; simp [addAll, ih, nBoth_comm a b]
theorem addAll_map (a b d : Int) (l : List Int) : ∀ i, addAll a b (l.map (· + d)) i = (addAll a b l i).map (· + d) := by
  induction l with
  | nil => intro i; rfl
  | cons x xs ih => intro i; simp [addAll, ih]; omega
theorem nAdd_comm (l : List Int) (a b : Int) : nAdd l b a = nAdd l a b := by
  unfold nAdd
  rw [addAll_comm]
  by_cases h : (l.length ≤ 20 ∧ sOk a 0 = true ∧ sOk b 0 = true) ∧ inR l = true
  · rw [if_pos h, if_pos ⟨⟨h.1.1, h.1.2.2, h.1.2.1⟩, h.2⟩]
  · rw [if_neg h, if_neg (fun e => h ⟨⟨e.1.1, e.1.2.2, e.1.2.1⟩, e.2⟩)]
theorem nAdd_length (l : List Int) (a b : Int) : (nAdd l a b).1.length ≤ 20 := by
  unfold nAdd
  split
  · have := addAll_length a b l 0
    dsimp only
    omega
  · simp
theorem nAdd_cases (l : List Int) (a b : Int) : nAdd l a b = ([], false) ∨ (nAdd l a b = (addAll a b l 0, true) ∧ (l.length ≤ 20 ∧ sOk a 0 = true ∧ sOk b 0 = true) ∧ inR l = true) := by
  unfold nAdd
  split
  · exact .inr ⟨rfl, ‹_›⟩
  · exact .inl rfl

theorem spec_l33Of_ok (n : Int) : EvE (fun _ => spec_l33Of.f n) (· = nz n) := by
  unfold spec_l33Of.f nz
  refine EvE.ite (fun h => EvE.now _ (by rw [if_pos (by omega)])) (fun h => ?_)
  refine EvE.ite (fun h2 => EvE.now _ (by rw [if_neg (by omega), if_pos (by omega)])) (fun h2 => ?_)
  refine EvE.ite (fun h3 => EvE.now _ (by rw [if_neg (by omega), if_neg (by omega), if_pos (by omega)])) (fun h3 => ?_)
  exact EvE.ite (fun h4 => EvE.now _ (by rw [if_neg (by omega), if_neg (by omega), if_neg (by omega), if_pos (by omega)])) (fun h4 => EvE.now _ (by rw [if_neg (by omega), if_neg (by omega), if_neg (by omega), if_neg (by omega)]))

theorem spec_l6In_ok (a b c : Int) : EvE (fun _ => spec_l6In.f a b c) (· = decide (b ≤ a ∧ a ≤ c)) := by
  unfold spec_l6In.f
  refine EvE.ite (fun h => EvE.now _ ?_) (fun h => EvE.now _ ?_)
  · have h : b ≤ a := h
    simp [h]
  · have h : ¬ b ≤ a := h
    simp [h]

theorem spec_l4Seed_ok (s a : Int) : EvE (fun _ => spec_l4Seed.f s a) (· = sOk s a) := by
  unfold spec_l4Seed.f
  refine EvE.bind (spec_l6In_ok s 0 999) ?_
  rintro _ rfl
  refine EvE.ite (fun h => ?_) (fun h => EvE.now _ ?_)
  · refine (EvE.tail (spec_l6In_ok a 0 20)).mono ?_
    rintro _ rfl
    have h := of_decide_eq_true h
    rw [Bool.eq_iff_iff, sOk_iff]
    simp; omega
  · rw [eq_comm, Bool.eq_false_iff]
    intro e
    have e := sOk_iff.1 e
    exact h (by simp; omega)

theorem spec_FieldOk_ok (n : Int) : EvE (fun _ => spec_FieldOk.f n) (· = decide (0 ≤ n ∧ n ≤ 30)) := by
  unfold spec_FieldOk.f
  exact EvE.tail (spec_l6In_ok n 0 30)

theorem spec_FieldSum_ok (a b : Int) (ha : 0 ≤ a) (ha' : a ≤ 30) (hb : 0 ≤ b) (hb' : b ≤ 30) : EvE (fun _ => spec_FieldSum.f a b) (· = (a + b) % 31) := by
  unfold spec_FieldSum.f
  refine EvE.bind (spec_FieldOk_ok a) ?_
  rintro _ rfl
  refine EvE.pos (by simp; omega) ?_
  refine EvE.bind (spec_FieldOk_ok b) ?_
  rintro _ rfl
  refine EvE.pos (by simp; omega) (EvE.now _ ?_)
  rw [w64 (by omega) (by omega), Int.tmod_eq_emod_of_nonneg (by omega)]

theorem spec_l4At_ok (s a : Int) (h : sOk s a = true) : EvE (fun _ => spec_l4At.f s a) (· = rAt s a) := by
  have h := sOk_iff.1 h
  unfold spec_l4At.f rAt
  have e1 : Int.tdiv s 31 = s / 31 := Int.tdiv_eq_ediv_of_nonneg h.1
  have e2 : Int.tmod s 31 = s % 31 := Int.tmod_eq_emod_of_nonneg h.1
  have m1 := mul_range (a := a) (b := a) (A := 20) (B := 20) (by omega) (by omega) (by omega) (by omega)
  have m2 := mul_range (a := a) (b := s % 31) (A := 20) (B := 30) (by omega) (by omega) (by omega) (by omega)
  rw [e1, e2]
  generalize a * a = x at *
  generalize a * (s % 31) = y at *
  rw [w64 (x := s / 31) (by omega) (by omega), w64 (x := s / 31 * 7) (by omega) (by omega), w64 (x := s + s / 31 * 7) (by omega) (by omega), w64 (x := x) (by omega) (by omega), w64 (x := x * 11) (by omega) (by omega), w64 (x := s + s / 31 * 7 + x * 11) (by omega) (by omega), w64 (x := y) (by omega) (by omega), w64 (x := y * 26) (by omega) (by omega), w64 (x := s + s / 31 * 7 + x * 11 + y * 26) (by omega) (by omega), w64 (x := a * 3) (by omega) (by omega), w64 (x := s + s / 31 * 7 + x * 11 + y * 26 + a * 3) (by omega) (by omega)]
  refine EvE.now _ ?_
  rw [Int.tmod_eq_emod_of_nonneg (by omega)]
  omega

theorem spec_RandBoth_ok (a b i : Int) (ha : sOk a i = true) (hb : sOk b i = true) : EvE (fun k => spec_RandBoth.f k a b i) (· = (rAt a i + rAt b i) % 31) := by
  unfold spec_RandBoth.f
  refine EvE.bind (spec_l4Seed_ok a i) ?_
  rintro _ rfl
  refine EvE.pos ha ?_
  refine EvE.bind (spec_l4Seed_ok b i) ?_
  rintro _ rfl
  rw [hb]
  refine EvE.succ ?_
  simp only [spec_RandBoth.j0]
  refine EvE.neg (by decide) ?_
  refine EvE.bind (spec_l4At_ok a i ha) ?_
  rintro _ rfl
  refine EvE.bind (spec_l4At_ok b i hb) ?_
  rintro _ rfl
  have r1 := rAt_range a i
  have r2 := rAt_range b i
  exact EvE.tail (spec_FieldSum_ok _ _ (by omega) (by omega) (by omega) (by omega))

theorem spec_NoiseBoth_ok (a b i : Int) : EvE (fun k => spec_NoiseBoth.f k a b i) (· = nBoth a b i) := by
  have no : ¬ (sOk a i = true ∧ sOk b i = true) → EvE (fun k => spec_NoiseBoth.j0 k a b i true) (· = nBoth a b i) := fun h => by
    refine EvE.succ ?_
    simp only [spec_NoiseBoth.j0]
    unfold nBoth
    exact EvE.pos (by trivial) (EvE.now _ (by rw [if_neg h]))
  unfold spec_NoiseBoth.f
  refine EvE.bind (spec_l4Seed_ok a i) ?_
  rintro _ rfl
  refine EvE.ite (fun h => ?_) (fun h => no (fun e => h e.1))
  refine EvE.bind (spec_l4Seed_ok b i) ?_
  rintro _ rfl
  cases h2 : sOk b i
  · exact no (fun e => by rw [h2] at e; exact absurd e.2 (by decide))
  · refine EvE.succ ?_
    simp only [spec_NoiseBoth.j0]
    refine EvE.neg (by decide) ?_
    refine EvE.bind (spec_RandBoth_ok a b i h h2) ?_
    rintro _ rfl
    refine (EvE.tail (spec_l33Of_ok _)).mono ?_
    rintro _ rfl
    unfold nBoth
    rw [if_pos (show sOk a i = true ∧ sOk b i = true from ⟨h, h2⟩)]

theorem impl_NoiseOf_ok (n : Int) : EvE (fun _ => impl_NoiseOf.f n) (· = noi n) := EvE.now _ rfl

theorem impl_within_ok (a b c : Int) : EvE (fun _ => impl_within.f a b c) (· = decide (b ≤ a ∧ a ≤ c)) := by
  unfold impl_within.f
  refine EvE.ite (fun h => EvE.now _ ?_) (fun h => EvE.now _ ?_)
  · have h : b ≤ a := h
    simp [h]
  · have h : ¬ b ≤ a := h
    simp [h]

theorem impl_seedOk_ok (s : Int) : EvE (fun _ => impl_seedOk.f s) (· = decide (0 ≤ s ∧ s ≤ 999)) := by
  unfold impl_seedOk.f
  exact EvE.tail (impl_within_ok s 0 999)

theorem impl_drawOk_ok (s a : Int) : EvE (fun _ => impl_drawOk.f s a) (· = decide (0 ≤ s ∧ s ≤ 999 ∧ 0 ≤ a ∧ a ≤ 20)) := by
  unfold impl_drawOk.f
  refine EvE.bind (impl_seedOk_ok s) ?_
  rintro _ rfl
  refine EvE.ite (fun h => ?_) (fun h => EvE.now _ ?_)
  · refine (EvE.tail (impl_within_ok a 0 20)).mono ?_
    rintro _ rfl
    have h := of_decide_eq_true h
    rw [Bool.eq_iff_iff]
    simp; omega
  · rw [eq_comm, Bool.eq_false_iff]
    intro e
    have e := of_decide_eq_true e
    exact h (by simp; omega)

theorem impl_FieldOk_ok (n : Int) : EvE (fun _ => impl_FieldOk.f n) (· = decide (0 ≤ n ∧ n ≤ 30)) := by
  unfold impl_FieldOk.f
  exact EvE.tail (impl_within_ok n 0 30)

theorem impl_elementOf_ok (n : Int) (h : -1000000 ≤ n) (h' : n ≤ 1000000) : EvE (fun _ => impl_elementOf.f n) (· = n % 31) := by
  unfold impl_elementOf.f
  refine EvE.now _ ?_
  by_cases hn : 0 ≤ n
  · have e := Int.tmod_eq_emod_of_nonneg (b := 31) hn
    rw [e, w64 (by omega) (by omega), Int.tmod_eq_emod_of_nonneg (by omega)]
    omega
  · have e : Int.tmod n 31 = - ((-n) % 31) := by
      have := Int.tmod_eq_emod_of_nonneg (a := -n) (b := 31) (by omega)
      rw [Int.neg_tmod] at this
      omega
    rw [e, w64 (by omega) (by omega), Int.tmod_eq_emod_of_nonneg (by omega)]
    omega

theorem impl_element_plus_ok (a b : Int) (ha : 0 ≤ a) (ha' : a ≤ 30) (hb : 0 ≤ b) (hb' : b ≤ 30) : EvE (fun _ => impl_element_plus.f a b) (· = (a + b) % 31) := by
  unfold impl_element_plus.f
  rw [w64 (x := a + b) (by omega) (by omega)]
  exact EvE.tail (impl_elementOf_ok _ (by omega) (by omega))

theorem impl_FieldSum_ok (a b : Int) (ha : 0 ≤ a) (ha' : a ≤ 30) (hb : 0 ≤ b) (hb' : b ≤ 30) : EvE (fun _ => impl_FieldSum.f a b) (· = (a + b) % 31) := by
  unfold impl_FieldSum.f
  refine EvE.bind (impl_FieldOk_ok a) ?_
  rintro _ rfl
  refine EvE.pos (by simp; omega) ?_
  refine EvE.bind (impl_FieldOk_ok b) ?_
  rintro _ rfl
  refine EvE.pos (by simp; omega) ?_
  exact EvE.tail (impl_element_plus_ok a b ha ha' hb hb')

theorem impl_RandAt_ok (s a : Int) (h : sOk s a = true) : EvE (fun _ => impl_RandAt.f s a) (· = rAt s a) := by
  have h := sOk_iff.1 h
  unfold impl_RandAt.f
  refine EvE.bind (impl_drawOk_ok s a) ?_
  rintro _ rfl
  refine EvE.pos (by simp; omega) ?_
  have e1 : Int.tdiv s 31 = s / 31 := Int.tdiv_eq_ediv_of_nonneg h.1
  have e2 : Int.tmod s 31 = s % 31 := Int.tmod_eq_emod_of_nonneg h.1
  have m1 := mul_range (a := a) (b := a) (A := 20) (B := 20) (by omega) (by omega) (by omega) (by omega)
  have m2 := mul_range (a := a) (b := s % 31) (A := 20) (B := 30) (by omega) (by omega) (by omega) (by omega)
  have e3 : 11 * a * a = 11 * (a * a) := Int.mul_assoc ..
  have e4 : 26 * a * (s % 31) = 26 * (a * (s % 31)) := Int.mul_assoc ..
  unfold rAt
  rw [e1, e2, w64 (x := 11 * a) (by omega) (by omega), w64 (x := 26 * a) (by omega) (by omega), e3, e4]
  generalize a * a = x at *
  generalize a * (s % 31) = y at *
  rw [w64 (x := s / 31) (by omega) (by omega), w64 (x := 7 * (s / 31)) (by omega) (by omega), w64 (x := s + 7 * (s / 31)) (by omega) (by omega), w64 (x := 11 * x) (by omega) (by omega), w64 (x := s + 7 * (s / 31) + 11 * x) (by omega) (by omega), w64 (x := 26 * y) (by omega) (by omega), w64 (x := s + 7 * (s / 31) + 11 * x + 26 * y) (by omega) (by omega), w64 (x := 3 * a) (by omega) (by omega), w64 (x := s + 7 * (s / 31) + 11 * x + 26 * y + 3 * a) (by omega) (by omega)]
  refine EvE.now _ ?_
  rw [Int.tmod_eq_emod_of_nonneg (by omega)]

theorem impl_RandBoth_ok (a b i : Int) (ha : sOk a i = true) (hb : sOk b i = true) : EvE (fun k => impl_RandBoth.f k a b i) (· = (rAt a i + rAt b i) % 31) := by
  have ha' := sOk_iff.1 ha
  have hb' := sOk_iff.1 hb
  unfold impl_RandBoth.f
  refine EvE.bind (impl_drawOk_ok a i) ?_
  rintro _ rfl
  refine EvE.pos (by simp; omega) ?_
  refine EvE.bind (impl_drawOk_ok b i) ?_
  rintro _ rfl
  rw [decide_eq_true (by omega)]
  refine EvE.succ ?_
  simp only [impl_RandBoth.j0]
  refine EvE.neg (by decide) ?_
  refine EvE.bind (impl_RandAt_ok a i ha) ?_
  rintro _ rfl
  refine EvE.bind (impl_RandAt_ok b i hb) ?_
  rintro _ rfl
  have r1 := rAt_range a i
  have r2 := rAt_range b i
  exact EvE.tail (impl_FieldSum_ok _ _ (by omega) (by omega) (by omega) (by omega))

theorem impl_NoiseBoth_ok (a b i : Int) : EvE (fun k => impl_NoiseBoth.f k a b i) (· = nBoth a b i) := by
  have no : ¬ (sOk a i = true ∧ sOk b i = true) → EvE (fun k => impl_NoiseBoth.j0 k a b i true) (· = nBoth a b i) := fun h => by
    refine EvE.succ ?_
    simp only [impl_NoiseBoth.j0]
    unfold nBoth
    exact EvE.pos (by trivial) (EvE.now _ (by rw [if_neg h]))
  unfold impl_NoiseBoth.f
  refine EvE.bind (impl_drawOk_ok a i) ?_
  rintro _ rfl
  refine EvE.ite (fun h => ?_) (fun h => no (fun e => h e.1))
  refine EvE.bind (impl_drawOk_ok b i) ?_
  rintro _ rfl
  by_cases h2 : sOk b i = true
  · rw [show decide (0 ≤ b ∧ b ≤ 999 ∧ 0 ≤ i ∧ i ≤ 20) = true from h2]
    refine EvE.succ ?_
    simp only [impl_NoiseBoth.j0]
    refine EvE.neg (by decide) ?_
    refine EvE.bind (impl_RandBoth_ok a b i h h2) ?_
    rintro _ rfl
    refine (EvE.tail (impl_NoiseOf_ok _)).mono ?_
    rintro _ rfl
    unfold nBoth noi
    rw [if_pos (show sOk a i = true ∧ sOk b i = true from ⟨h, h2⟩), if_pos (by omega)]
  · rw [show decide (0 ≤ b ∧ b ≤ 999 ∧ 0 ≤ i ∧ i ≤ 20) = false from Bool.eq_false_iff.2 h2]
    exact no (fun e => h2 e.2)

theorem FnExactNoiseBoth : laws_FnExactNoiseBoth.Pure := by
  intro a b i _ _ _
  refine EvE.rounds ?_
  unfold laws_FnExactNoiseBoth.f
  refine EvE.bind (spec_NoiseBoth_ok a b i) ?_
  rintro _ rfl
  refine EvE.bind (impl_NoiseBoth_ok a b i) ?_
  rintro _ rfl
  exact EvE.pos (by trivial) (EvE.now _ rfl)

end Go.Proofs.Ythmllnigphcpaaa.Pure
