/- Neither seed alone tells of the noise: over all field elements as one seed each noise is as often as it is over all field elements; of a drawn place the noise is the reference's. It has no conditions. -/
import Derived.Test.YthmllnigphcpaaaPFnNoiseBothx3
import Derived.Test.YthmllnigphcpaaaPb
namespace Go.Proofs.Ythmllnigphcpaaa.Pure
open Go.RowKit Go.Proofs.Ythmllnigphcpaaa.PFnNoiseBoth Go.Proofs.YthmllnigphcpaaaW.PrintWords Go.Proofs.YthmllnigphcpaaaW.PrintLast Go.Proofs.Ythmllnigphcpaaa.Pb
set_option linter.unusedVariables false
set_option linter.unusedSimpArgs false

theorem nz_range (n : Int) : -2 ≤ nz n ∧ nz n ≤ 2 := by
  unfold nz; split <;> (try split) <;> (try split) <;> (try split) <;> omega
def noi (n : Int) : Int := if 0 ≤ n ∧ n ≤ 30 then nz n else 0
theorem noi_range (n : Int) : -2 ≤ noi n ∧ noi n ≤ 2 := by
  unfold noi; split
  · exact nz_range n
  · omega
def sOk (s a : Int) : Bool := decide (0 ≤ s ∧ s ≤ 999 ∧ 0 ≤ a ∧ a ≤ 20)
theorem sOk_iff {s a : Int} : sOk s a = true ↔ (0 ≤ s ∧ s ≤ 999 ∧ 0 ≤ a ∧ a ≤ 20) := by simp [sOk]
def rAt (s a : Int) : Int := (s + 7 * (s / 31) + 11 * (a * a) + 26 * (a * (s % 31)) + 3 * a) % 31
theorem rAt_range (s a : Int) : 0 ≤ rAt s a ∧ rAt s a ≤ 30 := by unfold rAt; omega
def nBoth (a b i : Int) : Int := if sOk a i = true ∧ sOk b i = true then nz ((rAt a i + rAt b i) % 31) else 0
theorem nBoth_range (a b i : Int) : -2 ≤ nBoth a b i ∧ nBoth a b i ≤ 2 := by
  unfold nBoth; split
  · exact nz_range _
  · omega
def addAll (a b : Int) : List Int → Nat → List Int
  | [], _ => []
  | x :: xs, i => (x + nBoth a b (i : Int)) :: addAll a b xs (i + 1)
def inR (l : List Int) : Bool := l.all fun x => decide (0 ≤ x ∧ x ≤ 9999)
def nAdd (l : List Int) (a b : Int) : List Int × Bool := if (l.length ≤ 20 ∧ sOk a 0 = true ∧ sOk b 0 = true) ∧ inR l = true then (addAll a b l 0, true) else ([], false)
theorem addAll_get (a b : Int) (l : List Int) : ∀ i j, (addAll a b l i)[j]? = (l[j]?).map fun x => x + nBoth a b ((i + j : Nat) : Int) := by
  induction l with
  | nil => intro i j; simp [addAll]
  | cons x xs ih =>
    intro i j
    cases j with
    | zero => simp [addAll]
    | succ j =>
      simp only [addAll, List.getElem?_cons_succ]
      rw [ih (i + 1) j, show i + 1 + j = i + (j + 1) by omega]
theorem addAll_length (a b : Int) (l : List Int) : ∀ i, (addAll a b l i).length = l.length := by
  induction l with
  | nil => intro i; rfl
  | cons x xs ih => intro i; simp [addAll, ih]
theorem addAll_rd (a b : Int) {l : List Int} {j : Nat} (h : j < l.length) : rd (addAll a b l 0) (j : Int) = rd l (j : Int) + nBoth a b (j : Int) := by
  have := addAll_get a b l 0 j
  rw [List.getElem?_eq_getElem h, List.getElem?_eq_getElem (by rw [addAll_length]; exact h)] at this
  rw [rd_nat h, rd_nat (by rw [addAll_length]; exact h)]
  simpa using this
theorem nBoth_comm (a b i : Int) : nBoth b a i = nBoth a b i := by
  unfold nBoth
  by_cases h : sOk a i = true ∧ sOk b i = true
  · rw [if_pos h, if_pos ⟨h.2, h.1⟩, Int.add_comm]
  · rw [if_neg h, if_neg (fun e => h ⟨e.2, e.1⟩)]
theorem addAll_comm (a b : Int) (l : List Int) : ∀ i, addAll b a l i = addAll a b l i := by
  induction l with
  | nil => intro i; rfl
  | cons x xs ih => intro i; simp [addAll, ih, nBoth_comm a b]
theorem addAll_map (a b d : Int) (l : List Int) : ∀ i, addAll a b (l.map (· + d)) i = (addAll a b l i).map (· + d) := by
  induction l with
  | nil => intro i; rfl
  | cons x xs ih => intro i; simp [addAll, ih]; omega
theorem nAdd_comm (l : List Int) (a b : Int) : nAdd l b a = nAdd l a b := by
  unfold nAdd
  rw [addAll_comm]
  by_cases h : (l.length ≤ 20 ∧ sOk a 0 = true ∧ sOk b 0 = true) ∧ inR l = true
  · rw [if_pos h, if_pos ⟨⟨h.1.1, h.1.2.2, h.1.2.1⟩, h.2⟩]
  · rw [if_neg h, if_neg (fun e => h ⟨⟨e.1.1, e.1.2.2, e.1.2.1⟩, e.2⟩)]
theorem nAdd_length (l : List Int) (a b : Int) : (nAdd l a b).1.length ≤ 20 := by
  unfold nAdd
  split
  · have := addAll_length a b l 0
    dsimp only
    omega
  · simp
theorem nAdd_cases (l : List Int) (a b : Int) : nAdd l a b = ([], false) ∨ (nAdd l a b = (addAll a b l 0, true) ∧ (l.length ≤ 20 ∧ sOk a 0 = true ∧ sOk b 0 = true) ∧ inR l = true) := by
  unfold nAdd
  split
  · exact .inr ⟨rfl, ‹_›⟩
  · exact .inl rfl

theorem impl_NoiseMany_ok (v : Int) : EvE (fun _ => impl_NoiseMany.f v) (· = cnt v 31) := EvE.now _ rfl

theorem impl_NoiseOf_ok (n : Int) : EvE (fun _ => impl_NoiseOf.f n) (· = noi n) := EvE.now _ rfl

theorem spec_l33Of_ok (n : Int) : EvE (fun _ => spec_l33Of.f n) (· = nz n) := by
  unfold spec_l33Of.f nz
  refine EvE.ite (fun h => EvE.now _ (by rw [if_pos (by omega)])) (fun h => ?_)
  refine EvE.ite (fun h2 => EvE.now _ (by rw [if_neg (by omega), if_pos (by omega)])) (fun h2 => ?_)
  refine EvE.ite (fun h3 => EvE.now _ (by rw [if_neg (by omega), if_neg (by omega), if_pos (by omega)])) (fun h3 => ?_)
  exact EvE.ite (fun h4 => EvE.now _ (by rw [if_neg (by omega), if_neg (by omega), if_neg (by omega), if_pos (by omega)])) (fun h4 => EvE.now _ (by rw [if_neg (by omega), if_neg (by omega), if_neg (by omega), if_neg (by omega)]))

theorem spec_l6In_ok (a b c : Int) : EvE (fun _ => spec_l6In.f a b c) (· = decide (b ≤ a ∧ a ≤ c)) := by
  unfold spec_l6In.f
  refine EvE.ite (fun h => EvE.now _ ?_) (fun h => EvE.now _ ?_)
  · have h : b ≤ a := h
    simp [h]
  · have h : ¬ b ≤ a := h
    simp [h]

theorem spec_l4Seed_ok (s a : Int) : EvE (fun _ => spec_l4Seed.f s a) (· = sOk s a) := by
  unfold spec_l4Seed.f
  refine EvE.bind (spec_l6In_ok s 0 999) ?_
  rintro _ rfl
  refine EvE.ite (fun h => ?_) (fun h => EvE.now _ ?_)
  · refine (EvE.tail (spec_l6In_ok a 0 20)).mono ?_
    rintro _ rfl
    have h := of_decide_eq_true h
    rw [Bool.eq_iff_iff, sOk_iff]
    simp; omega
  · rw [eq_comm, Bool.eq_false_iff]
    intro e
    have e := sOk_iff.1 e
    exact h (by simp; omega)

theorem spec_FieldOk_ok (n : Int) : EvE (fun _ => spec_FieldOk.f n) (· = decide (0 ≤ n ∧ n ≤ 30)) := by
  unfold spec_FieldOk.f
  exact EvE.tail (spec_l6In_ok n 0 30)

theorem spec_FieldSum_ok (a b : Int) (ha : 0 ≤ a) (ha' : a ≤ 30) (hb : 0 ≤ b) (hb' : b ≤ 30) : EvE (fun _ => spec_FieldSum.f a b) (· = (a + b) % 31) := by
  unfold spec_FieldSum.f
  refine EvE.bind (spec_FieldOk_ok a) ?_
  rintro _ rfl
  refine EvE.pos (by simp; omega) ?_
  refine EvE.bind (spec_FieldOk_ok b) ?_
  rintro _ rfl
  refine EvE.pos (by simp; omega) (EvE.now _ ?_)
  rw [w64 (by omega) (by omega), Int.tmod_eq_emod_of_nonneg (by omega)]

theorem spec_l4At_ok (s a : Int) (h : sOk s a = true) : EvE (fun _ => spec_l4At.f s a) (· = rAt s a) := by
  have h := sOk_iff.1 h
  unfold spec_l4At.f rAt
  have e1 : Int.tdiv s 31 = s / 31 := Int.tdiv_eq_ediv_of_nonneg h.1
  have e2 : Int.tmod s 31 = s % 31 := Int.tmod_eq_emod_of_nonneg h.1
  have m1 := mul_range (a := a) (b := a) (A := 20) (B := 20) (by omega) (by omega) (by omega) (by omega)
  have m2 := mul_range (a := a) (b := s % 31) (A := 20) (B := 30) (by omega) (by omega) (by omega) (by omega)
  rw [e1, e2]
  generalize a * a = x at *
  generalize a * (s % 31) = y at *
  rw [w64 (x := s / 31) (by omega) (by omega), w64 (x := s / 31 * 7) (by omega) (by omega), w64 (x := s + s / 31 * 7) (by omega) (by omega), w64 (x := x) (by omega) (by omega), w64 (x := x * 11) (by omega) (by omega), w64 (x := s + s / 31 * 7 + x * 11) (by omega) (by omega), w64 (x := y) (by omega) (by omega), w64 (x := y * 26) (by omega) (by omega), w64 (x := s + s / 31 * 7 + x * 11 + y * 26) (by omega) (by omega), w64 (x := a * 3) (by omega) (by omega), w64 (x := s + s / 31 * 7 + x * 11 + y * 26 + a * 3) (by omega) (by omega)]
  refine EvE.now _ ?_
  rw [Int.tmod_eq_emod_of_nonneg (by omega)]
  omega

theorem spec_RandBoth_ok (a b i : Int) (ha : sOk a i = true) (hb : sOk b i = true) : EvE (fun k => spec_RandBoth.f k a b i) (· = (rAt a i + rAt b i) % 31) := by
  unfold spec_RandBoth.f
  refine EvE.bind (spec_l4Seed_ok a i) ?_
  rintro _ rfl
  refine EvE.pos ha ?_
  refine EvE.bind (spec_l4Seed_ok b i) ?_
  rintro _ rfl
  rw [hb]
  refine EvE.succ ?_
  simp only [spec_RandBoth.j0]
  refine EvE.neg (by decide) ?_
  refine EvE.bind (spec_l4At_ok a i ha) ?_
  rintro _ rfl
  refine EvE.bind (spec_l4At_ok b i hb) ?_
  rintro _ rfl
  have r1 := rAt_range a i
  have r2 := rAt_range b i
  exact EvE.tail (spec_FieldSum_ok _ _ (by omega) (by omega) (by omega) (by omega))

theorem spec_NoiseBoth_ok (a b i : Int) : EvE (fun k => spec_NoiseBoth.f k a b i) (· = nBoth a b i) := by
  have no : ¬ (sOk a i = true ∧ sOk b i = true) → EvE (fun k => spec_NoiseBoth.j0 k a b i true) (· = nBoth a b i) := fun h => by
    refine EvE.succ ?_
    simp only [spec_NoiseBoth.j0]
    unfold nBoth
    exact EvE.pos (by trivial) (EvE.now _ (by rw [if_neg h]))
  unfold spec_NoiseBoth.f
  refine EvE.bind (spec_l4Seed_ok a i) ?_
  rintro _ rfl
  refine EvE.ite (fun h => ?_) (fun h => no (fun e => h e.1))
  refine EvE.bind (spec_l4Seed_ok b i) ?_
  rintro _ rfl
  cases h2 : sOk b i
  · exact no (fun e => by rw [h2] at e; exact absurd e.2 (by decide))
  · refine EvE.succ ?_
    simp only [spec_NoiseBoth.j0]
    refine EvE.neg (by decide) ?_
    refine EvE.bind (spec_RandBoth_ok a b i h h2) ?_
    rintro _ rfl
    refine (EvE.tail (spec_l33Of_ok _)).mono ?_
    rintro _ rfl
    unfold nBoth
    rw [if_pos (show sOk a i = true ∧ sOk b i = true from ⟨h, h2⟩)]

theorem impl_within_ok (a b c : Int) : EvE (fun _ => impl_within.f a b c) (· = decide (b ≤ a ∧ a ≤ c)) := by
  unfold impl_within.f
  refine EvE.ite (fun h => EvE.now _ ?_) (fun h => EvE.now _ ?_)
  · have h : b ≤ a := h
    simp [h]
  · have h : ¬ b ≤ a := h
    simp [h]

theorem impl_seedOk_ok (s : Int) : EvE (fun _ => impl_seedOk.f s) (· = decide (0 ≤ s ∧ s ≤ 999)) := by
  unfold impl_seedOk.f
  exact EvE.tail (impl_within_ok s 0 999)

theorem impl_drawOk_ok (s a : Int) : EvE (fun _ => impl_drawOk.f s a) (· = decide (0 ≤ s ∧ s ≤ 999 ∧ 0 ≤ a ∧ a ≤ 20)) := by
  unfold impl_drawOk.f
  refine EvE.bind (impl_seedOk_ok s) ?_
  rintro _ rfl
  refine EvE.ite (fun h => ?_) (fun h => EvE.now _ ?_)
  · refine (EvE.tail (impl_within_ok a 0 20)).mono ?_
    rintro _ rfl
    have h := of_decide_eq_true h
    rw [Bool.eq_iff_iff]
    simp; omega
  · rw [eq_comm, Bool.eq_false_iff]
    intro e
    have e := of_decide_eq_true e
    exact h (by simp; omega)

theorem impl_FieldOk_ok (n : Int) : EvE (fun _ => impl_FieldOk.f n) (· = decide (0 ≤ n ∧ n ≤ 30)) := by
  unfold impl_FieldOk.f
  exact EvE.tail (impl_within_ok n 0 30)

theorem impl_elementOf_ok (n : Int) (h : -1000000 ≤ n) (h' : n ≤ 1000000) : EvE (fun _ => impl_elementOf.f n) (· = n % 31) := by
  unfold impl_elementOf.f
  refine EvE.now _ ?_
  by_cases hn : 0 ≤ n
  · have e := Int.tmod_eq_emod_of_nonneg (b := 31) hn
    rw [e, w64 (by omega) (by omega), Int.tmod_eq_emod_of_nonneg (by omega)]
    omega
  · have e : Int.tmod n 31 = - ((-n) % 31) := by
      have := Int.tmod_eq_emod_of_nonneg (a := -n) (b := 31) (by omega)
      rw [Int.neg_tmod] at this
      omega
    rw [e, w64 (by omega) (by omega), Int.tmod_eq_emod_of_nonneg (by omega)]
    omega

theorem impl_element_plus_ok (a b : Int) (ha : 0 ≤ a) (ha' : a ≤ 30) (hb : 0 ≤ b) (hb' : b ≤ 30) : EvE (fun _ => impl_element_plus.f a b) (· = (a + b) % 31) := by
  unfold impl_element_plus.f
  rw [w64 (x := a + b) (by omega) (by omega)]
  exact EvE.tail (impl_elementOf_ok _ (by omega) (by omega))

theorem impl_FieldSum_ok (a b : Int) (ha : 0 ≤ a) (ha' : a ≤ 30) (hb : 0 ≤ b) (hb' : b ≤ 30) : EvE (fun _ => impl_FieldSum.f a b) (· = (a + b) % 31) := by
  unfold impl_FieldSum.f
  refine EvE.bind (impl_FieldOk_ok a) ?_
  rintro _ rfl
  refine EvE.pos (by simp; omega) ?_
  refine EvE.bind (impl_FieldOk_ok b) ?_
  rintro _ rfl
  refine EvE.pos (by simp; omega) ?_
  exact EvE.tail (impl_element_plus_ok a b ha ha' hb hb')

theorem impl_RandAt_ok (s a : Int) (h : sOk s a = true) : EvE (fun _ => impl_RandAt.f s a) (· = rAt s a) := by
  have h := sOk_iff.1 h
  unfold impl_RandAt.f
  refine EvE.bind (impl_drawOk_ok s a) ?_
  rintro _ rfl
  refine EvE.pos (by simp; omega) ?_
  have e1 : Int.tdiv s 31 = s / 31 := Int.tdiv_eq_ediv_of_nonneg h.1
  have e2 : Int.tmod s 31 = s % 31 := Int.tmod_eq_emod_of_nonneg h.1
  have m1 := mul_range (a := a) (b := a) (A := 20) (B := 20) (by omega) (by omega) (by omega) (by omega)
  have m2 := mul_range (a := a) (b := s % 31) (A := 20) (B := 30) (by omega) (by omega) (by omega) (by omega)
  have e3 : 11 * a * a = 11 * (a * a) := Int.mul_assoc ..
  have e4 : 26 * a * (s % 31) = 26 * (a * (s % 31)) := Int.mul_assoc ..
  unfold rAt
  rw [e1, e2, w64 (x := 11 * a) (by omega) (by omega), w64 (x := 26 * a) (by omega) (by omega), e3, e4]
  generalize a * a = x at *
  generalize a * (s % 31) = y at *
  rw [w64 (x := s / 31) (by omega) (by omega), w64 (x := 7 * (s / 31)) (by omega) (by omega), w64 (x := s + 7 * (s / 31)) (by omega) (by omega), w64 (x := 11 * x) (by omega) (by omega), w64 (x := s + 7 * (s / 31) + 11 * x) (by omega) (by omega), w64 (x := 26 * y) (by omega) (by omega), w64 (x := s + 7 * (s / 31) + 11 * x + 26 * y) (by omega) (by omega), w64 (x := 3 * a) (by omega) (by omega), w64 (x := s + 7 * (s / 31) + 11 * x + 26 * y + 3 * a) (by omega) (by omega)]
  refine EvE.now _ ?_
  rw [Int.tmod_eq_emod_of_nonneg (by omega)]

theorem impl_RandBoth_ok (a b i : Int) (ha : sOk a i = true) (hb : sOk b i = true) : EvE (fun k => impl_RandBoth.f k a b i) (· = (rAt a i + rAt b i) % 31) := by
  have ha' := sOk_iff.1 ha
  have hb' := sOk_iff.1 hb
  unfold impl_RandBoth.f
  refine EvE.bind (impl_drawOk_ok a i) ?_
  rintro _ rfl
  refine EvE.pos (by simp; omega) ?_
  refine EvE.bind (impl_drawOk_ok b i) ?_
  rintro _ rfl
  rw [decide_eq_true (by omega)]
  refine EvE.succ ?_
  simp only [impl_RandBoth.j0]
  refine EvE.neg (by decide) ?_
  refine EvE.bind (impl_RandAt_ok a i ha) ?_
  rintro _ rfl
  refine EvE.bind (impl_RandAt_ok b i hb) ?_
  rintro _ rfl
  have r1 := rAt_range a i
  have r2 := rAt_range b i
  exact EvE.tail (impl_FieldSum_ok _ _ (by omega) (by omega) (by omega) (by omega))

theorem impl_NoiseBoth_ok (a b i : Int) : EvE (fun k => impl_NoiseBoth.f k a b i) (· = nBoth a b i) := by
  have no : ¬ (sOk a i = true ∧ sOk b i = true) → EvE (fun k => impl_NoiseBoth.j0 k a b i true) (· = nBoth a b i) := fun h => by
    refine EvE.succ ?_
    simp only [impl_NoiseBoth.j0]
    unfold nBoth
    exact EvE.pos (by trivial) (EvE.now _ (by rw [if_neg h]))
  unfold impl_NoiseBoth.f
  refine EvE.bind (impl_drawOk_ok a i) ?_
  rintro _ rfl
  refine EvE.ite (fun h => ?_) (fun h => no (fun e => h e.1))
  refine EvE.bind (impl_drawOk_ok b i) ?_
  rintro _ rfl
  by_cases h2 : sOk b i = true
  · rw [show decide (0 ≤ b ∧ b ≤ 999 ∧ 0 ≤ i ∧ i ≤ 20) = true from h2]
    refine EvE.succ ?_
    simp only [impl_NoiseBoth.j0]
    refine EvE.neg (by decide) ?_
    refine EvE.bind (impl_RandBoth_ok a b i h h2) ?_
    rintro _ rfl
    refine (EvE.tail (impl_NoiseOf_ok _)).mono ?_
    rintro _ rfl
    unfold nBoth noi
    rw [if_pos (show sOk a i = true ∧ sOk b i = true from ⟨h, h2⟩), if_pos (by omega)]
  · rw [show decide (0 ≤ b ∧ b ≤ 999 ∧ 0 ≤ i ∧ i ≤ 20) = false from Bool.eq_false_iff.2 h2]
    exact no (fun e => h2 e.2)

theorem spec_l6Open_ok {l : List Int} (h : ∀ x ∈ l, (Lit.int .u8 x).wf = true) : EvE (fun _ => spec_l6Open.f l) (fun r => ∃ s, r = (s, 0) ∧ Coded s) := by
  have h := u8_range h
  unfold spec_l6Open.f
  refine EvE.ite (fun h1 => EvE.pos (by omega) (EvE.now _ ⟨_, rfl, fun x hx => h x (List.mem_of_mem_take hx), ?_⟩)) (fun h1 => EvE.now _ ⟨_, rfl, h, by omega⟩)
  rw [List.length_take]; omega

theorem spec_l6Rd_pick_ok {s : List Int} (hs : Coded s) (p n : Int) (h0 : 0 ≤ p) (h1 : p ≤ 1000000) (hn : 1 ≤ n) (hn' : n ≤ 1000000) :
    EvE (fun k => spec_l6Rd_pick.f k s p n) (fun r => ∃ v, r = (v, p + 1) ∧ 0 ≤ v ∧ v < n) := by
  unfold spec_l6Rd_pick.f
  rw [w64 (x := p + 1) (by omega) (by omega)]
  refine EvE.neg (by omega) (EvE.succ ?_)
  simp only [spec_l6Rd_pick.j0]
  have e : wrap64 (p + 1 - 1) = p := by rw [w64 (by omega) (by omega)]; omega
  rw [e]
  have rg := rd_range hs.1
  have hl := hs.2
  refine EvE.ite (fun _ => EvE.now _ ⟨0, rfl, by omega, by omega⟩) (fun hz => ?_)
  have hpos : 1 ≤ (s.length : Int) := by
    have : s.length ≠ 0 := by simpa using hz
    omega
  refine EvE.ite (fun hlt => EvE.pos h0 (EvE.neg (by omega) (EvE.now _ ?_))) (fun hge => ?_)
  · have := rg p
    rw [w64 (x := rd s p) (by omega) (by omega)]
    exact ⟨_, rfl, tmod_range (by omega) hn⟩
  · refine EvE.neg (by omega) ?_
    have t1 := tmod_range (a := p) (n := (s.length : Int)) h0 hpos
    have e1 : wrap64 (p * 7) = p * 7 := w64 (by omega) (by omega)
    have e2 : wrap64 (p * 7 + 3) = p * 7 + 3 := w64 (by omega) (by omega)
    rw [e1, e2]
    have t2 := tmod_range (a := p * 7 + 3) (n := (s.length : Int)) (by omega) hpos
    refine EvE.pos t1.1 (EvE.pos t1.2 (EvE.pos t2.1 (EvE.pos t2.2 (EvE.neg (by omega) (EvE.now _ ?_)))))
    have r1 := rg (Int.tmod p s.length)
    have r2 := rg (Int.tmod (p * 7 + 3) s.length)
    generalize rd s (Int.tmod p s.length) = A at *
    generalize rd s (Int.tmod (p * 7 + 3) s.length) = B at *
    have dq : 0 ≤ Int.tdiv p s.length ∧ Int.tdiv p s.length ≤ p := by
      rw [Int.tdiv_eq_ediv_of_nonneg h0]
      exact ⟨Int.ediv_nonneg h0 (by omega), Int.ediv_le_self _ h0⟩
    generalize Int.tdiv p s.length = Q at *
    rw [w64 (x := A) (by omega) (by omega), w64 (x := B) (by omega) (by omega), w64 (x := A * 131) (by omega) (by omega), w64 (x := B * 1117) (by omega) (by omega), w64 (x := p * 29) (by omega) (by omega), w64 (x := Q) (by omega) (by omega), w64 (x := Q * 53) (by omega) (by omega), w64 (x := A * 131 + B * 1117) (by omega) (by omega), w64 (x := A * 131 + B * 1117 + p * 29) (by omega) (by omega), w64 (x := A * 131 + B * 1117 + p * 29 + Q * 53) (by omega) (by omega)]
    have hX : 0 ≤ A * 131 + B * 1117 + p * 29 + Q * 53 ∧ A * 131 + B * 1117 + p * 29 + Q * 53 < 1000000000000 := by omega
    generalize A * 131 + B * 1117 + p * 29 + Q * 53 = X at *
    have e3 : wrap64 (Int.tdiv X 64) = X / 64 := by
      rw [Int.tdiv_eq_ediv_of_nonneg hX.1]
      exact w64 (by omega) (by omega)
    rw [e3]
    have hx := xor_nonneg (a := X) (b := X / 64) (by omega) (by omega) (by omega) (by omega)
    exact ⟨_, rfl, tmod_range hx.1 hn⟩

theorem spec_l91Seed_ok {s : List Int} (hs : Coded s) (p : Int) (h0 : 0 ≤ p) (h1 : p ≤ 900000) : EvE (fun k => spec_l91Seed.f k s p) (fun r => ∃ a q, r = (a, q) ∧ p ≤ q ∧ q ≤ p + 2 ∧ -1 ≤ a ∧ a ≤ 1000) := by
  unfold spec_l91Seed.f
  refine EvE.bind (spec_l6Rd_pick_ok hs p 60 h0 (by omega) (by omega) (by omega)) ?_
  rintro _ ⟨a, rfl, ha, ha'⟩
  dsimp only
  refine EvE.ite (fun _ => ?_) (fun _ => ?_)
  · refine EvE.bind (EvE.now (P := fun r => r = [-1, 1000]) _ rfl) ?_
    rintro _ rfl
    refine EvE.bind (spec_l6Rd_pick_ok hs _ 2 (by omega) (by omega) (by omega) (by omega)) ?_
    rintro _ ⟨b, rfl, hb, hb'⟩
    dsimp only
    refine EvE.pos hb (EvE.pos (by simp; omega) (EvE.now _ ⟨_, _, rfl, by omega, by omega, ?_⟩))
    have : b = 0 ∨ b = 1 := by omega
    rcases this with rfl | rfl <;> simp [rd]
  · refine EvE.bind (spec_l6Rd_pick_ok hs _ 1000 (by omega) (by omega) (by omega) (by omega)) ?_
    rintro _ ⟨b, rfl, hb, hb'⟩
    exact EvE.now _ ⟨_, _, rfl, by omega, by omega, by omega, by omega⟩

theorem spec_DrawRandBoth_ok {l : List Int} (h : ∀ x ∈ l, (Lit.int .u8 x).wf = true) : EvE (fun k => spec_DrawRandBoth.f k l) (fun _ => True) := by
  unfold spec_DrawRandBoth.f
  refine EvE.bind (spec_l6Open_ok h) ?_
  rintro _ ⟨s, rfl, hs⟩
  dsimp only
  refine EvE.bind (spec_l91Seed_ok hs 0 (by omega) (by omega)) ?_
  rintro _ ⟨a, q, rfl, h1, h2, _⟩
  dsimp only
  refine EvE.bind (spec_l91Seed_ok hs q (by omega) (by omega)) ?_
  rintro _ ⟨b, q', rfl, h3, h4, _⟩
  dsimp only
  refine EvE.bind (spec_l6Rd_pick_ok hs _ 23 (by omega) (by omega) (by omega) (by omega)) ?_
  rintro _ ⟨c, rfl, _⟩
  exact EvE.now _ trivial

theorem spec_DrawNoiseBoth_ok {l : List Int} (h : ∀ x ∈ l, (Lit.int .u8 x).wf = true) : EvE (fun k => spec_DrawNoiseBoth.f k l) (fun _ => True) := by
  unfold spec_DrawNoiseBoth.f
  refine EvE.bind (spec_DrawRandBoth_ok h) ?_
  rintro ⟨a, b, c⟩ _
  exact EvE.now _ trivial

theorem perms : ∀ i, i < 21 → ∀ c, c < 31 → ((List.range 31).map (fun d => ((d + 11 * (i * i) + 26 * (i * d) + 3 * i) % 31 + c) % 31)).isPerm (List.range 31) = true := by decide +kernel
theorem count_all (v : Int) (g : Nat → Nat) (h : ((List.range 31).map g).isPerm (List.range 31) = true) : (((List.range 31).filter fun d : Nat => nz (g d : Int) == v).length : Int) = cnt v 31 := by
  have hp := List.isPerm_iff.1 h
  have h2 := (hp.filter (fun j : Nat => nz (j : Int) == v)).length_eq
  unfold cnt
  rw [← h2, List.filter_map, List.length_map]
  rfl
def cg (v : Int) (g : Nat → Int) (k : Nat) : Int := ((List.range k).filter fun d : Nat => g d == v).length
theorem cg_le (v : Int) (g : Nat → Int) (k : Nat) : 0 ≤ cg v g k ∧ cg v g k ≤ k := by
  unfold cg
  have := List.length_filter_le (fun d : Nat => g d == v) (List.range k)
  rw [List.length_range] at this
  omega
theorem cg_succ (v : Int) (g : Nat → Int) (k : Nat) : cg v g (k + 1) = if g k = v then cg v g k + 1 else cg v g k := by
  unfold cg
  rw [List.range_succ, List.filter_append]
  by_cases h : g k = v <;> simp [h]
theorem cg_both (v b i : Int) (hb : sOk b i = true) : cg v (fun d => nBoth (d : Int) b i) 31 = cnt v 31 ∧ cg v (fun d => nBoth b (d : Int) i) 31 = cnt v 31 := by
  have hb' := sOk_iff.1 hb
  have hr := rAt_range b i
  obtain ⟨j, rfl⟩ := Int.eq_ofNat_of_zero_le hb'.2.2.1
  generalize hc : rAt b (j : Int) = c at *
  obtain ⟨c, rfl⟩ := Int.eq_ofNat_of_zero_le hr.1
  have hp := perms j (by omega) c (by omega)
  have key : ∀ d : Nat, d < 31 → nBoth (d : Int) b (j : Int) = nz ((((d + 11 * (j * j) + 26 * (j * d) + 3 * j) % 31 + c) % 31 : Nat) : Int) := by
    intro d hd
    have hd' : sOk (d : Int) (j : Int) = true := sOk_iff.2 (by omega)
    unfold nBoth
    rw [if_pos ⟨hd', hb⟩, hc]
    have e1 : rAt (d : Int) (j : Int) = (((d + 11 * (j * j) + 26 * (j * d) + 3 * j) % 31 : Nat) : Int) := by
      unfold rAt
      have h1 : (d : Int) / 31 = 0 := by omega
      have h2 : (d : Int) % 31 = d := by omega
      rw [h1, h2]
      push_cast
      simp
    rw [e1]
    push_cast
    rfl
  have key2 : ∀ d : Nat, d < 31 → nBoth b (d : Int) (j : Int) = nBoth (d : Int) b (j : Int) := by
    intro d hd
    unfold nBoth
    have hd' : sOk (d : Int) (j : Int) = true := sOk_iff.2 (by omega)
    rw [if_pos ⟨hb, hd'⟩, if_pos ⟨hd', hb⟩, Int.add_comm]
  have c1 : cg v (fun d => nBoth (d : Int) b (j : Int)) 31 = cnt v 31 := by
    rw [← count_all v _ hp]
    unfold cg
    congr 2
    apply List.filter_congr
    intro d hd
    have e := key d (List.mem_range.1 hd)
    show (nBoth (d : Int) b (j : Int) == v) = _
    rw [e]
  refine ⟨c1, ?_⟩
  rw [← c1]
  unfold cg
  congr 2
  apply List.filter_congr
  intro d hd
  have e := key2 d (List.mem_range.1 hd)
  show (nBoth b (d : Int) (j : Int) == v) = (nBoth (d : Int) b (j : Int) == v)
  rw [e]
theorem NoiseBoth_loop {a b i v : Int} (ha : sOk a i = true) (hb : sOk b i = true) (m : Nat) : ∀ d : Nat, d + m = 31 →
    EvE (fun k => laws_FnNoiseBoth.l0 k a b i (nBoth a b i) v (cg v (fun d => nBoth (d : Int) b i) d) (cg v (fun d => nBoth a (d : Int) i) d) (d : Int)) (· = true) := by
  induction m with
  | zero =>
    intro d hd
    have hd : d = 31 := by omega
    subst hd
    refine EvE.succ ?_
    simp only [laws_FnNoiseBoth.l0]
    refine EvE.neg (by omega) ?_
    refine EvE.bind (impl_RandBoth_ok a b i ha hb) ?_
    rintro _ rfl
    refine EvE.bind (impl_NoiseOf_ok _) ?_
    rintro _ rfl
    refine EvE.pos ?_ ?_
    · unfold nBoth noi
      rw [if_pos (show sOk a i = true ∧ sOk b i = true from ⟨ha, hb⟩), if_pos (by omega)]
    · refine EvE.bind (impl_NoiseMany_ok _) ?_
      rintro _ rfl
      refine EvE.pos (cg_both v b i hb).1 (EvE.now _ ?_)
      rw [(cg_both v b i hb).1, (cg_both v a i ha).2]
      simp
  | succ m ih =>
    intro d hd
    have l1 := cg_le v (fun d => nBoth (d : Int) b i) d
    have l2 := cg_le v (fun d => nBoth a (d : Int) i) d
    have h := ih (d + 1) (by omega)
    rw [cg_succ, cg_succ] at h
    refine EvE.succ ?_
    simp only [laws_FnNoiseBoth.l0]
    refine EvE.pos (by omega) ?_
    refine EvE.bind (impl_NoiseBoth_ok _ _ _) ?_
    rintro _ rfl
    rw [w64 (x := (d : Int) + 1) (by omega) (by omega), w64 (x := cg v (fun d => nBoth (d : Int) b i) d + 1) (by omega) (by omega), w64 (x := cg v (fun d => nBoth a (d : Int) i) d + 1) (by omega) (by omega)]
    refine EvE.ite (fun e1 => ?_) (fun e1 => ?_)
    · rw [if_pos e1] at h
      refine EvE.bind (impl_NoiseBoth_ok _ _ _) ?_
      rintro _ rfl
      refine EvE.ite (fun e2 => ?_) (fun e2 => ?_)
      · rw [if_pos e2] at h; exact h
      · rw [if_neg e2] at h; exact h
    · rw [if_neg e1] at h
      refine EvE.bind (impl_NoiseBoth_ok _ _ _) ?_
      rintro _ rfl
      refine EvE.ite (fun e2 => ?_) (fun e2 => ?_)
      · rw [if_pos e2] at h; exact h
      · rw [if_neg e2] at h; exact h
theorem FnNoiseBoth : laws_FnNoiseBoth.Pure := by
  intro l m _ _ hw _ _ _
  refine EvE.rounds ?_
  have yes : EvE (fun k => laws_FnNoiseBoth.j0 k l m true) (· = true) := EvE.succ (by simp only [laws_FnNoiseBoth.j0]; exact EvE.pos (by trivial) (EvE.now _ rfl))
  unfold laws_FnNoiseBoth.f
  refine EvE.ite (fun _ => yes) (fun _ => ?_)
  by_cases hm : (m.length : Int) > 1048576
  · rw [decide_eq_true hm]; exact yes
  rw [decide_eq_false hm]
  refine EvE.succ ?_
  simp only [laws_FnNoiseBoth.j0]
  refine EvE.neg (by decide) ?_
  refine EvE.bind (spec_DrawNoiseBoth_ok hw) ?_
  rintro ⟨a, b, i⟩ _
  dsimp only
  refine EvE.bind (impl_NoiseBoth_ok a b i) ?_
  rintro _ rfl
  refine EvE.bind (spec_NoiseBoth_ok a b i) ?_
  rintro _ rfl
  have no : EvE (fun k => laws_FnNoiseBoth.j1 k m a b i (nBoth a b i) true) (· = true) := by
    refine EvE.succ ?_
    simp only [laws_FnNoiseBoth.j1]
    refine EvE.pos (by trivial) ?_
    refine EvE.bind (spec_NoiseBoth_ok a b i) ?_
    rintro _ rfl
    exact EvE.now _ (by simp)
  refine EvE.pos (by trivial) ?_
  refine EvE.ite (fun _ => no) (fun h1 => EvE.ite (fun _ => no) (fun h2 => EvE.ite (fun _ => no) (fun h3 => EvE.ite (fun _ => no) (fun h4 => EvE.ite (fun _ => no) (fun h5 => ?_)))))
  by_cases h6 : i > 20
  · rw [decide_eq_true h6]; exact no
  rw [decide_eq_false h6]
  have ha : sOk a i = true := sOk_iff.2 (by omega)
  have hb : sOk b i = true := sOk_iff.2 (by omega)
  refine EvE.succ ?_
  simp only [laws_FnNoiseBoth.j1]
  refine EvE.neg (by decide) ?_
  exact NoiseBoth_loop ha hb 31 0 (by omega)

end Go.Proofs.Ythmllnigphcpaaa.Pure
