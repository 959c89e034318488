/- PolyLine tells what the reference tells, for any two whole numbers, and gives new memory each time. It has no conditions. -/
import Derived.Test.YtmgpihkjnlicpaaPFnExactPolyLinex2
import Derived.Test.YtmgpihkjnlicpaaPb
namespace Go.Proofs.Ytmgpihkjnlicpaa.Pure
open Go.RowKit Go.Proofs.Ytmgpihkjnlicpaa.PFnExactPolyLine Go.Proofs.YtmgpihkjnlicpaaW.PrintWords Go.Proofs.YtmgpihkjnlicpaaW.PrintLast Go.Proofs.Ytmgpihkjnlicpaa.Pb
set_option linter.unusedVariables false
set_option linter.unusedSimpArgs false

/-! The field of 31, and Lagrange's coefficients in it. -/
def iv (a : Int) : Int := a ^ 29 % 31
theorem iv_range (a : Int) : 0 ≤ iv a ∧ iv a ≤ 30 := by unfold iv; omega
theorem iv_mul_nat : ∀ a : Nat, a < 31 → ∀ b : Nat, b < 31 → iv (((a : Int) * (b : Int)) % 31) = iv (a : Int) * iv (b : Int) % 31 := by decide +kernel
theorem iv_mul {a b : Int} (ha : 0 ≤ a) (ha' : a ≤ 30) (hb : 0 ≤ b) (hb' : b ≤ 30) : iv (a * b % 31) = iv a * iv b % 31 := by
  obtain ⟨m, rfl⟩ := Int.eq_ofNat_of_zero_le ha
  obtain ⟨n, rfl⟩ := Int.eq_ofNat_of_zero_le hb
  exact iv_mul_nat m (by omega) n (by omega)
def tp (x : Int) (i : Nat) : Nat → Int
  | 0 => 1
  | k + 1 => if k = i then tp x i k else tp x i k * ((x - (k : Int)) % 31) % 31
theorem tp_range (x : Int) (i k : Nat) : 0 ≤ tp x i k ∧ tp x i k ≤ 30 := by
  induction k with
  | zero => simp [tp]
  | succ k ih => simp only [tp]; split <;> omega
def co (x : Int) (m i k : Nat) : Int := tp x i k * iv (tp (i : Int) i k) % 31
theorem co_range (x : Int) (m i k : Nat) : 0 ≤ co x m i k ∧ co x m i k ≤ 30 := by unfold co; omega
theorem co_succ (x : Int) (m i k : Nat) (h : k ≠ i) : co x m i (k + 1) = co x m i k * (((x - (k : Int)) % 31) * iv (((i : Int) - (k : Int)) % 31) % 31) % 31 := by
  have h1 := tp_range (i : Int) i k
  unfold co
  simp only [tp, if_neg h]
  rw [iv_mul (by omega) (by omega) (by omega) (by omega)]
  generalize tp x i k = a
  generalize iv (tp (i : Int) i k) = b
  generalize (x - (k : Int)) % 31 = c
  generalize iv (((i : Int) - (k : Int)) % 31) = d
  rw [← Int.mul_emod, ← Int.mul_emod]
  congr 1
  grind
theorem co_same (x : Int) (m i : Nat) : co x m i (i + 1) = co x m i i := by
  unfold co
  simp only [tp, if_pos]
def linesTo (x : Int) (m n : Nat) : List Int := (List.range n).map fun i => co x m i m
theorem linesTo_length (x : Int) (m n : Nat) : (linesTo x m n).length = n := by simp [linesTo]
theorem linesTo_succ (x : Int) (m n : Nat) : linesTo x m (n + 1) = linesTo x m n ++ [co x m n m] := by simp [linesTo, List.range_succ]
def pLine (m x : Int) : List Int := if (0 ≤ m ∧ m ≤ 9) ∧ (0 ≤ x ∧ x ≤ 30) then linesTo x m.toNat m.toNat else []
theorem pLine_length (m x : Int) : (pLine m x).length ≤ 9 := by
  unfold pLine; split
  · rw [linesTo_length]; omega
  · simp

theorem spec_l6In_ok (a b c : Int) : EvE (fun _ => spec_l6In.f a b c) (· = decide (b ≤ a ∧ a ≤ c)) := by
  unfold spec_l6In.f
  refine EvE.ite (fun h => EvE.now _ ?_) (fun h => EvE.now _ ?_)
  · have h : b ≤ a := h
    simp [h]
  · have h : ¬ b ≤ a := h
    simp [h]

theorem spec_FieldOk_ok (n : Int) : EvE (fun _ => spec_FieldOk.f n) (· = decide (0 ≤ n ∧ n ≤ 30)) := by
  unfold spec_FieldOk.f
  exact EvE.tail (spec_l6In_ok n 0 30)

theorem spec_FieldMul_ok (a b : Int) (ha : 0 ≤ a) (ha' : a ≤ 30) (hb : 0 ≤ b) (hb' : b ≤ 30) : EvE (fun _ => spec_FieldMul.f a b) (· = a * b % 31) := by
  have m := mul_range (a := a) (b := b) (A := 30) (B := 30) ha ha' hb hb'
  unfold spec_FieldMul.f
  refine EvE.bind (spec_FieldOk_ok a) ?_
  rintro _ rfl
  refine EvE.pos (by simp; omega) ?_
  refine EvE.bind (spec_FieldOk_ok b) ?_
  rintro _ rfl
  refine EvE.pos (by simp; omega) (EvE.now _ ?_)
  rw [w64 (by omega) (by omega), Int.tmod_eq_emod_of_nonneg (by omega)]

theorem spec_FieldDif_ok (a b : Int) (ha : 0 ≤ a) (ha' : a ≤ 30) (hb : 0 ≤ b) (hb' : b ≤ 30) : EvE (fun _ => spec_FieldDif.f a b) (· = (a - b) % 31) := by
  unfold spec_FieldDif.f
  refine EvE.bind (spec_FieldOk_ok a) ?_
  rintro _ rfl
  refine EvE.pos (by simp; omega) ?_
  refine EvE.bind (spec_FieldOk_ok b) ?_
  rintro _ rfl
  refine EvE.pos (by simp; omega) (EvE.now _ ?_)
  rw [w64 (x := a + 31) (by omega) (by omega), w64 (by omega) (by omega), Int.tmod_eq_emod_of_nonneg (by omega)]
  omega

theorem spec_l1Inv_nat : ∀ n : Nat, n < 31 → spec_l1Inv.f 40 (n : Int) = some (iv (n : Int)) := by decide +kernel
theorem spec_l1Inv_ok (a : Int) (ha : 0 ≤ a) (ha' : a ≤ 30) : EvE (fun k => spec_l1Inv.f k a) (· = iv a) := by
  obtain ⟨n, rfl⟩ := Int.eq_ofNat_of_zero_le ha
  exact ⟨_, Ev.of (fun k => spec_l1Inv.mono _ k) (spec_l1Inv_nat n (by omega)), rfl⟩

theorem spec_l2Line_inner {x : Int} {m i : Nat} (hx : 0 ≤ x) (hx' : x ≤ 30) (hm : m ≤ 9) (hi : i < m) (out : List Int) (P : List Int → Prop)
    (h : EvE (fun k => spec_l2Line.l1 k (m : Int) x out (i : Int) (co x m i m) (m : Int)) P) (n : Nat) : ∀ j : Nat, j + n = m → EvE (fun k => spec_l2Line.l1 k (m : Int) x out (i : Int) (co x m i j) (j : Int)) P := by
  induction n with
  | zero =>
    intro j hj
    have : j = m := by omega
    subst this
    exact h
  | succ n ih =>
    intro j hj
    have hc := co_range x m i j
    refine EvE.succ ?_
    simp only [spec_l2Line.l1]
    refine EvE.pos (by omega) ?_
    rw [w64 (x := (j : Int) + 1) (by omega) (by omega)]
    refine EvE.ite (fun e => ?_) (fun e => ?_)
    · have e : j = i := by omega
      subst e
      have := ih (j + 1) (by omega)
      rw [co_same] at this
      exact this
    · have e : j ≠ i := by omega
      refine EvE.bind (spec_FieldDif_ok x (j : Int) (by omega) (by omega) (by omega) (by omega)) ?_
      rintro _ rfl
      refine EvE.bind (spec_FieldDif_ok (i : Int) (j : Int) (by omega) (by omega) (by omega) (by omega)) ?_
      rintro _ rfl
      refine EvE.bind (spec_l1Inv_ok _ (by omega) (by omega)) ?_
      rintro _ rfl
      have hv := iv_range (((i : Int) - (j : Int)) % 31)
      refine EvE.bind (spec_FieldMul_ok _ _ (by omega) (by omega) (by omega) (by omega)) ?_
      rintro _ rfl
      refine EvE.bind (spec_FieldMul_ok _ _ (by omega) (by omega) (by omega) (by omega)) ?_
      rintro _ rfl
      have := ih (j + 1) (by omega)
      rw [co_succ x m i j e] at this
      exact this
theorem spec_l2Line_outer {x : Int} {m : Nat} (hx : 0 ≤ x) (hx' : x ≤ 30) (hm : m ≤ 9) (n : Nat) : ∀ i : Nat, i + n = m → EvE (fun k => spec_l2Line.l0 k (m : Int) x (linesTo x m i) (i : Int)) (· = linesTo x m m) := by
  induction n with
  | zero =>
    intro i hi
    have : i = m := by omega
    subst this
    refine EvE.succ ?_
    simp only [spec_l2Line.l0]
    exact EvE.neg (by omega) (EvE.now _ rfl)
  | succ n ih =>
    intro i hi
    refine EvE.succ ?_
    simp only [spec_l2Line.l0]
    refine EvE.pos (by omega) ?_
    refine spec_l2Line_inner hx hx' hm (by omega) _ _ ?_ m 0 (by omega)
    refine EvE.succ ?_
    simp only [spec_l2Line.l1]
    refine EvE.neg (by omega) (EvE.pos (by rw [linesTo_length]; omega) ?_)
    rw [w64 (x := (i : Int) + 1) (by omega) (by omega), ← linesTo_succ]
    exact ih (i + 1) (by omega)

theorem spec_PolyLine_ok (m x : Int) : EvE (fun k => spec_PolyLine.f k m x) (· = pLine m x) := by
  unfold spec_PolyLine.f pLine
  refine EvE.bind (spec_l6In_ok m 0 9) ?_
  rintro _ rfl
  refine EvE.ite (fun h => ?_) (fun h => EvE.now _ (by rw [if_neg (fun e => h (decide_eq_true e.1))]))
  refine EvE.bind (spec_FieldOk_ok x) ?_
  rintro _ rfl
  refine EvE.ite (fun h2 => ?_) (fun h2 => EvE.now _ (by rw [if_neg (fun e => h2 (decide_eq_true e.2))]))
  have h := of_decide_eq_true h
  have h2 := of_decide_eq_true h2
  rw [if_pos ⟨h, h2⟩]
  obtain ⟨n, rfl⟩ := Int.eq_ofNat_of_zero_le h.1
  rw [Int.toNat_natCast]
  exact EvE.tail (spec_l2Line_outer h2.1 h2.2 (by omega) n 0 (by omega))

theorem impl_within_ok (a b c : Int) : EvE (fun _ => impl_within.f a b c) (· = decide (b ≤ a ∧ a ≤ c)) := by
  unfold impl_within.f
  refine EvE.ite (fun h => EvE.now _ ?_) (fun h => EvE.now _ ?_)
  · have h : b ≤ a := h
    simp [h]
  · have h : ¬ b ≤ a := h
    simp [h]

theorem impl_FieldOk_ok (n : Int) : EvE (fun _ => impl_FieldOk.f n) (· = decide (0 ≤ n ∧ n ≤ 30)) := by
  unfold impl_FieldOk.f
  exact EvE.tail (impl_within_ok n 0 30)

theorem impl_elementOf_ok (n : Int) (h : -1000000 ≤ n) (h' : n ≤ 1000000) : EvE (fun _ => impl_elementOf.f n) (· = n % 31) := by
  unfold impl_elementOf.f
  refine EvE.now _ ?_
  by_cases hn : 0 ≤ n
  · have e := Int.tmod_eq_emod_of_nonneg (b := 31) hn
    rw [e, w64 (by omega) (by omega), Int.tmod_eq_emod_of_nonneg (by omega)]
    omega
  · have e : Int.tmod n 31 = - ((-n) % 31) := by
      have := Int.tmod_eq_emod_of_nonneg (a := -n) (b := 31) (by omega)
      rw [Int.neg_tmod] at this
      omega
    rw [e, w64 (by omega) (by omega), Int.tmod_eq_emod_of_nonneg (by omega)]
    omega

theorem impl_element_times_ok (a b : Int) (ha : 0 ≤ a) (ha' : a ≤ 30) (hb : 0 ≤ b) (hb' : b ≤ 30) : EvE (fun _ => impl_element_times.f a b) (· = a * b % 31) := by
  have m := mul_range (a := a) (b := b) (A := 30) (B := 30) ha ha' hb hb'
  unfold impl_element_times.f
  rw [w64 (x := a * b) (by omega) (by omega)]
  exact EvE.tail (impl_elementOf_ok _ (by omega) (by omega))

theorem impl_element_minus_ok (a b : Int) (ha : 0 ≤ a) (ha' : a ≤ 30) (hb : 0 ≤ b) (hb' : b ≤ 30) : EvE (fun _ => impl_element_minus.f a b) (· = (a - b) % 31) := by
  unfold impl_element_minus.f
  rw [w64 (x := a - b) (by omega) (by omega)]
  exact EvE.tail (impl_elementOf_ok _ (by omega) (by omega))

theorem impl_element_inverse_nat : ∀ n : Nat, n < 31 → impl_element_inverse.f 60 (n : Int) = some (iv (n : Int)) := by decide +kernel
theorem impl_element_inverse_ok (a : Int) (ha : 0 ≤ a) (ha' : a ≤ 30) : EvE (fun k => impl_element_inverse.f k a) (· = iv a) := by
  obtain ⟨n, rfl⟩ := Int.eq_ofNat_of_zero_le ha
  exact ⟨_, Ev.of (fun k => impl_element_inverse.mono _ k) (impl_element_inverse_nat n (by omega)), rfl⟩

theorem impl_line_inner {x : Int} {m i : Nat} (hx : 0 ≤ x) (hx' : x ≤ 30) (hm : m ≤ 9) (hi : i < m) (out : List Int) (P : List Int → Prop)
    (h : EvE (fun k => impl_line.l1 k (m : Int) x out (i : Int) (tp x i m) (tp (i : Int) i m) (m : Int) (i : Int) (m : Int) (m : Int)) P) (n : Nat) : ∀ j : Nat, j + n = m → EvE (fun k => impl_line.l1 k (m : Int) x out (i : Int) (tp x i j) (tp (i : Int) i j) (m : Int) (i : Int) (m : Int) (j : Int)) P := by
  induction n with
  | zero =>
    intro j hj
    have : j = m := by omega
    subst this
    exact h
  | succ n ih =>
    intro j hj
    have h1 := tp_range x i j
    have h2 := tp_range (i : Int) i j
    have hn := ih (j + 1) (by omega)
    simp only [tp] at hn
    refine EvE.succ ?_
    simp only [impl_line.l1]
    refine EvE.pos (by omega) ?_
    rw [w64 (x := (j : Int) + 1) (by omega) (by omega)]
    refine EvE.ite (fun e => ?_) (fun e => ?_)
    · have e : j = i := by omega
      rw [if_pos e, if_pos e] at hn
      exact hn
    · have e : j ≠ i := by omega
      rw [if_neg e, if_neg e] at hn
      refine EvE.bind (impl_element_minus_ok x (j : Int) (by omega) (by omega) (by omega) (by omega)) ?_
      rintro _ rfl
      refine EvE.bind (impl_element_times_ok _ _ (by omega) (by omega) (by omega) (by omega)) ?_
      rintro _ rfl
      refine EvE.bind (impl_element_minus_ok (i : Int) (j : Int) (by omega) (by omega) (by omega) (by omega)) ?_
      rintro _ rfl
      refine EvE.bind (impl_element_times_ok _ _ (by omega) (by omega) (by omega) (by omega)) ?_
      rintro _ rfl
      exact hn
theorem impl_line_outer {x : Int} {m : Nat} (hx : 0 ≤ x) (hx' : x ≤ 30) (hm : m ≤ 9) (n : Nat) : ∀ i : Nat, i + n = m → EvE (fun k => impl_line.l0 k (m : Int) x (linesTo x m i) (m : Int) (i : Int)) (· = linesTo x m m) := by
  induction n with
  | zero =>
    intro i hi
    have : i = m := by omega
    subst this
    refine EvE.succ ?_
    simp only [impl_line.l0]
    exact EvE.neg (by omega) (EvE.now _ rfl)
  | succ n ih =>
    intro i hi
    refine EvE.succ ?_
    simp only [impl_line.l0]
    refine EvE.pos (by omega) ?_
    refine impl_line_inner hx hx' hm (by omega) _ _ ?_ m 0 (by omega)
    have h1 := tp_range x i m
    have h2 := tp_range (i : Int) i m
    have h3 := iv_range (tp (i : Int) i m)
    refine EvE.succ ?_
    simp only [impl_line.l1]
    refine EvE.neg (by omega) ?_
    refine EvE.bind (impl_element_inverse_ok _ (by omega) (by omega)) ?_
    rintro _ rfl
    refine EvE.bind (impl_element_times_ok _ _ (by omega) (by omega) (by omega) (by omega)) ?_
    rintro _ rfl
    refine EvE.pos (by rw [linesTo_length]; omega) ?_
    rw [w64 (x := (i : Int) + 1) (by omega) (by omega)]
    have := ih (i + 1) (by omega)
    rw [linesTo_succ] at this
    exact this
theorem impl_line_ok {x : Int} {m : Nat} (hx : 0 ≤ x) (hx' : x ≤ 30) (hm : m ≤ 9) : EvE (fun k => impl_line.f k (m : Int) x) (· = linesTo x m m) := by
  unfold impl_line.f
  refine EvE.pos (by omega) (EvE.pos (by omega) ?_)
  exact impl_line_outer hx hx' hm m 0 (by omega)

theorem impl_PolyLine_ok (m x : Int) : EvE (fun k => impl_PolyLine.f k m x) (· = pLine m x) := by
  unfold impl_PolyLine.f pLine
  refine EvE.bind (impl_within_ok m 0 9) ?_
  rintro _ rfl
  refine EvE.ite (fun h => ?_) (fun h => EvE.now _ (by rw [if_neg (fun e => h (decide_eq_true e.1))]))
  refine EvE.bind (impl_FieldOk_ok x) ?_
  rintro _ rfl
  refine EvE.ite (fun h2 => ?_) (fun h2 => EvE.now _ (by rw [if_neg (fun e => h2 (decide_eq_true e.2))]))
  have h := of_decide_eq_true h
  have h2 := of_decide_eq_true h2
  rw [if_pos ⟨h, h2⟩]
  obtain ⟨n, rfl⟩ := Int.eq_ofNat_of_zero_le h.1
  rw [Int.toNat_natCast]
  exact EvE.tail (impl_line_ok h2.1 h2.2 (by omega))

theorem laws_eqIntS_loop (a b : List Int) (hl : a.length = b.length) (hb : a.length ≤ 1125899906842624) (m : Nat) : ∀ i : Nat, i + m = a.length → EvE (fun k => laws_eqIntS.l0 k a b (i : Int)) (· = decide (a.drop i = b.drop i)) := by
  induction m with
  | zero =>
    intro i hi
    refine EvE.succ ?_
    simp only [laws_eqIntS.l0]
    refine EvE.neg (by omega) (EvE.now _ ?_)
    rw [List.drop_of_length_le (l := a) (by omega), List.drop_of_length_le (l := b) (by omega)]
    rfl
  | succ m ih =>
    intro i hi
    have h := ih (i + 1) (by omega)
    refine EvE.succ ?_
    simp only [laws_eqIntS.l0]
    refine EvE.pos (by omega) (EvE.pos (by omega) (EvE.pos (by omega) ?_))
    rw [w64 (x := (i : Int) + 1) (by omega) (by omega), drop_rd (xs := a) (i := i) (by omega), drop_rd (xs := b) (i := i) (by omega)]
    refine EvE.ite (fun e => ?_) (fun e => EvE.now _ (by simp [e]))
    simpa [e] using h
theorem laws_eqIntS_ok (a b : List Int) (hb : a.length ≤ 1125899906842624) : EvE (fun k => laws_eqIntS.f k a b) (· = decide (a = b)) := by
  unfold laws_eqIntS.f
  refine EvE.ite (fun h => ?_) (fun h => EvE.now _ ?_)
  · simpa using laws_eqIntS_loop a b (by omega) hb a.length 0 (by omega)
  · rw [eq_comm, decide_eq_false_iff_not]
    rintro rfl
    exact h rfl

theorem laws_markIntS_loop (n : Nat) (hb : n ≤ 1125899906842624) (m : Nat) : ∀ (i : Nat) (x : List Int), i + m = n → x.length = n → x.take i = marks i → EvE (fun k => laws_markIntS.l0 k x ((i : Int) + 1) (i : Int)) (· = ((n : Int) + 1, marks n)) := by
  induction m with
  | zero =>
    intro i x hi hx ht
    refine EvE.succ ?_
    simp only [laws_markIntS.l0]
    refine EvE.neg (by omega) (EvE.now _ ?_)
    rw [List.take_of_length_le (by omega)] at ht
    rw [ht, show i = n by omega]
  | succ m ih =>
    intro i x hi hx ht
    refine EvE.succ ?_
    simp only [laws_markIntS.l0]
    refine EvE.pos (by omega) (EvE.pos (by omega) ?_)
    rw [w64 (x := (i : Int) + 1) (by omega) (by omega), w64 (x := (i : Int) + 1 + 1) (by omega) (by omega), Int.toNat_natCast]
    refine ih (i + 1) _ (by omega) (by simpa using hx) ?_
    rw [take_set_succ (by omega), ht, marks_succ]
theorem laws_markIntS_ok (l : List Int) (hb : l.length ≤ 1125899906842624) : EvE (fun k => laws_markIntS.f k l 1) (· = ((l.length : Int) + 1, marks l.length)) :=
  laws_markIntS_loop l.length hb l.length 0 l (by omega) rfl (by simp [marks])

theorem laws_heldIntS_loop (n : Nat) (hb : n ≤ 1125899906842624) (m : Nat) : ∀ (i : Nat), i + m = n → EvE (fun k => laws_heldIntS.l0 k (marks n) ((i : Int) + 1) (i : Int)) (· = (n : Int) + 1) := by
  have hl := marks_length n
  induction m with
  | zero =>
    intro i hi
    refine EvE.succ ?_
    simp only [laws_heldIntS.l0]
    exact EvE.neg (by omega) (EvE.now _ (by omega))
  | succ m ih =>
    intro i hi
    refine EvE.succ ?_
    simp only [laws_heldIntS.l0]
    refine EvE.pos (by omega) (EvE.pos (by omega) (EvE.pos (marks_rd (by omega)) ?_))
    rw [w64 (x := (i : Int) + 1) (by omega) (by omega), w64 (x := (i : Int) + 1 + 1) (by omega) (by omega)]
    exact ih (i + 1) (by omega)
theorem laws_heldIntS_ok (n : Nat) (hb : n ≤ 1125899906842624) : EvE (fun k => laws_heldIntS.f k (marks n) 1) (· = (n : Int) + 1) :=
  laws_heldIntS_loop n hb n 0 (by omega)

theorem FnExactPolyLine : laws_FnExactPolyLine.Pure := by
  intro m x _ _
  refine EvE.rounds ?_
  unfold laws_FnExactPolyLine.f
  have hn := pLine_length m x
  refine EvE.bind (spec_PolyLine_ok m x) ?_
  rintro _ rfl
  refine EvE.bind (impl_PolyLine_ok m x) ?_
  rintro _ rfl
  refine EvE.bind (laws_eqIntS_ok _ _ (by omega)) ?_
  rintro _ rfl
  refine EvE.pos (by simp) ?_
  refine EvE.bind (laws_markIntS_ok _ (by omega)) ?_
  rintro _ rfl
  dsimp only
  refine EvE.bind (laws_heldIntS_ok _ (by omega)) ?_
  rintro _ rfl
  refine EvE.neg (by omega) (EvE.pos (by trivial) ?_)
  refine EvE.bind (impl_PolyLine_ok m x) ?_
  rintro _ rfl
  refine EvE.bind (laws_eqIntS_ok _ _ (by omega)) ?_
  rintro _ rfl
  refine EvE.pos (by simp) ?_
  refine EvE.bind (laws_heldIntS_ok _ (by omega)) ?_
  rintro _ rfl
  exact EvE.neg (by omega) (EvE.pos (by trivial) (EvE.now _ rfl))

end Go.Proofs.Ytmgpihkjnlicpaa.Pure
