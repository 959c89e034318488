/- A drawn place's coefficients are the reference's; at the place of a value it is that alone, beyond all take part, and together they are one. It has no conditions. -/
import Derived.Test.YtmgpihkjnlicpaaPFnLineOwnx3
import Derived.Test.YtmgpihkjnlicpaaPb
namespace Go.Proofs.Ytmgpihkjnlicpaa.Pure
open Go.RowKit Go.Proofs.Ytmgpihkjnlicpaa.PFnLineOwn Go.Proofs.YtmgpihkjnlicpaaW.PrintWords Go.Proofs.YtmgpihkjnlicpaaW.PrintLast Go.Proofs.Ytmgpihkjnlicpaa.Pb
set_option linter.unusedVariables false
set_option linter.unusedSimpArgs false

/-! The field of 31, and Lagrange's coefficients in it. -/
def iv (a : Int) : Int := a ^ 29 % 31
theorem iv_range (a : Int) : 0 ≤ iv a ∧ iv a ≤ 30 := by unfold iv; omega
theorem iv_mul_nat : ∀ a : Nat, a < 31 → ∀ b : Nat, b < 31 → iv (((a : Int) * (b : Int)) % 31) = iv (a : Int) * iv (b : Int) % 31 := by decide +kernel
theorem iv_mul {a b : Int} (ha : 0 ≤ a) (ha' : a ≤ 30) (hb : 0 ≤ b) (hb' : b ≤ 30) : iv (a * b % 31) = iv a * iv b % 31 := by
  obtain ⟨m, rfl⟩ := Int.eq_ofNat_of_zero_le ha
  obtain ⟨n, rfl⟩ := Int.eq_ofNat_of_zero_le hb
  exact iv_mul_nat m (by omega) n (by omega)
def tp (x : Int) (i : Nat) : Nat → Int
  | 0 => 1
  | k + 1 => if k = i then tp x i k else tp x i k * ((x - (k : Int)) % 31) % 31
theorem tp_range (x : Int) (i k : Nat) : 0 ≤ tp x i k ∧ tp x i k ≤ 30 := by
  induction k with
  | zero => simp [tp]
  | succ k ih => simp only [tp]; split <;> omega
def co (x : Int) (m i k : Nat) : Int := tp x i k * iv (tp (i : Int) i k) % 31
theorem co_range (x : Int) (m i k : Nat) : 0 ≤ co x m i k ∧ co x m i k ≤ 30 := by unfold co; omega
theorem co_succ (x : Int) (m i k : Nat) (h : k ≠ i) : co x m i (k + 1) = co x m i k * (((x - (k : Int)) % 31) * iv (((i : Int) - (k : Int)) % 31) % 31) % 31 := by
  have h1 := tp_range (i : Int) i k
  unfold co
  simp only [tp, if_neg h]
  rw [iv_mul (by omega) (by omega) (by omega) (by omega)]
  generalize tp x i k = a
  generalize iv (tp (i : Int) i k) = b
  generalize (x - (k : Int)) % 31 = c
  generalize iv (((i : Int) - (k : Int)) % 31) = d
  rw [← Int.mul_emod, ← Int.mul_emod]
  congr 1
  grind
theorem co_same (x : Int) (m i : Nat) : co x m i (i + 1) = co x m i i := by
  unfold co
  simp only [tp, if_pos]
def linesTo (x : Int) (m n : Nat) : List Int := (List.range n).map fun i => co x m i m
theorem linesTo_length (x : Int) (m n : Nat) : (linesTo x m n).length = n := by simp [linesTo]
theorem linesTo_succ (x : Int) (m n : Nat) : linesTo x m (n + 1) = linesTo x m n ++ [co x m n m] := by simp [linesTo, List.range_succ]
def pLine (m x : Int) : List Int := if (0 ≤ m ∧ m ≤ 9) ∧ (0 ≤ x ∧ x ≤ 30) then linesTo x m.toNat m.toNat else []
theorem pLine_length (m x : Int) : (pLine m x).length ≤ 9 := by
  unfold pLine; split
  · rw [linesTo_length]; omega
  · simp

theorem spec_l6In_ok (a b c : Int) : EvE (fun _ => spec_l6In.f a b c) (· = decide (b ≤ a ∧ a ≤ c)) := by
  unfold spec_l6In.f
  refine EvE.ite (fun h => EvE.now _ ?_) (fun h => EvE.now _ ?_)
  · have h : b ≤ a := h
    simp [h]
  · have h : ¬ b ≤ a := h
    simp [h]

theorem spec_FieldOk_ok (n : Int) : EvE (fun _ => spec_FieldOk.f n) (· = decide (0 ≤ n ∧ n ≤ 30)) := by
  unfold spec_FieldOk.f
  exact EvE.tail (spec_l6In_ok n 0 30)

theorem spec_FieldMul_ok (a b : Int) (ha : 0 ≤ a) (ha' : a ≤ 30) (hb : 0 ≤ b) (hb' : b ≤ 30) : EvE (fun _ => spec_FieldMul.f a b) (· = a * b % 31) := by
  have m := mul_range (a := a) (b := b) (A := 30) (B := 30) ha ha' hb hb'
  unfold spec_FieldMul.f
  refine EvE.bind (spec_FieldOk_ok a) ?_
  rintro _ rfl
  refine EvE.pos (by simp; omega) ?_
  refine EvE.bind (spec_FieldOk_ok b) ?_
  rintro _ rfl
  refine EvE.pos (by simp; omega) (EvE.now _ ?_)
  rw [w64 (by omega) (by omega), Int.tmod_eq_emod_of_nonneg (by omega)]

theorem spec_FieldDif_ok (a b : Int) (ha : 0 ≤ a) (ha' : a ≤ 30) (hb : 0 ≤ b) (hb' : b ≤ 30) : EvE (fun _ => spec_FieldDif.f a b) (· = (a - b) % 31) := by
  unfold spec_FieldDif.f
  refine EvE.bind (spec_FieldOk_ok a) ?_
  rintro _ rfl
  refine EvE.pos (by simp; omega) ?_
  refine EvE.bind (spec_FieldOk_ok b) ?_
  rintro _ rfl
  refine EvE.pos (by simp; omega) (EvE.now _ ?_)
  rw [w64 (x := a + 31) (by omega) (by omega), w64 (by omega) (by omega), Int.tmod_eq_emod_of_nonneg (by omega)]
  omega

theorem spec_l1Inv_nat : ∀ n : Nat, n < 31 → spec_l1Inv.f 40 (n : Int) = some (iv (n : Int)) := by decide +kernel
theorem spec_l1Inv_ok (a : Int) (ha : 0 ≤ a) (ha' : a ≤ 30) : EvE (fun k => spec_l1Inv.f k a) (· = iv a) := by
  obtain ⟨n, rfl⟩ := Int.eq_ofNat_of_zero_le ha
  exact ⟨_, Ev.of (fun k => spec_l1Inv.mono _ k) (spec_l1Inv_nat n (by omega)), rfl⟩

theorem spec_l2Line_inner {x : Int} {m i : Nat} (hx : 0 ≤ x) (hx' : x ≤ 30) (hm : m ≤ 9) (hi : i < m) (out : List Int) (P : List Int → Prop)
    (h : EvE (fun k => spec_l2Line.l1 k (m : Int) x out (i : Int) (co x m i m) (m : Int)) P) (n : Nat) : ∀ j : Nat, j + n = m → EvE (fun k => spec_l2Line.l1 k (m : Int) x out (i : Int) (co x m i j) (j : Int)) P := by
  induction n with
  | zero =>
    intro j hj
    have : j = m := by omega
    subst this
    exact h
  | succ n ih =>
    intro j hj
    have hc := co_range x m i j
    refine EvE.succ ?_
    simp only [spec_l2Line.l1]
    refine EvE.pos (by omega) ?_
    rw [w64 (x := (j : Int) + 1) (by omega) (by omega)]
    refine EvE.ite (fun e => ?_) (fun e => ?_)
    · have e : j = i := by omega
      subst e
      have := ih (j + 1) (by omega)
      rw [co_same] at this
      exact this
    · have e : j ≠ i := by omega
      refine EvE.bind (spec_FieldDif_ok x (j : Int) (by omega) (by omega) (by omega) (by omega)) ?_
      rintro _ rfl
      refine EvE.bind (spec_FieldDif_ok (i : Int) (j : Int) (by omega) (by omega) (by omega) (by omega)) ?_
      rintro _ rfl
      refine EvE.bind (spec_l1Inv_ok _ (by omega) (by omega)) ?_
      rintro _ rfl
      have hv := iv_range (((i : Int) - (j : Int)) % 31)
      refine EvE.bind (spec_FieldMul_ok _ _ (by omega) (by omega) (by omega) (by omega)) ?_
      rintro _ rfl
      refine EvE.bind (spec_FieldMul_ok _ _ (by omega) (by omega) (by omega) (by omega)) ?_
      rintro _ rfl
      have := ih (j + 1) (by omega)
      rw [co_succ x m i j e] at this
      exact this
theorem spec_l2Line_outer {x : Int} {m : Nat} (hx : 0 ≤ x) (hx' : x ≤ 30) (hm : m ≤ 9) (n : Nat) : ∀ i : Nat, i + n = m → EvE (fun k => spec_l2Line.l0 k (m : Int) x (linesTo x m i) (i : Int)) (· = linesTo x m m) := by
  induction n with
  | zero =>
    intro i hi
    have : i = m := by omega
    subst this
    refine EvE.succ ?_
    simp only [spec_l2Line.l0]
    exact EvE.neg (by omega) (EvE.now _ rfl)
  | succ n ih =>
    intro i hi
    refine EvE.succ ?_
    simp only [spec_l2Line.l0]
    refine EvE.pos (by omega) ?_
    refine spec_l2Line_inner hx hx' hm (by omega) _ _ ?_ m 0 (by omega)
    refine EvE.succ ?_
    simp only [spec_l2Line.l1]
    refine EvE.neg (by omega) (EvE.pos (by rw [linesTo_length]; omega) ?_)
    rw [w64 (x := (i : Int) + 1) (by omega) (by omega), ← linesTo_succ]
    exact ih (i + 1) (by omega)

theorem spec_PolyLine_ok (m x : Int) : EvE (fun k => spec_PolyLine.f k m x) (· = pLine m x) := by
  unfold spec_PolyLine.f pLine
  refine EvE.bind (spec_l6In_ok m 0 9) ?_
  rintro _ rfl
  refine EvE.ite (fun h => ?_) (fun h => EvE.now _ (by rw [if_neg (fun e => h (decide_eq_true e.1))]))
  refine EvE.bind (spec_FieldOk_ok x) ?_
  rintro _ rfl
  refine EvE.ite (fun h2 => ?_) (fun h2 => EvE.now _ (by rw [if_neg (fun e => h2 (decide_eq_true e.2))]))
  have h := of_decide_eq_true h
  have h2 := of_decide_eq_true h2
  rw [if_pos ⟨h, h2⟩]
  obtain ⟨n, rfl⟩ := Int.eq_ofNat_of_zero_le h.1
  rw [Int.toNat_natCast]
  exact EvE.tail (spec_l2Line_outer h2.1 h2.2 (by omega) n 0 (by omega))

theorem impl_within_ok (a b c : Int) : EvE (fun _ => impl_within.f a b c) (· = decide (b ≤ a ∧ a ≤ c)) := by
  unfold impl_within.f
  refine EvE.ite (fun h => EvE.now _ ?_) (fun h => EvE.now _ ?_)
  · have h : b ≤ a := h
    simp [h]
  · have h : ¬ b ≤ a := h
    simp [h]

theorem impl_FieldOk_ok (n : Int) : EvE (fun _ => impl_FieldOk.f n) (· = decide (0 ≤ n ∧ n ≤ 30)) := by
  unfold impl_FieldOk.f
  exact EvE.tail (impl_within_ok n 0 30)

theorem impl_elementOf_ok (n : Int) (h : -1000000 ≤ n) (h' : n ≤ 1000000) : EvE (fun _ => impl_elementOf.f n) (· = n % 31) := by
  unfold impl_elementOf.f
  refine EvE.now _ ?_
  by_cases hn : 0 ≤ n
  · have e := Int.tmod_eq_emod_of_nonneg (b := 31) hn
    rw [e, w64 (by omega) (by omega), Int.tmod_eq_emod_of_nonneg (by omega)]
    omega
  · have e : Int.tmod n 31 = - ((-n) % 31) := by
      have := Int.tmod_eq_emod_of_nonneg (a := -n) (b := 31) (by omega)
      rw [Int.neg_tmod] at this
      omega
    rw [e, w64 (by omega) (by omega), Int.tmod_eq_emod_of_nonneg (by omega)]
    omega

theorem impl_element_times_ok (a b : Int) (ha : 0 ≤ a) (ha' : a ≤ 30) (hb : 0 ≤ b) (hb' : b ≤ 30) : EvE (fun _ => impl_element_times.f a b) (· = a * b % 31) := by
  have m := mul_range (a := a) (b := b) (A := 30) (B := 30) ha ha' hb hb'
  unfold impl_element_times.f
  rw [w64 (x := a * b) (by omega) (by omega)]
  exact EvE.tail (impl_elementOf_ok _ (by omega) (by omega))

theorem impl_element_minus_ok (a b : Int) (ha : 0 ≤ a) (ha' : a ≤ 30) (hb : 0 ≤ b) (hb' : b ≤ 30) : EvE (fun _ => impl_element_minus.f a b) (· = (a - b) % 31) := by
  unfold impl_element_minus.f
  rw [w64 (x := a - b) (by omega) (by omega)]
  exact EvE.tail (impl_elementOf_ok _ (by omega) (by omega))

theorem impl_element_inverse_nat : ∀ n : Nat, n < 31 → impl_element_inverse.f 60 (n : Int) = some (iv (n : Int)) := by decide +kernel
theorem impl_element_inverse_ok (a : Int) (ha : 0 ≤ a) (ha' : a ≤ 30) : EvE (fun k => impl_element_inverse.f k a) (· = iv a) := by
  obtain ⟨n, rfl⟩ := Int.eq_ofNat_of_zero_le ha
  exact ⟨_, Ev.of (fun k => impl_element_inverse.mono _ k) (impl_element_inverse_nat n (by omega)), rfl⟩

theorem impl_line_inner {x : Int} {m i : Nat} (hx : 0 ≤ x) (hx' : x ≤ 30) (hm : m ≤ 9) (hi : i < m) (out : List Int) (P : List Int → Prop)
    (h : EvE (fun k => impl_line.l1 k (m : Int) x out (i : Int) (tp x i m) (tp (i : Int) i m) (m : Int) (i : Int) (m : Int) (m : Int)) P) (n : Nat) : ∀ j : Nat, j + n = m → EvE (fun k => impl_line.l1 k (m : Int) x out (i : Int) (tp x i j) (tp (i : Int) i j) (m : Int) (i : Int) (m : Int) (j : Int)) P := by
  induction n with
  | zero =>
    intro j hj
    have : j = m := by omega
    subst this
    exact h
  | succ n ih =>
    intro j hj
    have h1 := tp_range x i j
    have h2 := tp_range (i : Int) i j
    have hn := ih (j + 1) (by omega)
    simp only [tp] at hn
    refine EvE.succ ?_
    simp only [impl_line.l1]
    refine EvE.pos (by omega) ?_
    rw [w64 (x := (j : Int) + 1) (by omega) (by omega)]
    refine EvE.ite (fun e => ?_) (fun e => ?_)
    · have e : j = i := by omega
      rw [if_pos e, if_pos e] at hn
      exact hn
    · have e : j ≠ i := by omega
      rw [if_neg e, if_neg e] at hn
      refine EvE.bind (impl_element_minus_ok x (j : Int) (by omega) (by omega) (by omega) (by omega)) ?_
      rintro _ rfl
      refine EvE.bind (impl_element_times_ok _ _ (by omega) (by omega) (by omega) (by omega)) ?_
      rintro _ rfl
      refine EvE.bind (impl_element_minus_ok (i : Int) (j : Int) (by omega) (by omega) (by omega) (by omega)) ?_
      rintro _ rfl
      refine EvE.bind (impl_element_times_ok _ _ (by omega) (by omega) (by omega) (by omega)) ?_
      rintro _ rfl
      exact hn
theorem impl_line_outer {x : Int} {m : Nat} (hx : 0 ≤ x) (hx' : x ≤ 30) (hm : m ≤ 9) (n : Nat) : ∀ i : Nat, i + n = m → EvE (fun k => impl_line.l0 k (m : Int) x (linesTo x m i) (m : Int) (i : Int)) (· = linesTo x m m) := by
  induction n with
  | zero =>
    intro i hi
    have : i = m := by omega
    subst this
    refine EvE.succ ?_
    simp only [impl_line.l0]
    exact EvE.neg (by omega) (EvE.now _ rfl)
  | succ n ih =>
    intro i hi
    refine EvE.succ ?_
    simp only [impl_line.l0]
    refine EvE.pos (by omega) ?_
    refine impl_line_inner hx hx' hm (by omega) _ _ ?_ m 0 (by omega)
    have h1 := tp_range x i m
    have h2 := tp_range (i : Int) i m
    have h3 := iv_range (tp (i : Int) i m)
    refine EvE.succ ?_
    simp only [impl_line.l1]
    refine EvE.neg (by omega) ?_
    refine EvE.bind (impl_element_inverse_ok _ (by omega) (by omega)) ?_
    rintro _ rfl
    refine EvE.bind (impl_element_times_ok _ _ (by omega) (by omega) (by omega) (by omega)) ?_
    rintro _ rfl
    refine EvE.pos (by rw [linesTo_length]; omega) ?_
    rw [w64 (x := (i : Int) + 1) (by omega) (by omega)]
    have := ih (i + 1) (by omega)
    rw [linesTo_succ] at this
    exact this
theorem impl_line_ok {x : Int} {m : Nat} (hx : 0 ≤ x) (hx' : x ≤ 30) (hm : m ≤ 9) : EvE (fun k => impl_line.f k (m : Int) x) (· = linesTo x m m) := by
  unfold impl_line.f
  refine EvE.pos (by omega) (EvE.pos (by omega) ?_)
  exact impl_line_outer hx hx' hm m 0 (by omega)

theorem impl_PolyLine_ok (m x : Int) : EvE (fun k => impl_PolyLine.f k m x) (· = pLine m x) := by
  unfold impl_PolyLine.f pLine
  refine EvE.bind (impl_within_ok m 0 9) ?_
  rintro _ rfl
  refine EvE.ite (fun h => ?_) (fun h => EvE.now _ (by rw [if_neg (fun e => h (decide_eq_true e.1))]))
  refine EvE.bind (impl_FieldOk_ok x) ?_
  rintro _ rfl
  refine EvE.ite (fun h2 => ?_) (fun h2 => EvE.now _ (by rw [if_neg (fun e => h2 (decide_eq_true e.2))]))
  have h := of_decide_eq_true h
  have h2 := of_decide_eq_true h2
  rw [if_pos ⟨h, h2⟩]
  obtain ⟨n, rfl⟩ := Int.eq_ofNat_of_zero_le h.1
  rw [Int.toNat_natCast]
  exact EvE.tail (impl_line_ok h2.1 h2.2 (by omega))

theorem spec_l6Open_ok {l : List Int} (h : ∀ x ∈ l, (Lit.int .u8 x).wf = true) : EvE (fun _ => spec_l6Open.f l) (fun r => ∃ s, r = (s, 0) ∧ Coded s) := by
  have h := u8_range h
  unfold spec_l6Open.f
  refine EvE.ite (fun h1 => EvE.pos (by omega) (EvE.now _ ⟨_, rfl, fun x hx => h x (List.mem_of_mem_take hx), ?_⟩)) (fun h1 => EvE.now _ ⟨_, rfl, h, by omega⟩)
  rw [List.length_take]; omega

theorem spec_l6Rd_pick_ok {s : List Int} (hs : Coded s) (p n : Int) (h0 : 0 ≤ p) (h1 : p ≤ 1000000) (hn : 1 ≤ n) (hn' : n ≤ 1000000) :
    EvE (fun k => spec_l6Rd_pick.f k s p n) (fun r => ∃ v, r = (v, p + 1) ∧ 0 ≤ v ∧ v < n) := by
  unfold spec_l6Rd_pick.f
  rw [w64 (x := p + 1) (by omega) (by omega)]
  refine EvE.neg (by omega) (EvE.succ ?_)
  simp only [spec_l6Rd_pick.j0]
  have e : wrap64 (p + 1 - 1) = p := by rw [w64 (by omega) (by omega)]; omega
  rw [e]
  have rg := rd_range hs.1
  have hl := hs.2
  refine EvE.ite (fun _ => EvE.now _ ⟨0, rfl, by omega, by omega⟩) (fun hz => ?_)
  have hpos : 1 ≤ (s.length : Int) := by
    have : s.length ≠ 0 := by simpa using hz
    omega
  refine EvE.ite (fun hlt => EvE.pos h0 (EvE.neg (by omega) (EvE.now _ ?_))) (fun hge => ?_)
  · have := rg p
    rw [w64 (x := rd s p) (by omega) (by omega)]
    exact ⟨_, rfl, tmod_range (by omega) hn⟩
  · refine EvE.neg (by omega) ?_
    have t1 := tmod_range (a := p) (n := (s.length : Int)) h0 hpos
    have e1 : wrap64 (p * 7) = p * 7 := w64 (by omega) (by omega)
    have e2 : wrap64 (p * 7 + 3) = p * 7 + 3 := w64 (by omega) (by omega)
    rw [e1, e2]
    have t2 := tmod_range (a := p * 7 + 3) (n := (s.length : Int)) (by omega) hpos
    refine EvE.pos t1.1 (EvE.pos t1.2 (EvE.pos t2.1 (EvE.pos t2.2 (EvE.neg (by omega) (EvE.now _ ?_)))))
    have r1 := rg (Int.tmod p s.length)
    have r2 := rg (Int.tmod (p * 7 + 3) s.length)
    generalize rd s (Int.tmod p s.length) = A at *
    generalize rd s (Int.tmod (p * 7 + 3) s.length) = B at *
    have dq : 0 ≤ Int.tdiv p s.length ∧ Int.tdiv p s.length ≤ p := by
      rw [Int.tdiv_eq_ediv_of_nonneg h0]
      exact ⟨Int.ediv_nonneg h0 (by omega), Int.ediv_le_self _ h0⟩
    generalize Int.tdiv p s.length = Q at *
    rw [w64 (x := A) (by omega) (by omega), w64 (x := B) (by omega) (by omega), w64 (x := A * 131) (by omega) (by omega), w64 (x := B * 1117) (by omega) (by omega), w64 (x := p * 29) (by omega) (by omega), w64 (x := Q) (by omega) (by omega), w64 (x := Q * 53) (by omega) (by omega), w64 (x := A * 131 + B * 1117) (by omega) (by omega), w64 (x := A * 131 + B * 1117 + p * 29) (by omega) (by omega), w64 (x := A * 131 + B * 1117 + p * 29 + Q * 53) (by omega) (by omega)]
    have hX : 0 ≤ A * 131 + B * 1117 + p * 29 + Q * 53 ∧ A * 131 + B * 1117 + p * 29 + Q * 53 < 1000000000000 := by omega
    generalize A * 131 + B * 1117 + p * 29 + Q * 53 = X at *
    have e3 : wrap64 (Int.tdiv X 64) = X / 64 := by
      rw [Int.tdiv_eq_ediv_of_nonneg hX.1]
      exact w64 (by omega) (by omega)
    rw [e3]
    have hx := xor_nonneg (a := X) (b := X / 64) (by omega) (by omega) (by omega) (by omega)
    exact ⟨_, rfl, tmod_range hx.1 hn⟩

theorem spec_l91Num_ok {s : List Int} (hs : Coded s) (p : Int) (h0 : 0 ≤ p) (h1 : p ≤ 900000) : EvE (fun k => spec_l91Num.f k s p) (fun r => ∃ a q, r = (a, q) ∧ p ≤ q ∧ q ≤ p + 5 ∧ -1 ≤ a ∧ a ≤ 31) := by
  unfold spec_l91Num.f
  refine EvE.bind (spec_l6Rd_pick_ok hs p 10 h0 (by omega) (by omega) (by omega)) ?_
  rintro _ ⟨a, rfl, ha, ha'⟩
  dsimp only
  have last : ∀ q : Int, p ≤ q → q ≤ p + 4 → EvE (fun k => (spec_l6Rd_pick.f k s q 31).bind fun bt126 => (some (bt126.1, bt126.2))) (fun r => ∃ a q, r = (a, q) ∧ p ≤ q ∧ q ≤ p + 5 ∧ -1 ≤ a ∧ a ≤ 31) := by
    intro q hq hq'
    refine EvE.bind (spec_l6Rd_pick_ok hs _ 31 (by omega) (by omega) (by omega) (by omega)) ?_
    rintro _ ⟨b, rfl, hb, hb'⟩
    exact EvE.now _ ⟨_, _, rfl, by omega, by omega, by omega, by omega⟩
  refine EvE.ite (fun _ => EvE.now _ ⟨_, _, rfl, by omega, by omega, by omega, by omega⟩) (fun _ => ?_)
  refine EvE.ite (fun _ => ?_) (fun _ => ?_)
  · refine EvE.bind (EvE.now (P := fun r => r = [1, 30]) _ rfl) ?_
    rintro _ rfl
    refine EvE.bind (spec_l6Rd_pick_ok hs _ 2 (by omega) (by omega) (by omega) (by omega)) ?_
    rintro _ ⟨b, rfl, hb, hb'⟩
    dsimp only
    refine EvE.pos hb (EvE.pos (by simp; omega) (EvE.now _ ⟨_, _, rfl, by omega, by omega, ?_⟩))
    have : b = 0 ∨ b = 1 := by omega
    rcases this with rfl | rfl <;> simp [rd]
  · refine EvE.ite (fun _ => ?_) (fun _ => last _ (by omega) (by omega))
    refine EvE.bind (spec_l6Rd_pick_ok hs _ 5 (by omega) (by omega) (by omega) (by omega)) ?_
    rintro _ ⟨b, rfl, hb, hb'⟩
    dsimp only
    refine EvE.ite (fun _ => ?_) (fun _ => last _ (by omega) (by omega))
    refine EvE.bind (EvE.now (P := fun r => r = [-1, 31]) _ rfl) ?_
    rintro _ rfl
    refine EvE.bind (spec_l6Rd_pick_ok hs _ 2 (by omega) (by omega) (by omega) (by omega)) ?_
    rintro _ ⟨c, rfl, hc, hc'⟩
    dsimp only
    refine EvE.pos hc (EvE.pos (by simp; omega) (EvE.now _ ⟨_, _, rfl, by omega, by omega, ?_⟩))
    have : c = 0 ∨ c = 1 := by omega
    rcases this with rfl | rfl <;> simp [rd]

theorem spec_DrawPolyLine_ok {l : List Int} (h : ∀ x ∈ l, (Lit.int .u8 x).wf = true) : EvE (fun k => spec_DrawPolyLine.f k l) (fun _ => True) := by
  unfold spec_DrawPolyLine.f
  refine EvE.bind (spec_l6Open_ok h) ?_
  rintro _ ⟨s, rfl, hs⟩
  dsimp only
  refine EvE.bind (spec_l6Rd_pick_ok hs _ 11 (by omega) (by omega) (by omega) (by omega)) ?_
  rintro _ ⟨a, rfl, _⟩
  dsimp only
  refine EvE.bind (spec_l6Rd_pick_ok hs _ 24 (by omega) (by omega) (by omega) (by omega)) ?_
  rintro _ ⟨b, rfl, _⟩
  dsimp only
  refine EvE.bind (spec_l91Num_ok hs _ (by omega) (by omega)) ?_
  rintro _ ⟨c, q, rfl, _⟩
  exact EvE.now _ trivial

theorem laws_loInts_loop (a b : List Int) (hl : a.length = b.length) (hb : a.length ≤ 1125899906842624) (m : Nat) : ∀ i : Nat, i + m = a.length → EvE (fun k => laws_loInts.l0 k a b (i : Int)) (· = decide (a.drop i = b.drop i)) := by
  induction m with
  | zero =>
    intro i hi
    refine EvE.succ ?_
    simp only [laws_loInts.l0]
    refine EvE.neg (by omega) (EvE.now _ ?_)
    rw [List.drop_of_length_le (l := a) (by omega), List.drop_of_length_le (l := b) (by omega)]
    rfl
  | succ m ih =>
    intro i hi
    have h := ih (i + 1) (by omega)
    refine EvE.succ ?_
    simp only [laws_loInts.l0]
    refine EvE.pos (by omega) (EvE.pos (by omega) (EvE.pos (by omega) ?_))
    rw [w64 (x := (i : Int) + 1) (by omega) (by omega), drop_rd (xs := a) (i := i) (by omega), drop_rd (xs := b) (i := i) (by omega)]
    refine EvE.ite (fun e => ?_) (fun e => EvE.now _ (by simp [e]))
    simpa [e] using h
theorem laws_loInts_ok (a b : List Int) (hb : a.length ≤ 1125899906842624) : EvE (fun k => laws_loInts.f k a b) (· = decide (a = b)) := by
  unfold laws_loInts.f
  refine EvE.ite (fun h => ?_) (fun h => EvE.now _ ?_)
  · simpa using laws_loInts_loop a b (by omega) hb a.length 0 (by omega)
  · rw [eq_comm, decide_eq_false_iff_not]
    rintro rfl
    exact h rfl

theorem impl_element_plus_ok (a b : Int) (ha : 0 ≤ a) (ha' : a ≤ 30) (hb : 0 ≤ b) (hb' : b ≤ 30) : EvE (fun _ => impl_element_plus.f a b) (· = (a + b) % 31) := by
  unfold impl_element_plus.f
  rw [w64 (x := a + b) (by omega) (by omega)]
  exact EvE.tail (impl_elementOf_ok _ (by omega) (by omega))

theorem impl_FieldSum_ok (a b : Int) (ha : 0 ≤ a) (ha' : a ≤ 30) (hb : 0 ≤ b) (hb' : b ≤ 30) : EvE (fun _ => impl_FieldSum.f a b) (· = (a + b) % 31) := by
  unfold impl_FieldSum.f
  refine EvE.bind (impl_FieldOk_ok a) ?_
  rintro _ rfl
  refine EvE.pos (by simp; omega) ?_
  refine EvE.bind (impl_FieldOk_ok b) ?_
  rintro _ rfl
  refine EvE.pos (by simp; omega) ?_
  exact EvE.tail (impl_element_plus_ok a b ha ha' hb hb')

def ps (x : Int) (m : Nat) : Nat → Int
  | 0 => 0
  | i + 1 => (ps x m i + co x m i m) % 31
theorem ps_range (x : Int) (m i : Nat) : 0 ≤ ps x m i ∧ ps x m i ≤ 30 := by
  cases i with
  | zero => simp [ps]
  | succ i => simp only [ps]; omega
def ownB (m x : Nat) : Bool := ((List.range m).all fun i : Nat => if x < m then co (x : Int) m i m == (if i = x then 1 else 0) else !(co (x : Int) m i m == 0)) && (m == 0 || ps (x : Int) m m == 1)
theorem ownB_all : ∀ m : Nat, m < 10 → ∀ x : Nat, x < 31 → ownB m x = true := by decide +kernel
theorem own_nat (m : Nat) (hm : m < 10) (x : Nat) (hx : x < 31) : (∀ i : Nat, i < m → (x < m → co (x : Int) m i m = if i = x then 1 else 0) ∧ (m ≤ x → co (x : Int) m i m ≠ 0)) ∧ (1 ≤ m → ps (x : Int) m m = 1) := by
  have h := ownB_all m hm x hx
  unfold ownB at h
  rw [Bool.and_eq_true, List.all_eq_true] at h
  refine ⟨fun i hi => ?_, fun h1 => ?_⟩
  · have h2 := h.1 i (List.mem_range.2 hi)
    refine ⟨fun e => ?_, fun e => ?_⟩
    · rw [if_pos e] at h2
      exact beq_iff_eq.1 h2
    · rw [if_neg (by omega)] at h2
      simpa using h2
  · have h2 := h.2
    rw [Bool.or_eq_true] at h2
    rcases h2 with h2 | h2
    · have := beq_iff_eq.1 h2
      omega
    · exact beq_iff_eq.1 h2
theorem linesTo_rd (x : Int) {m n i : Nat} (h : i < n) : rd (linesTo x m n) (i : Int) = co x m i m := by
  rw [rd_nat (by rw [linesTo_length]; exact h)]
  simp [linesTo]
theorem LineOwn_loop {m x : Nat} (hm : m < 10) (hm1 : 1 ≤ m) (hx : x < 31) (n : Nat) : ∀ i : Nat, i + n = m → EvE (fun k => laws_FnLineOwn.l0 k (m : Int) (x : Int) (linesTo (x : Int) m m) (ps (x : Int) m i) (i : Int)) (· = true) := by
  obtain ⟨h1, h2⟩ := own_nat m hm x hx
  have hlen := linesTo_length (x : Int) m m
  induction n with
  | zero =>
    intro i hi
    have : i = m := by omega
    subst this
    refine EvE.succ ?_
    simp only [laws_FnLineOwn.l0]
    exact EvE.neg (by omega) (EvE.now _ (by rw [h2 hm1]; rfl))
  | succ n ih =>
    intro i hi
    obtain ⟨c1, c2⟩ := h1 i (by omega)
    have hr := co_range (x : Int) m i m
    have hp := ps_range (x : Int) m i
    have hn := ih (i + 1) (by omega)
    simp only [ps] at hn
    refine EvE.succ ?_
    simp only [laws_FnLineOwn.l0]
    refine EvE.pos (by omega) (EvE.pos (by omega) ?_)
    rw [linesTo_rd (x : Int) (m := m) (n := m) (i := i) (by omega)]
    refine EvE.bind (impl_FieldSum_ok _ _ (by omega) (by omega) (by omega) (by omega)) ?_
    rintro _ rfl
    rw [w64 (x := (i : Int) + 1) (by omega) (by omega)]
    by_cases hxm : x < m
    · have c1 := c1 hxm
      refine EvE.pos (by omega) ?_
      by_cases e : i = x
      · rw [if_pos e] at c1
        refine EvE.neg (by omega) (EvE.pos (by omega) (EvE.pos c1 (EvE.neg (by omega) hn)))
      · rw [if_neg e] at c1
        exact EvE.pos c1 (EvE.neg (by omega) (EvE.neg (by omega) hn))
    · have c2 := c2 (by omega)
      exact EvE.neg (by omega) (EvE.pos (by omega) (EvE.neg c2 hn))
theorem FnLineOwn : laws_FnLineOwn.Pure := by
  intro l _ _ hw
  refine EvE.rounds ?_
  unfold laws_FnLineOwn.f
  refine EvE.ite (fun _ => EvE.now _ rfl) (fun _ => ?_)
  refine EvE.bind (spec_DrawPolyLine_ok hw) ?_
  rintro ⟨m, x⟩ _
  dsimp only
  have hn := pLine_length m x
  refine EvE.bind (impl_PolyLine_ok m x) ?_
  rintro _ rfl
  refine EvE.bind (spec_PolyLine_ok m x) ?_
  rintro _ rfl
  refine EvE.bind (laws_loInts_ok _ _ (by omega)) ?_
  rintro _ rfl
  refine EvE.pos (by simp) (EvE.succ ?_)
  simp only [laws_FnLineOwn.j0]
  refine EvE.ite (fun _ => ?_) (fun h => ?_)
  · refine EvE.bind (spec_PolyLine_ok m x) ?_
    rintro _ rfl
    refine EvE.tail ?_
    refine (laws_loInts_ok _ _ (by omega)).mono ?_
    rintro _ rfl
    simp
  · unfold pLine at h ⊢
    by_cases hc : (0 ≤ m ∧ m ≤ 9) ∧ (0 ≤ x ∧ x ≤ 30)
    · rw [if_pos hc] at h ⊢
      obtain ⟨m, rfl⟩ := Int.eq_ofNat_of_zero_le hc.1.1
      obtain ⟨x, rfl⟩ := Int.eq_ofNat_of_zero_le hc.2.1
      rw [Int.toNat_natCast, linesTo_length] at h
      rw [Int.toNat_natCast]
      have : m ≠ 0 := by
        intro e
        subst e
        exact h (by simp)
      exact LineOwn_loop (by omega) (by omega) (by omega) m 0 (by omega)
    · rw [if_neg hc] at h
      exact absurd rfl h

end Go.Proofs.Ytmgpihkjnlicpaa.Pure
