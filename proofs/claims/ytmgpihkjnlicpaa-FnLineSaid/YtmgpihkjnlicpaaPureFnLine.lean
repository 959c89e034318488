/- The coefficients of a drawn place, with values of the law's own, tell there what the way through those values tells; so many coefficients as places. It has no conditions. -/
import Derived.Test.YtmgpihkjnlicpaaPFnLinex4
import Derived.Test.YtmgpihkjnlicpaaPb
namespace Go.Proofs.Ytmgpihkjnlicpaa.Pure
open Go.RowKit Go.Proofs.Ytmgpihkjnlicpaa.PFnLine Go.Proofs.YtmgpihkjnlicpaaW.PrintWords Go.Proofs.YtmgpihkjnlicpaaW.PrintLast Go.Proofs.Ytmgpihkjnlicpaa.Pb
set_option linter.unusedVariables false
set_option linter.unusedSimpArgs false

/-! The field of 31, and Lagrange's coefficients in it. -/
def iv (a : Int) : Int := a ^ 29 % 31
theorem iv_range (a : Int) : 0 ≤ iv a ∧ iv a ≤ 30 := by unfold iv; omega
theorem iv_mul_nat : ∀ a : Nat, a < 31 → ∀ b : Nat, b < 31 → iv (((a : Int) * (b : Int)) % 31) = iv (a : Int) * iv (b : Int) % 31 := by decide +kernel
theorem iv_mul {a b : Int} (ha : 0 ≤ a) (ha' : a ≤ 30) (hb : 0 ≤ b) (hb' : b ≤ 30) : iv (a * b % 31) = iv a * iv b % 31 := by
  obtain ⟨m, rfl⟩ := Int.eq_ofNat_of_zero_le ha
  obtain ⟨n, rfl⟩ := Int.eq_ofNat_of_zero_le hb
  exact iv_mul_nat m (by omega) n (by omega)
def tp (x : Int) (i : Nat) : Nat → Int
  | 0 => 1
  | k + 1 => if k = i then tp x i k else tp x i k * ((x - (k : Int)) % 31) % 31
theorem tp_range (x : Int) (i k : Nat) : 0 ≤ tp x i k ∧ tp x i k ≤ 30 := by
  induction k with
  | zero => simp [tp]
  | succ k ih => simp only [tp]; split <;> omega
def co (x : Int) (m i k : Nat) : Int := tp x i k * iv (tp (i : Int) i k) % 31
theorem co_range (x : Int) (m i k : Nat) : 0 ≤ co x m i k ∧ co x m i k ≤ 30 := by unfold co; omega
theorem co_succ (x : Int) (m i k : Nat) (h : k ≠ i) : co x m i (k + 1) = co x m i k * (((x - (k : Int)) % 31) * iv (((i : Int) - (k : Int)) % 31) % 31) % 31 := by
  have h1 := tp_range (i : Int) i k
  unfold co
  simp only [tp, if_neg h]
  rw [iv_mul (by omega) (by omega) (by omega) (by omega)]
  generalize tp x i k = a
  generalize iv (tp (i : Int) i k) = b
  generalize (x - (k : Int)) % 31 = c
  generalize iv (((i : Int) - (k : Int)) % 31) = d
  rw [← Int.mul_emod, ← Int.mul_emod]
  congr 1
  grind
theorem co_same (x : Int) (m i : Nat) : co x m i (i + 1) = co x m i i := by
  unfold co
  simp only [tp, if_pos]
def linesTo (x : Int) (m n : Nat) : List Int := (List.range n).map fun i => co x m i m
theorem linesTo_length (x : Int) (m n : Nat) : (linesTo x m n).length = n := by simp [linesTo]
theorem linesTo_succ (x : Int) (m n : Nat) : linesTo x m (n + 1) = linesTo x m n ++ [co x m n m] := by simp [linesTo, List.range_succ]
def pLine (m x : Int) : List Int := if (0 ≤ m ∧ m ≤ 9) ∧ (0 ≤ x ∧ x ≤ 30) then linesTo x m.toNat m.toNat else []
theorem pLine_length (m x : Int) : (pLine m x).length ≤ 9 := by
  unfold pLine; split
  · rw [linesTo_length]; omega
  · simp

theorem spec_l6In_ok (a b c : Int) : EvE (fun _ => spec_l6In.f a b c) (· = decide (b ≤ a ∧ a ≤ c)) := by
  unfold spec_l6In.f
  refine EvE.ite (fun h => EvE.now _ ?_) (fun h => EvE.now _ ?_)
  · have h : b ≤ a := h
    simp [h]
  · have h : ¬ b ≤ a := h
    simp [h]

theorem spec_FieldOk_ok (n : Int) : EvE (fun _ => spec_FieldOk.f n) (· = decide (0 ≤ n ∧ n ≤ 30)) := by
  unfold spec_FieldOk.f
  exact EvE.tail (spec_l6In_ok n 0 30)

theorem spec_FieldMul_ok (a b : Int) (ha : 0 ≤ a) (ha' : a ≤ 30) (hb : 0 ≤ b) (hb' : b ≤ 30) : EvE (fun _ => spec_FieldMul.f a b) (· = a * b % 31) := by
  have m := mul_range (a := a) (b := b) (A := 30) (B := 30) ha ha' hb hb'
  unfold spec_FieldMul.f
  refine EvE.bind (spec_FieldOk_ok a) ?_
  rintro _ rfl
  refine EvE.pos (by simp; omega) ?_
  refine EvE.bind (spec_FieldOk_ok b) ?_
  rintro _ rfl
  refine EvE.pos (by simp; omega) (EvE.now _ ?_)
  rw [w64 (by omega) (by omega), Int.tmod_eq_emod_of_nonneg (by omega)]

theorem spec_FieldDif_ok (a b : Int) (ha : 0 ≤ a) (ha' : a ≤ 30) (hb : 0 ≤ b) (hb' : b ≤ 30) : EvE (fun _ => spec_FieldDif.f a b) (· = (a - b) % 31) := by
  unfold spec_FieldDif.f
  refine EvE.bind (spec_FieldOk_ok a) ?_
  rintro _ rfl
  refine EvE.pos (by simp; omega) ?_
  refine EvE.bind (spec_FieldOk_ok b) ?_
  rintro _ rfl
  refine EvE.pos (by simp; omega) (EvE.now _ ?_)
  rw [w64 (x := a + 31) (by omega) (by omega), w64 (by omega) (by omega), Int.tmod_eq_emod_of_nonneg (by omega)]
  omega

theorem spec_l1Inv_nat : ∀ n : Nat, n < 31 → spec_l1Inv.f 40 (n : Int) = some (iv (n : Int)) := by decide +kernel
theorem spec_l1Inv_ok (a : Int) (ha : 0 ≤ a) (ha' : a ≤ 30) : EvE (fun k => spec_l1Inv.f k a) (· = iv a) := by
  obtain ⟨n, rfl⟩ := Int.eq_ofNat_of_zero_le ha
  exact ⟨_, Ev.of (fun k => spec_l1Inv.mono _ k) (spec_l1Inv_nat n (by omega)), rfl⟩

theorem spec_l2Line_inner {x : Int} {m i : Nat} (hx : 0 ≤ x) (hx' : x ≤ 30) (hm : m ≤ 9) (hi : i < m) (out : List Int) (P : List Int → Prop)
    (h : EvE (fun k => spec_l2Line.l1 k (m : Int) x out (i : Int) (co x m i m) (m : Int)) P) (n : Nat) : ∀ j : Nat, j + n = m → EvE (fun k => spec_l2Line.l1 k (m : Int) x out (i : Int) (co x m i j) (j : Int)) P := by
  induction n with
  | zero =>
    intro j hj
    have : j = m := by omega
    subst this
    exact h
  | succ n ih =>
    intro j hj
    have hc := co_range x m i j
    refine EvE.succ ?_
    simp only [spec_l2Line.l1]
    refine EvE.pos (by omega) ?_
    rw [w64 (x := (j : Int) + 1) (by omega) (by omega)]
    refine EvE.ite (fun e => ?_) (fun e => ?_)
    · have e : j = i := by omega
      subst e
      have := ih (j + 1) (by omega)
      rw [co_same] at this
      exact this
    · have e : j ≠ i := by omega
      refine EvE.bind (spec_FieldDif_ok x (j : Int) (by omega) (by omega) (by omega) (by omega)) ?_
      rintro _ rfl
      refine EvE.bind (spec_FieldDif_ok (i : Int) (j : Int) (by omega) (by omega) (by omega) (by omega)) ?_
      rintro _ rfl
      refine EvE.bind (spec_l1Inv_ok _ (by omega) (by omega)) ?_
      rintro _ rfl
      have hv := iv_range (((i : Int) - (j : Int)) % 31)
      refine EvE.bind (spec_FieldMul_ok _ _ (by omega) (by omega) (by omega) (by omega)) ?_
      rintro _ rfl
      refine EvE.bind (spec_FieldMul_ok _ _ (by omega) (by omega) (by omega) (by omega)) ?_
      rintro _ rfl
      have := ih (j + 1) (by omega)
      rw [co_succ x m i j e] at this
      exact this
theorem spec_l2Line_outer {x : Int} {m : Nat} (hx : 0 ≤ x) (hx' : x ≤ 30) (hm : m ≤ 9) (n : Nat) : ∀ i : Nat, i + n = m → EvE (fun k => spec_l2Line.l0 k (m : Int) x (linesTo x m i) (i : Int)) (· = linesTo x m m) := by
  induction n with
  | zero =>
    intro i hi
    have : i = m := by omega
    subst this
    refine EvE.succ ?_
    simp only [spec_l2Line.l0]
    exact EvE.neg (by omega) (EvE.now _ rfl)
  | succ n ih =>
    intro i hi
    refine EvE.succ ?_
    simp only [spec_l2Line.l0]
    refine EvE.pos (by omega) ?_
    refine spec_l2Line_inner hx hx' hm (by omega) _ _ ?_ m 0 (by omega)
    refine EvE.succ ?_
    simp only [spec_l2Line.l1]
    refine EvE.neg (by omega) (EvE.pos (by rw [linesTo_length]; omega) ?_)
    rw [w64 (x := (i : Int) + 1) (by omega) (by omega), ← linesTo_succ]
    exact ih (i + 1) (by omega)

theorem spec_PolyLine_ok (m x : Int) : EvE (fun k => spec_PolyLine.f k m x) (· = pLine m x) := by
  unfold spec_PolyLine.f pLine
  refine EvE.bind (spec_l6In_ok m 0 9) ?_
  rintro _ rfl
  refine EvE.ite (fun h => ?_) (fun h => EvE.now _ (by rw [if_neg (fun e => h (decide_eq_true e.1))]))
  refine EvE.bind (spec_FieldOk_ok x) ?_
  rintro _ rfl
  refine EvE.ite (fun h2 => ?_) (fun h2 => EvE.now _ (by rw [if_neg (fun e => h2 (decide_eq_true e.2))]))
  have h := of_decide_eq_true h
  have h2 := of_decide_eq_true h2
  rw [if_pos ⟨h, h2⟩]
  obtain ⟨n, rfl⟩ := Int.eq_ofNat_of_zero_le h.1
  rw [Int.toNat_natCast]
  exact EvE.tail (spec_l2Line_outer h2.1 h2.2 (by omega) n 0 (by omega))

theorem impl_within_ok (a b c : Int) : EvE (fun _ => impl_within.f a b c) (· = decide (b ≤ a ∧ a ≤ c)) := by
  unfold impl_within.f
  refine EvE.ite (fun h => EvE.now _ ?_) (fun h => EvE.now _ ?_)
  · have h : b ≤ a := h
    simp [h]
  · have h : ¬ b ≤ a := h
    simp [h]

theorem impl_FieldOk_ok (n : Int) : EvE (fun _ => impl_FieldOk.f n) (· = decide (0 ≤ n ∧ n ≤ 30)) := by
  unfold impl_FieldOk.f
  exact EvE.tail (impl_within_ok n 0 30)

theorem impl_elementOf_ok (n : Int) (h : -1000000 ≤ n) (h' : n ≤ 1000000) : EvE (fun _ => impl_elementOf.f n) (· = n % 31) := by
  unfold impl_elementOf.f
  refine EvE.now _ ?_
  by_cases hn : 0 ≤ n
  · have e := Int.tmod_eq_emod_of_nonneg (b := 31) hn
    rw [e, w64 (by omega) (by omega), Int.tmod_eq_emod_of_nonneg (by omega)]
    omega
  · have e : Int.tmod n 31 = - ((-n) % 31) := by
      have := Int.tmod_eq_emod_of_nonneg (a := -n) (b := 31) (by omega)
      rw [Int.neg_tmod] at this
      omega
    rw [e, w64 (by omega) (by omega), Int.tmod_eq_emod_of_nonneg (by omega)]
    omega

theorem impl_element_times_ok (a b : Int) (ha : 0 ≤ a) (ha' : a ≤ 30) (hb : 0 ≤ b) (hb' : b ≤ 30) : EvE (fun _ => impl_element_times.f a b) (· = a * b % 31) := by
  have m := mul_range (a := a) (b := b) (A := 30) (B := 30) ha ha' hb hb'
  unfold impl_element_times.f
  rw [w64 (x := a * b) (by omega) (by omega)]
  exact EvE.tail (impl_elementOf_ok _ (by omega) (by omega))

theorem impl_element_minus_ok (a b : Int) (ha : 0 ≤ a) (ha' : a ≤ 30) (hb : 0 ≤ b) (hb' : b ≤ 30) : EvE (fun _ => impl_element_minus.f a b) (· = (a - b) % 31) := by
  unfold impl_element_minus.f
  rw [w64 (x := a - b) (by omega) (by omega)]
  exact EvE.tail (impl_elementOf_ok _ (by omega) (by omega))

theorem impl_element_inverse_nat : ∀ n : Nat, n < 31 → impl_element_inverse.f 60 (n : Int) = some (iv (n : Int)) := by decide +kernel
theorem impl_element_inverse_ok (a : Int) (ha : 0 ≤ a) (ha' : a ≤ 30) : EvE (fun k => impl_element_inverse.f k a) (· = iv a) := by
  obtain ⟨n, rfl⟩ := Int.eq_ofNat_of_zero_le ha
  exact ⟨_, Ev.of (fun k => impl_element_inverse.mono _ k) (impl_element_inverse_nat n (by omega)), rfl⟩

theorem impl_line_inner {x : Int} {m i : Nat} (hx : 0 ≤ x) (hx' : x ≤ 30) (hm : m ≤ 9) (hi : i < m) (out : List Int) (P : List Int → Prop)
    (h : EvE (fun k => impl_line.l1 k (m : Int) x out (i : Int) (tp x i m) (tp (i : Int) i m) (m : Int) (i : Int) (m : Int) (m : Int)) P) (n : Nat) : ∀ j : Nat, j + n = m → EvE (fun k => impl_line.l1 k (m : Int) x out (i : Int) (tp x i j) (tp (i : Int) i j) (m : Int) (i : Int) (m : Int) (j : Int)) P := by
  induction n with
  | zero =>
    intro j hj
    have : j = m := by omega
    subst this
    exact h
  | succ n ih =>
    intro j hj
    have h1 := tp_range x i j
    have h2 := tp_range (i : Int) i j
    have hn := ih (j + 1) (by omega)
    simp only [tp] at hn
    refine EvE.succ ?_
    simp only [impl_line.l1]
    refine EvE.pos (by omega) ?_
    rw [w64 (x := (j : Int) + 1) (by omega) (by omega)]
    refine EvE.ite (fun e => ?_) (fun e => ?_)
    · have e : j = i := by omega
      rw [if_pos e, if_pos e] at hn
      exact hn
    · have e : j ≠ i := by omega
      rw [if_neg e, if_neg e] at hn
      refine EvE.bind (impl_element_minus_ok x (j : Int) (by omega) (by omega) (by omega) (by omega)) ?_
      rintro _ rfl
      refine EvE.bind (impl_element_times_ok _ _ (by omega) (by omega) (by omega) (by omega)) ?_
      rintro _ rfl
      refine EvE.bind (impl_element_minus_ok (i : Int) (j : Int) (by omega) (by omega) (by omega) (by omega)) ?_
      rintro _ rfl
      refine EvE.bind (impl_element_times_ok _ _ (by omega) (by omega) (by omega) (by omega)) ?_
      rintro _ rfl
      exact hn
theorem impl_line_outer {x : Int} {m : Nat} (hx : 0 ≤ x) (hx' : x ≤ 30) (hm : m ≤ 9) (n : Nat) : ∀ i : Nat, i + n = m → EvE (fun k => impl_line.l0 k (m : Int) x (linesTo x m i) (m : Int) (i : Int)) (· = linesTo x m m) := by
  induction n with
  | zero =>
    intro i hi
    have : i = m := by omega
    subst this
    refine EvE.succ ?_
    simp only [impl_line.l0]
    exact EvE.neg (by omega) (EvE.now _ rfl)
  | succ n ih =>
    intro i hi
    refine EvE.succ ?_
    simp only [impl_line.l0]
    refine EvE.pos (by omega) ?_
    refine impl_line_inner hx hx' hm (by omega) _ _ ?_ m 0 (by omega)
    have h1 := tp_range x i m
    have h2 := tp_range (i : Int) i m
    have h3 := iv_range (tp (i : Int) i m)
    refine EvE.succ ?_
    simp only [impl_line.l1]
    refine EvE.neg (by omega) ?_
    refine EvE.bind (impl_element_inverse_ok _ (by omega) (by omega)) ?_
    rintro _ rfl
    refine EvE.bind (impl_element_times_ok _ _ (by omega) (by omega) (by omega) (by omega)) ?_
    rintro _ rfl
    refine EvE.pos (by rw [linesTo_length]; omega) ?_
    rw [w64 (x := (i : Int) + 1) (by omega) (by omega)]
    have := ih (i + 1) (by omega)
    rw [linesTo_succ] at this
    exact this
theorem impl_line_ok {x : Int} {m : Nat} (hx : 0 ≤ x) (hx' : x ≤ 30) (hm : m ≤ 9) : EvE (fun k => impl_line.f k (m : Int) x) (· = linesTo x m m) := by
  unfold impl_line.f
  refine EvE.pos (by omega) (EvE.pos (by omega) ?_)
  exact impl_line_outer hx hx' hm m 0 (by omega)

theorem impl_PolyLine_ok (m x : Int) : EvE (fun k => impl_PolyLine.f k m x) (· = pLine m x) := by
  unfold impl_PolyLine.f pLine
  refine EvE.bind (impl_within_ok m 0 9) ?_
  rintro _ rfl
  refine EvE.ite (fun h => ?_) (fun h => EvE.now _ (by rw [if_neg (fun e => h (decide_eq_true e.1))]))
  refine EvE.bind (impl_FieldOk_ok x) ?_
  rintro _ rfl
  refine EvE.ite (fun h2 => ?_) (fun h2 => EvE.now _ (by rw [if_neg (fun e => h2 (decide_eq_true e.2))]))
  have h := of_decide_eq_true h
  have h2 := of_decide_eq_true h2
  rw [if_pos ⟨h, h2⟩]
  obtain ⟨n, rfl⟩ := Int.eq_ofNat_of_zero_le h.1
  rw [Int.toNat_natCast]
  exact EvE.tail (impl_line_ok h2.1 h2.2 (by omega))

theorem spec_l6Open_ok {l : List Int} (h : ∀ x ∈ l, (Lit.int .u8 x).wf = true) : EvE (fun _ => spec_l6Open.f l) (fun r => ∃ s, r = (s, 0) ∧ Coded s) := by
  have h := u8_range h
  unfold spec_l6Open.f
  refine EvE.ite (fun h1 => EvE.pos (by omega) (EvE.now _ ⟨_, rfl, fun x hx => h x (List.mem_of_mem_take hx), ?_⟩)) (fun h1 => EvE.now _ ⟨_, rfl, h, by omega⟩)
  rw [List.length_take]; omega

theorem spec_l6Rd_pick_ok {s : List Int} (hs : Coded s) (p n : Int) (h0 : 0 ≤ p) (h1 : p ≤ 1000000) (hn : 1 ≤ n) (hn' : n ≤ 1000000) :
    EvE (fun k => spec_l6Rd_pick.f k s p n) (fun r => ∃ v, r = (v, p + 1) ∧ 0 ≤ v ∧ v < n) := by
  unfold spec_l6Rd_pick.f
  rw [w64 (x := p + 1) (by omega) (by omega)]
  refine EvE.neg (by omega) (EvE.succ ?_)
  simp only [spec_l6Rd_pick.j0]
  have e : wrap64 (p + 1 - 1) = p := by rw [w64 (by omega) (by omega)]; omega
  rw [e]
  have rg := rd_range hs.1
  have hl := hs.2
  refine EvE.ite (fun _ => EvE.now _ ⟨0, rfl, by omega, by omega⟩) (fun hz => ?_)
  have hpos : 1 ≤ (s.length : Int) := by
    have : s.length ≠ 0 := by simpa using hz
    omega
  refine EvE.ite (fun hlt => EvE.pos h0 (EvE.neg (by omega) (EvE.now _ ?_))) (fun hge => ?_)
  · have := rg p
    rw [w64 (x := rd s p) (by omega) (by omega)]
    exact ⟨_, rfl, tmod_range (by omega) hn⟩
  · refine EvE.neg (by omega) ?_
    have t1 := tmod_range (a := p) (n := (s.length : Int)) h0 hpos
    have e1 : wrap64 (p * 7) = p * 7 := w64 (by omega) (by omega)
    have e2 : wrap64 (p * 7 + 3) = p * 7 + 3 := w64 (by omega) (by omega)
    rw [e1, e2]
    have t2 := tmod_range (a := p * 7 + 3) (n := (s.length : Int)) (by omega) hpos
    refine EvE.pos t1.1 (EvE.pos t1.2 (EvE.pos t2.1 (EvE.pos t2.2 (EvE.neg (by omega) (EvE.now _ ?_)))))
    have r1 := rg (Int.tmod p s.length)
    have r2 := rg (Int.tmod (p * 7 + 3) s.length)
    generalize rd s (Int.tmod p s.length) = A at *
    generalize rd s (Int.tmod (p * 7 + 3) s.length) = B at *
    have dq : 0 ≤ Int.tdiv p s.length ∧ Int.tdiv p s.length ≤ p := by
      rw [Int.tdiv_eq_ediv_of_nonneg h0]
      exact ⟨Int.ediv_nonneg h0 (by omega), Int.ediv_le_self _ h0⟩
    generalize Int.tdiv p s.length = Q at *
    rw [w64 (x := A) (by omega) (by omega), w64 (x := B) (by omega) (by omega), w64 (x := A * 131) (by omega) (by omega), w64 (x := B * 1117) (by omega) (by omega), w64 (x := p * 29) (by omega) (by omega), w64 (x := Q) (by omega) (by omega), w64 (x := Q * 53) (by omega) (by omega), w64 (x := A * 131 + B * 1117) (by omega) (by omega), w64 (x := A * 131 + B * 1117 + p * 29) (by omega) (by omega), w64 (x := A * 131 + B * 1117 + p * 29 + Q * 53) (by omega) (by omega)]
    have hX : 0 ≤ A * 131 + B * 1117 + p * 29 + Q * 53 ∧ A * 131 + B * 1117 + p * 29 + Q * 53 < 1000000000000 := by omega
    generalize A * 131 + B * 1117 + p * 29 + Q * 53 = X at *
    have e3 : wrap64 (Int.tdiv X 64) = X / 64 := by
      rw [Int.tdiv_eq_ediv_of_nonneg hX.1]
      exact w64 (by omega) (by omega)
    rw [e3]
    have hx := xor_nonneg (a := X) (b := X / 64) (by omega) (by omega) (by omega) (by omega)
    exact ⟨_, rfl, tmod_range hx.1 hn⟩

theorem spec_l91Num_ok {s : List Int} (hs : Coded s) (p : Int) (h0 : 0 ≤ p) (h1 : p ≤ 900000) : EvE (fun k => spec_l91Num.f k s p) (fun r => ∃ a q, r = (a, q) ∧ p ≤ q ∧ q ≤ p + 5 ∧ -1 ≤ a ∧ a ≤ 31) := by
  unfold spec_l91Num.f
  refine EvE.bind (spec_l6Rd_pick_ok hs p 10 h0 (by omega) (by omega) (by omega)) ?_
  rintro _ ⟨a, rfl, ha, ha'⟩
  dsimp only
  have last : ∀ q : Int, p ≤ q → q ≤ p + 4 → EvE (fun k => (spec_l6Rd_pick.f k s q 31).bind fun bt126 => (some (bt126.1, bt126.2))) (fun r => ∃ a q, r = (a, q) ∧ p ≤ q ∧ q ≤ p + 5 ∧ -1 ≤ a ∧ a ≤ 31) := by
    intro q hq hq'
    refine EvE.bind (spec_l6Rd_pick_ok hs _ 31 (by omega) (by omega) (by omega) (by omega)) ?_
    rintro _ ⟨b, rfl, hb, hb'⟩
    exact EvE.now _ ⟨_, _, rfl, by omega, by omega, by omega, by omega⟩
  refine EvE.ite (fun _ => EvE.now _ ⟨_, _, rfl, by omega, by omega, by omega, by omega⟩) (fun _ => ?_)
  refine EvE.ite (fun _ => ?_) (fun _ => ?_)
  · refine EvE.bind (EvE.now (P := fun r => r = [1, 30]) _ rfl) ?_
    rintro _ rfl
    refine EvE.bind (spec_l6Rd_pick_ok hs _ 2 (by omega) (by omega) (by omega) (by omega)) ?_
    rintro _ ⟨b, rfl, hb, hb'⟩
    dsimp only
    refine EvE.pos hb (EvE.pos (by simp; omega) (EvE.now _ ⟨_, _, rfl, by omega, by omega, ?_⟩))
    have : b = 0 ∨ b = 1 := by omega
    rcases this with rfl | rfl <;> simp [rd]
  · refine EvE.ite (fun _ => ?_) (fun _ => last _ (by omega) (by omega))
    refine EvE.bind (spec_l6Rd_pick_ok hs _ 5 (by omega) (by omega) (by omega) (by omega)) ?_
    rintro _ ⟨b, rfl, hb, hb'⟩
    dsimp only
    refine EvE.ite (fun _ => ?_) (fun _ => last _ (by omega) (by omega))
    refine EvE.bind (EvE.now (P := fun r => r = [-1, 31]) _ rfl) ?_
    rintro _ rfl
    refine EvE.bind (spec_l6Rd_pick_ok hs _ 2 (by omega) (by omega) (by omega) (by omega)) ?_
    rintro _ ⟨c, rfl, hc, hc'⟩
    dsimp only
    refine EvE.pos hc (EvE.pos (by simp; omega) (EvE.now _ ⟨_, _, rfl, by omega, by omega, ?_⟩))
    have : c = 0 ∨ c = 1 := by omega
    rcases this with rfl | rfl <;> simp [rd]

theorem spec_DrawPolyLine_ok {l : List Int} (h : ∀ x ∈ l, (Lit.int .u8 x).wf = true) : EvE (fun k => spec_DrawPolyLine.f k l) (fun _ => True) := by
  unfold spec_DrawPolyLine.f
  refine EvE.bind (spec_l6Open_ok h) ?_
  rintro _ ⟨s, rfl, hs⟩
  dsimp only
  refine EvE.bind (spec_l6Rd_pick_ok hs _ 11 (by omega) (by omega) (by omega) (by omega)) ?_
  rintro _ ⟨a, rfl, _⟩
  dsimp only
  refine EvE.bind (spec_l6Rd_pick_ok hs _ 24 (by omega) (by omega) (by omega) (by omega)) ?_
  rintro _ ⟨b, rfl, _⟩
  dsimp only
  refine EvE.bind (spec_l91Num_ok hs _ (by omega) (by omega)) ?_
  rintro _ ⟨c, q, rfl, _⟩
  exact EvE.now _ trivial

theorem laws_loInts_loop (a b : List Int) (hl : a.length = b.length) (hb : a.length ≤ 1125899906842624) (m : Nat) : ∀ i : Nat, i + m = a.length → EvE (fun k => laws_loInts.l0 k a b (i : Int)) (· = decide (a.drop i = b.drop i)) := by
  induction m with
  | zero =>
    intro i hi
    refine EvE.succ ?_
    simp only [laws_loInts.l0]
    refine EvE.neg (by omega) (EvE.now _ ?_)
    rw [List.drop_of_length_le (l := a) (by omega), List.drop_of_length_le (l := b) (by omega)]
    rfl
  | succ m ih =>
    intro i hi
    have h := ih (i + 1) (by omega)
    refine EvE.succ ?_
    simp only [laws_loInts.l0]
    refine EvE.pos (by omega) (EvE.pos (by omega) (EvE.pos (by omega) ?_))
    rw [w64 (x := (i : Int) + 1) (by omega) (by omega), drop_rd (xs := a) (i := i) (by omega), drop_rd (xs := b) (i := i) (by omega)]
    refine EvE.ite (fun e => ?_) (fun e => EvE.now _ (by simp [e]))
    simpa [e] using h
theorem laws_loInts_ok (a b : List Int) (hb : a.length ≤ 1125899906842624) : EvE (fun k => laws_loInts.f k a b) (· = decide (a = b)) := by
  unfold laws_loInts.f
  refine EvE.ite (fun h => ?_) (fun h => EvE.now _ ?_)
  · simpa using laws_loInts_loop a b (by omega) hb a.length 0 (by omega)
  · rw [eq_comm, decide_eq_false_iff_not]
    rintro rfl
    exact h rfl

theorem impl_element_plus_ok (a b : Int) (ha : 0 ≤ a) (ha' : a ≤ 30) (hb : 0 ≤ b) (hb' : b ≤ 30) : EvE (fun _ => impl_element_plus.f a b) (· = (a + b) % 31) := by
  unfold impl_element_plus.f
  rw [w64 (x := a + b) (by omega) (by omega)]
  exact EvE.tail (impl_elementOf_ok _ (by omega) (by omega))

theorem impl_FieldSum_ok (a b : Int) (ha : 0 ≤ a) (ha' : a ≤ 30) (hb : 0 ≤ b) (hb' : b ≤ 30) : EvE (fun _ => impl_FieldSum.f a b) (· = (a + b) % 31) := by
  unfold impl_FieldSum.f
  refine EvE.bind (impl_FieldOk_ok a) ?_
  rintro _ rfl
  refine EvE.pos (by simp; omega) ?_
  refine EvE.bind (impl_FieldOk_ok b) ?_
  rintro _ rfl
  refine EvE.pos (by simp; omega) ?_
  exact EvE.tail (impl_element_plus_ok a b ha ha' hb hb')

def someV (n i : Nat) : Int := (((n * (i + 3) + i * i) % 31 : Nat) : Int)
def someTo (n k : Nat) : List Int := (List.range k).map (someV n)
theorem someTo_length (n k : Nat) : (someTo n k).length = k := by simp [someTo]
theorem someTo_succ (n k : Nat) : someTo n (k + 1) = someTo n k ++ [someV n k] := by simp [someTo, List.range_succ]
theorem someTo_get {n k i : Nat} (h : i < k) : (someTo n k).getD i 0 = someV n i := by simp [someTo, h]
theorem someV_range (n i : Nat) : 0 ≤ someV n i ∧ someV n i ≤ 30 := by unfold someV; omega
theorem someTo_range {n k : Nat} {c : Int} (h : c ∈ someTo n k) : 0 ≤ c ∧ c ≤ 30 := by
  obtain ⟨i, _, rfl⟩ := List.mem_map.1 h
  exact someV_range n i
theorem laws_loSome_loop (n : Nat) (hn : n ≤ 1048576) (m : Nat) (hm : m ≤ 9) (r : Nat) : ∀ i : Nat, i + r = m → EvE (fun k => laws_loSome.l0 k (n : Int) (m : Int) (someTo n i) (i : Int)) (· = someTo n m) := by
  induction r with
  | zero =>
    intro i hi
    have : i = m := by omega
    subst this
    refine EvE.succ ?_
    simp only [laws_loSome.l0]
    exact EvE.neg (by omega) (EvE.now _ rfl)
  | succ r ih =>
    intro i hi
    have h1 : n * (i + 3) ≤ 1048576 * 12 := Nat.mul_le_mul hn (by omega)
    have h2 : i * i ≤ 9 * 9 := Nat.mul_le_mul (by omega) (by omega)
    have e1 : (n : Int) * ((i : Int) + 3) = ((n * (i + 3) : Nat) : Int) := by push_cast; rfl
    have e2 : (i : Int) * (i : Int) = ((i * i : Nat) : Int) := by push_cast; rfl
    have hn' := ih (i + 1) (by omega)
    rw [someTo_succ] at hn'
    refine EvE.succ ?_
    simp only [laws_loSome.l0, laws_loNum.f]
    refine EvE.pos (by omega) ?_
    refine EvE.bind (EvE.now _ rfl) ?_
    rintro _ rfl
    refine EvE.pos (by rw [someTo_length]; omega) ?_
    rw [w64 (x := (i : Int) + 3) (by omega) (by omega), e1, e2, w64 (x := ((n * (i + 3) : Nat) : Int)) (by omega) (by omega), w64 (x := ((i * i : Nat) : Int)) (by omega) (by omega), w64 (x := ((n * (i + 3) : Nat) : Int) + ((i * i : Nat) : Int)) (by omega) (by omega), w64 (x := (i : Int) + 1) (by omega) (by omega), Int.tmod_eq_emod_of_nonneg (by omega)]
    have e3 : (((n * (i + 3) : Nat) : Int) + ((i * i : Nat) : Int)) % 31 = someV n i := by unfold someV; omega
    rw [e3]
    exact hn'
theorem laws_loSome_ok (n : Nat) (hn : n ≤ 1048576) (m : Nat) (hm : m ≤ 9) : EvE (fun k => laws_loSome.f k (n : Int) (m : Int)) (· = someTo n m) := by
  unfold laws_loSome.f
  exact laws_loSome_loop n hn m hm m 0 (by omega)

theorem impl_FieldMul_ok (a b : Int) (ha : 0 ≤ a) (ha' : a ≤ 30) (hb : 0 ≤ b) (hb' : b ≤ 30) : EvE (fun _ => impl_FieldMul.f a b) (· = a * b % 31) := by
  unfold impl_FieldMul.f
  refine EvE.bind (impl_FieldOk_ok a) ?_
  rintro _ rfl
  refine EvE.pos (by simp; omega) ?_
  refine EvE.bind (impl_FieldOk_ok b) ?_
  rintro _ rfl
  refine EvE.pos (by simp; omega) ?_
  exact EvE.tail (impl_element_times_ok a b ha ha' hb hb')

theorem impl_PolyOk_yes {l : List Int} (h9 : l.length ≤ 9) (hr : ∀ c ∈ l, 0 ≤ c ∧ c ≤ 30) : EvE (fun _ => impl_PolyOk.f l) (· = true) := by
  have hb : l.any badI = false := by
    rw [List.any_eq_false]
    intro c hc
    have := hr c hc
    simp [badI, this]
  unfold impl_PolyOk.f impl_elementsOk.f impl_elementsOk_1.f
  rw [hb, if_pos (by omega)]
  exact EvE.now _ rfl

/-! Newton's way through points, in the field of 31: a linear thing; so what it tells at the basis it tells everywhere. -/
def inT (s : Nat) : Int := ([0, 1, 16, 21, 8, 25, 26, 9, 4] : List Int).getD s 0
def dc (m : Nat) (v : Nat → Int) : Nat → Nat → Int
  | 0, j => if j < m then v j else 0
  | s + 1, j => if s + 1 ≤ j ∧ j < m then (dc m v s j - dc m v s (j - 1)) % 31 * inT (s + 1) % 31 else dc m v s j
def oc (d : Nat → Int) (n : Nat) : Nat → Nat → Int
  | 0, _ => 0
  | q + 1, 0 => (oc d n q 0 * (-((n - 1 - q : Nat) : Int) % 31) % 31 + d (n - 1 - q)) % 31
  | q + 1, k + 1 => (oc d n q (k + 1) * (-((n - 1 - q : Nat) : Int) % 31) % 31 + oc d n q k) % 31
def hv (x : Int) (o : Nat → Int) : Nat → Nat → Int
  | 0, _ => 0
  | r + 1, j => (hv x o r (j + 1) * x % 31 + o j) % 31
def at31 (m : Nat) (x : Int) (v : Nat → Int) : Int := hv x (oc (dc m v (m - 1)) m m) m 0
def Lin (F : (Nat → Int) → Int) : Prop := ∀ (v w : Nat → Int) (c : Int), (31 : Int) ∣ F (fun i => v i + c * w i) - (F v + c * F w)
theorem Lin.zero : Lin fun _ => 0 := fun v w c => by simp
theorem Lin.coord (j : Nat) : Lin fun v => v j := fun v w c => by simp
theorem Lin.add {F G : (Nat → Int) → Int} (hF : Lin F) (hG : Lin G) : Lin fun v => F v + G v := fun v w c => by
  obtain ⟨a, ha⟩ := hF v w c
  obtain ⟨b, hb⟩ := hG v w c
  exact ⟨a + b, by grind⟩
theorem Lin.sub {F G : (Nat → Int) → Int} (hF : Lin F) (hG : Lin G) : Lin fun v => F v - G v := fun v w c => by
  obtain ⟨a, ha⟩ := hF v w c
  obtain ⟨b, hb⟩ := hG v w c
  exact ⟨a - b, by grind⟩
theorem Lin.mul {F : (Nat → Int) → Int} (hF : Lin F) (z : Int) : Lin fun v => F v * z := fun v w c => by
  obtain ⟨a, ha⟩ := hF v w c
  exact ⟨a * z, by grind⟩
theorem Lin.mod {F : (Nat → Int) → Int} (hF : Lin F) : Lin fun v => F v % 31 := fun v w c => by
  obtain ⟨a, ha⟩ := hF v w c
  dsimp only at *
  refine ⟨a - F (fun i => v i + c * w i) / 31 + F v / 31 + c * (F w / 31), ?_⟩
  rw [Int.emod_def, Int.emod_def, Int.emod_def]
  grind
theorem lin_dc (m : Nat) : ∀ s j, Lin fun v => dc m v s j
  | 0, j => by
    by_cases h : j < m
    · simpa [dc, h] using Lin.coord j
    · simpa [dc, h] using Lin.zero
  | s + 1, j => by
    by_cases h : s + 1 ≤ j ∧ j < m
    · simp only [dc, if_pos h]
      exact ((((lin_dc m s j).sub (lin_dc m s (j - 1))).mod).mul _).mod
    · simp only [dc, if_neg h]
      exact lin_dc m s j
theorem lin_oc (m n s : Nat) : ∀ q k, Lin fun v => oc (dc m v s) n q k
  | 0, _ => by simpa [oc] using Lin.zero
  | q + 1, 0 => by
    simp only [oc]
    exact ((((lin_oc m n s q 0).mul _).mod).add (lin_dc m s _)).mod
  | q + 1, k + 1 => by
    simp only [oc]
    exact ((((lin_oc m n s q (k + 1)).mul _).mod).add (lin_oc m n s q k)).mod
theorem lin_hv (m n s q : Nat) (x : Int) : ∀ r j, Lin fun v => hv x (oc (dc m v s) n q) r j
  | 0, _ => by simpa [hv] using Lin.zero
  | r + 1, j => by
    simp only [hv]
    exact ((((lin_hv m n s q x r (j + 1)).mul _).mod).add (lin_oc m n s q j)).mod
theorem lin_at (m : Nat) (x : Int) : Lin (at31 m x) := lin_hv m m (m - 1) m x m 0
def bs (i : Nat) : Nat → Int := fun j => if j = i then 1 else 0
def cut (n : Nat) (v : Nat → Int) : Nat → Int := fun j => if j < n then v j else 0
theorem cut_succ (n : Nat) (v : Nat → Int) : cut (n + 1) v = fun j => cut n v j + v n * bs n j := by
  funext j
  unfold cut bs
  by_cases h : j < n
  · rw [if_pos (by omega), if_pos h, if_neg (by omega)]; omega
  · by_cases h2 : j = n
    · subst h2; simp
    · rw [if_neg (by omega), if_neg h, if_neg h2]; omega
/-- The sum of a list by parts. -/
def sm (f : Nat → Int) (v : Nat → Int) : Nat → Int
  | 0 => 0
  | i + 1 => (sm f v i + f i * v i % 31) % 31
theorem sm_range (f v : Nat → Int) (i : Nat) : 0 ≤ sm f v i ∧ sm f v i ≤ 30 := by
  cases i with
  | zero => simp [sm]
  | succ i => simp only [sm]; omega
theorem lin_sum {F : (Nat → Int) → Int} (hF : Lin F) (v : Nat → Int) : ∀ n, (31 : Int) ∣ F (cut n v) - sm (fun i => F (bs i)) v n
  | 0 => by
    obtain ⟨a, ha⟩ := hF (fun _ => 0) (fun _ => 0) 1
    have e : cut 0 v = fun _ => 0 := by funext j; simp [cut]
    rw [e]
    simp only [sm]
    simp only [Int.mul_zero, Int.add_zero] at ha
    exact ⟨-a, by omega⟩
  | n + 1 => by
    obtain ⟨a, ha⟩ := lin_sum hF v n
    obtain ⟨b, hb⟩ := hF (cut n v) (bs n) (v n)
    rw [cut_succ]
    simp only [sm]
    generalize F (fun j => cut n v j + v n * bs n j) = X at *
    generalize F (cut n v) = Y at *
    generalize sm (fun i => F (bs i)) v n = Z at *
    generalize F (bs n) = W at *
    have hm : W * v n = v n * W := Int.mul_comm _ _
    rw [hm]
    generalize v n * W = U at *
    omega
theorem dc_cut (m : Nat) (v : Nat → Int) : ∀ s j, dc m (cut m v) s j = dc m v s j
  | 0, j => by simp only [dc, cut]; split <;> rfl
  | s + 1, j => by simp only [dc, dc_cut m v s]
theorem at_cut (m : Nat) (x : Int) (v : Nat → Int) : at31 m x (cut m v) = at31 m x v := by
  unfold at31
  rw [show dc m (cut m v) (m - 1) = dc m v (m - 1) from funext fun j => dc_cut m v _ j]
theorem at_range (m : Nat) (x : Int) (v : Nat → Int) : 0 ≤ at31 m x v ∧ at31 m x v ≤ 30 := by
  unfold at31
  cases m with
  | zero => simp [hv]
  | succ m => simp only [hv]; omega
theorem at_sum (m : Nat) (x : Int) (v : Nat → Int) : at31 m x v = sm (fun i => at31 m x (bs i)) v m := by
  have h := lin_sum (lin_at m x) v m
  rw [at_cut] at h
  have h1 := at_range m x v
  have h2 := sm_range (fun i => at31 m x (bs i)) v m
  omega
theorem sm_congr {f g : Nat → Int} {v : Nat → Int} : ∀ {n : Nat}, (∀ i, i < n → f i = g i) → sm f v n = sm g v n
  | 0, _ => rfl
  | n + 1, h => by simp only [sm]; rw [sm_congr fun i hi => h i (by omega), h n (by omega)]
set_option maxRecDepth 100000 in
theorem basis_at : ∀ m : Nat, m < 10 → ∀ i : Nat, i < m → ∀ x : Nat, x < 31 → at31 m (x : Int) (bs i) = co (x : Int) m i m := by decide +kernel
theorem line_sum {m x : Nat} (hm : m < 10) (hx : x < 31) (v : Nat → Int) : at31 m (x : Int) v = sm (fun i => co (x : Int) m i m) v m :=
  (at_sum m x v).trans (sm_congr fun i hi => basis_at m hm i hi x hx)
theorem el31 (z : Int) : Int.tmod (wrap64 (Int.tmod z 31 + 31)) 31 = z % 31 := by
  by_cases hn : 0 ≤ z
  · have e := Int.tmod_eq_emod_of_nonneg (b := 31) hn
    rw [e, w64 (by omega) (by omega), Int.tmod_eq_emod_of_nonneg (by omega)]
    omega
  · have e : Int.tmod z 31 = - ((-z) % 31) := by
      have := Int.tmod_eq_emod_of_nonneg (a := -z) (b := 31) (by omega)
      rw [Int.neg_tmod] at this
      omega
    rw [e, w64 (by omega) (by omega), Int.tmod_eq_emod_of_nonneg (by omega)]
    omega
theorem dc_range (m : Nat) {v : Nat → Int} (hv : ∀ j, 0 ≤ v j ∧ v j ≤ 30) : ∀ s j, 0 ≤ dc m v s j ∧ dc m v s j ≤ 30
  | 0, j => by simp only [dc]; split; exact hv j; omega
  | s + 1, j => by
    simp only [dc]; split
    · omega
    · exact dc_range m hv s j
theorem oc_range (d : Nat → Int) (n : Nat) : ∀ q k, 0 ≤ oc d n q k ∧ oc d n q k ≤ 30
  | 0, k => by simp [oc]
  | q + 1, 0 => by simp only [oc]; omega
  | q + 1, k + 1 => by simp only [oc]; omega
theorem hv_range (x : Int) (o : Nat → Int) : ∀ r j, 0 ≤ hv x o r j ∧ hv x o r j ≤ 30
  | 0, j => by simp [hv]
  | r + 1, j => by simp only [hv]; omega
theorem inT_range : ∀ s : Nat, 0 ≤ inT s ∧ inT s ≤ 30 := fun s => by
  unfold inT
  rw [List.getD_eq_getElem?_getD]
  by_cases h : s < 9
  · have : ∀ s : Nat, s < 9 → 0 ≤ ([0, 1, 16, 21, 8, 25, 26, 9, 4] : List Int)[s]?.getD 0 ∧ ([0, 1, 16, 21, 8, 25, 26, 9, 4] : List Int)[s]?.getD 0 ≤ 30 := by decide
    exact this s h
  · rw [List.getElem?_eq_none (by simp; omega)]
    simp
theorem dv_dc (l : List Int) (hr : ∀ j, 0 ≤ l.getD j 0 ∧ l.getD j 0 ≤ 30) : ∀ s j, ThroughGiv.dv l s j = dc l.length (fun j => l.getD j 0) s j
  | 0, j => rfl
  | s + 1, j => by
    have h1 := dc_range l.length hr s j
    have h2 := dc_range l.length hr s (j - 1)
    have h3 := inT_range (s + 1)
    simp only [ThroughGiv.dv, dc, ThroughGiv.elU]
    rw [dv_dc l hr s j, dv_dc l hr s (j - 1)]
    rw [show ThroughGiv.invT (s + 1) = inT (s + 1) from rfl]
    generalize dc l.length (fun j => l.getD j 0) s j = a at *
    generalize dc l.length (fun j => l.getD j 0) s (j - 1) = b at *
    generalize inT (s + 1) = z at *
    rw [el31, el31, w64 (x := a - b) (by omega) (by omega)]
    have m1 := mul_range (a := (a - b) % 31) (b := z) (A := 30) (B := 30) (by omega) (by omega) (by omega) (by omega)
    rw [w64 (x := (a - b) % 31 * z) (by omega) (by omega)]
theorem oo_oc (d : Nat → Int) (n : Nat) (hd : ∀ j, 0 ≤ d j ∧ d j ≤ 30) : ∀ q k, ThroughGiv.oo d n q k = oc d n q k
  | 0, k => by simp [ThroughGiv.oo, oc]
  | q + 1, 0 => by
    have h1 := oc_range d n q 0
    have h2 := hd (n - 1 - q)
    simp only [ThroughGiv.oo, oc, ThroughGiv.elU]
    rw [oo_oc d n hd q 0]
    generalize oc d n q 0 = a at *
    generalize d (n - 1 - q) = b at *
    rw [el31, el31, el31]
    have m1 := mul_range (a := a) (b := -((n - 1 - q : Nat) : Int) % 31) (A := 30) (B := 30) (by omega) (by omega) (by omega) (by omega)
    rw [w64 (x := a * (-((n - 1 - q : Nat) : Int) % 31)) (by omega) (by omega), w64 (by omega) (by omega)]
  | q + 1, k + 1 => by
    have h1 := oc_range d n q (k + 1)
    have h2 := oc_range d n q k
    simp only [ThroughGiv.oo, oc, ThroughGiv.elU]
    rw [oo_oc d n hd q (k + 1), oo_oc d n hd q k]
    generalize oc d n q (k + 1) = a at *
    generalize oc d n q k = b at *
    rw [el31, el31, el31]
    have m1 := mul_range (a := a) (b := -((n - 1 - q : Nat) : Int) % 31) (A := 30) (B := 30) (by omega) (by omega) (by omega) (by omega)
    rw [w64 (x := a * (-((n - 1 - q : Nat) : Int) % 31)) (by omega) (by omega), w64 (by omega) (by omega)]
theorem thr_oc (l : List Int) (hr : ∀ j, 0 ≤ l.getD j 0 ∧ l.getD j 0 ≤ 30) : ThroughGiv.thr l = (List.range l.length).map (oc (dc l.length (fun j => l.getD j 0) (l.length - 1)) l.length l.length) := by
  unfold ThroughGiv.thr
  rw [show ThroughGiv.dv l (l.length - 1) = dc l.length (fun j => l.getD j 0) (l.length - 1) from funext fun j => dv_dc l hr _ j]
  congr 1
  funext k
  exact oo_oc _ _ (fun j => dc_range _ hr _ j) _ _
theorem foldr_hv {x : Int} (hx : 0 ≤ x) (hx' : x ≤ 30) {o : Nat → Int} (ho : ∀ k, 0 ≤ o k ∧ o k ≤ 30) : ∀ r j, ((List.range' j r).map o).foldr (fun c a => ValueGiv.vst x a c) 0 = hv x o r j
  | 0, j => rfl
  | r + 1, j => by
    have h1 := hv_range x o r (j + 1)
    have h2 := ho j
    rw [List.range'_succ, List.map_cons, List.foldr_cons, foldr_hv hx hx' ho r (j + 1)]
    simp only [hv, ValueGiv.vst, ValueGiv.elT]
    generalize hv x o r (j + 1) = a at *
    generalize o j = b at *
    have m1 := mul_range (a := a) (b := x) (A := 30) (B := 30) (by omega) (by omega) (by omega) (by omega)
    rw [el31, el31, w64 (x := a * x) (by omega) (by omega), w64 (by omega) (by omega)]
theorem impl_PolyThrough_ok {l : List Int} (h9 : l.length ≤ 9) (hr : ∀ c ∈ l, 0 ≤ c ∧ c ≤ 30) : EvE (fun k => impl_PolyThrough.f k l) (· = ThroughGiv.thr l) := by
  unfold impl_PolyThrough.f
  refine EvE.bind (impl_PolyOk_yes h9 hr) ?_
  rintro _ rfl
  refine EvE.pos rfl (EvE.tail ?_)
  refine ⟨_, Ev.of (k := 60) (fun k => impl_through.mono _ k) ?_, rfl⟩
  unfold impl_through.f
  refine if_pos ⟨h9, fun s hs h1 => ?_⟩
  have hs := List.mem_range.1 hs
  have e : ∀ s : Nat, s < 9 → 1 ≤ s → iv (s : Int) = ThroughGiv.invT s := by decide +kernel
  rw [impl_element_inverse_nat s (by omega), e s hs h1]
theorem impl_PolyAt_ok {l : List Int} {x : Int} (hx : 0 ≤ x) (hx' : x ≤ 30) (h9 : l.length ≤ 9) (hr : ∀ c ∈ l, 0 ≤ c ∧ c ≤ 30) : EvE (fun _ => impl_PolyAt.f l x) (· = l.foldr (fun c a => ValueGiv.vst x a c) 0) := by
  unfold impl_PolyAt.f
  refine EvE.bind (impl_PolyOk_yes h9 hr) ?_
  rintro _ rfl
  refine EvE.pos rfl ?_
  refine EvE.bind (impl_FieldOk_ok x) ?_
  rintro _ rfl
  refine EvE.pos (by simp; omega) (EvE.tail ?_)
  unfold impl_value.f
  exact EvE.pos (by omega) (EvE.now _ rfl)
theorem linesTo_rd (x : Int) {m n i : Nat} (h : i < n) : rd (linesTo x m n) (i : Int) = co x m i m := by
  rw [rd_nat (by rw [linesTo_length]; exact h)]
  simp [linesTo]
theorem someTo_rd {n m i : Nat} (h : i < m) : rd (someTo n m) (i : Int) = someV n i := by
  unfold rd
  rw [Int.toNat_natCast, someTo_get h]
theorem Line_loop {m x n : Nat} (hm : m < 10) (hx : x < 31) (r : Nat) : ∀ i : Nat, i + r = m → EvE (fun k => laws_FnLine.l0 k (m : Int) (x : Int) (linesTo (x : Int) m m) (someTo n m) (sm (fun i => co (x : Int) m i m) (someV n) i) (i : Int)) (· = true) := by
  have hlen := linesTo_length (x : Int) m m
  have hlen2 := someTo_length n m
  have hg : ∀ j, 0 ≤ (someTo n m).getD j 0 ∧ (someTo n m).getD j 0 ≤ 30 := fun j => by
    by_cases h : j < m
    · rw [someTo_get h]; exact someV_range n j
    · rw [List.getD_eq_getElem?_getD, List.getElem?_eq_none (by rw [hlen2]; omega)]
      simp
  induction r with
  | zero =>
    intro i hi
    have : i = m := by omega
    subst this
    refine EvE.succ ?_
    simp only [laws_FnLine.l0]
    refine EvE.neg (by omega) ?_
    refine EvE.bind (impl_PolyThrough_ok (l := someTo n i) (by omega) fun c hc => someTo_range hc) ?_
    rintro _ rfl
    have hd := fun j => dc_range i hg (i - 1) j
    have ho := fun k => oc_range (dc i (fun j => (someTo n i).getD j 0) (i - 1)) i i k
    have e := thr_oc (someTo n i) hg
    rw [hlen2] at e
    rw [e]
    refine EvE.bind (impl_PolyAt_ok (by omega) (by omega) (by simp; omega) ?_) ?_
    · intro c hc
      obtain ⟨j, _, rfl⟩ := List.mem_map.1 hc
      exact ho j
    · rintro _ rfl
      have e2 : ((List.range i).map (oc (dc i (fun j => (someTo n i).getD j 0) (i - 1)) i i)).foldr (fun c a => ValueGiv.vst (x : Int) a c) 0 = sm (fun j => co (x : Int) i j i) (someV n) i := by
        rw [List.range_eq_range', foldr_hv (by omega) (by omega) ho i 0]
        have e3 := line_sum (m := i) (x := x) hm hx (fun j => (someTo n i).getD j 0)
        unfold at31 at e3
        rw [e3]
        have e4 : ∀ k, k ≤ i → sm (fun j => co (x : Int) i j i) (fun j => (someTo n i).getD j 0) k = sm (fun j => co (x : Int) i j i) (someV n) k := by
          intro k
          induction k with
          | zero => intro _; rfl
          | succ k ihk => intro hk; simp only [sm]; rw [ihk (by omega), someTo_get (by omega)]
        exact e4 i (Nat.le_refl _)
      rw [e2]
      refine EvE.pos rfl (EvE.now _ ?_)
      rw [hlen]
      simp
  | succ r ih =>
    intro i hi
    have hr := co_range (x : Int) m i m
    have hv := someV_range n i
    have hp := sm_range (fun i => co (x : Int) m i m) (someV n) i
    have hn := ih (i + 1) (by omega)
    simp only [sm] at hn
    refine EvE.succ ?_
    simp only [laws_FnLine.l0]
    refine EvE.pos (by omega) (EvE.pos (by omega) (EvE.pos (by omega) (EvE.pos (by omega) ?_)))
    rw [linesTo_rd (x : Int) (m := m) (n := m) (i := i) (by omega), someTo_rd (by omega)]
    refine EvE.bind (impl_FieldMul_ok _ _ (by omega) (by omega) (by omega) (by omega)) ?_
    rintro _ rfl
    refine EvE.bind (impl_FieldSum_ok _ _ (by omega) (by omega) (by omega) (by omega)) ?_
    rintro _ rfl
    rw [w64 (x := (i : Int) + 1) (by omega) (by omega)]
    exact hn
theorem Line_j0 {l0 l1 : List Int} (hw : ∀ x ∈ l0, (Lit.int .u8 x).wf = true) (h1 : l1.length ≤ 1048576) : EvE (fun k => laws_FnLine.j0 k l0 l1 false) (· = true) := by
  refine EvE.succ ?_
  simp only [laws_FnLine.j0]
  refine EvE.neg (by simp) ?_
  refine EvE.bind (spec_DrawPolyLine_ok hw) ?_
  rintro ⟨m, x⟩ _
  dsimp only
  have hn := pLine_length m x
  refine EvE.bind (impl_PolyLine_ok m x) ?_
  rintro _ rfl
  refine EvE.bind (spec_PolyLine_ok m x) ?_
  rintro _ rfl
  refine EvE.bind (laws_loInts_ok _ _ (by omega)) ?_
  rintro _ rfl
  refine EvE.pos (by simp) (EvE.succ ?_)
  simp only [laws_FnLine.j1]
  refine EvE.ite (fun _ => ?_) (fun h => ?_)
  · refine EvE.bind (spec_PolyLine_ok m x) ?_
    rintro _ rfl
    refine EvE.tail ?_
    refine (laws_loInts_ok _ _ (by omega)).mono ?_
    rintro _ rfl
    simp
  · unfold pLine at h ⊢
    by_cases hc : (0 ≤ m ∧ m ≤ 9) ∧ (0 ≤ x ∧ x ≤ 30)
    · rw [if_pos hc] at h ⊢
      obtain ⟨m, rfl⟩ := Int.eq_ofNat_of_zero_le hc.1.1
      obtain ⟨x, rfl⟩ := Int.eq_ofNat_of_zero_le hc.2.1
      rw [Int.toNat_natCast]
      refine EvE.bind (laws_loSome_ok l1.length h1 m (by omega)) ?_
      rintro _ rfl
      exact Line_loop (n := l1.length) (by omega) (by omega) m 0 (by omega)
    · rw [if_neg hc] at h
      exact absurd rfl h
theorem FnLine : laws_FnLine.Pure := by
  intro l0 l1 _ _ hw _ _ _
  refine EvE.rounds ?_
  unfold laws_FnLine.f
  have hyes : EvE (fun k => laws_FnLine.j0 k l0 l1 true) (· = true) := by
    refine EvE.succ ?_
    simp only [laws_FnLine.j0]
    exact EvE.pos (by trivial) (EvE.now _ rfl)
  refine EvE.ite (fun _ => hyes) (fun _ => ?_)
  by_cases h : (l1.length : Int) > 1048576
  · rw [decide_eq_true h]; exact hyes
  · rw [decide_eq_false h]; exact Line_j0 hw (by omega)

end Go.Proofs.Ytmgpihkjnlicpaa.Pure
