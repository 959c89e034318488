/- Of three fractions, two of them drawn, it does not matter which are put together first. It has no conditions. -/
import Derived.Test.YtphinhhiakpalaaPFnFracThreex4
import Derived.Test.YtphinhhiakpalaaPb
namespace Go.Proofs.Ytphinhhiakpalaa.Pure
open Go.RowKit Go.Proofs.Ytphinhhiakpalaa.PFnFracThree Go.Proofs.YtphinhhiakpalaaW.PrintWords Go.Proofs.YtphinhhiakpalaaW.PrintLast Go.Proofs.Ytphinhhiakpalaa.Pb
set_option linter.unusedVariables false
set_option linter.unusedSimpArgs false

theorem impl_within_ok (a b c : Int) : EvE (fun _ => impl_within.f a b c) (· = decide (b ≤ a ∧ a ≤ c)) := by
  unfold impl_within.f
  refine EvE.ite (fun h => EvE.now _ ?_) (fun h => EvE.now _ ?_)
  · have h : b ≤ a := h
    simp [h]
  · have h : ¬ b ≤ a := h
    simp [h]

theorem impl_divisor_nat (n : Nat) : ∀ m : Nat, EvE (fun k => impl_divisor.l0 k (m : Int) (n : Int)) (· = ((Nat.gcd n m : Nat) : Int)) := by
  induction n using Nat.strongRecOn with
  | _ n ih =>
    intro m
    refine EvE.succ ?_
    simp only [impl_divisor.l0]
    refine EvE.ite (fun h => ?_) (fun h => ?_)
    · have hn : n = 0 := by omega
      subst hn
      exact EvE.now _ (by simp)
    · have hn : 0 < n := by omega
      have e : Int.tmod (m : Int) (n : Int) = ((m % n : Nat) : Int) := by rw [Int.tmod_eq_emod_of_nonneg (by omega)]; rfl
      rw [e]
      refine (ih (m % n) (Nat.mod_lt _ hn) n).mono ?_
      rintro _ rfl
      rw [← Nat.gcd_rec]
theorem impl_divisor_ok (a b : Int) (ha : 0 ≤ a) (hb : 0 ≤ b) : EvE (fun k => impl_divisor.f k a b) (· = G a b) := by
  obtain ⟨m, rfl⟩ := Int.eq_ofNat_of_zero_le ha
  obtain ⟨n, rfl⟩ := Int.eq_ofNat_of_zero_le hb
  unfold impl_divisor.f
  refine (impl_divisor_nat n m).mono ?_
  rintro _ rfl
  unfold G
  rw [Nat.gcd_comm]; rfl

theorem impl_FracOk_ok (a b : Int) : EvE (fun k => impl_FracOk.f k a b) (· = fOk a b) := by
  unfold impl_FracOk.f
  refine EvE.bind (impl_within_ok a 0 999) ?_
  rintro _ rfl
  refine EvE.ite (fun h => ?_) (fun h => EvE.now _ ?_)
  · refine EvE.bind (impl_within_ok b 1 60) ?_
    rintro _ rfl
    have h := of_decide_eq_true h
    refine EvE.ite (fun h2 => ?_) (fun h2 => EvE.now _ ?_)
    · have h2 := of_decide_eq_true h2
      refine EvE.bind (impl_divisor_ok a b (by omega) (by omega)) ?_
      rintro _ rfl
      refine EvE.now _ ?_
      rw [Bool.eq_iff_iff, fOk_iff]
      simp; omega
    · rw [eq_comm, Bool.eq_false_iff]
      intro e
      exact h2 (by simp; have := fOk_iff.1 e; omega)
  · rw [eq_comm, Bool.eq_false_iff]
    intro e
    exact h (by simp; have := fOk_iff.1 e; omega)

theorem impl_reduced_ok (a b : Int) (ha : 0 ≤ a) (ha' : a ≤ 1000000000000) (hb : 1 ≤ b) (hb' : b ≤ 1000000000000) : EvE (fun k => impl_reduced.f k a b) (· = red a b) := by
  unfold impl_reduced.f
  refine EvE.bind (impl_divisor_ok a b ha (by omega)) ?_
  rintro _ rfl
  have hg := G_pos (n := a) hb
  refine EvE.neg (by omega) ?_
  have h1 : a / G a b ≤ a := Int.ediv_le_self _ ha
  have h2 : b / G a b ≤ b := Int.ediv_le_self _ (by omega)
  have h3 : 0 ≤ a / G a b := Int.ediv_nonneg ha (by omega)
  have h4 : 0 ≤ b / G a b := Int.ediv_nonneg (by omega) (by omega)
  rw [Int.tdiv_eq_ediv_of_nonneg ha, Int.tdiv_eq_ediv_of_nonneg (by omega), w64 (by omega) (by omega), w64 (by omega) (by omega)]
  refine EvE.bind (impl_FracOk_ok _ _) ?_
  rintro _ rfl
  unfold red
  refine EvE.ite (fun h => EvE.now _ ?_) (fun h => EvE.now _ ?_)
  · rw [if_pos h]
  · rw [if_neg h]

theorem impl_FracOf_ok (a b : Int) : EvE (fun k => impl_FracOf.f k a b) (· = fOf a b) := by
  unfold impl_FracOf.f fOf
  refine EvE.bind (impl_within_ok a 0 99999) ?_
  rintro _ rfl
  refine EvE.ite (fun h => ?_) (fun h => EvE.now _ ?_)
  · have h := of_decide_eq_true h
    refine EvE.bind (impl_within_ok b 1 99999) ?_
    rintro _ rfl
    refine EvE.ite (fun h2 => ?_) (fun h2 => EvE.now _ ?_)
    · have h2 := of_decide_eq_true h2
      rw [if_pos (by omega)]
      refine EvE.bind (impl_reduced_ok a b (by omega) (by omega) (by omega) (by omega)) ?_
      rintro _ rfl
      exact EvE.now _ rfl
    · rw [if_neg]
      intro e
      exact h2 (by simp; omega)
  · rw [if_neg]
    intro e
    exact h (by simp; omega)

theorem spec_l6In_ok (a b c : Int) : EvE (fun _ => spec_l6In.f a b c) (· = decide (b ≤ a ∧ a ≤ c)) := by
  unfold spec_l6In.f
  refine EvE.ite (fun h => EvE.now _ ?_) (fun h => EvE.now _ ?_)
  · have h : b ≤ a := h
    simp [h]
  · have h : ¬ b ≤ a := h
    simp [h]

theorem spec_l31Gcd_nat (n : Nat) : ∀ m : Nat, EvE (fun k => spec_l31Gcd.l0 k (m : Int) (n : Int)) (· = ((Nat.gcd n m : Nat) : Int)) := by
  induction n using Nat.strongRecOn with
  | _ n ih =>
    intro m
    refine EvE.succ ?_
    simp only [spec_l31Gcd.l0]
    refine EvE.ite (fun h => ?_) (fun h => ?_)
    · have hn : 0 < n := by omega
      refine EvE.neg (by omega) ?_
      have e : Int.tmod (m : Int) (n : Int) = ((m % n : Nat) : Int) := by rw [Int.tmod_eq_emod_of_nonneg (by omega)]; rfl
      rw [e]
      refine (ih (m % n) (Nat.mod_lt _ hn) n).mono ?_
      rintro _ rfl
      rw [← Nat.gcd_rec]
    · have hn : n = 0 := by omega
      subst hn
      exact EvE.now _ (by simp)
theorem spec_l31Gcd_ok (a b : Int) (ha : 0 ≤ a) (hb : 0 ≤ b) : EvE (fun k => spec_l31Gcd.f k a b) (· = G a b) := by
  obtain ⟨m, rfl⟩ := Int.eq_ofNat_of_zero_le ha
  obtain ⟨n, rfl⟩ := Int.eq_ofNat_of_zero_le hb
  unfold spec_l31Gcd.f
  refine (spec_l31Gcd_nat n m).mono ?_
  rintro _ rfl
  unfold G
  rw [Nat.gcd_comm]; rfl

theorem spec_FracOk_ok (a b : Int) : EvE (fun k => spec_FracOk.f k a b) (· = fOk a b) := by
  unfold spec_FracOk.f
  refine EvE.bind (spec_l6In_ok a 0 999) ?_
  rintro _ rfl
  refine EvE.ite (fun h => ?_) (fun h => EvE.now _ ?_)
  · refine EvE.bind (spec_l6In_ok b 1 60) ?_
    rintro _ rfl
    have h := of_decide_eq_true h
    refine EvE.ite (fun h2 => ?_) (fun h2 => EvE.now _ ?_)
    · have h2 := of_decide_eq_true h2
      refine EvE.bind (spec_l31Gcd_ok a b (by omega) (by omega)) ?_
      rintro _ rfl
      refine EvE.now _ ?_
      rw [Bool.eq_iff_iff, fOk_iff]
      simp; omega
    · rw [eq_comm, Bool.eq_false_iff]
      intro e
      exact h2 (by simp; have := fOk_iff.1 e; omega)
  · rw [eq_comm, Bool.eq_false_iff]
    intro e
    exact h (by simp; have := fOk_iff.1 e; omega)

theorem spec_l31Of_ok (a b : Int) (ha : 0 ≤ a) (ha' : a ≤ 1000000000000) (hb : 1 ≤ b) (hb' : b ≤ 1000000000000) : EvE (fun k => spec_l31Of.f k a b) (· = (a / G a b, b / G a b)) := by
  unfold spec_l31Of.f
  refine EvE.bind (spec_l31Gcd_ok a b ha (by omega)) ?_
  rintro _ rfl
  have hg := G_pos (n := a) hb
  refine EvE.neg (by omega) (EvE.now _ ?_)
  have h1 : a / G a b ≤ a := Int.ediv_le_self _ ha
  have h2 : b / G a b ≤ b := Int.ediv_le_self _ (by omega)
  have h3 : 0 ≤ a / G a b := Int.ediv_nonneg ha (by omega)
  have h4 : 0 ≤ b / G a b := Int.ediv_nonneg (by omega) (by omega)
  rw [Int.tdiv_eq_ediv_of_nonneg ha, Int.tdiv_eq_ediv_of_nonneg (by omega), w64 (by omega) (by omega), w64 (by omega) (by omega)]

theorem spec_FracSum_ok (a b c d : Int) : EvE (fun k => spec_FracSum.f k a b c d) (· = fSum a b c d) := by
  have no : ¬ (fOk a b = true ∧ fOk c d = true) → EvE (fun k => spec_FracSum.j0 k true a b c d) (· = fSum a b c d) := fun h => by
    refine EvE.succ ?_
    simp only [spec_FracSum.j0]
    unfold fSum
    exact EvE.pos (by trivial) (EvE.now _ (by rw [if_neg h]))
  unfold spec_FracSum.f
  refine EvE.bind (spec_FracOk_ok a b) ?_
  rintro _ rfl
  refine EvE.ite (fun h => ?_) (fun h => no (fun e => h e.1))
  refine EvE.bind (spec_FracOk_ok c d) ?_
  rintro _ rfl
  cases h2 : fOk c d
  · exact no (fun e => by rw [h2] at e; exact absurd e.2 (by decide))
  · refine EvE.succ ?_
    simp only [spec_FracSum.j0]
    refine EvE.neg (by decide) ?_
    have h1' := fOk_bounds h
    have h2' := fOk_bounds h2
    have m1 := mul_range (a := a) (b := d) (A := 999) (B := 60) (by omega) (by omega) (by omega) (by omega)
    have m2 := mul_range (a := c) (b := b) (A := 999) (B := 60) (by omega) (by omega) (by omega) (by omega)
    have m3 := mul_range (a := b) (b := d) (A := 60) (B := 60) (by omega) (by omega) (by omega) (by omega)
    have m4 := mul_pos_of (a := b) (b := d) (by omega) (by omega)
    rw [w64 (x := a * d) (by omega) (by omega), w64 (x := c * b) (by omega) (by omega), w64 (x := b * d) (by omega) (by omega), w64 (x := a * d + c * b) (by omega) (by omega)]
    refine EvE.bind (spec_l31Of_ok _ _ (by omega) (by omega) (by omega) (by omega)) ?_
    rintro _ rfl
    dsimp only
    refine EvE.bind (spec_FracOk_ok _ _) ?_
    rintro _ rfl
    rw [fSum_ok h h2]
    unfold red
    exact EvE.ite (fun h3 => EvE.now _ (by rw [if_pos h3])) (fun h3 => EvE.now _ (by rw [if_neg h3]))

theorem impl_FracSum_ok (a b c d : Int) : EvE (fun k => impl_FracSum.f k a b c d) (· = fSum a b c d) := by
  unfold impl_FracSum.f fSum
  refine EvE.bind (impl_FracOk_ok a b) ?_
  rintro _ rfl
  refine EvE.ite (fun h => ?_) (fun h => EvE.now _ (by rw [if_neg (fun e => h e.1)]))
  refine EvE.bind (impl_FracOk_ok c d) ?_
  rintro _ rfl
  refine EvE.ite (fun h2 => ?_) (fun h2 => EvE.now _ (by rw [if_neg (fun e => h2 e.2)]))
  have h1' := fOk_bounds h
  have h2' := fOk_bounds h2
  have m1 := mul_range (a := a) (b := d) (A := 999) (B := 60) (by omega) (by omega) (by omega) (by omega)
  have m2 := mul_range (a := c) (b := b) (A := 999) (B := 60) (by omega) (by omega) (by omega) (by omega)
  have m3 := mul_range (a := b) (b := d) (A := 60) (B := 60) (by omega) (by omega) (by omega) (by omega)
  have m4 := mul_pos_of (a := b) (b := d) (by omega) (by omega)
  rw [if_pos ⟨h, h2⟩, w64 (x := a * d) (by omega) (by omega), w64 (x := c * b) (by omega) (by omega), w64 (x := b * d) (by omega) (by omega), w64 (x := a * d + c * b) (by omega) (by omega)]
  refine EvE.bind (impl_reduced_ok _ _ (by omega) (by omega) (by omega) (by omega)) ?_
  rintro _ rfl
  exact EvE.now _ rfl

theorem spec_l6Open_ok {l : List Int} (h : ∀ x ∈ l, (Lit.int .u8 x).wf = true) : EvE (fun _ => spec_l6Open.f l) (fun r => ∃ s, r = (s, 0) ∧ Coded s) := by
  have h := u8_range h
  unfold spec_l6Open.f
  refine EvE.ite (fun h1 => EvE.pos (by omega) (EvE.now _ ⟨_, rfl, fun x hx => h x (List.mem_of_mem_take hx), ?_⟩)) (fun h1 => EvE.now _ ⟨_, rfl, h, by omega⟩)
  rw [List.length_take]; omega

theorem spec_l6Rd_pick_ok {s : List Int} (hs : Coded s) (p n : Int) (h0 : 0 ≤ p) (h1 : p ≤ 1000000) (hn : 1 ≤ n) (hn' : n ≤ 1000000) :
    EvE (fun k => spec_l6Rd_pick.f k s p n) (fun r => ∃ v, r = (v, p + 1) ∧ 0 ≤ v ∧ v < n) := by
  unfold spec_l6Rd_pick.f
  rw [w64 (x := p + 1) (by omega) (by omega)]
  refine EvE.neg (by omega) (EvE.succ ?_)
  simp only [spec_l6Rd_pick.j0]
  have e : wrap64 (p + 1 - 1) = p := by rw [w64 (by omega) (by omega)]; omega
  rw [e]
  have rg := rd_range hs.1
  have hl := hs.2
  refine EvE.ite (fun _ => EvE.now _ ⟨0, rfl, by omega, by omega⟩) (fun hz => ?_)
  have hpos : 1 ≤ (s.length : Int) := by
    have : s.length ≠ 0 := by simpa using hz
    omega
  refine EvE.ite (fun hlt => EvE.pos h0 (EvE.neg (by omega) (EvE.now _ ?_))) (fun hge => ?_)
  · have := rg p
    rw [w64 (x := rd s p) (by omega) (by omega)]
    exact ⟨_, rfl, tmod_range (by omega) hn⟩
  · refine EvE.neg (by omega) ?_
    have t1 := tmod_range (a := p) (n := (s.length : Int)) h0 hpos
    have e1 : wrap64 (p * 7) = p * 7 := w64 (by omega) (by omega)
    have e2 : wrap64 (p * 7 + 3) = p * 7 + 3 := w64 (by omega) (by omega)
    rw [e1, e2]
    have t2 := tmod_range (a := p * 7 + 3) (n := (s.length : Int)) (by omega) hpos
    refine EvE.pos t1.1 (EvE.pos t1.2 (EvE.pos t2.1 (EvE.pos t2.2 (EvE.neg (by omega) (EvE.now _ ?_)))))
    have r1 := rg (Int.tmod p s.length)
    have r2 := rg (Int.tmod (p * 7 + 3) s.length)
    generalize rd s (Int.tmod p s.length) = A at *
    generalize rd s (Int.tmod (p * 7 + 3) s.length) = B at *
    have dq : 0 ≤ Int.tdiv p s.length ∧ Int.tdiv p s.length ≤ p := by
      rw [Int.tdiv_eq_ediv_of_nonneg h0]
      exact ⟨Int.ediv_nonneg h0 (by omega), Int.ediv_le_self _ h0⟩
    generalize Int.tdiv p s.length = Q at *
    rw [w64 (x := A) (by omega) (by omega), w64 (x := B) (by omega) (by omega), w64 (x := A * 131) (by omega) (by omega), w64 (x := B * 1117) (by omega) (by omega), w64 (x := p * 29) (by omega) (by omega), w64 (x := Q) (by omega) (by omega), w64 (x := Q * 53) (by omega) (by omega), w64 (x := A * 131 + B * 1117) (by omega) (by omega), w64 (x := A * 131 + B * 1117 + p * 29) (by omega) (by omega), w64 (x := A * 131 + B * 1117 + p * 29 + Q * 53) (by omega) (by omega)]
    have hX : 0 ≤ A * 131 + B * 1117 + p * 29 + Q * 53 ∧ A * 131 + B * 1117 + p * 29 + Q * 53 < 1000000000000 := by omega
    generalize A * 131 + B * 1117 + p * 29 + Q * 53 = X at *
    have e3 : wrap64 (Int.tdiv X 64) = X / 64 := by
      rw [Int.tdiv_eq_ediv_of_nonneg hX.1]
      exact w64 (by omega) (by omega)
    rw [e3]
    have hx := xor_nonneg (a := X) (b := X / 64) (by omega) (by omega) (by omega) (by omega)
    exact ⟨_, rfl, tmod_range hx.1 hn⟩

theorem spec_l92Frac_ok {s : List Int} (hs : Coded s) (p : Int) (h0 : 0 ≤ p) (h1 : p ≤ 900000) :
    EvE (fun k => spec_l92Frac.f k s p) (fun r => ∃ a b q, r = (a, b, q) ∧ p ≤ q ∧ q ≤ p + 5 ∧ 0 ≤ a ∧ a ≤ 12 ∧ 0 ≤ b ∧ b ≤ 70) := by
  unfold spec_l92Frac.f
  refine EvE.bind (spec_l6Rd_pick_ok hs p 12 h0 (by omega) (by omega) (by omega)) ?_
  rintro _ ⟨a, rfl, ha, ha'⟩
  dsimp only
  refine EvE.bind (spec_l6Rd_pick_ok hs _ 12 (by omega) (by omega) (by omega) (by omega)) ?_
  rintro _ ⟨b, rfl, hb, hb'⟩
  dsimp only
  rw [w64 (x := 1 + b) (by omega) (by omega)]
  refine EvE.bind (spec_l31Of_ok a (1 + b) (by omega) (by omega) (by omega) (by omega)) ?_
  rintro _ rfl
  dsimp only
  refine EvE.bind (spec_l6Rd_pick_ok hs _ 30 (by omega) (by omega) (by omega) (by omega)) ?_
  rintro _ ⟨c, rfl, hc, hc'⟩
  dsimp only
  refine EvE.ite (fun _ => ?_) (fun _ => EvE.now _ ⟨_, _, _, rfl, by omega, by omega, ?_⟩)
  · refine EvE.bind (spec_l6Rd_pick_ok hs _ 9 (by omega) (by omega) (by omega) (by omega)) ?_
    rintro _ ⟨d, rfl, hd, hd'⟩
    dsimp only
    refine EvE.bind (spec_l6Rd_pick_ok hs _ 70 (by omega) (by omega) (by omega) (by omega)) ?_
    rintro _ ⟨e, rfl, he, he'⟩
    exact EvE.now _ ⟨_, _, _, rfl, by omega, by omega, by omega, by omega, by omega, by omega⟩
  · have hg := G_pos (n := a) (d := 1 + b) (by omega)
    have h1 : a / G a (1 + b) ≤ a := Int.ediv_le_self _ ha
    have h2 : (1 + b) / G a (1 + b) ≤ 1 + b := Int.ediv_le_self _ (by omega)
    have h3 : 0 ≤ a / G a (1 + b) := Int.ediv_nonneg ha (by omega)
    have h4 : 0 ≤ (1 + b) / G a (1 + b) := Int.ediv_nonneg (by omega) (by omega)
    omega

theorem spec_DrawFracSum_ok {l : List Int} (h : ∀ x ∈ l, (Lit.int .u8 x).wf = true) : EvE (fun k => spec_DrawFracSum.f k l) (fun _ => True) := by
  unfold spec_DrawFracSum.f
  refine EvE.bind (spec_l6Open_ok h) ?_
  rintro _ ⟨s, rfl, hs⟩
  dsimp only
  refine EvE.bind (spec_l92Frac_ok hs 0 (by omega) (by omega)) ?_
  rintro _ ⟨a, b, q, rfl, h1, h2, _⟩
  dsimp only
  refine EvE.bind (spec_l92Frac_ok hs q (by omega) (by omega)) ?_
  rintro _ ⟨c, d, q', rfl, _⟩
  exact EvE.now _ trivial

theorem FnFracThree : laws_FnFracThree.Pure := by
  intro l m _ _ hw _ _ _
  refine EvE.rounds ?_
  have yes : EvE (fun k => laws_FnFracThree.j0 k l m true) (· = true) := EvE.succ (by simp only [laws_FnFracThree.j0]; exact EvE.pos (by trivial) (EvE.now _ rfl))
  unfold laws_FnFracThree.f
  refine EvE.ite (fun _ => yes) (fun _ => ?_)
  by_cases hm : (m.length : Int) > 1048576
  · rw [decide_eq_true hm]; exact yes
  rw [decide_eq_false hm]
  refine EvE.succ ?_
  simp only [laws_FnFracThree.j0]
  refine EvE.neg (by decide) ?_
  refine EvE.bind (spec_DrawFracSum_ok hw) ?_
  rintro ⟨a, b, c, d⟩ _
  dsimp only
  refine EvE.bind (spec_FracSum_ok a b c d) ?_
  rintro _ rfl
  refine EvE.bind (impl_FracSum_ok a b c d) ?_
  rintro _ rfl
  refine EvE.neg (by simp) (EvE.neg (by simp) (EvE.succ ?_))
  simp only [laws_FnFracThree.j1]
  rcases fSum_cases a b c d with e | ⟨p, q, e⟩
  · simp only [e]
    exact EvE.pos (by trivial) (EvE.pos (by decide) (EvE.now _ (by decide)))
  · simp only [e]
    refine EvE.neg (by decide) ?_
    refine EvE.bind (impl_FracOf_ok _ _) ?_
    rintro _ rfl
    generalize fOf _ _ = z
    obtain ⟨n, o, ok⟩ := z
    dsimp only
    refine EvE.bind (impl_FracSum_ok _ _ _ _) ?_
    rintro _ rfl
    refine EvE.bind (impl_FracSum_ok _ _ _ _) ?_
    rintro _ rfl
    refine EvE.bind (impl_FracSum_ok _ _ _ _) ?_
    rintro _ rfl
    refine EvE.ite (fun _ => EvE.ite (fun h2 => EvE.ite (fun _ => EvE.now _ ?_) (fun _ => EvE.now _ rfl)) (fun _ => EvE.now _ rfl)) (fun _ => EvE.now _ rfl)
    rcases fSum_cases c d n o with e2 | ⟨r, s, e2⟩
    · rw [e2] at h2; cases h2
    · rw [e2]
      dsimp only
      rw [fSum_assoc e e2]
      simp

end Go.Proofs.Ytphinhhiakpalaa.Pure
