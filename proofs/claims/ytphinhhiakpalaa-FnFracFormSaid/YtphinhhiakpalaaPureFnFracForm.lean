/- A drawn fraction is valid just if the reference says so, and one with both parts doubled, of no parts, or below none, never is. It has no conditions. -/
import Derived.Test.YtphinhhiakpalaaPFnFracFormx2
import Derived.Test.YtphinhhiakpalaaPb
namespace Go.Proofs.Ytphinhhiakpalaa.Pure
open Go.RowKit Go.Proofs.Ytphinhhiakpalaa.PFnFracForm Go.Proofs.YtphinhhiakpalaaW.PrintWords Go.Proofs.YtphinhhiakpalaaW.PrintLast Go.Proofs.Ytphinhhiakpalaa.Pb
set_option linter.unusedVariables false
set_option linter.unusedSimpArgs false

theorem spec_l6In_ok (a b c : Int) : EvE (fun _ => spec_l6In.f a b c) (· = decide (b ≤ a ∧ a ≤ c)) := by
  unfold spec_l6In.f
  refine EvE.ite (fun h => EvE.now _ ?_) (fun h => EvE.now _ ?_)
  · have h : b ≤ a := h
    simp [h]
  · have h : ¬ b ≤ a := h
    simp [h]

theorem spec_l31Gcd_nat (n : Nat) : ∀ m : Nat, EvE (fun k => spec_l31Gcd.l0 k (m : Int) (n : Int)) (· = ((Nat.gcd n m : Nat) : Int)) := by
  induction n using Nat.strongRecOn with
  | _ n ih =>
    intro m
    refine EvE.succ ?_
    simp only [spec_l31Gcd.l0]
    refine EvE.ite (fun h => ?_) (fun h => ?_)
    · have hn : 0 < n := by omega
      refine EvE.neg (by omega) ?_
      have e : Int.tmod (m : Int) (n : Int) = ((m % n : Nat) : Int) := by rw [Int.tmod_eq_emod_of_nonneg (by omega)]; rfl
      rw [e]
      refine (ih (m % n) (Nat.mod_lt _ hn) n).mono ?_
      rintro _ rfl
      rw [← Nat.gcd_rec]
    · have hn : n = 0 := by omega
      subst hn
      exact EvE.now _ (by simp)
theorem spec_l31Gcd_ok (a b : Int) (ha : 0 ≤ a) (hb : 0 ≤ b) : EvE (fun k => spec_l31Gcd.f k a b) (· = G a b) := by
  obtain ⟨m, rfl⟩ := Int.eq_ofNat_of_zero_le ha
  obtain ⟨n, rfl⟩ := Int.eq_ofNat_of_zero_le hb
  unfold spec_l31Gcd.f
  refine (spec_l31Gcd_nat n m).mono ?_
  rintro _ rfl
  unfold G
  rw [Nat.gcd_comm]; rfl

theorem spec_FracOk_ok (a b : Int) : EvE (fun k => spec_FracOk.f k a b) (· = fOk a b) := by
  unfold spec_FracOk.f
  refine EvE.bind (spec_l6In_ok a 0 999) ?_
  rintro _ rfl
  refine EvE.ite (fun h => ?_) (fun h => EvE.now _ ?_)
  · refine EvE.bind (spec_l6In_ok b 1 60) ?_
    rintro _ rfl
    have h := of_decide_eq_true h
    refine EvE.ite (fun h2 => ?_) (fun h2 => EvE.now _ ?_)
    · have h2 := of_decide_eq_true h2
      refine EvE.bind (spec_l31Gcd_ok a b (by omega) (by omega)) ?_
      rintro _ rfl
      refine EvE.now _ ?_
      rw [Bool.eq_iff_iff, fOk_iff]
      simp; omega
    · rw [eq_comm, Bool.eq_false_iff]
      intro e
      exact h2 (by simp; have := fOk_iff.1 e; omega)
  · rw [eq_comm, Bool.eq_false_iff]
    intro e
    exact h (by simp; have := fOk_iff.1 e; omega)

theorem impl_within_ok (a b c : Int) : EvE (fun _ => impl_within.f a b c) (· = decide (b ≤ a ∧ a ≤ c)) := by
  unfold impl_within.f
  refine EvE.ite (fun h => EvE.now _ ?_) (fun h => EvE.now _ ?_)
  · have h : b ≤ a := h
    simp [h]
  · have h : ¬ b ≤ a := h
    simp [h]

theorem impl_divisor_nat (n : Nat) : ∀ m : Nat, EvE (fun k => impl_divisor.l0 k (m : Int) (n : Int)) (· = ((Nat.gcd n m : Nat) : Int)) := by
  induction n using Nat.strongRecOn with
  | _ n ih =>
    intro m
    refine EvE.succ ?_
    simp only [impl_divisor.l0]
    refine EvE.ite (fun h => ?_) (fun h => ?_)
    · have hn : n = 0 := by omega
      subst hn
      exact EvE.now _ (by simp)
    · have hn : 0 < n := by omega
      have e : Int.tmod (m : Int) (n : Int) = ((m % n : Nat) : Int) := by rw [Int.tmod_eq_emod_of_nonneg (by omega)]; rfl
      rw [e]
      refine (ih (m % n) (Nat.mod_lt _ hn) n).mono ?_
      rintro _ rfl
      rw [← Nat.gcd_rec]
theorem impl_divisor_ok (a b : Int) (ha : 0 ≤ a) (hb : 0 ≤ b) : EvE (fun k => impl_divisor.f k a b) (· = G a b) := by
  obtain ⟨m, rfl⟩ := Int.eq_ofNat_of_zero_le ha
  obtain ⟨n, rfl⟩ := Int.eq_ofNat_of_zero_le hb
  unfold impl_divisor.f
  refine (impl_divisor_nat n m).mono ?_
  rintro _ rfl
  unfold G
  rw [Nat.gcd_comm]; rfl

theorem impl_FracOk_ok (a b : Int) : EvE (fun k => impl_FracOk.f k a b) (· = fOk a b) := by
  unfold impl_FracOk.f
  refine EvE.bind (impl_within_ok a 0 999) ?_
  rintro _ rfl
  refine EvE.ite (fun h => ?_) (fun h => EvE.now _ ?_)
  · refine EvE.bind (impl_within_ok b 1 60) ?_
    rintro _ rfl
    have h := of_decide_eq_true h
    refine EvE.ite (fun h2 => ?_) (fun h2 => EvE.now _ ?_)
    · have h2 := of_decide_eq_true h2
      refine EvE.bind (impl_divisor_ok a b (by omega) (by omega)) ?_
      rintro _ rfl
      refine EvE.now _ ?_
      rw [Bool.eq_iff_iff, fOk_iff]
      simp; omega
    · rw [eq_comm, Bool.eq_false_iff]
      intro e
      exact h2 (by simp; have := fOk_iff.1 e; omega)
  · rw [eq_comm, Bool.eq_false_iff]
    intro e
    exact h (by simp; have := fOk_iff.1 e; omega)

theorem spec_l6Open_ok {l : List Int} (h : ∀ x ∈ l, (Lit.int .u8 x).wf = true) : EvE (fun _ => spec_l6Open.f l) (fun r => ∃ s, r = (s, 0) ∧ Coded s) := by
  have h := u8_range h
  unfold spec_l6Open.f
  refine EvE.ite (fun h1 => EvE.pos (by omega) (EvE.now _ ⟨_, rfl, fun x hx => h x (List.mem_of_mem_take hx), ?_⟩)) (fun h1 => EvE.now _ ⟨_, rfl, h, by omega⟩)
  rw [List.length_take]; omega

theorem spec_l6Rd_pick_ok {s : List Int} (hs : Coded s) (p n : Int) (h0 : 0 ≤ p) (h1 : p ≤ 1000000) (hn : 1 ≤ n) (hn' : n ≤ 1000000) :
    EvE (fun k => spec_l6Rd_pick.f k s p n) (fun r => ∃ v, r = (v, p + 1) ∧ 0 ≤ v ∧ v < n) := by
  unfold spec_l6Rd_pick.f
  rw [w64 (x := p + 1) (by omega) (by omega)]
  refine EvE.neg (by omega) (EvE.succ ?_)
  simp only [spec_l6Rd_pick.j0]
  have e : wrap64 (p + 1 - 1) = p := by rw [w64 (by omega) (by omega)]; omega
  rw [e]
  have rg := rd_range hs.1
  have hl := hs.2
  refine EvE.ite (fun _ => EvE.now _ ⟨0, rfl, by omega, by omega⟩) (fun hz => ?_)
  have hpos : 1 ≤ (s.length : Int) := by
    have : s.length ≠ 0 := by simpa using hz
    omega
  refine EvE.ite (fun hlt => EvE.pos h0 (EvE.neg (by omega) (EvE.now _ ?_))) (fun hge => ?_)
  · have := rg p
    rw [w64 (x := rd s p) (by omega) (by omega)]
    exact ⟨_, rfl, tmod_range (by omega) hn⟩
  · refine EvE.neg (by omega) ?_
    have t1 := tmod_range (a := p) (n := (s.length : Int)) h0 hpos
    have e1 : wrap64 (p * 7) = p * 7 := w64 (by omega) (by omega)
    have e2 : wrap64 (p * 7 + 3) = p * 7 + 3 := w64 (by omega) (by omega)
    rw [e1, e2]
    have t2 := tmod_range (a := p * 7 + 3) (n := (s.length : Int)) (by omega) hpos
    refine EvE.pos t1.1 (EvE.pos t1.2 (EvE.pos t2.1 (EvE.pos t2.2 (EvE.neg (by omega) (EvE.now _ ?_)))))
    have r1 := rg (Int.tmod p s.length)
    have r2 := rg (Int.tmod (p * 7 + 3) s.length)
    generalize rd s (Int.tmod p s.length) = A at *
    generalize rd s (Int.tmod (p * 7 + 3) s.length) = B at *
    have dq : 0 ≤ Int.tdiv p s.length ∧ Int.tdiv p s.length ≤ p := by
      rw [Int.tdiv_eq_ediv_of_nonneg h0]
      exact ⟨Int.ediv_nonneg h0 (by omega), Int.ediv_le_self _ h0⟩
    generalize Int.tdiv p s.length = Q at *
    rw [w64 (x := A) (by omega) (by omega), w64 (x := B) (by omega) (by omega), w64 (x := A * 131) (by omega) (by omega), w64 (x := B * 1117) (by omega) (by omega), w64 (x := p * 29) (by omega) (by omega), w64 (x := Q) (by omega) (by omega), w64 (x := Q * 53) (by omega) (by omega), w64 (x := A * 131 + B * 1117) (by omega) (by omega), w64 (x := A * 131 + B * 1117 + p * 29) (by omega) (by omega), w64 (x := A * 131 + B * 1117 + p * 29 + Q * 53) (by omega) (by omega)]
    have hX : 0 ≤ A * 131 + B * 1117 + p * 29 + Q * 53 ∧ A * 131 + B * 1117 + p * 29 + Q * 53 < 1000000000000 := by omega
    generalize A * 131 + B * 1117 + p * 29 + Q * 53 = X at *
    have e3 : wrap64 (Int.tdiv X 64) = X / 64 := by
      rw [Int.tdiv_eq_ediv_of_nonneg hX.1]
      exact w64 (by omega) (by omega)
    rw [e3]
    have hx := xor_nonneg (a := X) (b := X / 64) (by omega) (by omega) (by omega) (by omega)
    exact ⟨_, rfl, tmod_range hx.1 hn⟩

theorem spec_DrawFracOk_ok {l : List Int} (h : ∀ x ∈ l, (Lit.int .u8 x).wf = true) : EvE (fun k => spec_DrawFracOk.f k l) (fun r => ∃ a b, r = (a, b) ∧ -1 ≤ a ∧ a ≤ 1000 ∧ 0 ≤ b ∧ b ≤ 61) := by
  unfold spec_DrawFracOk.f
  refine EvE.bind (spec_l6Open_ok h) ?_
  rintro _ ⟨s, rfl, hs⟩
  dsimp only
  refine EvE.bind (spec_l6Rd_pick_ok hs _ 9 (by omega) (by omega) (by omega) (by omega)) ?_
  rintro _ ⟨a, rfl, ha, ha'⟩
  dsimp only
  refine EvE.bind (EvE.now (P := fun r => r = [a, 999, 1000, -1]) _ rfl) ?_
  rintro _ rfl
  refine EvE.bind (spec_l6Rd_pick_ok hs _ 4 (by omega) (by omega) (by omega) (by omega)) ?_
  rintro _ ⟨i, rfl, hi, hi'⟩
  dsimp only
  refine EvE.pos hi (EvE.pos (by simp; omega) ?_)
  refine EvE.bind (spec_l6Rd_pick_ok hs _ 9 (by omega) (by omega) (by omega) (by omega)) ?_
  rintro _ ⟨b, rfl, hb, hb'⟩
  dsimp only
  refine EvE.bind (EvE.now (P := fun r => r = [b, 60, 61, 1]) _ rfl) ?_
  rintro _ rfl
  refine EvE.bind (spec_l6Rd_pick_ok hs _ 4 (by omega) (by omega) (by omega) (by omega)) ?_
  rintro _ ⟨j, rfl, hj, hj'⟩
  dsimp only
  refine EvE.pos hj (EvE.pos (by simp; omega) (EvE.now _ ⟨_, _, rfl, ?_⟩))
  have hi2 : i = 0 ∨ i = 1 ∨ i = 2 ∨ i = 3 := by omega
  have hj2 : j = 0 ∨ j = 1 ∨ j = 2 ∨ j = 3 := by omega
  rcases hi2 with rfl | rfl | rfl | rfl <;> rcases hj2 with rfl | rfl | rfl | rfl <;> simp [rd] <;> omega

theorem FnFracForm : laws_FnFracForm.Pure := by
  intro l _ _ hw
  refine EvE.rounds ?_
  unfold laws_FnFracForm.f
  refine EvE.ite (fun _ => EvE.now _ rfl) (fun _ => ?_)
  refine EvE.bind (spec_DrawFracOk_ok hw) ?_
  rintro _ ⟨a, b, rfl, h1, h2, h3, h4⟩
  dsimp only
  refine EvE.bind (impl_FracOk_ok a b) ?_
  rintro _ rfl
  refine EvE.bind (spec_FracOk_ok a b) ?_
  rintro _ rfl
  refine EvE.neg (by simp) (EvE.succ ?_)
  simp only [laws_FnFracForm.j0]
  refine EvE.ite (fun _ => ?_) (fun _ => ?_)
  · refine EvE.bind (spec_FracOk_ok a b) ?_
    rintro _ rfl
    exact EvE.now _ (by simp)
  · rw [w64 (x := 2 * a) (by omega) (by omega), w64 (x := 2 * b) (by omega) (by omega)]
    refine EvE.bind (impl_FracOk_ok _ _) ?_
    rintro _ rfl
    refine EvE.neg (by rw [fOk_twice]; decide) ?_
    refine EvE.bind (impl_FracOk_ok _ _) ?_
    rintro _ rfl
    refine EvE.neg (by rw [fOk_zero]; decide) ?_
    refine EvE.bind (impl_FracOk_ok _ _) ?_
    rintro _ rfl
    exact EvE.now _ (by rw [fOk_neg]; rfl)

end Go.Proofs.Ytphinhhiakpalaa.Pure
