/- FracCmp tells what the reference tells, for any two fractions. It has no conditions. -/
import Derived.Test.YtphinhhiakpalaaPFnExactFracCmpx2
import Derived.Test.YtphinhhiakpalaaPb
namespace Go.Proofs.Ytphinhhiakpalaa.Pure
open Go.RowKit Go.Proofs.Ytphinhhiakpalaa.PFnExactFracCmp Go.Proofs.YtphinhhiakpalaaW.PrintWords Go.Proofs.YtphinhhiakpalaaW.PrintLast Go.Proofs.Ytphinhhiakpalaa.Pb
set_option linter.unusedVariables false
set_option linter.unusedSimpArgs false

theorem laws_toFrac_ok (a b : Int) : EvE (fun _ => laws_toFrac.f a b) (· = (a, b)) := EvE.now _ rfl

theorem spec_l6In_ok (a b c : Int) : EvE (fun _ => spec_l6In.f a b c) (· = decide (b ≤ a ∧ a ≤ c)) := by
  unfold spec_l6In.f
  refine EvE.ite (fun h => EvE.now _ ?_) (fun h => EvE.now _ ?_)
  · have h : b ≤ a := h
    simp [h]
  · have h : ¬ b ≤ a := h
    simp [h]

theorem spec_l31Gcd_nat (n : Nat) : ∀ m : Nat, EvE (fun k => spec_l31Gcd.l0 k (m : Int) (n : Int)) (· = ((Nat.gcd n m : Nat) : Int)) := by
  induction n using Nat.strongRecOn with
  | _ n ih =>
    intro m
    refine EvE.succ ?_
    simp only [spec_l31Gcd.l0]
    refine EvE.ite (fun h => ?_) (fun h => ?_)
    · have hn : 0 < n := by omega
      refine EvE.neg (by omega) ?_
      have e : Int.tmod (m : Int) (n : Int) = ((m % n : Nat) : Int) := by rw [Int.tmod_eq_emod_of_nonneg (by omega)]; rfl
      rw [e]
      refine (ih (m % n) (Nat.mod_lt _ hn) n).mono ?_
      rintro _ rfl
      rw [← Nat.gcd_rec]
    · have hn : n = 0 := by omega
      subst hn
      exact EvE.now _ (by simp)
theorem spec_l31Gcd_ok (a b : Int) (ha : 0 ≤ a) (hb : 0 ≤ b) : EvE (fun k => spec_l31Gcd.f k a b) (· = G a b) := by
  obtain ⟨m, rfl⟩ := Int.eq_ofNat_of_zero_le ha
  obtain ⟨n, rfl⟩ := Int.eq_ofNat_of_zero_le hb
  unfold spec_l31Gcd.f
  refine (spec_l31Gcd_nat n m).mono ?_
  rintro _ rfl
  unfold G
  rw [Nat.gcd_comm]; rfl

theorem spec_FracOk_ok (a b : Int) : EvE (fun k => spec_FracOk.f k a b) (· = fOk a b) := by
  unfold spec_FracOk.f
  refine EvE.bind (spec_l6In_ok a 0 999) ?_
  rintro _ rfl
  refine EvE.ite (fun h => ?_) (fun h => EvE.now _ ?_)
  · refine EvE.bind (spec_l6In_ok b 1 60) ?_
    rintro _ rfl
    have h := of_decide_eq_true h
    refine EvE.ite (fun h2 => ?_) (fun h2 => EvE.now _ ?_)
    · have h2 := of_decide_eq_true h2
      refine EvE.bind (spec_l31Gcd_ok a b (by omega) (by omega)) ?_
      rintro _ rfl
      refine EvE.now _ ?_
      rw [Bool.eq_iff_iff, fOk_iff]
      simp; omega
    · rw [eq_comm, Bool.eq_false_iff]
      intro e
      exact h2 (by simp; have := fOk_iff.1 e; omega)
  · rw [eq_comm, Bool.eq_false_iff]
    intro e
    exact h (by simp; have := fOk_iff.1 e; omega)

theorem spec_l31Cmp_ok (a b c d : Int) (ha : 0 ≤ a) (ha' : a ≤ 999) (hb : 1 ≤ b) (hb' : b ≤ 60) (hc : 0 ≤ c) (hc' : c ≤ 999) (hd : 1 ≤ d) (hd' : d ≤ 60) : EvE (fun _ => spec_l31Cmp.f a b c d) (· = sg (a * d) (c * b)) := by
  have m1 := mul_range (a := a) (b := d) (A := 999) (B := 60) (by omega) (by omega) (by omega) (by omega)
  have m2 := mul_range (a := c) (b := b) (A := 999) (B := 60) (by omega) (by omega) (by omega) (by omega)
  unfold spec_l31Cmp.f sg
  rw [w64 (x := a * d) (by omega) (by omega), w64 (x := c * b) (by omega) (by omega)]
  exact EvE.ite (fun h => EvE.now _ (by rw [if_pos h])) (fun h => EvE.ite (fun h2 => EvE.now _ (by rw [if_neg h, if_pos h2])) (fun h2 => EvE.now _ (by rw [if_neg h, if_neg h2])))
theorem spec_FracCmp_ok (a b c d : Int) : EvE (fun k => spec_FracCmp.f k a b c d) (· = fCmp a b c d) := by
  unfold spec_FracCmp.f fCmp
  refine EvE.bind (spec_FracOk_ok a b) ?_
  rintro _ rfl
  refine EvE.ite (fun h => ?_) (fun h => EvE.now _ (by rw [if_neg (fun e => h e.1)]))
  refine EvE.bind (spec_FracOk_ok c d) ?_
  rintro _ rfl
  refine EvE.ite (fun h2 => ?_) (fun h2 => EvE.now _ (by rw [if_neg (fun e => h2 e.2)]))
  have h1' := fOk_bounds h
  have h2' := fOk_bounds h2
  rw [if_pos ⟨h, h2⟩]
  exact EvE.tail (spec_l31Cmp_ok a b c d (by omega) (by omega) (by omega) (by omega) (by omega) (by omega) (by omega) (by omega))

theorem impl_within_ok (a b c : Int) : EvE (fun _ => impl_within.f a b c) (· = decide (b ≤ a ∧ a ≤ c)) := by
  unfold impl_within.f
  refine EvE.ite (fun h => EvE.now _ ?_) (fun h => EvE.now _ ?_)
  · have h : b ≤ a := h
    simp [h]
  · have h : ¬ b ≤ a := h
    simp [h]

theorem impl_divisor_nat (n : Nat) : ∀ m : Nat, EvE (fun k => impl_divisor.l0 k (m : Int) (n : Int)) (· = ((Nat.gcd n m : Nat) : Int)) := by
  induction n using Nat.strongRecOn with
  | _ n ih =>
    intro m
    refine EvE.succ ?_
    simp only [impl_divisor.l0]
    refine EvE.ite (fun h => ?_) (fun h => ?_)
    · have hn : n = 0 := by omega
      subst hn
      exact EvE.now _ (by simp)
    · have hn : 0 < n := by omega
      have e : Int.tmod (m : Int) (n : Int) = ((m % n : Nat) : Int) := by rw [Int.tmod_eq_emod_of_nonneg (by omega)]; rfl
      rw [e]
      refine (ih (m % n) (Nat.mod_lt _ hn) n).mono ?_
      rintro _ rfl
      rw [← Nat.gcd_rec]
theorem impl_divisor_ok (a b : Int) (ha : 0 ≤ a) (hb : 0 ≤ b) : EvE (fun k => impl_divisor.f k a b) (· = G a b) := by
  obtain ⟨m, rfl⟩ := Int.eq_ofNat_of_zero_le ha
  obtain ⟨n, rfl⟩ := Int.eq_ofNat_of_zero_le hb
  unfold impl_divisor.f
  refine (impl_divisor_nat n m).mono ?_
  rintro _ rfl
  unfold G
  rw [Nat.gcd_comm]; rfl

theorem impl_FracOk_ok (a b : Int) : EvE (fun k => impl_FracOk.f k a b) (· = fOk a b) := by
  unfold impl_FracOk.f
  refine EvE.bind (impl_within_ok a 0 999) ?_
  rintro _ rfl
  refine EvE.ite (fun h => ?_) (fun h => EvE.now _ ?_)
  · refine EvE.bind (impl_within_ok b 1 60) ?_
    rintro _ rfl
    have h := of_decide_eq_true h
    refine EvE.ite (fun h2 => ?_) (fun h2 => EvE.now _ ?_)
    · have h2 := of_decide_eq_true h2
      refine EvE.bind (impl_divisor_ok a b (by omega) (by omega)) ?_
      rintro _ rfl
      refine EvE.now _ ?_
      rw [Bool.eq_iff_iff, fOk_iff]
      simp; omega
    · rw [eq_comm, Bool.eq_false_iff]
      intro e
      exact h2 (by simp; have := fOk_iff.1 e; omega)
  · rw [eq_comm, Bool.eq_false_iff]
    intro e
    exact h (by simp; have := fOk_iff.1 e; omega)

theorem cmp_Compare_ok (x y : Int) : EvE (fun _ => cmp_Compare_int.f x y) (· = sg x y) := by
  unfold cmp_Compare_int.f cmp_isNaN_int.f sg
  refine EvE.bind (EvE.now (P := (· = false)) _ (by simp)) ?_
  rintro _ rfl
  refine EvE.bind (EvE.now (P := (· = false)) _ (by simp)) ?_
  rintro _ rfl
  refine EvE.neg (by decide) (EvE.neg (by decide) ?_)
  exact EvE.ite (fun h => EvE.now _ (by rw [if_pos h])) (fun h => EvE.ite (fun h2 => EvE.now _ (by rw [if_neg h, if_pos h2])) (fun h2 => EvE.now _ (by rw [if_neg h, if_neg h2])))
theorem impl_FracCmp_ok (a b c d : Int) : EvE (fun k => impl_FracCmp.f k a b c d) (· = fCmp a b c d) := by
  unfold impl_FracCmp.f fCmp
  refine EvE.bind (impl_FracOk_ok a b) ?_
  rintro _ rfl
  refine EvE.ite (fun h => ?_) (fun h => EvE.now _ (by rw [if_neg (fun e => h e.1)]))
  refine EvE.bind (impl_FracOk_ok c d) ?_
  rintro _ rfl
  refine EvE.ite (fun h2 => ?_) (fun h2 => EvE.now _ (by rw [if_neg (fun e => h2 e.2)]))
  have h1' := fOk_bounds h
  have h2' := fOk_bounds h2
  have m1 := mul_range (a := a) (b := d) (A := 999) (B := 60) (by omega) (by omega) (by omega) (by omega)
  have m2 := mul_range (a := c) (b := b) (A := 999) (B := 60) (by omega) (by omega) (by omega) (by omega)
  rw [if_pos ⟨h, h2⟩, w64 (x := a * d) (by omega) (by omega), w64 (x := c * b) (by omega) (by omega)]
  exact EvE.tail (cmp_Compare_ok _ _)

theorem FnExactFracCmp (a b c d : Int) (_ : (Lit.int .i64 a).wf = true) (_ : (Lit.int .i64 b).wf = true) (_ : (Lit.int .i64 c).wf = true) (_ : (Lit.int .i64 d).wf = true) : ∃ k, laws_FnExactFracCmp.f k a b c d = some true := by
  refine EvE.rounds ?_
  unfold laws_FnExactFracCmp.f
  refine EvE.bind (laws_toFrac_ok a b) ?_
  rintro _ rfl
  refine EvE.bind (laws_toFrac_ok c d) ?_
  rintro _ rfl
  dsimp only
  refine EvE.bind (spec_FracCmp_ok a b c d) ?_
  rintro _ rfl
  refine EvE.bind (laws_toFrac_ok a b) ?_
  rintro _ rfl
  refine EvE.bind (laws_toFrac_ok c d) ?_
  rintro _ rfl
  dsimp only
  refine EvE.bind (impl_FracCmp_ok a b c d) ?_
  rintro _ rfl
  exact EvE.pos (by trivial) (EvE.now _ rfl)

end Go.Proofs.Ytphinhhiakpalaa.Pure
