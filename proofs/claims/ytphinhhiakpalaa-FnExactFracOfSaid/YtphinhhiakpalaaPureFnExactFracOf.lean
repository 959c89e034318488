/- FracOf tells what the reference tells, for any two whole numbers. It has no conditions. -/
import Derived.Test.YtphinhhiakpalaaPFnExactFracOfx2
import Derived.Test.YtphinhhiakpalaaPb
namespace Go.Proofs.Ytphinhhiakpalaa.Pure
open Go.RowKit Go.Proofs.Ytphinhhiakpalaa.PFnExactFracOf Go.Proofs.YtphinhhiakpalaaW.PrintWords Go.Proofs.YtphinhhiakpalaaW.PrintLast Go.Proofs.Ytphinhhiakpalaa.Pb
set_option linter.unusedVariables false
set_option linter.unusedSimpArgs false

theorem spec_l6In_ok (a b c : Int) : EvE (fun _ => spec_l6In.f a b c) (· = decide (b ≤ a ∧ a ≤ c)) := by
  unfold spec_l6In.f
  refine EvE.ite (fun h => EvE.now _ ?_) (fun h => EvE.now _ ?_)
  · have h : b ≤ a := h
    simp [h]
  · have h : ¬ b ≤ a := h
    simp [h]

theorem spec_l31Gcd_nat (n : Nat) : ∀ m : Nat, EvE (fun k => spec_l31Gcd.l0 k (m : Int) (n : Int)) (· = ((Nat.gcd n m : Nat) : Int)) := by
  induction n using Nat.strongRecOn with
  | _ n ih =>
    intro m
    refine EvE.succ ?_
    simp only [spec_l31Gcd.l0]
    refine EvE.ite (fun h => ?_) (fun h => ?_)
    · have hn : 0 < n := by omega
      refine EvE.neg (by omega) ?_
      have e : Int.tmod (m : Int) (n : Int) = ((m % n : Nat) : Int) := by rw [Int.tmod_eq_emod_of_nonneg (by omega)]; rfl
      rw [e]
      refine (ih (m % n) (Nat.mod_lt _ hn) n).mono ?_
      rintro _ rfl
      rw [← Nat.gcd_rec]
    · have hn : n = 0 := by omega
      subst hn
      exact EvE.now _ (by simp)
theorem spec_l31Gcd_ok (a b : Int) (ha : 0 ≤ a) (hb : 0 ≤ b) : EvE (fun k => spec_l31Gcd.f k a b) (· = G a b) := by
  obtain ⟨m, rfl⟩ := Int.eq_ofNat_of_zero_le ha
  obtain ⟨n, rfl⟩ := Int.eq_ofNat_of_zero_le hb
  unfold spec_l31Gcd.f
  refine (spec_l31Gcd_nat n m).mono ?_
  rintro _ rfl
  unfold G
  rw [Nat.gcd_comm]; rfl

theorem spec_FracOk_ok (a b : Int) : EvE (fun k => spec_FracOk.f k a b) (· = fOk a b) := by
  unfold spec_FracOk.f
  refine EvE.bind (spec_l6In_ok a 0 999) ?_
  rintro _ rfl
  refine EvE.ite (fun h => ?_) (fun h => EvE.now _ ?_)
  · refine EvE.bind (spec_l6In_ok b 1 60) ?_
    rintro _ rfl
    have h := of_decide_eq_true h
    refine EvE.ite (fun h2 => ?_) (fun h2 => EvE.now _ ?_)
    · have h2 := of_decide_eq_true h2
      refine EvE.bind (spec_l31Gcd_ok a b (by omega) (by omega)) ?_
      rintro _ rfl
      refine EvE.now _ ?_
      rw [Bool.eq_iff_iff, fOk_iff]
      simp; omega
    · rw [eq_comm, Bool.eq_false_iff]
      intro e
      exact h2 (by simp; have := fOk_iff.1 e; omega)
  · rw [eq_comm, Bool.eq_false_iff]
    intro e
    exact h (by simp; have := fOk_iff.1 e; omega)

theorem spec_l31Of_ok (a b : Int) (ha : 0 ≤ a) (ha' : a ≤ 1000000000000) (hb : 1 ≤ b) (hb' : b ≤ 1000000000000) : EvE (fun k => spec_l31Of.f k a b) (· = (a / G a b, b / G a b)) := by
  unfold spec_l31Of.f
  refine EvE.bind (spec_l31Gcd_ok a b ha (by omega)) ?_
  rintro _ rfl
  have hg := G_pos (n := a) hb
  refine EvE.neg (by omega) (EvE.now _ ?_)
  have h1 : a / G a b ≤ a := Int.ediv_le_self _ ha
  have h2 : b / G a b ≤ b := Int.ediv_le_self _ (by omega)
  have h3 : 0 ≤ a / G a b := Int.ediv_nonneg ha (by omega)
  have h4 : 0 ≤ b / G a b := Int.ediv_nonneg (by omega) (by omega)
  rw [Int.tdiv_eq_ediv_of_nonneg ha, Int.tdiv_eq_ediv_of_nonneg (by omega), w64 (by omega) (by omega), w64 (by omega) (by omega)]

theorem spec_FracOf_ok (a b : Int) : EvE (fun k => spec_FracOf.f k a b) (· = fOf a b) := by
  unfold spec_FracOf.f fOf
  refine EvE.bind (spec_l6In_ok a 0 99999) ?_
  rintro _ rfl
  refine EvE.ite (fun h => ?_) (fun h => EvE.now _ ?_)
  · have h := of_decide_eq_true h
    refine EvE.bind (spec_l6In_ok b 1 99999) ?_
    rintro _ rfl
    refine EvE.ite (fun h2 => ?_) (fun h2 => EvE.now _ ?_)
    · have h2 := of_decide_eq_true h2
      rw [if_pos (by omega)]
      refine EvE.bind (spec_l31Of_ok a b (by omega) (by omega) (by omega) (by omega)) ?_
      rintro _ rfl
      dsimp only
      refine EvE.bind (spec_FracOk_ok _ _) ?_
      rintro _ rfl
      unfold red
      refine EvE.ite (fun h3 => ?_) (fun h3 => EvE.now _ (by rw [if_neg h3]))
      rw [if_pos h3]
      refine EvE.bind (spec_l31Of_ok a b (by omega) (by omega) (by omega) (by omega)) ?_
      rintro _ rfl
      exact EvE.now _ rfl
    · rw [if_neg]
      intro e
      exact h2 (by simp; omega)
  · rw [if_neg]
    intro e
    exact h (by simp; omega)

theorem impl_within_ok (a b c : Int) : EvE (fun _ => impl_within.f a b c) (· = decide (b ≤ a ∧ a ≤ c)) := by
  unfold impl_within.f
  refine EvE.ite (fun h => EvE.now _ ?_) (fun h => EvE.now _ ?_)
  · have h : b ≤ a := h
    simp [h]
  · have h : ¬ b ≤ a := h
    simp [h]

theorem impl_divisor_nat (n : Nat) : ∀ m : Nat, EvE (fun k => impl_divisor.l0 k (m : Int) (n : Int)) (· = ((Nat.gcd n m : Nat) : Int)) := by
  induction n using Nat.strongRecOn with
  | _ n ih =>
    intro m
    refine EvE.succ ?_
    simp only [impl_divisor.l0]
    refine EvE.ite (fun h => ?_) (fun h => ?_)
    · have hn : n = 0 := by omega
      subst hn
      exact EvE.now _ (by simp)
    · have hn : 0 < n := by omega
      have e : Int.tmod (m : Int) (n : Int) = ((m % n : Nat) : Int) := by rw [Int.tmod_eq_emod_of_nonneg (by omega)]; rfl
      rw [e]
      refine (ih (m % n) (Nat.mod_lt _ hn) n).mono ?_
      rintro _ rfl
      rw [← Nat.gcd_rec]
theorem impl_divisor_ok (a b : Int) (ha : 0 ≤ a) (hb : 0 ≤ b) : EvE (fun k => impl_divisor.f k a b) (· = G a b) := by
  obtain ⟨m, rfl⟩ := Int.eq_ofNat_of_zero_le ha
  obtain ⟨n, rfl⟩ := Int.eq_ofNat_of_zero_le hb
  unfold impl_divisor.f
  refine (impl_divisor_nat n m).mono ?_
  rintro _ rfl
  unfold G
  rw [Nat.gcd_comm]; rfl

theorem impl_FracOk_ok (a b : Int) : EvE (fun k => impl_FracOk.f k a b) (· = fOk a b) := by
  unfold impl_FracOk.f
  refine EvE.bind (impl_within_ok a 0 999) ?_
  rintro _ rfl
  refine EvE.ite (fun h => ?_) (fun h => EvE.now _ ?_)
  · refine EvE.bind (impl_within_ok b 1 60) ?_
    rintro _ rfl
    have h := of_decide_eq_true h
    refine EvE.ite (fun h2 => ?_) (fun h2 => EvE.now _ ?_)
    · have h2 := of_decide_eq_true h2
      refine EvE.bind (impl_divisor_ok a b (by omega) (by omega)) ?_
      rintro _ rfl
      refine EvE.now _ ?_
      rw [Bool.eq_iff_iff, fOk_iff]
      simp; omega
    · rw [eq_comm, Bool.eq_false_iff]
      intro e
      exact h2 (by simp; have := fOk_iff.1 e; omega)
  · rw [eq_comm, Bool.eq_false_iff]
    intro e
    exact h (by simp; have := fOk_iff.1 e; omega)

theorem impl_reduced_ok (a b : Int) (ha : 0 ≤ a) (ha' : a ≤ 1000000000000) (hb : 1 ≤ b) (hb' : b ≤ 1000000000000) : EvE (fun k => impl_reduced.f k a b) (· = red a b) := by
  unfold impl_reduced.f
  refine EvE.bind (impl_divisor_ok a b ha (by omega)) ?_
  rintro _ rfl
  have hg := G_pos (n := a) hb
  refine EvE.neg (by omega) ?_
  have h1 : a / G a b ≤ a := Int.ediv_le_self _ ha
  have h2 : b / G a b ≤ b := Int.ediv_le_self _ (by omega)
  have h3 : 0 ≤ a / G a b := Int.ediv_nonneg ha (by omega)
  have h4 : 0 ≤ b / G a b := Int.ediv_nonneg (by omega) (by omega)
  rw [Int.tdiv_eq_ediv_of_nonneg ha, Int.tdiv_eq_ediv_of_nonneg (by omega), w64 (by omega) (by omega), w64 (by omega) (by omega)]
  refine EvE.bind (impl_FracOk_ok _ _) ?_
  rintro _ rfl
  unfold red
  refine EvE.ite (fun h => EvE.now _ ?_) (fun h => EvE.now _ ?_)
  · rw [if_pos h]
  · rw [if_neg h]

theorem impl_FracOf_ok (a b : Int) : EvE (fun k => impl_FracOf.f k a b) (· = fOf a b) := by
  unfold impl_FracOf.f fOf
  refine EvE.bind (impl_within_ok a 0 99999) ?_
  rintro _ rfl
  refine EvE.ite (fun h => ?_) (fun h => EvE.now _ ?_)
  · have h := of_decide_eq_true h
    refine EvE.bind (impl_within_ok b 1 99999) ?_
    rintro _ rfl
    refine EvE.ite (fun h2 => ?_) (fun h2 => EvE.now _ ?_)
    · have h2 := of_decide_eq_true h2
      rw [if_pos (by omega)]
      refine EvE.bind (impl_reduced_ok a b (by omega) (by omega) (by omega) (by omega)) ?_
      rintro _ rfl
      exact EvE.now _ rfl
    · rw [if_neg]
      intro e
      exact h2 (by simp; omega)
  · rw [if_neg]
    intro e
    exact h (by simp; omega)

theorem laws_eqFrac_ok (a b c d : Int) : EvE (fun _ => laws_eqFrac.f a b c d) (· = decide (a = c ∧ b = d)) := by
  unfold laws_eqFrac.f
  exact EvE.ite (fun h => EvE.ite (fun h2 => EvE.now _ (by simp [h, h2])) (fun h2 => EvE.now _ (by simp [h2]))) (fun h => EvE.now _ (by simp [h]))

theorem FnExactFracOf : laws_FnExactFracOf.Pure := by
  intro a b _ _
  refine EvE.rounds ?_
  unfold laws_FnExactFracOf.f
  refine EvE.bind (spec_FracOf_ok a b) ?_
  rintro _ rfl
  refine EvE.bind (impl_FracOf_ok a b) ?_
  rintro _ rfl
  refine EvE.bind (laws_eqFrac_ok _ _ _ _) ?_
  rintro _ rfl
  exact EvE.pos (by simp) (EvE.neg (by simp) (EvE.now _ rfl))

end Go.Proofs.Ytphinhhiakpalaa.Pure
