/- AskOk tells what the reference tells, for any question. It has no conditions. -/
import Derived.Test.YthcbichnjgkjiaaPFnExactAskOkx1
import Derived.Test.YthcbichnjgkjiaaPb
namespace Go.Proofs.Ythcbichnjgkjiaa.Pure
open Go.RowKit Go.Proofs.Ythcbichnjgkjiaa.PFnExactAskOk Go.Proofs.YthcbichnjgkjiaaW.PrintWords Go.Proofs.YthcbichnjgkjiaaW.PrintLast Go.Proofs.Ythcbichnjgkjiaa.Pb
set_option linter.unusedVariables false
set_option linter.unusedSimpArgs false

theorem spec_l6In_ok (a b c : Int) : EvE (fun _ => spec_l6In.f a b c) (· = decide (b ≤ a ∧ a ≤ c)) := by
  unfold spec_l6In.f
  refine EvE.ite (fun h => EvE.now _ ?_) (fun h => EvE.now _ ?_)
  · have h : b ≤ a := h
    simp [h]
  · have h : ¬ b ≤ a := h
    simp [h]

theorem spec_l11Kind_ok (a : Int) : EvE (fun _ => spec_l11Kind.f a) (· = decide (1 ≤ a ∧ a ≤ 3)) := by
  unfold spec_l11Kind.f
  exact EvE.tail (spec_l6In_ok a 1 3)

theorem spec_l31Gcd_nat (n : Nat) : ∀ m : Nat, EvE (fun k => spec_l31Gcd.l0 k (m : Int) (n : Int)) (· = ((Nat.gcd n m : Nat) : Int)) := by
  induction n using Nat.strongRecOn with
  | _ n ih =>
    intro m
    refine EvE.succ ?_
    simp only [spec_l31Gcd.l0]
    refine EvE.ite (fun h => ?_) (fun h => ?_)
    · have hn : 0 < n := by omega
      refine EvE.neg (by omega) ?_
      have e : Int.tmod (m : Int) (n : Int) = ((m % n : Nat) : Int) := by rw [Int.tmod_eq_emod_of_nonneg (by omega)]; rfl
      rw [e]
      refine (ih (m % n) (Nat.mod_lt _ hn) n).mono ?_
      rintro _ rfl
      rw [← Nat.gcd_rec]
    · have hn : n = 0 := by omega
      subst hn
      exact EvE.now _ (by simp)
theorem spec_l31Gcd_ok (a b : Int) (ha : 0 ≤ a) (hb : 0 ≤ b) : EvE (fun k => spec_l31Gcd.f k a b) (· = G a b) := by
  obtain ⟨m, rfl⟩ := Int.eq_ofNat_of_zero_le ha
  obtain ⟨n, rfl⟩ := Int.eq_ofNat_of_zero_le hb
  unfold spec_l31Gcd.f
  refine (spec_l31Gcd_nat n m).mono ?_
  rintro _ rfl
  unfold G
  rw [Nat.gcd_comm]; rfl

theorem spec_FracOk_ok (a b : Int) : EvE (fun k => spec_FracOk.f k a b) (· = fOk a b) := by
  unfold spec_FracOk.f
  refine EvE.bind (spec_l6In_ok a 0 999) ?_
  rintro _ rfl
  refine EvE.ite (fun h => ?_) (fun h => EvE.now _ ?_)
  · refine EvE.bind (spec_l6In_ok b 1 60) ?_
    rintro _ rfl
    have h := of_decide_eq_true h
    refine EvE.ite (fun h2 => ?_) (fun h2 => EvE.now _ ?_)
    · have h2 := of_decide_eq_true h2
      refine EvE.bind (spec_l31Gcd_ok a b (by omega) (by omega)) ?_
      rintro _ rfl
      refine EvE.now _ ?_
      rw [Bool.eq_iff_iff, fOk_iff]
      simp; omega
    · rw [eq_comm, Bool.eq_false_iff]
      intro e
      exact h2 (by simp; have := fOk_iff.1 e; omega)
  · rw [eq_comm, Bool.eq_false_iff]
    intro e
    exact h (by simp; have := fOk_iff.1 e; omega)

def aOk (c e n d : Int) : Bool := decide (1 ≤ c ∧ c ≤ 3) && (decide (1 ≤ e ∧ e ≤ 9) && (fOk n d && decide (0 < n)))
theorem aOk_iff {c e n d : Int} : aOk c e n d = true ↔ ((1 ≤ c ∧ c ≤ 3) ∧ (1 ≤ e ∧ e ≤ 9) ∧ fOk n d = true ∧ 0 < n) := by simp [aOk]
theorem spec_AskOk_ok (c e n d : Int) : EvE (fun k => spec_AskOk.f k c e n d) (· = aOk c e n d) := by
  unfold spec_AskOk.f aOk
  refine EvE.bind (spec_l11Kind_ok c) ?_
  rintro _ rfl
  refine EvE.ite (fun h1 => ?_) (fun h1 => EvE.now _ (by rw [Bool.eq_false_iff.2 h1]; rfl))
  refine EvE.bind (spec_l6In_ok e 1 9) ?_
  rintro _ rfl
  rw [h1]
  refine EvE.ite (fun h2 => ?_) (fun h2 => EvE.now _ (by rw [Bool.eq_false_iff.2 h2]; rfl))
  refine EvE.bind (spec_FracOk_ok n d) ?_
  rintro _ rfl
  rw [h2]
  refine EvE.ite (fun h3 => EvE.now _ (by rw [h3]; rfl)) (fun h3 => EvE.now _ (by rw [Bool.eq_false_iff.2 h3]; rfl))

theorem laws_toFrac_ok (a b : Int) : EvE (fun _ => laws_toFrac.f a b) (· = (a, b)) := EvE.now _ rfl

theorem laws_toAsk_ok (a b c d : Int) : EvE (fun _ => laws_toAsk.f a b c d) (· = (a, b, c, d)) := by
  unfold laws_toAsk.f
  refine EvE.bind (laws_toFrac_ok c d) ?_
  rintro _ rfl
  exact EvE.now _ rfl

theorem impl_kindOk_ok (a : Int) : EvE (fun _ => impl_kindOk.f a) (· = decide (1 ≤ a ∧ a ≤ 3)) := EvE.now _ rfl

theorem impl_within_ok (a b c : Int) : EvE (fun _ => impl_within.f a b c) (· = decide (b ≤ a ∧ a ≤ c)) := by
  unfold impl_within.f
  refine EvE.ite (fun h => EvE.now _ ?_) (fun h => EvE.now _ ?_)
  · have h : b ≤ a := h
    simp [h]
  · have h : ¬ b ≤ a := h
    simp [h]

theorem impl_needOk_ok (a : Int) : EvE (fun _ => impl_needOk.f a) (· = decide (1 ≤ a ∧ a ≤ 9)) := by
  unfold impl_needOk.f
  exact EvE.tail (impl_within_ok a 1 9)

theorem impl_divisor_nat (n : Nat) : ∀ m : Nat, EvE (fun k => impl_divisor.l0 k (m : Int) (n : Int)) (· = ((Nat.gcd n m : Nat) : Int)) := by
  induction n using Nat.strongRecOn with
  | _ n ih =>
    intro m
    refine EvE.succ ?_
    simp only [impl_divisor.l0]
    refine EvE.ite (fun h => ?_) (fun h => ?_)
    · have hn : n = 0 := by omega
      subst hn
      exact EvE.now _ (by simp)
    · have hn : 0 < n := by omega
      have e : Int.tmod (m : Int) (n : Int) = ((m % n : Nat) : Int) := by rw [Int.tmod_eq_emod_of_nonneg (by omega)]; rfl
      rw [e]
      refine (ih (m % n) (Nat.mod_lt _ hn) n).mono ?_
      rintro _ rfl
      rw [← Nat.gcd_rec]
theorem impl_divisor_ok (a b : Int) (ha : 0 ≤ a) (hb : 0 ≤ b) : EvE (fun k => impl_divisor.f k a b) (· = G a b) := by
  obtain ⟨m, rfl⟩ := Int.eq_ofNat_of_zero_le ha
  obtain ⟨n, rfl⟩ := Int.eq_ofNat_of_zero_le hb
  unfold impl_divisor.f
  refine (impl_divisor_nat n m).mono ?_
  rintro _ rfl
  unfold G
  rw [Nat.gcd_comm]; rfl

theorem impl_FracOk_ok (a b : Int) : EvE (fun k => impl_FracOk.f k a b) (· = fOk a b) := by
  unfold impl_FracOk.f
  refine EvE.bind (impl_within_ok a 0 999) ?_
  rintro _ rfl
  refine EvE.ite (fun h => ?_) (fun h => EvE.now _ ?_)
  · refine EvE.bind (impl_within_ok b 1 60) ?_
    rintro _ rfl
    have h := of_decide_eq_true h
    refine EvE.ite (fun h2 => ?_) (fun h2 => EvE.now _ ?_)
    · have h2 := of_decide_eq_true h2
      refine EvE.bind (impl_divisor_ok a b (by omega) (by omega)) ?_
      rintro _ rfl
      refine EvE.now _ ?_
      rw [Bool.eq_iff_iff, fOk_iff]
      simp; omega
    · rw [eq_comm, Bool.eq_false_iff]
      intro e
      exact h2 (by simp; have := fOk_iff.1 e; omega)
  · rw [eq_comm, Bool.eq_false_iff]
    intro e
    exact h (by simp; have := fOk_iff.1 e; omega)

theorem impl_AskOk_ok (c e n d : Int) : EvE (fun k => impl_AskOk.f k c e n d) (· = aOk c e n d) := by
  unfold impl_AskOk.f aOk
  refine EvE.bind (impl_kindOk_ok c) ?_
  rintro _ rfl
  refine EvE.ite (fun h1 => ?_) (fun h1 => EvE.now _ (by rw [Bool.eq_false_iff.2 h1]; rfl))
  refine EvE.bind (impl_needOk_ok e) ?_
  rintro _ rfl
  rw [h1]
  refine EvE.ite (fun h2 => ?_) (fun h2 => EvE.now _ (by rw [Bool.eq_false_iff.2 h2]; rfl))
  refine EvE.bind (impl_FracOk_ok n d) ?_
  rintro _ rfl
  rw [h2]
  refine EvE.ite (fun h3 => EvE.now _ (by rw [h3]; rfl)) (fun h3 => EvE.now _ (by rw [Bool.eq_false_iff.2 h3]; rfl))

theorem FnExactAskOk (a b c d : Int) (_ : (Lit.int .i64 a).wf = true) (_ : (Lit.int .i64 b).wf = true) (_ : (Lit.int .i64 c).wf = true) (_ : (Lit.int .i64 d).wf = true) : ∃ k, laws_FnExactAskOk.f k a b c d = some true := by
  refine EvE.rounds ?_
  unfold laws_FnExactAskOk.f
  refine EvE.bind (laws_toAsk_ok a b c d) ?_
  rintro _ rfl
  dsimp only
  refine EvE.bind (spec_AskOk_ok a b c d) ?_
  rintro _ rfl
  refine EvE.bind (laws_toAsk_ok a b c d) ?_
  rintro _ rfl
  dsimp only
  refine EvE.bind (impl_AskOk_ok a b c d) ?_
  rintro _ rfl
  exact EvE.neg (by simp) (EvE.now _ rfl)

end Go.Proofs.Ythcbichnjgkjiaa.Pure
