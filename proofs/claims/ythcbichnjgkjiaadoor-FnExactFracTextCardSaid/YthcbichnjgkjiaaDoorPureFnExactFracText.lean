/- FracText tells what the reference tells, for any fraction. It has no conditions. -/
import Derived.Test.YthcbichnjgkjiaaDoorPFnExactFracTextx2
import Derived.Test.YthcbichnjgkjiaaDoorPb
namespace Go.Proofs.YthcbichnjgkjiaaDoor.Pure
open Go.RowKit Go.Proofs.YthcbichnjgkjiaaDoor.PFnExactFracText Go.Proofs.YthcbichnjgkjiaaDoorW.PrintWords Go.Proofs.YthcbichnjgkjiaaDoorW.PrintLast Go.Proofs.YthcbichnjgkjiaaDoor.Pb
set_option linter.unusedVariables false
set_option linter.unusedSimpArgs false

/-- The text of a fraction; of one that is not valid, none. -/
def txt (n d : Int) : ByteArray := if fOk n d = true then fracTxt n d else ⟨#[]⟩

theorem b_size (l : List UInt8) : (⟨l.toArray⟩ : ByteArray).size = l.length := by simp [ByteArray.size]
theorem b_append (l m : List UInt8) : (⟨l.toArray⟩ : ByteArray) ++ ⟨m.toArray⟩ = ⟨(l ++ m).toArray⟩ := by
  apply ByteArray.ext
  apply Array.ext'
  simp
theorem itoa_nat (u : Nat) : Lib.itoa (u : Int) = Lib.decDigits u := Lib.itoa_nonneg u

theorem spec_l6In_ok (a b c : Int) : EvE (fun _ => spec_l6In.f a b c) (· = decide (b ≤ a ∧ a ≤ c)) := by
  unfold spec_l6In.f
  refine EvE.ite (fun h => EvE.now _ ?_) (fun h => EvE.now _ ?_)
  · have h : b ≤ a := h
    simp [h]
  · have h : ¬ b ≤ a := h
    simp [h]

theorem spec_l31Gcd_nat (n : Nat) : ∀ m : Nat, EvE (fun k => spec_l31Gcd.l0 k (m : Int) (n : Int)) (· = ((Nat.gcd n m : Nat) : Int)) := by
  induction n using Nat.strongRecOn with
  | _ n ih =>
    intro m
    refine EvE.succ ?_
    simp only [spec_l31Gcd.l0]
    refine EvE.ite (fun h => ?_) (fun h => ?_)
    · have hn : 0 < n := by omega
      refine EvE.neg (by omega) ?_
      have e : Int.tmod (m : Int) (n : Int) = ((m % n : Nat) : Int) := by rw [Int.tmod_eq_emod_of_nonneg (by omega)]; rfl
      rw [e]
      refine (ih (m % n) (Nat.mod_lt _ hn) n).mono ?_
      rintro _ rfl
      rw [← Nat.gcd_rec]
    · have hn : n = 0 := by omega
      subst hn
      exact EvE.now _ (by simp)
theorem spec_l31Gcd_ok (a b : Int) (ha : 0 ≤ a) (hb : 0 ≤ b) : EvE (fun k => spec_l31Gcd.f k a b) (· = G a b) := by
  obtain ⟨m, rfl⟩ := Int.eq_ofNat_of_zero_le ha
  obtain ⟨n, rfl⟩ := Int.eq_ofNat_of_zero_le hb
  unfold spec_l31Gcd.f
  refine (spec_l31Gcd_nat n m).mono ?_
  rintro _ rfl
  unfold G
  rw [Nat.gcd_comm]; rfl

theorem spec_FracOk_ok (a b : Int) : EvE (fun k => spec_FracOk.f k a b) (· = fOk a b) := by
  unfold spec_FracOk.f
  refine EvE.bind (spec_l6In_ok a 0 999) ?_
  rintro _ rfl
  refine EvE.ite (fun h => ?_) (fun h => EvE.now _ ?_)
  · refine EvE.bind (spec_l6In_ok b 1 60) ?_
    rintro _ rfl
    have h := of_decide_eq_true h
    refine EvE.ite (fun h2 => ?_) (fun h2 => EvE.now _ ?_)
    · have h2 := of_decide_eq_true h2
      refine EvE.bind (spec_l31Gcd_ok a b (by omega) (by omega)) ?_
      rintro _ rfl
      refine EvE.now _ ?_
      rw [Bool.eq_iff_iff, fOk_iff]
      simp; omega
    · rw [eq_comm, Bool.eq_false_iff]
      intro e
      exact h2 (by simp; have := fOk_iff.1 e; omega)
  · rw [eq_comm, Bool.eq_false_iff]
    intro e
    exact h (by simp; have := fOk_iff.1 e; omega)

theorem one_digit (n : Int) (h0 : 0 ≤ n) (h1 : n < 10) : strOfNums [wrap64 (48 + n) % 256] = ⟨(Lib.decDigits n.toNat).toArray⟩ := by
  obtain ⟨u, rfl⟩ := Int.eq_ofNat_of_zero_le h0
  rw [Int.toNat_natCast, Lib.decDigits_one (by omega), w64 (by omega) (by omega)]
  have e : (48 + (u : Int)) % 256 = ((48 + u : Nat) : Int) := by omega
  rw [e]
  rfl
theorem spec_l6Dec_nat (u : Nat) : u ≤ 99999 → EvE (fun k => spec_l6Dec.f k (u : Int)) (· = ⟨(Lib.decDigits u).toArray⟩) := by
  induction u using Nat.strongRecOn with
  | _ u ih =>
    intro hu
    refine EvE.succ ?_
    simp only [spec_l6Dec.f]
    refine EvE.neg (by omega) (EvE.neg (by omega) ?_)
    refine EvE.ite (fun h => EvE.now _ ?_) (fun h => ?_)
    · rw [one_digit _ (by omega) h, Int.toNat_natCast]
    · have e1 : wrap64 (Int.tdiv (u : Int) 10) = ((u / 10 : Nat) : Int) := by
        rw [Int.tdiv_eq_ediv_of_nonneg (by omega), w64 (by omega) (by omega)]; rfl
      have e2 : Int.tmod (u : Int) 10 = ((u % 10 : Nat) : Int) := by
        rw [Int.tmod_eq_emod_of_nonneg (by omega)]; rfl
      rw [e1, e2]
      refine EvE.bind (ih (u / 10) (by omega) (by omega)) ?_
      rintro _ rfl
      refine EvE.bind (EvE.now (P := fun r => r = [wrap64 (48 + ((u % 10 : Nat) : Int)) % 256]) _ rfl) ?_
      rintro _ rfl
      rw [one_digit _ (by omega) (by omega), Int.toNat_natCast, b_size, b_size]
      have l1 := decDigits_short (u / 10) (by omega)
      have l2 := decDigits_short (u % 10) (by omega)
      refine EvE.pos (by omega) (EvE.now _ ?_)
      rw [b_append]
      congr 2
      have e3 : Lib.decDigits u = Lib.decDigits (u / 10) ++ [UInt8.ofNat (48 + u % 10)] := by rw [Lib.decDigits, dif_neg (by omega)]
      rw [e3, Lib.decDigits_one (i := u % 10) (by omega)]
theorem spec_l6Dec_ok (n : Int) (h0 : 0 ≤ n) (h1 : n ≤ 99999) : EvE (fun k => spec_l6Dec.f k n) (· = ⟨(Lib.itoa n).toArray⟩) := by
  obtain ⟨u, rfl⟩ := Int.eq_ofNat_of_zero_le h0
  rw [itoa_nat]
  exact spec_l6Dec_nat u (by omega)

theorem spec_FracText_ok (n d : Int) : EvE (fun k => spec_FracText.f k n d) (· = txt n d) := by
  unfold spec_FracText.f txt
  refine EvE.bind (spec_FracOk_ok n d) ?_
  rintro _ rfl
  refine EvE.ite (fun h => ?_) (fun h => EvE.now _ (by rw [if_neg h]))
  have hb := fOk_bounds h
  have l1 := itoa_short n (by omega) (by omega)
  have l2 := itoa_short d (by omega) (by omega)
  refine EvE.bind (spec_l6Dec_ok n (by omega) (by omega)) ?_
  rintro _ rfl
  refine EvE.pos (by rw [b_size]; omega) ?_
  refine EvE.bind (spec_l6Dec_ok d (by omega) (by omega)) ?_
  rintro _ rfl
  refine EvE.pos (by rw [ByteArray.size_append, b_size, b_size, b_size, List.length_singleton]; omega) (EvE.now _ ?_)
  rw [if_pos h, fracTxt_eq]

theorem laws_toFrac_ok (a b : Int) : EvE (fun _ => laws_toFrac.f a b) (· = (a, b)) := EvE.now _ rfl

theorem impl_within_ok (a b c : Int) : EvE (fun _ => impl_within.f a b c) (· = decide (b ≤ a ∧ a ≤ c)) := by
  unfold impl_within.f
  refine EvE.ite (fun h => EvE.now _ ?_) (fun h => EvE.now _ ?_)
  · have h : b ≤ a := h
    simp [h]
  · have h : ¬ b ≤ a := h
    simp [h]

theorem impl_divisor_nat (n : Nat) : ∀ m : Nat, EvE (fun k => impl_divisor.l0 k (m : Int) (n : Int)) (· = ((Nat.gcd n m : Nat) : Int)) := by
  induction n using Nat.strongRecOn with
  | _ n ih =>
    intro m
    refine EvE.succ ?_
    simp only [impl_divisor.l0]
    refine EvE.ite (fun h => ?_) (fun h => ?_)
    · have hn : n = 0 := by omega
      subst hn
      exact EvE.now _ (by simp)
    · have hn : 0 < n := by omega
      have e : Int.tmod (m : Int) (n : Int) = ((m % n : Nat) : Int) := by rw [Int.tmod_eq_emod_of_nonneg (by omega)]; rfl
      rw [e]
      refine (ih (m % n) (Nat.mod_lt _ hn) n).mono ?_
      rintro _ rfl
      rw [← Nat.gcd_rec]
theorem impl_divisor_ok (a b : Int) (ha : 0 ≤ a) (hb : 0 ≤ b) : EvE (fun k => impl_divisor.f k a b) (· = G a b) := by
  obtain ⟨m, rfl⟩ := Int.eq_ofNat_of_zero_le ha
  obtain ⟨n, rfl⟩ := Int.eq_ofNat_of_zero_le hb
  unfold impl_divisor.f
  refine (impl_divisor_nat n m).mono ?_
  rintro _ rfl
  unfold G
  rw [Nat.gcd_comm]; rfl

theorem impl_FracOk_ok (a b : Int) : EvE (fun k => impl_FracOk.f k a b) (· = fOk a b) := by
  unfold impl_FracOk.f
  refine EvE.bind (impl_within_ok a 0 999) ?_
  rintro _ rfl
  refine EvE.ite (fun h => ?_) (fun h => EvE.now _ ?_)
  · refine EvE.bind (impl_within_ok b 1 60) ?_
    rintro _ rfl
    have h := of_decide_eq_true h
    refine EvE.ite (fun h2 => ?_) (fun h2 => EvE.now _ ?_)
    · have h2 := of_decide_eq_true h2
      refine EvE.bind (impl_divisor_ok a b (by omega) (by omega)) ?_
      rintro _ rfl
      refine EvE.now _ ?_
      rw [Bool.eq_iff_iff, fOk_iff]
      simp; omega
    · rw [eq_comm, Bool.eq_false_iff]
      intro e
      exact h2 (by simp; have := fOk_iff.1 e; omega)
  · rw [eq_comm, Bool.eq_false_iff]
    intro e
    exact h (by simp; have := fOk_iff.1 e; omega)

theorem impl_FracText_ok (n d : Int) : EvE (fun k => impl_FracText.f k n d) (· = txt n d) := by
  unfold impl_FracText.f txt
  refine EvE.bind (impl_FracOk_ok n d) ?_
  rintro _ rfl
  refine EvE.ite (fun h => ?_) (fun h => EvE.now _ (by rw [if_neg h]))
  have hb := fOk_bounds h
  exact EvE.pos (by omega) (EvE.now _ (by rw [if_pos h]))

theorem FnExactFracText (a b : Int) (_ : (Lit.int .i64 a).wf = true) (_ : (Lit.int .i64 b).wf = true) : ∃ k, laws_FnExactFracText.f k a b = some true := by
  refine EvE.rounds ?_
  unfold laws_FnExactFracText.f
  refine EvE.bind (EvE.now (P := fun r => r = (a, b)) _ rfl) ?_
  rintro _ rfl
  dsimp only
  refine EvE.bind (spec_FracText_ok a b) ?_
  rintro _ rfl
  refine EvE.bind (EvE.now (P := fun r => r = (a, b)) _ rfl) ?_
  rintro _ rfl
  dsimp only
  refine EvE.bind (impl_FracText_ok a b) ?_
  rintro _ rfl
  exact EvE.pos rfl (EvE.now _ rfl)

end Go.Proofs.YthcbichnjgkjiaaDoor.Pure
