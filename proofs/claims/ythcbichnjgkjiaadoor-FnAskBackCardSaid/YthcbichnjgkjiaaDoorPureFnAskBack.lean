/- FnAskBack It has no conditions. -/
import Derived.Test.YthcbichnjgkjiaaDoorPFnAskBackx5
import Derived.Test.YthcbichnjgkjiaaDoorPb
import Derived.Test.YthcbichnjgkjiaaDoorPbTxt
namespace Go.Proofs.YthcbichnjgkjiaaDoor.Pure
open Go.RowKit Go.Proofs.YthcbichnjgkjiaaDoor.PFnAskBack Go.Proofs.YthcbichnjgkjiaaDoorW.PrintWords Go.Proofs.YthcbichnjgkjiaaDoorW.PrintLast Go.Proofs.YthcbichnjgkjiaaDoor.Pb
open Go.Proofs.YthcbichnjgkjiaaDoor.PbTxt
set_option linter.unusedVariables false
set_option linter.unusedSimpArgs false

/-- The text of a fraction; of one that is not valid, none. -/
def txt (n d : Int) : ByteArray := if fOk n d = true then fracTxt n d else ⟨#[]⟩

def aOk (c e n d : Int) : Bool := decide (1 ≤ c ∧ c ≤ 3) && (decide (1 ≤ e ∧ e ≤ 9) && (fOk n d && decide (0 < n)))
theorem aOk_iff {c e n d : Int} : aOk c e n d = true ↔ ((1 ≤ c ∧ c ≤ 3) ∧ (1 ≤ e ∧ e ≤ 9) ∧ fOk n d = true ∧ 0 < n) := by simp [aOk]

def wordL (c : Int) : List UInt8 := (word c).data.toList
def askL (c e n d : Int) : List UInt8 := wordL c ++ 32 :: (Lib.itoa e ++ 32 :: fracL n d)
theorem askTxt_list (c e n d : Int) : (askTxt c e (fracTxt n d)).data.toList = askL c e n d := by
  unfold askTxt askL wordL
  simp [fracTxt_list]
theorem word_cases {c : Int} (h : 1 ≤ c ∧ c ≤ 3) : c = 1 ∨ c = 2 ∨ c = 3 := by omega
theorem wordL_no {c : Int} (h : 1 ≤ c ∧ c ≤ 3) : (32 : UInt8) ∉ wordL c := by
  rcases word_cases h with rfl | rfl | rfl <;> decide
theorem wordL_inj {c c' : Int} (h : 1 ≤ c ∧ c ≤ 3) (h' : 1 ≤ c' ∧ c' ≤ 3) (e : wordL c = wordL c') : c = c' := by
  rcases word_cases h with rfl | rfl | rfl <;> rcases word_cases h' with rfl | rfl | rfl <;> first | rfl | (revert e; decide)
theorem askL_inj {c e n d c' e' n' d' : Int} (h : aOk c e n d = true) (h' : aOk c' e' n' d' = true) (q : askL c e n d = askL c' e' n' d') : c = c' ∧ e = e' ∧ n = n' ∧ d = d' := by
  obtain ⟨k1, k2, k3, k4⟩ := aOk_iff.1 h
  obtain ⟨j1, j2, j3, j4⟩ := aOk_iff.1 h'
  have b1 := fOk_bounds k3
  have b2 := fOk_bounds j3
  obtain ⟨e1, e2⟩ := split_inj (wordL_no k1) (wordL_no j1) q
  obtain ⟨e3, e4⟩ := split_inj (itoa_no (by omega) (by decide)) (itoa_no (by omega) (by decide)) e2
  obtain ⟨e5, e6⟩ := fracL_inj (by omega) (by omega) (by omega) (by omega) e4
  exact ⟨wordL_inj k1 j1 e1, itoa_inj (by omega) (by omega) e3, e5, e6⟩
/-- The text of a question; of one that is not valid, none. -/
def aTxt (c e n d : Int) : ByteArray := if aOk c e n d = true then askTxt c e (fracTxt n d) else ⟨#[]⟩

/-- What reading a question must answer. -/
def RdA (l : List UInt8) (r : Int × Int × Int × Int × Bool) : Prop := (∃ c e n d, r = (c, e, n, d, true) ∧ aOk c e n d = true ∧ l = askL c e n d) ∨ (r = (0, 0, 0, 0, false) ∧ ∀ c e n d, aOk c e n d = true → l ≠ askL c e n d)
theorem RdA_one {l : List UInt8} {r r' : Int × Int × Int × Int × Bool} (h : RdA l r) (h' : RdA l r') : r = r' := by
  rcases h with ⟨c, e, n, d, rfl, h1, h2⟩ | ⟨rfl, h1⟩ <;> rcases h' with ⟨c', e', n', d', rfl, h1', h2'⟩ | ⟨rfl, h1'⟩
  · obtain ⟨e1, e2, e3, e4⟩ := askL_inj h1 h1' (h2.symm.trans h2')
    rw [e1, e2, e3, e4]
  · exact absurd h2 (h1' c e n d h1)
  · exact absurd h2' (h1 c' e' n' d' h1')
  · rfl
theorem aTxt_yes {c e n d : Int} (h : aOk c e n d = true) : aTxt c e n d = askTxt c e (fracTxt n d) := by unfold aTxt; rw [if_pos h]
theorem aTxt_no {c e n d : Int} (h : ¬ aOk c e n d = true) : aTxt c e n d = ⟨#[]⟩ := by unfold aTxt; rw [if_neg h]
theorem askL_no {c e n d : Int} (h : aOk c e n d = true) : (32 : UInt8) ∉ wordL c ∧ (32 : UInt8) ∉ Lib.itoa e ∧ (32 : UInt8) ∉ fracL n d := by
  obtain ⟨k1, k2, k3, k4⟩ := aOk_iff.1 h
  have b := fOk_bounds k3
  refine ⟨wordL_no k1, itoa_no (by omega) (by decide), fun hm => ?_⟩
  unfold fracL at hm
  rcases List.mem_append.1 hm with hm | hm
  · exact itoa_no (by omega) (by decide) hm
  · rcases List.mem_cons.1 hm with hm | hm
    · exact absurd hm (by decide)
    · exact itoa_no (by omega) (by decide) hm
theorem askL_len {c e n d : Int} (h : aOk c e n d = true) : (askL c e n d).length ≤ 13 := by
  obtain ⟨k1, k2, k3, k4⟩ := aOk_iff.1 h
  have b := fOk_bounds k3
  have h1 : (wordL c).length ≤ 4 := by rcases word_cases k1 with rfl | rfl | rfl <;> decide
  have h2 : (Lib.itoa e).length ≤ 1 := by
    obtain ⟨u, rfl⟩ := Int.eq_ofNat_of_zero_le (show 0 ≤ e by omega)
    rw [itoa_nat, Lib.decDigits_length, Lib.nDigits_small (by omega)]
    exact Nat.le_refl _
  have h3 := itoa_small (n := n) (by omega) (by omega)
  have h4 := itoa_two (n := d) (by omega) (by omega)
  unfold askL fracL
  simp only [List.length_append, List.length_cons]
  omega
/-- What the word of a kind is read as. -/
theorem kindF_word {x : ByteArray} {c : Int} (h : 1 ≤ c ∧ c ≤ 3) (hx : x.data.toList = wordL c) : kindF x = c := by
  unfold kindF
  rw [toL, hx]
  rcases word_cases h with rfl | rfl | rfl <;> decide

theorem spec_l6In_ok (a b c : Int) : EvE (fun _ => spec_l6In.f a b c) (· = decide (b ≤ a ∧ a ≤ c)) := by
  unfold spec_l6In.f
  refine EvE.ite (fun h => EvE.now _ ?_) (fun h => EvE.now _ ?_)
  · have h : b ≤ a := h
    simp [h]
  · have h : ¬ b ≤ a := h
    simp [h]

theorem spec_l31Gcd_nat (n : Nat) : ∀ m : Nat, EvE (fun k => spec_l31Gcd.l0 k (m : Int) (n : Int)) (· = ((Nat.gcd n m : Nat) : Int)) := by
  induction n using Nat.strongRecOn with
  | _ n ih =>
    intro m
    refine EvE.succ ?_
    simp only [spec_l31Gcd.l0]
    refine EvE.ite (fun h => ?_) (fun h => ?_)
    · have hn : 0 < n := by omega
      refine EvE.neg (by omega) ?_
      have e : Int.tmod (m : Int) (n : Int) = ((m % n : Nat) : Int) := by rw [Int.tmod_eq_emod_of_nonneg (by omega)]; rfl
      rw [e]
      refine (ih (m % n) (Nat.mod_lt _ hn) n).mono ?_
      rintro _ rfl
      rw [← Nat.gcd_rec]
    · have hn : n = 0 := by omega
      subst hn
      exact EvE.now _ (by simp)
theorem spec_l31Gcd_ok (a b : Int) (ha : 0 ≤ a) (hb : 0 ≤ b) : EvE (fun k => spec_l31Gcd.f k a b) (· = G a b) := by
  obtain ⟨m, rfl⟩ := Int.eq_ofNat_of_zero_le ha
  obtain ⟨n, rfl⟩ := Int.eq_ofNat_of_zero_le hb
  unfold spec_l31Gcd.f
  refine (spec_l31Gcd_nat n m).mono ?_
  rintro _ rfl
  unfold G
  rw [Nat.gcd_comm]; rfl

theorem spec_FracOk_ok (a b : Int) : EvE (fun k => spec_FracOk.f k a b) (· = fOk a b) := by
  unfold spec_FracOk.f
  refine EvE.bind (spec_l6In_ok a 0 999) ?_
  rintro _ rfl
  refine EvE.ite (fun h => ?_) (fun h => EvE.now _ ?_)
  · refine EvE.bind (spec_l6In_ok b 1 60) ?_
    rintro _ rfl
    have h := of_decide_eq_true h
    refine EvE.ite (fun h2 => ?_) (fun h2 => EvE.now _ ?_)
    · have h2 := of_decide_eq_true h2
      refine EvE.bind (spec_l31Gcd_ok a b (by omega) (by omega)) ?_
      rintro _ rfl
      refine EvE.now _ ?_
      rw [Bool.eq_iff_iff, fOk_iff]
      simp; omega
    · rw [eq_comm, Bool.eq_false_iff]
      intro e
      exact h2 (by simp; have := fOk_iff.1 e; omega)
  · rw [eq_comm, Bool.eq_false_iff]
    intro e
    exact h (by simp; have := fOk_iff.1 e; omega)

theorem one_digit (n : Int) (h0 : 0 ≤ n) (h1 : n < 10) : strOfNums [wrap64 (48 + n) % 256] = ⟨(Lib.decDigits n.toNat).toArray⟩ := by
  obtain ⟨u, rfl⟩ := Int.eq_ofNat_of_zero_le h0
  rw [Int.toNat_natCast, Lib.decDigits_one (by omega), w64 (by omega) (by omega)]
  have e : (48 + (u : Int)) % 256 = ((48 + u : Nat) : Int) := by omega
  rw [e]
  rfl
theorem spec_l6Dec_nat (u : Nat) : u ≤ 99999 → EvE (fun k => spec_l6Dec.f k (u : Int)) (· = ⟨(Lib.decDigits u).toArray⟩) := by
  induction u using Nat.strongRecOn with
  | _ u ih =>
    intro hu
    refine EvE.succ ?_
    simp only [spec_l6Dec.f]
    refine EvE.neg (by omega) (EvE.neg (by omega) ?_)
    refine EvE.ite (fun h => EvE.now _ ?_) (fun h => ?_)
    · rw [one_digit _ (by omega) h, Int.toNat_natCast]
    · have e1 : wrap64 (Int.tdiv (u : Int) 10) = ((u / 10 : Nat) : Int) := by
        rw [Int.tdiv_eq_ediv_of_nonneg (by omega), w64 (by omega) (by omega)]; rfl
      have e2 : Int.tmod (u : Int) 10 = ((u % 10 : Nat) : Int) := by
        rw [Int.tmod_eq_emod_of_nonneg (by omega)]; rfl
      rw [e1, e2]
      refine EvE.bind (ih (u / 10) (by omega) (by omega)) ?_
      rintro _ rfl
      refine EvE.bind (EvE.now (P := fun r => r = [wrap64 (48 + ((u % 10 : Nat) : Int)) % 256]) _ rfl) ?_
      rintro _ rfl
      rw [one_digit _ (by omega) (by omega), Int.toNat_natCast, b_size, b_size]
      have l1 := decDigits_short (u / 10) (by omega)
      have l2 := decDigits_short (u % 10) (by omega)
      refine EvE.pos (by omega) (EvE.now _ ?_)
      rw [b_append]
      congr 2
      have e3 : Lib.decDigits u = Lib.decDigits (u / 10) ++ [UInt8.ofNat (48 + u % 10)] := by rw [Lib.decDigits, dif_neg (by omega)]
      rw [e3, Lib.decDigits_one (i := u % 10) (by omega)]
theorem spec_l6Dec_ok (n : Int) (h0 : 0 ≤ n) (h1 : n ≤ 99999) : EvE (fun k => spec_l6Dec.f k n) (· = ⟨(Lib.itoa n).toArray⟩) := by
  obtain ⟨u, rfl⟩ := Int.eq_ofNat_of_zero_le h0
  rw [itoa_nat]
  exact spec_l6Dec_nat u (by omega)

theorem spec_FracText_ok (n d : Int) : EvE (fun k => spec_FracText.f k n d) (· = txt n d) := by
  unfold spec_FracText.f txt
  refine EvE.bind (spec_FracOk_ok n d) ?_
  rintro _ rfl
  refine EvE.ite (fun h => ?_) (fun h => EvE.now _ (by rw [if_neg h]))
  have hb := fOk_bounds h
  have l1 := itoa_short n (by omega) (by omega)
  have l2 := itoa_short d (by omega) (by omega)
  refine EvE.bind (spec_l6Dec_ok n (by omega) (by omega)) ?_
  rintro _ rfl
  refine EvE.pos (by rw [b_size]; omega) ?_
  refine EvE.bind (spec_l6Dec_ok d (by omega) (by omega)) ?_
  rintro _ rfl
  refine EvE.pos (by rw [ByteArray.size_append, b_size, b_size, b_size, List.length_singleton]; omega) (EvE.now _ ?_)
  rw [if_pos h, fracTxt_eq]

theorem spec_l11Kind_ok (a : Int) : EvE (fun _ => spec_l11Kind.f a) (· = decide (1 ≤ a ∧ a ≤ 3)) := by
  unfold spec_l11Kind.f
  exact EvE.tail (spec_l6In_ok a 1 3)

theorem spec_AskOk_ok (c e n d : Int) : EvE (fun k => spec_AskOk.f k c e n d) (· = aOk c e n d) := by
  unfold spec_AskOk.f aOk
  refine EvE.bind (spec_l11Kind_ok c) ?_
  rintro _ rfl
  refine EvE.ite (fun h1 => ?_) (fun h1 => EvE.now _ (by rw [Bool.eq_false_iff.2 h1]; rfl))
  refine EvE.bind (spec_l6In_ok e 1 9) ?_
  rintro _ rfl
  rw [h1]
  refine EvE.ite (fun h2 => ?_) (fun h2 => EvE.now _ (by rw [Bool.eq_false_iff.2 h2]; rfl))
  refine EvE.bind (spec_FracOk_ok n d) ?_
  rintro _ rfl
  rw [h2]
  refine EvE.ite (fun h3 => EvE.now _ (by rw [h3]; rfl)) (fun h3 => EvE.now _ (by rw [Bool.eq_false_iff.2 h3]; rfl))

theorem spec_l42Word_ok (c : Int) (h : 1 ≤ c ∧ c ≤ 3) : EvE (fun _ => spec_l42Word.f c) (· = word c) := by
  unfold spec_l42Word.f
  refine EvE.bind (EvE.now (P := fun r => r = [(⟨#[]⟩ : ByteArray), ⟨#[98, 105, 116]⟩, ⟨#[112, 105, 99, 107]⟩, ⟨#[110, 117, 109]⟩]) _ rfl) ?_
  rintro _ rfl
  refine EvE.pos (by omega) (EvE.pos (by simp; omega) (EvE.now _ ?_))
  rcases word_cases h with rfl | rfl | rfl <;> rfl

theorem word_size {c : Int} (h : 1 ≤ c ∧ c ≤ 3) : (word c).size ≤ 4 := by
  rcases word_cases h with rfl | rfl | rfl <;> decide
theorem spec_AskText_ok (c e n d : Int) : EvE (fun k => spec_AskText.f k c e n d) (· = aTxt c e n d) := by
  unfold spec_AskText.f aTxt
  refine EvE.bind (spec_AskOk_ok c e n d) ?_
  rintro _ rfl
  refine EvE.ite (fun h => ?_) (fun h => EvE.now _ (by rw [if_neg h]))
  obtain ⟨k1, k2, k3, k4⟩ := aOk_iff.1 h
  have b1 := fOk_bounds k3
  have s1 := word_size k1
  have s2 := itoa_short e (by omega) (by omega)
  have s3 := fracTxt_size n d (by omega) (by omega)
  have s4 : (⟨#[32]⟩ : ByteArray).size = 1 := rfl
  refine EvE.bind (spec_l42Word_ok c k1) ?_
  rintro _ rfl
  refine EvE.pos (by omega) ?_
  refine EvE.bind (spec_l6Dec_ok e (by omega) (by omega)) ?_
  rintro _ rfl
  have s5 := b_size (Lib.itoa e)
  refine EvE.pos (by rw [ByteArray.size_append, s4, s5]; omega) (EvE.pos (by rw [ByteArray.size_append, ByteArray.size_append, s4, s5]; omega) ?_)
  refine EvE.bind (spec_FracText_ok n d) ?_
  rintro _ rfl
  have e1 : txt n d = fracTxt n d := by unfold txt; rw [if_pos k3]
  rw [e1]
  refine EvE.pos (by rw [ByteArray.size_append, ByteArray.size_append, ByteArray.size_append, s4, s5]; omega) (EvE.now _ ?_)
  rw [if_pos h]
  rfl

theorem impl_within_ok (a b c : Int) : EvE (fun _ => impl_within.f a b c) (· = decide (b ≤ a ∧ a ≤ c)) := by
  unfold impl_within.f
  refine EvE.ite (fun h => EvE.now _ ?_) (fun h => EvE.now _ ?_)
  · have h : b ≤ a := h
    simp [h]
  · have h : ¬ b ≤ a := h
    simp [h]

theorem impl_divisor_nat (n : Nat) : ∀ m : Nat, EvE (fun k => impl_divisor.l0 k (m : Int) (n : Int)) (· = ((Nat.gcd n m : Nat) : Int)) := by
  induction n using Nat.strongRecOn with
  | _ n ih =>
    intro m
    refine EvE.succ ?_
    simp only [impl_divisor.l0]
    refine EvE.ite (fun h => ?_) (fun h => ?_)
    · have hn : n = 0 := by omega
      subst hn
      exact EvE.now _ (by simp)
    · have hn : 0 < n := by omega
      have e : Int.tmod (m : Int) (n : Int) = ((m % n : Nat) : Int) := by rw [Int.tmod_eq_emod_of_nonneg (by omega)]; rfl
      rw [e]
      refine (ih (m % n) (Nat.mod_lt _ hn) n).mono ?_
      rintro _ rfl
      rw [← Nat.gcd_rec]
theorem impl_divisor_ok (a b : Int) (ha : 0 ≤ a) (hb : 0 ≤ b) : EvE (fun k => impl_divisor.f k a b) (· = G a b) := by
  obtain ⟨m, rfl⟩ := Int.eq_ofNat_of_zero_le ha
  obtain ⟨n, rfl⟩ := Int.eq_ofNat_of_zero_le hb
  unfold impl_divisor.f
  refine (impl_divisor_nat n m).mono ?_
  rintro _ rfl
  unfold G
  rw [Nat.gcd_comm]; rfl

theorem impl_FracOk_ok (a b : Int) : EvE (fun k => impl_FracOk.f k a b) (· = fOk a b) := by
  unfold impl_FracOk.f
  refine EvE.bind (impl_within_ok a 0 999) ?_
  rintro _ rfl
  refine EvE.ite (fun h => ?_) (fun h => EvE.now _ ?_)
  · refine EvE.bind (impl_within_ok b 1 60) ?_
    rintro _ rfl
    have h := of_decide_eq_true h
    refine EvE.ite (fun h2 => ?_) (fun h2 => EvE.now _ ?_)
    · have h2 := of_decide_eq_true h2
      refine EvE.bind (impl_divisor_ok a b (by omega) (by omega)) ?_
      rintro _ rfl
      refine EvE.now _ ?_
      rw [Bool.eq_iff_iff, fOk_iff]
      simp; omega
    · rw [eq_comm, Bool.eq_false_iff]
      intro e
      exact h2 (by simp; have := fOk_iff.1 e; omega)
  · rw [eq_comm, Bool.eq_false_iff]
    intro e
    exact h (by simp; have := fOk_iff.1 e; omega)

theorem impl_FracText_ok (n d : Int) : EvE (fun k => impl_FracText.f k n d) (· = txt n d) := by
  unfold impl_FracText.f txt
  refine EvE.bind (impl_FracOk_ok n d) ?_
  rintro _ rfl
  refine EvE.ite (fun h => ?_) (fun h => EvE.now _ (by rw [if_neg h]))
  have hb := fOk_bounds h
  exact EvE.pos (by omega) (EvE.now _ (by rw [if_pos h]))

theorem impl_kindOk_ok (a : Int) : EvE (fun _ => impl_kindOk.f a) (· = decide (1 ≤ a ∧ a ≤ 3)) := EvE.now _ rfl

theorem impl_needOk_ok (a : Int) : EvE (fun _ => impl_needOk.f a) (· = decide (1 ≤ a ∧ a ≤ 9)) := by
  unfold impl_needOk.f
  exact EvE.tail (impl_within_ok a 1 9)

theorem impl_AskOk_ok (c e n d : Int) : EvE (fun k => impl_AskOk.f k c e n d) (· = aOk c e n d) := by
  unfold impl_AskOk.f aOk
  refine EvE.bind (impl_kindOk_ok c) ?_
  rintro _ rfl
  refine EvE.ite (fun h1 => ?_) (fun h1 => EvE.now _ (by rw [Bool.eq_false_iff.2 h1]; rfl))
  refine EvE.bind (impl_needOk_ok e) ?_
  rintro _ rfl
  rw [h1]
  refine EvE.ite (fun h2 => ?_) (fun h2 => EvE.now _ (by rw [Bool.eq_false_iff.2 h2]; rfl))
  refine EvE.bind (impl_FracOk_ok n d) ?_
  rintro _ rfl
  rw [h2]
  refine EvE.ite (fun h3 => EvE.now _ (by rw [h3]; rfl)) (fun h3 => EvE.now _ (by rw [Bool.eq_false_iff.2 h3]; rfl))

theorem impl_AskText_ok (c e n d : Int) : EvE (fun k => impl_AskText.f k c e n d) (· = aTxt c e n d) := by
  unfold impl_AskText.f aTxt
  refine EvE.bind (impl_AskOk_ok c e n d) ?_
  rintro _ rfl
  refine EvE.ite (fun h => ?_) (fun h => EvE.now _ (by rw [if_neg h]))
  obtain ⟨k1, k2, k3, k4⟩ := aOk_iff.1 h
  have b1 := fOk_bounds k3
  have s3 := fracTxt_size n d (by omega) (by omega)
  refine EvE.bind (impl_FracText_ok n d) ?_
  rintro _ rfl
  have e1 : txt n d = fracTxt n d := by unfold txt; rw [if_pos k3]
  rw [e1]
  exact EvE.pos ⟨by omega, by omega, by omega, by omega, by omega⟩ (EvE.now _ (by rw [if_pos h]))

theorem spec_l6Rd_pick_ok {s : List Int} (hs : Coded s) (p n : Int) (h0 : 0 ≤ p) (h1 : p ≤ 1000000) (hn : 1 ≤ n) (hn' : n ≤ 1000000) :
    EvE (fun k => spec_l6Rd_pick.f k s p n) (fun r => ∃ v, r = (v, p + 1) ∧ 0 ≤ v ∧ v < n) := by
  unfold spec_l6Rd_pick.f
  rw [w64 (x := p + 1) (by omega) (by omega)]
  refine EvE.neg (by omega) (EvE.succ ?_)
  simp only [spec_l6Rd_pick.j0]
  have e : wrap64 (p + 1 - 1) = p := by rw [w64 (by omega) (by omega)]; omega
  rw [e]
  have rg := rd_range hs.1
  have hl := hs.2
  refine EvE.ite (fun _ => EvE.now _ ⟨0, rfl, by omega, by omega⟩) (fun hz => ?_)
  have hpos : 1 ≤ (s.length : Int) := by
    have : s.length ≠ 0 := by simpa using hz
    omega
  refine EvE.ite (fun hlt => EvE.pos h0 (EvE.neg (by omega) (EvE.now _ ?_))) (fun hge => ?_)
  · have := rg p
    rw [w64 (x := rd s p) (by omega) (by omega)]
    exact ⟨_, rfl, tmod_range (by omega) hn⟩
  · refine EvE.neg (by omega) ?_
    have t1 := tmod_range (a := p) (n := (s.length : Int)) h0 hpos
    have e1 : wrap64 (p * 7) = p * 7 := w64 (by omega) (by omega)
    have e2 : wrap64 (p * 7 + 3) = p * 7 + 3 := w64 (by omega) (by omega)
    rw [e1, e2]
    have t2 := tmod_range (a := p * 7 + 3) (n := (s.length : Int)) (by omega) hpos
    refine EvE.pos t1.1 (EvE.pos t1.2 (EvE.pos t2.1 (EvE.pos t2.2 (EvE.neg (by omega) (EvE.now _ ?_)))))
    have r1 := rg (Int.tmod p s.length)
    have r2 := rg (Int.tmod (p * 7 + 3) s.length)
    generalize rd s (Int.tmod p s.length) = A at *
    generalize rd s (Int.tmod (p * 7 + 3) s.length) = B at *
    have dq : 0 ≤ Int.tdiv p s.length ∧ Int.tdiv p s.length ≤ p := by
      rw [Int.tdiv_eq_ediv_of_nonneg h0]
      exact ⟨Int.ediv_nonneg h0 (by omega), Int.ediv_le_self _ h0⟩
    generalize Int.tdiv p s.length = Q at *
    rw [w64 (x := A) (by omega) (by omega), w64 (x := B) (by omega) (by omega), w64 (x := A * 131) (by omega) (by omega), w64 (x := B * 1117) (by omega) (by omega), w64 (x := p * 29) (by omega) (by omega), w64 (x := Q) (by omega) (by omega), w64 (x := Q * 53) (by omega) (by omega), w64 (x := A * 131 + B * 1117) (by omega) (by omega), w64 (x := A * 131 + B * 1117 + p * 29) (by omega) (by omega), w64 (x := A * 131 + B * 1117 + p * 29 + Q * 53) (by omega) (by omega)]
    have hX : 0 ≤ A * 131 + B * 1117 + p * 29 + Q * 53 ∧ A * 131 + B * 1117 + p * 29 + Q * 53 < 1000000000000 := by omega
    generalize A * 131 + B * 1117 + p * 29 + Q * 53 = X at *
    have e3 : wrap64 (Int.tdiv X 64) = X / 64 := by
      rw [Int.tdiv_eq_ediv_of_nonneg hX.1]
      exact w64 (by omega) (by omega)
    rw [e3]
    have hx := xor_nonneg (a := X) (b := X / 64) (by omega) (by omega) (by omega) (by omega)
    exact ⟨_, rfl, tmod_range hx.1 hn⟩

theorem spec_l31Of_ok (a b : Int) (ha : 0 ≤ a) (ha' : a ≤ 1000000000000) (hb : 1 ≤ b) (hb' : b ≤ 1000000000000) : EvE (fun k => spec_l31Of.f k a b) (· = (a / G a b, b / G a b)) := by
  unfold spec_l31Of.f
  refine EvE.bind (spec_l31Gcd_ok a b ha (by omega)) ?_
  rintro _ rfl
  have hg := G_pos (n := a) hb
  refine EvE.neg (by omega) (EvE.now _ ?_)
  have h1 : a / G a b ≤ a := Int.ediv_le_self _ ha
  have h2 : b / G a b ≤ b := Int.ediv_le_self _ (by omega)
  have h3 : 0 ≤ a / G a b := Int.ediv_nonneg ha (by omega)
  have h4 : 0 ≤ b / G a b := Int.ediv_nonneg (by omega) (by omega)
  rw [Int.tdiv_eq_ediv_of_nonneg ha, Int.tdiv_eq_ediv_of_nonneg (by omega), w64 (by omega) (by omega), w64 (by omega) (by omega)]

theorem spec_l92Ask_ok {s : List Int} (hs : Coded s) (p : Int) (h0 : 0 ≤ p) (h1 : p ≤ 900000) :
    EvE (fun k => spec_l92Ask.f k s p) (fun r => ∃ a b c d q, r = (a, b, c, d, q) ∧ p ≤ q ∧ q ≤ p + 6 ∧ 0 ≤ a ∧ a ≤ 4 ∧ 0 ≤ b ∧ b ≤ 10 ∧ 0 ≤ c ∧ c ≤ 3 ∧ 0 ≤ d ∧ d ≤ 6) := by
  unfold spec_l92Ask.f
  refine EvE.bind (spec_l6Rd_pick_ok hs p 3 h0 (by omega) (by omega) (by omega)) ?_
  rintro _ ⟨a, rfl, ha, ha'⟩
  dsimp only
  refine EvE.bind (spec_l6Rd_pick_ok hs _ 4 (by omega) (by omega) (by omega) (by omega)) ?_
  rintro _ ⟨b, rfl, hb, hb'⟩
  dsimp only
  refine EvE.bind (spec_l6Rd_pick_ok hs _ 3 (by omega) (by omega) (by omega) (by omega)) ?_
  rintro _ ⟨c, rfl, hc, hc'⟩
  dsimp only
  refine EvE.bind (spec_l6Rd_pick_ok hs _ 6 (by omega) (by omega) (by omega) (by omega)) ?_
  rintro _ ⟨d, rfl, hd, hd'⟩
  dsimp only
  rw [w64 (x := 1 + a) (by omega) (by omega), w64 (x := 1 + b) (by omega) (by omega), w64 (x := 1 + c) (by omega) (by omega), w64 (x := 1 + d) (by omega) (by omega)]
  refine EvE.bind (spec_l31Of_ok (1 + c) (1 + d) (by omega) (by omega) (by omega) (by omega)) ?_
  rintro _ rfl
  dsimp only
  have hg := G_pos (n := 1 + c) (d := 1 + d) (by omega)
  have g1 : (1 + c) / G (1 + c) (1 + d) ≤ 1 + c := Int.ediv_le_self _ (by omega)
  have g2 : (1 + d) / G (1 + c) (1 + d) ≤ 1 + d := Int.ediv_le_self _ (by omega)
  have g3 : 0 ≤ (1 + c) / G (1 + c) (1 + d) := Int.ediv_nonneg (by omega) (by omega)
  have g4 : 0 ≤ (1 + d) / G (1 + c) (1 + d) := Int.ediv_nonneg (by omega) (by omega)
  refine EvE.bind (spec_l6Rd_pick_ok hs _ 30 (by omega) (by omega) (by omega) (by omega)) ?_
  rintro _ ⟨e, rfl, he, he'⟩
  dsimp only
  refine EvE.ite (fun _ => ?_) (fun _ => EvE.ite (fun _ => ?_) (fun _ => EvE.ite (fun _ => ?_) (fun _ => EvE.now _ ⟨_, _, _, _, _, rfl, by omega⟩)))
  · refine EvE.bind (EvE.now (P := fun r => r = [0, 9, 10]) _ rfl) ?_
    rintro _ rfl
    refine EvE.bind (spec_l6Rd_pick_ok hs _ 3 (by omega) (by omega) (by omega) (by omega)) ?_
    rintro _ ⟨f, rfl, hf, hf'⟩
    dsimp only
    refine EvE.pos hf (EvE.pos (by simp; omega) (EvE.now _ ⟨_, _, _, _, _, rfl, ?_⟩))
    have hr : 0 ≤ rd [0, 9, 10] f ∧ rd [0, 9, 10] f ≤ 10 := by
      have : f = 0 ∨ f = 1 ∨ f = 2 := by omega
      rcases this with rfl | rfl | rfl <;> simp [rd]
    omega
  · refine EvE.bind (spec_l6Rd_pick_ok hs _ 3 (by omega) (by omega) (by omega) (by omega)) ?_
    rintro _ ⟨f, rfl, hf, hf'⟩
    exact EvE.now _ ⟨_, _, _, _, _, rfl, by omega⟩
  · refine EvE.bind (spec_l6Rd_pick_ok hs _ 5 (by omega) (by omega) (by omega) (by omega)) ?_
    rintro _ ⟨f, rfl, hf, hf'⟩
    exact EvE.now _ ⟨_, _, _, _, _, rfl, by omega⟩

theorem spec_l6Open_ok {l : List Int} (h : ∀ x ∈ l, (Lit.int .u8 x).wf = true) : EvE (fun _ => spec_l6Open.f l) (fun r => ∃ s, r = (s, 0) ∧ Coded s) := by
  have h := u8_range h
  unfold spec_l6Open.f
  refine EvE.ite (fun h1 => EvE.pos (by omega) (EvE.now _ ⟨_, rfl, fun x hx => h x (List.mem_of_mem_take hx), ?_⟩)) (fun h1 => EvE.now _ ⟨_, rfl, h, by omega⟩)
  rw [List.length_take]; omega

theorem spec_DrawAskText_ok {l : List Int} (h : ∀ x ∈ l, (Lit.int .u8 x).wf = true) : EvE (fun k => spec_DrawAskText.f k l) (fun _ => True) := by
  unfold spec_DrawAskText.f
  refine EvE.bind (spec_l6Open_ok h) ?_
  rintro _ ⟨s, rfl, hs⟩
  dsimp only
  refine EvE.bind (spec_l92Ask_ok hs 0 (by omega) (by omega)) ?_
  rintro _ ⟨a, b, c, d, q, rfl, _⟩
  exact EvE.now _ trivial

theorem frac_cuts {n d : Int} {s : ByteArray} (hn : 0 ≤ n) (h : s.data.toList = fracL n d) : (cutA s).data.toList = Lib.itoa n ∧ (cutB s).data.toList = Lib.itoa d := by
  have e := cut_frac d hn
  unfold cutA cutB
  rw [h, e]
  exact ⟨rfl, rfl⟩
theorem impl_FracRead_ok (s : ByteArray) (hs : s.size ≤ 4294967280) : EvE (fun k => impl_FracRead.f k s) (Rd s.data.toList) := by
  have key : ∀ n d, fOk n d = true → s.data.toList = fracL n d → Lib.atoiAll (cutA s).data.toList = .ok n ∧ Lib.atoiAll (cutB s).data.toList = .ok d := fun n d h e => by
    have b := fOk_bounds h
    obtain ⟨e1, e2⟩ := frac_cuts (by omega) e
    rw [e1, e2]
    exact ⟨atoi_itoa (by omega) (by omega), atoi_itoa (by omega) (by omega)⟩
  unfold impl_FracRead.f
  refine EvE.pos hs ?_
  rcases h1 : Lib.atoiAll (cutA s).data.toList with n | _ | _
  · rcases h2 : Lib.atoiAll (cutB s).data.toList with d | _ | _
    · have same : ∀ n' d', fOk n' d' = true → s.data.toList = fracL n' d' → n' = n ∧ d' = d := fun n' d' h e => by
        obtain ⟨k1, k2⟩ := key n' d' h e
        rw [h1] at k1
        rw [h2] at k2
        injection k1 with k1
        injection k2 with k2
        exact ⟨k1.symm, k2.symm⟩
      refine EvE.bind (impl_FracOk_ok n d) ?_
      rintro _ rfl
      refine EvE.ite (fun h => ?_) (fun h => EvE.now _ (.inr ⟨rfl, fun n' d' h' e => ?_⟩))
      · have b := fOk_bounds h
        refine EvE.pos (by omega) (EvE.ite (fun e => EvE.now _ (.inl ⟨n, d, rfl, h, ?_⟩)) (fun e => EvE.now _ (.inr ⟨rfl, fun n' d' h' e' => e ?_⟩)))
        · rw [toL, toL, fracTxt_list] at e
          exact e.symm
        · obtain ⟨rfl, rfl⟩ := same n' d' h' e'
          rw [toL, toL, fracTxt_list]
          exact e'.symm
      · obtain ⟨rfl, rfl⟩ := same n' d' h' e
        exact h h'
    all_goals
      refine EvE.now _ (.inr ⟨rfl, fun n' d' h' e => ?_⟩)
      have := (key n' d' h' e).2
      rw [h2] at this
      cases this
  all_goals
    refine EvE.now _ (.inr ⟨rfl, fun n' d' h' e => ?_⟩)
    have := (key n' d' h' e).1
    rw [h1] at this
    cases this

theorem index_none (c : UInt8) : ∀ l : List UInt8, c ∉ l → Lib.index l [c] = -1
  | [], _ => by simp [Lib.index]
  | x :: l, h => by
    have ih := index_none c l (fun e => h (List.mem_cons_of_mem _ e))
    have hx : (c == x) = false := beq_eq_false_iff_ne.2 (fun e => h (by rw [e]; exact List.mem_cons_self))
    rw [Lib.index, ih]
    simp only [List.isPrefixOf, hx, Bool.false_and]
    rw [if_neg (by decide), if_pos (by decide)]
theorem pieces_last {s : ByteArray} (h : (32 : UInt8) ∉ s.data.toList) : pieces s = [s] := by
  unfold pieces
  exact Lib.splitB_miss _ _ _ _ (index_none 32 _ h)
theorem pieces_cut {s : ByteArray} {l m : List UInt8} (h : (32 : UInt8) ∉ l) (e : s.data.toList = l ++ 32 :: m) : pieces s = ⟨l.toArray⟩ :: pieces ⟨m.toArray⟩ := by
  have hz : s.size = l.length + 1 + m.length := by
    have h1 : s.size = s.data.toList.length := rfl
    rw [h1, e, List.length_append, List.length_cons]
    omega
  have hix : Lib.indexB s ⟨#[32]⟩ = (l.length : Int) := by
    show Lib.index s.data.toList [32] = _
    rw [e]
    exact index_mid m 32 l h
  have h1 : (⟨#[32]⟩ : ByteArray).size = 1 := rfl
  have ea : s.extract 0 (l.length + 0) = ⟨l.toArray⟩ := by
    apply ByteArray.ext
    apply Array.ext'
    show (s.extract 0 (l.length + 0)).data.toList = l
    rw [Lib.extract_from_zero, e]
    simp
  have eb : s.extract (l.length + 1) s.size = ⟨m.toArray⟩ := by
    apply ByteArray.ext
    apply Array.ext'
    show (s.extract (l.length + 1) s.size).data.toList = m
    rw [Lib.extract_to_end, e, List.drop_append]
    simp
  unfold pieces
  rw [Lib.countB_hit s ⟨#[32]⟩ l.length (by decide) hix, h1, eb, Nat.add_comm 1, Lib.splitB_hit _ _ _ _ _ hix, h1, ea, eb]
theorem pieces_ask {s : ByteArray} {c e n d : Int} (h : aOk c e n d = true) (q : s.data.toList = askL c e n d) : pieces s = [⟨(wordL c).toArray⟩, ⟨(Lib.itoa e).toArray⟩, ⟨(fracL n d).toArray⟩] := by
  obtain ⟨h1, h2, h3⟩ := askL_no h
  rw [pieces_cut h1 q, pieces_cut (s := ⟨(Lib.itoa e ++ 32 :: fracL n d).toArray⟩) h2 rfl, pieces_last (s := ⟨(fracL n d).toArray⟩) h3]
theorem impl_AskRead_ok (s : ByteArray) (hs : s.size ≤ 4294967280) : EvE (fun k => impl_AskRead.f k s) (RdA s.data.toList) := by
  unfold impl_AskRead.f
  refine EvE.pos hs ?_
  have hsz := split_sizes ⟨#[32]⟩ (Lib.countB s ⟨#[32]⟩) s
  have key : ∀ c e n d, aOk c e n d = true → s.data.toList = askL c e n d → pieces s = [⟨(wordL c).toArray⟩, ⟨(Lib.itoa e).toArray⟩, ⟨(fracL n d).toArray⟩] := fun c e n d h q => pieces_ask h q
  have no : (∀ x y z, pieces s ≠ [x, y, z]) → EvE (fun _ => some ((0 : Int), (0 : Int), (0 : Int), (0 : Int), false)) (RdA s.data.toList) := fun h => EvE.now _ (.inr ⟨rfl, fun c e n d h1 h2 => h _ _ _ (key c e n d h1 h2)⟩)
  change ∀ x ∈ pieces s, x.size ≤ s.size at hsz
  rcases hp : pieces s with _ | ⟨x, _ | ⟨y, _ | ⟨z, _ | ⟨t, l⟩⟩⟩⟩
  · exact no (fun x y z q => by rw [hp] at q; cases q)
  · exact no (fun x y z q => by rw [hp] at q; cases q)
  · exact no (fun x y z q => by rw [hp] at q; cases q)
  · dsimp only
    have hz : z.size ≤ s.size := hsz z (by rw [hp]; simp)
    have same : ∀ c e n d, aOk c e n d = true → s.data.toList = askL c e n d → kindF x = c ∧ Lib.atoiAll y.data.toList = .ok e ∧ z.data.toList = fracL n d := fun c e n d h q => by
      have k := key c e n d h q
      obtain ⟨k1, k2, k3, k4⟩ := aOk_iff.1 h
      rw [hp] at k
      simp only [List.cons.injEq, and_true] at k
      obtain ⟨rfl, rfl, rfl⟩ := k
      exact ⟨kindF_word k1 rfl, atoi_itoa (by omega) (by omega), rfl⟩
    unfold askThree
    refine EvE.bind (impl_FracRead_ok z (by omega)) ?_
    rintro ⟨n, d, fo⟩ hr
    dsimp only
    have rd : ∀ c e n' d', aOk c e n' d' = true → s.data.toList = askL c e n' d' → n = n' ∧ d = d' ∧ fo = true := fun c e n' d' h q => by
      have e1 := Rd_one hr (.inl ⟨n', d', rfl, (aOk_iff.1 h).2.2.1, (same c e n' d' h q).2.2⟩)
      simp only [Prod.mk.injEq] at e1
      exact e1
    rcases h1 : Lib.atoiAll y.data.toList with e | _ | _
    · dsimp only
      refine EvE.ite (fun hfo => ?_) (fun hfo => EvE.now _ (.inr ⟨rfl, fun c' e' n' d' h q => hfo (rd c' e' n' d' h q).2.2⟩))
      have all : ∀ c' e' n' d', aOk c' e' n' d' = true → s.data.toList = askL c' e' n' d' → kindF x = c' ∧ e = e' ∧ n = n' ∧ d = d' := fun c' e' n' d' h q => by
        have a := same c' e' n' d' h q
        have b := rd c' e' n' d' h q
        have e1 := a.2.1
        rw [h1] at e1
        injection e1 with e1
        exact ⟨a.1, e1, b.1, b.2.1⟩
      unfold askEnd
      refine EvE.bind (impl_AskOk_ok _ _ _ _) ?_
      rintro _ rfl
      refine EvE.ite (fun hok => ?_) (fun hok => EvE.now _ (.inr ⟨rfl, fun c' e' n' d' h q => ?_⟩))
      · refine EvE.bind (impl_AskText_ok _ _ _ _) ?_
        rintro _ rfl
        refine EvE.ite (fun ht => EvE.now _ (.inl ⟨_, _, _, _, rfl, hok, ?_⟩)) (fun ht => EvE.now _ (.inr ⟨rfl, fun c' e' n' d' h q => ht ?_⟩))
        · rw [toL, toL, aTxt_yes hok, askTxt_list] at ht
          exact ht.symm
        · obtain ⟨rfl, rfl, rfl, rfl⟩ := all c' e' n' d' h q
          rw [toL, toL, aTxt_yes h, askTxt_list]
          exact q.symm
      · obtain ⟨rfl, rfl, rfl, rfl⟩ := all c' e' n' d' h q
        exact hok h
    all_goals
      refine EvE.now _ (.inr ⟨rfl, fun c' e' n' d' h q => ?_⟩)
      have e1 := (same c' e' n' d' h q).2.1
      rw [h1] at e1
      cases e1
  · exact no (fun x y z q => by rw [hp] at q; simp at q)

theorem FnAskBack : laws_FnAskBack.Pure := by
  intro l _ _ hw
  refine EvE.rounds ?_
  unfold laws_FnAskBack.f
  refine EvE.ite (fun _ => EvE.now _ rfl) (fun _ => ?_)
  refine EvE.bind (spec_DrawAskText_ok hw) ?_
  rintro ⟨a, b, c, d⟩ _
  dsimp only
  refine EvE.bind (impl_AskText_ok a b c d) ?_
  rintro _ rfl
  refine EvE.bind (spec_AskText_ok a b c d) ?_
  rintro _ rfl
  refine EvE.pos rfl (EvE.succ ?_)
  simp only [laws_FnAskBack.j0]
  refine EvE.ite (fun _ => ?_) (fun h => ?_)
  · refine EvE.bind (spec_AskText_ok a b c d) ?_
    rintro _ rfl
    exact EvE.now _ (by simp)
  · have hok : aOk a b c d = true := by
      cases e : aOk a b c d
      · refine absurd ?_ h
        unfold aTxt
        rw [e, if_neg (by decide), toL]
        rfl
      · rfl
    rw [aTxt_yes hok]
    have hz : (askTxt a b (fracTxt c d)).size ≤ 13 := by
      have e1 : (askTxt a b (fracTxt c d)).size = (askTxt a b (fracTxt c d)).data.toList.length := rfl
      rw [e1, askTxt_list]
      exact askL_len hok
    refine EvE.bind (impl_AskRead_ok _ (by omega)) ?_
    intro r hr
    rw [askTxt_list] at hr
    obtain rfl := RdA_one hr (.inl ⟨a, b, c, d, rfl, hok, rfl⟩)
    dsimp only
    refine EvE.pos rfl (EvE.pos (by simp) (EvE.tail ?_))
    refine (impl_AskOk_ok a b c d).mono ?_
    rintro _ rfl
    exact hok

end Go.Proofs.YthcbichnjgkjiaaDoor.Pure
