/- A drawn question's text is the reference's: its kind's word, a blank, its need, a blank, its cost's text. It has no conditions. -/
import Derived.Test.YthcbichnjgkjiaaDoorPFnAskWordsx4
import Derived.Test.YthcbichnjgkjiaaDoorPb
namespace Go.Proofs.YthcbichnjgkjiaaDoor.Pure
open Go.RowKit Go.Proofs.YthcbichnjgkjiaaDoor.PFnAskWords Go.Proofs.YthcbichnjgkjiaaDoorW.PrintWords Go.Proofs.YthcbichnjgkjiaaDoorW.PrintLast Go.Proofs.YthcbichnjgkjiaaDoor.Pb
set_option linter.unusedVariables false
set_option linter.unusedSimpArgs false

theorem b_size (l : List UInt8) : (⟨l.toArray⟩ : ByteArray).size = l.length := by simp [ByteArray.size]
theorem b_append (l m : List UInt8) : (⟨l.toArray⟩ : ByteArray) ++ ⟨m.toArray⟩ = ⟨(l ++ m).toArray⟩ := by
  apply ByteArray.ext
  apply Array.ext'
  simp
theorem itoa_nat (u : Nat) : Lib.itoa (u : Int) = Lib.decDigits u := Lib.itoa_nonneg u

/-- The text of a fraction; of one that is not valid, none. -/
def txt (n d : Int) : ByteArray := if fOk n d = true then fracTxt n d else ⟨#[]⟩

def aOk (c e n d : Int) : Bool := decide (1 ≤ c ∧ c ≤ 3) && (decide (1 ≤ e ∧ e ≤ 9) && (fOk n d && decide (0 < n)))
theorem aOk_iff {c e n d : Int} : aOk c e n d = true ↔ ((1 ≤ c ∧ c ≤ 3) ∧ (1 ≤ e ∧ e ≤ 9) ∧ fOk n d = true ∧ 0 < n) := by simp [aOk]

theorem dec_mem (u : Nat) : ∀ x ∈ Lib.decDigits u, 48 ≤ x.toNat ∧ x.toNat ≤ 57 := by
  induction u using Nat.strongRecOn with
  | _ u ih =>
    intro x hx
    by_cases h : u < 10
    · rw [Lib.decDigits_one h, List.mem_singleton] at hx
      subst hx
      have : (UInt8.ofNat (48 + u)).toNat = 48 + u := by rw [UInt8.toNat_ofNat']; omega
      omega
    · rw [Lib.decDigits, dif_neg h, List.mem_append] at hx
      rcases hx with hx | hx
      · exact ih (u / 10) (by omega) x hx
      · rw [List.mem_singleton] at hx
        subst hx
        have : (UInt8.ofNat (48 + u % 10)).toNat = 48 + u % 10 := by rw [UInt8.toNat_ofNat']; omega
        omega
def dval (l : List UInt8) : Nat := l.foldl (fun a c => 10 * a + (c.toNat - 48)) 0
theorem dval_dec (u : Nat) : dval (Lib.decDigits u) = u := by
  induction u using Nat.strongRecOn with
  | _ u ih =>
    by_cases h : u < 10
    · rw [Lib.decDigits_one h]
      have : (UInt8.ofNat (48 + u)).toNat = 48 + u := by rw [UInt8.toNat_ofNat']; omega
      simp only [dval, List.foldl_cons, List.foldl_nil, this]
      omega
    · rw [Lib.decDigits, dif_neg h]
      have : (UInt8.ofNat (48 + u % 10)).toNat = 48 + u % 10 := by rw [UInt8.toNat_ofNat']; omega
      have e := ih (u / 10) (by omega)
      unfold dval at e ⊢
      rw [List.foldl_append, e]
      simp only [List.foldl_cons, List.foldl_nil, this]
      omega
theorem itoa_inj {m n : Int} (hm : 0 ≤ m) (hn : 0 ≤ n) (h : Lib.itoa m = Lib.itoa n) : m = n := by
  obtain ⟨u, rfl⟩ := Int.eq_ofNat_of_zero_le hm
  obtain ⟨v, rfl⟩ := Int.eq_ofNat_of_zero_le hn
  rw [itoa_nat, itoa_nat] at h
  have := congrArg dval h
  rw [dval_dec, dval_dec] at this
  rw [this]
theorem itoa_no {n : Int} (hn : 0 ≤ n) {c : UInt8} (hc : c.toNat < 48) : c ∉ Lib.itoa n := by
  obtain ⟨u, rfl⟩ := Int.eq_ofNat_of_zero_le hn
  rw [itoa_nat]
  intro h
  have := dec_mem u c h
  omega
theorem split_inj {c : UInt8} : ∀ {l1 l2 m1 m2 : List UInt8}, c ∉ l1 → c ∉ l2 → l1 ++ c :: m1 = l2 ++ c :: m2 → l1 = l2 ∧ m1 = m2
  | [], [], m1, m2, _, _, h => by simpa using h
  | [], y :: l2, m1, m2, _, h2, h => by
    simp only [List.nil_append, List.cons_append, List.cons.injEq] at h
    exact absurd (by rw [h.1]; exact List.mem_cons_self) h2
  | x :: l1, [], m1, m2, h1, _, h => by
    simp only [List.nil_append, List.cons_append, List.cons.injEq] at h
    exact absurd (by rw [h.1]; exact List.mem_cons_self) h1
  | x :: l1, y :: l2, m1, m2, h1, h2, h => by
    simp only [List.cons_append, List.cons.injEq] at h
    obtain ⟨e1, e2⟩ := split_inj (l1 := l1) (l2 := l2) (fun h => h1 (List.mem_cons_of_mem _ h)) (fun h => h2 (List.mem_cons_of_mem _ h)) h.2
    exact ⟨by rw [h.1, e1], e2⟩
/-- The texts, as rows of bytes. -/
def fracL (n d : Int) : List UInt8 := Lib.itoa n ++ 47 :: Lib.itoa d
def wordL (c : Int) : List UInt8 := (word c).data.toList
def askL (c e n d : Int) : List UInt8 := wordL c ++ 32 :: (Lib.itoa e ++ 32 :: fracL n d)
theorem fracTxt_list (n d : Int) : (fracTxt n d).data.toList = fracL n d := rfl
theorem askTxt_list (c e n d : Int) : (askTxt c e (fracTxt n d)).data.toList = askL c e n d := by
  unfold askTxt askL wordL
  simp [fracTxt_list]
theorem toL (s : ByteArray) : s.toList = s.data.toList := ByteArray.toList_eq ..
theorem fracL_inj {n d n' d' : Int} (h0 : 0 ≤ n) (h1 : 0 ≤ d) (h2 : 0 ≤ n') (h3 : 0 ≤ d') (h : fracL n d = fracL n' d') : n = n' ∧ d = d' := by
  obtain ⟨e1, e2⟩ := split_inj (itoa_no h0 (by decide)) (itoa_no h2 (by decide)) h
  exact ⟨itoa_inj h0 h2 e1, itoa_inj h1 h3 e2⟩
theorem word_cases {c : Int} (h : 1 ≤ c ∧ c ≤ 3) : c = 1 ∨ c = 2 ∨ c = 3 := by omega
theorem wordL_no {c : Int} (h : 1 ≤ c ∧ c ≤ 3) : (32 : UInt8) ∉ wordL c := by
  rcases word_cases h with rfl | rfl | rfl <;> decide
theorem wordL_inj {c c' : Int} (h : 1 ≤ c ∧ c ≤ 3) (h' : 1 ≤ c' ∧ c' ≤ 3) (e : wordL c = wordL c') : c = c' := by
  rcases word_cases h with rfl | rfl | rfl <;> rcases word_cases h' with rfl | rfl | rfl <;> first | rfl | (revert e; decide)
theorem askL_inj {c e n d c' e' n' d' : Int} (h : aOk c e n d = true) (h' : aOk c' e' n' d' = true) (q : askL c e n d = askL c' e' n' d') : c = c' ∧ e = e' ∧ n = n' ∧ d = d' := by
  obtain ⟨k1, k2, k3, k4⟩ := aOk_iff.1 h
  obtain ⟨j1, j2, j3, j4⟩ := aOk_iff.1 h'
  have b1 := fOk_bounds k3
  have b2 := fOk_bounds j3
  obtain ⟨e1, e2⟩ := split_inj (wordL_no k1) (wordL_no j1) q
  obtain ⟨e3, e4⟩ := split_inj (itoa_no (by omega) (by decide)) (itoa_no (by omega) (by decide)) e2
  obtain ⟨e5, e6⟩ := fracL_inj (by omega) (by omega) (by omega) (by omega) e4
  exact ⟨wordL_inj k1 j1 e1, itoa_inj (by omega) (by omega) e3, e5, e6⟩
/-- The text of a question; of one that is not valid, none. -/
def aTxt (c e n d : Int) : ByteArray := if aOk c e n d = true then askTxt c e (fracTxt n d) else ⟨#[]⟩
theorem fracTxt_size (n d : Int) (hn : 0 ≤ n ∧ n ≤ 999) (hd : 0 ≤ d ∧ d ≤ 999) : (fracTxt n d).size ≤ 11 := by
  have l1 := itoa_short n (by omega) (by omega)
  have l2 := itoa_short d (by omega) (by omega)
  unfold fracTxt
  rw [b_size, List.length_append, List.length_cons]
  omega

theorem impl_within_ok (a b c : Int) : EvE (fun _ => impl_within.f a b c) (· = decide (b ≤ a ∧ a ≤ c)) := by
  unfold impl_within.f
  refine EvE.ite (fun h => EvE.now _ ?_) (fun h => EvE.now _ ?_)
  · have h : b ≤ a := h
    simp [h]
  · have h : ¬ b ≤ a := h
    simp [h]

theorem impl_divisor_nat (n : Nat) : ∀ m : Nat, EvE (fun k => impl_divisor.l0 k (m : Int) (n : Int)) (· = ((Nat.gcd n m : Nat) : Int)) := by
  induction n using Nat.strongRecOn with
  | _ n ih =>
    intro m
    refine EvE.succ ?_
    simp only [impl_divisor.l0]
    refine EvE.ite (fun h => ?_) (fun h => ?_)
    · have hn : n = 0 := by omega
      subst hn
      exact EvE.now _ (by simp)
    · have hn : 0 < n := by omega
      have e : Int.tmod (m : Int) (n : Int) = ((m % n : Nat) : Int) := by rw [Int.tmod_eq_emod_of_nonneg (by omega)]; rfl
      rw [e]
      refine (ih (m % n) (Nat.mod_lt _ hn) n).mono ?_
      rintro _ rfl
      rw [← Nat.gcd_rec]
theorem impl_divisor_ok (a b : Int) (ha : 0 ≤ a) (hb : 0 ≤ b) : EvE (fun k => impl_divisor.f k a b) (· = G a b) := by
  obtain ⟨m, rfl⟩ := Int.eq_ofNat_of_zero_le ha
  obtain ⟨n, rfl⟩ := Int.eq_ofNat_of_zero_le hb
  unfold impl_divisor.f
  refine (impl_divisor_nat n m).mono ?_
  rintro _ rfl
  unfold G
  rw [Nat.gcd_comm]; rfl

theorem impl_FracOk_ok (a b : Int) : EvE (fun k => impl_FracOk.f k a b) (· = fOk a b) := by
  unfold impl_FracOk.f
  refine EvE.bind (impl_within_ok a 0 999) ?_
  rintro _ rfl
  refine EvE.ite (fun h => ?_) (fun h => EvE.now _ ?_)
  · refine EvE.bind (impl_within_ok b 1 60) ?_
    rintro _ rfl
    have h := of_decide_eq_true h
    refine EvE.ite (fun h2 => ?_) (fun h2 => EvE.now _ ?_)
    · have h2 := of_decide_eq_true h2
      refine EvE.bind (impl_divisor_ok a b (by omega) (by omega)) ?_
      rintro _ rfl
      refine EvE.now _ ?_
      rw [Bool.eq_iff_iff, fOk_iff]
      simp; omega
    · rw [eq_comm, Bool.eq_false_iff]
      intro e
      exact h2 (by simp; have := fOk_iff.1 e; omega)
  · rw [eq_comm, Bool.eq_false_iff]
    intro e
    exact h (by simp; have := fOk_iff.1 e; omega)

theorem impl_FracText_ok (n d : Int) : EvE (fun k => impl_FracText.f k n d) (· = txt n d) := by
  unfold impl_FracText.f txt
  refine EvE.bind (impl_FracOk_ok n d) ?_
  rintro _ rfl
  refine EvE.ite (fun h => ?_) (fun h => EvE.now _ (by rw [if_neg h]))
  have hb := fOk_bounds h
  exact EvE.pos (by omega) (EvE.now _ (by rw [if_pos h]))

theorem spec_l6In_ok (a b c : Int) : EvE (fun _ => spec_l6In.f a b c) (· = decide (b ≤ a ∧ a ≤ c)) := by
  unfold spec_l6In.f
  refine EvE.ite (fun h => EvE.now _ ?_) (fun h => EvE.now _ ?_)
  · have h : b ≤ a := h
    simp [h]
  · have h : ¬ b ≤ a := h
    simp [h]

theorem spec_l31Gcd_nat (n : Nat) : ∀ m : Nat, EvE (fun k => spec_l31Gcd.l0 k (m : Int) (n : Int)) (· = ((Nat.gcd n m : Nat) : Int)) := by
  induction n using Nat.strongRecOn with
  | _ n ih =>
    intro m
    refine EvE.succ ?_
    simp only [spec_l31Gcd.l0]
    refine EvE.ite (fun h => ?_) (fun h => ?_)
    · have hn : 0 < n := by omega
      refine EvE.neg (by omega) ?_
      have e : Int.tmod (m : Int) (n : Int) = ((m % n : Nat) : Int) := by rw [Int.tmod_eq_emod_of_nonneg (by omega)]; rfl
      rw [e]
      refine (ih (m % n) (Nat.mod_lt _ hn) n).mono ?_
      rintro _ rfl
      rw [← Nat.gcd_rec]
    · have hn : n = 0 := by omega
      subst hn
      exact EvE.now _ (by simp)
theorem spec_l31Gcd_ok (a b : Int) (ha : 0 ≤ a) (hb : 0 ≤ b) : EvE (fun k => spec_l31Gcd.f k a b) (· = G a b) := by
  obtain ⟨m, rfl⟩ := Int.eq_ofNat_of_zero_le ha
  obtain ⟨n, rfl⟩ := Int.eq_ofNat_of_zero_le hb
  unfold spec_l31Gcd.f
  refine (spec_l31Gcd_nat n m).mono ?_
  rintro _ rfl
  unfold G
  rw [Nat.gcd_comm]; rfl

theorem spec_FracOk_ok (a b : Int) : EvE (fun k => spec_FracOk.f k a b) (· = fOk a b) := by
  unfold spec_FracOk.f
  refine EvE.bind (spec_l6In_ok a 0 999) ?_
  rintro _ rfl
  refine EvE.ite (fun h => ?_) (fun h => EvE.now _ ?_)
  · refine EvE.bind (spec_l6In_ok b 1 60) ?_
    rintro _ rfl
    have h := of_decide_eq_true h
    refine EvE.ite (fun h2 => ?_) (fun h2 => EvE.now _ ?_)
    · have h2 := of_decide_eq_true h2
      refine EvE.bind (spec_l31Gcd_ok a b (by omega) (by omega)) ?_
      rintro _ rfl
      refine EvE.now _ ?_
      rw [Bool.eq_iff_iff, fOk_iff]
      simp; omega
    · rw [eq_comm, Bool.eq_false_iff]
      intro e
      exact h2 (by simp; have := fOk_iff.1 e; omega)
  · rw [eq_comm, Bool.eq_false_iff]
    intro e
    exact h (by simp; have := fOk_iff.1 e; omega)

theorem one_digit (n : Int) (h0 : 0 ≤ n) (h1 : n < 10) : strOfNums [wrap64 (48 + n) % 256] = ⟨(Lib.decDigits n.toNat).toArray⟩ := by
  obtain ⟨u, rfl⟩ := Int.eq_ofNat_of_zero_le h0
  rw [Int.toNat_natCast, Lib.decDigits_one (by omega), w64 (by omega) (by omega)]
  have e : (48 + (u : Int)) % 256 = ((48 + u : Nat) : Int) := by omega
  rw [e]
  rfl
theorem spec_l6Dec_nat (u : Nat) : u ≤ 99999 → EvE (fun k => spec_l6Dec.f k (u : Int)) (· = ⟨(Lib.decDigits u).toArray⟩) := by
  induction u using Nat.strongRecOn with
  | _ u ih =>
    intro hu
    refine EvE.succ ?_
    simp only [spec_l6Dec.f]
    refine EvE.neg (by omega) (EvE.neg (by omega) ?_)
    refine EvE.ite (fun h => EvE.now _ ?_) (fun h => ?_)
    · rw [one_digit _ (by omega) h, Int.toNat_natCast]
    · have e1 : wrap64 (Int.tdiv (u : Int) 10) = ((u / 10 : Nat) : Int) := by
        rw [Int.tdiv_eq_ediv_of_nonneg (by omega), w64 (by omega) (by omega)]; rfl
      have e2 : Int.tmod (u : Int) 10 = ((u % 10 : Nat) : Int) := by
        rw [Int.tmod_eq_emod_of_nonneg (by omega)]; rfl
      rw [e1, e2]
      refine EvE.bind (ih (u / 10) (by omega) (by omega)) ?_
      rintro _ rfl
      refine EvE.bind (EvE.now (P := fun r => r = [wrap64 (48 + ((u % 10 : Nat) : Int)) % 256]) _ rfl) ?_
      rintro _ rfl
      rw [one_digit _ (by omega) (by omega), Int.toNat_natCast, b_size, b_size]
      have l1 := decDigits_short (u / 10) (by omega)
      have l2 := decDigits_short (u % 10) (by omega)
      refine EvE.pos (by omega) (EvE.now _ ?_)
      rw [b_append]
      congr 2
      have e3 : Lib.decDigits u = Lib.decDigits (u / 10) ++ [UInt8.ofNat (48 + u % 10)] := by rw [Lib.decDigits, dif_neg (by omega)]
      rw [e3, Lib.decDigits_one (i := u % 10) (by omega)]
theorem spec_l6Dec_ok (n : Int) (h0 : 0 ≤ n) (h1 : n ≤ 99999) : EvE (fun k => spec_l6Dec.f k n) (· = ⟨(Lib.itoa n).toArray⟩) := by
  obtain ⟨u, rfl⟩ := Int.eq_ofNat_of_zero_le h0
  rw [itoa_nat]
  exact spec_l6Dec_nat u (by omega)

theorem spec_FracText_ok (n d : Int) : EvE (fun k => spec_FracText.f k n d) (· = txt n d) := by
  unfold spec_FracText.f txt
  refine EvE.bind (spec_FracOk_ok n d) ?_
  rintro _ rfl
  refine EvE.ite (fun h => ?_) (fun h => EvE.now _ (by rw [if_neg h]))
  have hb := fOk_bounds h
  have l1 := itoa_short n (by omega) (by omega)
  have l2 := itoa_short d (by omega) (by omega)
  refine EvE.bind (spec_l6Dec_ok n (by omega) (by omega)) ?_
  rintro _ rfl
  refine EvE.pos (by rw [b_size]; omega) ?_
  refine EvE.bind (spec_l6Dec_ok d (by omega) (by omega)) ?_
  rintro _ rfl
  refine EvE.pos (by rw [ByteArray.size_append, b_size, b_size, b_size, List.length_singleton]; omega) (EvE.now _ ?_)
  rw [if_pos h, fracTxt_eq]

theorem spec_l11Kind_ok (a : Int) : EvE (fun _ => spec_l11Kind.f a) (· = decide (1 ≤ a ∧ a ≤ 3)) := by
  unfold spec_l11Kind.f
  exact EvE.tail (spec_l6In_ok a 1 3)

theorem spec_AskOk_ok (c e n d : Int) : EvE (fun k => spec_AskOk.f k c e n d) (· = aOk c e n d) := by
  unfold spec_AskOk.f aOk
  refine EvE.bind (spec_l11Kind_ok c) ?_
  rintro _ rfl
  refine EvE.ite (fun h1 => ?_) (fun h1 => EvE.now _ (by rw [Bool.eq_false_iff.2 h1]; rfl))
  refine EvE.bind (spec_l6In_ok e 1 9) ?_
  rintro _ rfl
  rw [h1]
  refine EvE.ite (fun h2 => ?_) (fun h2 => EvE.now _ (by rw [Bool.eq_false_iff.2 h2]; rfl))
  refine EvE.bind (spec_FracOk_ok n d) ?_
  rintro _ rfl
  rw [h2]
  refine EvE.ite (fun h3 => EvE.now _ (by rw [h3]; rfl)) (fun h3 => EvE.now _ (by rw [Bool.eq_false_iff.2 h3]; rfl))

theorem spec_l42Word_ok (c : Int) (h : 1 ≤ c ∧ c ≤ 3) : EvE (fun _ => spec_l42Word.f c) (· = word c) := by
  unfold spec_l42Word.f
  refine EvE.bind (EvE.now (P := fun r => r = [(⟨#[]⟩ : ByteArray), ⟨#[98, 105, 116]⟩, ⟨#[112, 105, 99, 107]⟩, ⟨#[110, 117, 109]⟩]) _ rfl) ?_
  rintro _ rfl
  refine EvE.pos (by omega) (EvE.pos (by simp; omega) (EvE.now _ ?_))
  rcases word_cases h with rfl | rfl | rfl <;> rfl

theorem word_size {c : Int} (h : 1 ≤ c ∧ c ≤ 3) : (word c).size ≤ 4 := by
  rcases word_cases h with rfl | rfl | rfl <;> decide
theorem spec_AskText_ok (c e n d : Int) : EvE (fun k => spec_AskText.f k c e n d) (· = aTxt c e n d) := by
  unfold spec_AskText.f aTxt
  refine EvE.bind (spec_AskOk_ok c e n d) ?_
  rintro _ rfl
  refine EvE.ite (fun h => ?_) (fun h => EvE.now _ (by rw [if_neg h]))
  obtain ⟨k1, k2, k3, k4⟩ := aOk_iff.1 h
  have b1 := fOk_bounds k3
  have s1 := word_size k1
  have s2 := itoa_short e (by omega) (by omega)
  have s3 := fracTxt_size n d (by omega) (by omega)
  have s4 : (⟨#[32]⟩ : ByteArray).size = 1 := rfl
  refine EvE.bind (spec_l42Word_ok c k1) ?_
  rintro _ rfl
  refine EvE.pos (by omega) ?_
  refine EvE.bind (spec_l6Dec_ok e (by omega) (by omega)) ?_
  rintro _ rfl
  have s5 := b_size (Lib.itoa e)
  refine EvE.pos (by rw [ByteArray.size_append, s4, s5]; omega) (EvE.pos (by rw [ByteArray.size_append, ByteArray.size_append, s4, s5]; omega) ?_)
  refine EvE.bind (spec_FracText_ok n d) ?_
  rintro _ rfl
  have e1 : txt n d = fracTxt n d := by unfold txt; rw [if_pos k3]
  rw [e1]
  refine EvE.pos (by rw [ByteArray.size_append, ByteArray.size_append, ByteArray.size_append, s4, s5]; omega) (EvE.now _ ?_)
  rw [if_pos h]
  rfl

theorem impl_kindOk_ok (a : Int) : EvE (fun _ => impl_kindOk.f a) (· = decide (1 ≤ a ∧ a ≤ 3)) := EvE.now _ rfl

theorem impl_needOk_ok (a : Int) : EvE (fun _ => impl_needOk.f a) (· = decide (1 ≤ a ∧ a ≤ 9)) := by
  unfold impl_needOk.f
  exact EvE.tail (impl_within_ok a 1 9)

theorem impl_AskOk_ok (c e n d : Int) : EvE (fun k => impl_AskOk.f k c e n d) (· = aOk c e n d) := by
  unfold impl_AskOk.f aOk
  refine EvE.bind (impl_kindOk_ok c) ?_
  rintro _ rfl
  refine EvE.ite (fun h1 => ?_) (fun h1 => EvE.now _ (by rw [Bool.eq_false_iff.2 h1]; rfl))
  refine EvE.bind (impl_needOk_ok e) ?_
  rintro _ rfl
  rw [h1]
  refine EvE.ite (fun h2 => ?_) (fun h2 => EvE.now _ (by rw [Bool.eq_false_iff.2 h2]; rfl))
  refine EvE.bind (impl_FracOk_ok n d) ?_
  rintro _ rfl
  rw [h2]
  refine EvE.ite (fun h3 => EvE.now _ (by rw [h3]; rfl)) (fun h3 => EvE.now _ (by rw [Bool.eq_false_iff.2 h3]; rfl))

theorem impl_AskText_ok (c e n d : Int) : EvE (fun k => impl_AskText.f k c e n d) (· = aTxt c e n d) := by
  unfold impl_AskText.f aTxt
  refine EvE.bind (impl_AskOk_ok c e n d) ?_
  rintro _ rfl
  refine EvE.ite (fun h => ?_) (fun h => EvE.now _ (by rw [if_neg h]))
  obtain ⟨k1, k2, k3, k4⟩ := aOk_iff.1 h
  have b1 := fOk_bounds k3
  have s3 := fracTxt_size n d (by omega) (by omega)
  refine EvE.bind (impl_FracText_ok n d) ?_
  rintro _ rfl
  have e1 : txt n d = fracTxt n d := by unfold txt; rw [if_pos k3]
  rw [e1]
  exact EvE.pos ⟨by omega, by omega, by omega, by omega, by omega⟩ (EvE.now _ (by rw [if_pos h]))

theorem spec_l6Rd_pick_ok {s : List Int} (hs : Coded s) (p n : Int) (h0 : 0 ≤ p) (h1 : p ≤ 1000000) (hn : 1 ≤ n) (hn' : n ≤ 1000000) :
    EvE (fun k => spec_l6Rd_pick.f k s p n) (fun r => ∃ v, r = (v, p + 1) ∧ 0 ≤ v ∧ v < n) := by
  unfold spec_l6Rd_pick.f
  rw [w64 (x := p + 1) (by omega) (by omega)]
  refine EvE.neg (by omega) (EvE.succ ?_)
  simp only [spec_l6Rd_pick.j0]
  have e : wrap64 (p + 1 - 1) = p := by rw [w64 (by omega) (by omega)]; omega
  rw [e]
  have rg := rd_range hs.1
  have hl := hs.2
  refine EvE.ite (fun _ => EvE.now _ ⟨0, rfl, by omega, by omega⟩) (fun hz => ?_)
  have hpos : 1 ≤ (s.length : Int) := by
    have : s.length ≠ 0 := by simpa using hz
    omega
  refine EvE.ite (fun hlt => EvE.pos h0 (EvE.neg (by omega) (EvE.now _ ?_))) (fun hge => ?_)
  · have := rg p
    rw [w64 (x := rd s p) (by omega) (by omega)]
    exact ⟨_, rfl, tmod_range (by omega) hn⟩
  · refine EvE.neg (by omega) ?_
    have t1 := tmod_range (a := p) (n := (s.length : Int)) h0 hpos
    have e1 : wrap64 (p * 7) = p * 7 := w64 (by omega) (by omega)
    have e2 : wrap64 (p * 7 + 3) = p * 7 + 3 := w64 (by omega) (by omega)
    rw [e1, e2]
    have t2 := tmod_range (a := p * 7 + 3) (n := (s.length : Int)) (by omega) hpos
    refine EvE.pos t1.1 (EvE.pos t1.2 (EvE.pos t2.1 (EvE.pos t2.2 (EvE.neg (by omega) (EvE.now _ ?_)))))
    have r1 := rg (Int.tmod p s.length)
    have r2 := rg (Int.tmod (p * 7 + 3) s.length)
    generalize rd s (Int.tmod p s.length) = A at *
    generalize rd s (Int.tmod (p * 7 + 3) s.length) = B at *
    have dq : 0 ≤ Int.tdiv p s.length ∧ Int.tdiv p s.length ≤ p := by
      rw [Int.tdiv_eq_ediv_of_nonneg h0]
      exact ⟨Int.ediv_nonneg h0 (by omega), Int.ediv_le_self _ h0⟩
    generalize Int.tdiv p s.length = Q at *
    rw [w64 (x := A) (by omega) (by omega), w64 (x := B) (by omega) (by omega), w64 (x := A * 131) (by omega) (by omega), w64 (x := B * 1117) (by omega) (by omega), w64 (x := p * 29) (by omega) (by omega), w64 (x := Q) (by omega) (by omega), w64 (x := Q * 53) (by omega) (by omega), w64 (x := A * 131 + B * 1117) (by omega) (by omega), w64 (x := A * 131 + B * 1117 + p * 29) (by omega) (by omega), w64 (x := A * 131 + B * 1117 + p * 29 + Q * 53) (by omega) (by omega)]
    have hX : 0 ≤ A * 131 + B * 1117 + p * 29 + Q * 53 ∧ A * 131 + B * 1117 + p * 29 + Q * 53 < 1000000000000 := by omega
    generalize A * 131 + B * 1117 + p * 29 + Q * 53 = X at *
    have e3 : wrap64 (Int.tdiv X 64) = X / 64 := by
      rw [Int.tdiv_eq_ediv_of_nonneg hX.1]
      exact w64 (by omega) (by omega)
    rw [e3]
    have hx := xor_nonneg (a := X) (b := X / 64) (by omega) (by omega) (by omega) (by omega)
    exact ⟨_, rfl, tmod_range hx.1 hn⟩

theorem spec_l31Of_ok (a b : Int) (ha : 0 ≤ a) (ha' : a ≤ 1000000000000) (hb : 1 ≤ b) (hb' : b ≤ 1000000000000) : EvE (fun k => spec_l31Of.f k a b) (· = (a / G a b, b / G a b)) := by
  unfold spec_l31Of.f
  refine EvE.bind (spec_l31Gcd_ok a b ha (by omega)) ?_
  rintro _ rfl
  have hg := G_pos (n := a) hb
  refine EvE.neg (by omega) (EvE.now _ ?_)
  have h1 : a / G a b ≤ a := Int.ediv_le_self _ ha
  have h2 : b / G a b ≤ b := Int.ediv_le_self _ (by omega)
  have h3 : 0 ≤ a / G a b := Int.ediv_nonneg ha (by omega)
  have h4 : 0 ≤ b / G a b := Int.ediv_nonneg (by omega) (by omega)
  rw [Int.tdiv_eq_ediv_of_nonneg ha, Int.tdiv_eq_ediv_of_nonneg (by omega), w64 (by omega) (by omega), w64 (by omega) (by omega)]

theorem spec_l92Ask_ok {s : List Int} (hs : Coded s) (p : Int) (h0 : 0 ≤ p) (h1 : p ≤ 900000) :
    EvE (fun k => spec_l92Ask.f k s p) (fun r => ∃ a b c d q, r = (a, b, c, d, q) ∧ p ≤ q ∧ q ≤ p + 6 ∧ 0 ≤ a ∧ a ≤ 4 ∧ 0 ≤ b ∧ b ≤ 10 ∧ 0 ≤ c ∧ c ≤ 3 ∧ 0 ≤ d ∧ d ≤ 6) := by
  unfold spec_l92Ask.f
  refine EvE.bind (spec_l6Rd_pick_ok hs p 3 h0 (by omega) (by omega) (by omega)) ?_
  rintro _ ⟨a, rfl, ha, ha'⟩
  dsimp only
  refine EvE.bind (spec_l6Rd_pick_ok hs _ 4 (by omega) (by omega) (by omega) (by omega)) ?_
  rintro _ ⟨b, rfl, hb, hb'⟩
  dsimp only
  refine EvE.bind (spec_l6Rd_pick_ok hs _ 3 (by omega) (by omega) (by omega) (by omega)) ?_
  rintro _ ⟨c, rfl, hc, hc'⟩
  dsimp only
  refine EvE.bind (spec_l6Rd_pick_ok hs _ 6 (by omega) (by omega) (by omega) (by omega)) ?_
  rintro _ ⟨d, rfl, hd, hd'⟩
  dsimp only
  rw [w64 (x := 1 + a) (by omega) (by omega), w64 (x := 1 + b) (by omega) (by omega), w64 (x := 1 + c) (by omega) (by omega), w64 (x := 1 + d) (by omega) (by omega)]
  refine EvE.bind (spec_l31Of_ok (1 + c) (1 + d) (by omega) (by omega) (by omega) (by omega)) ?_
  rintro _ rfl
  dsimp only
  have hg := G_pos (n := 1 + c) (d := 1 + d) (by omega)
  have g1 : (1 + c) / G (1 + c) (1 + d) ≤ 1 + c := Int.ediv_le_self _ (by omega)
  have g2 : (1 + d) / G (1 + c) (1 + d) ≤ 1 + d := Int.ediv_le_self _ (by omega)
  have g3 : 0 ≤ (1 + c) / G (1 + c) (1 + d) := Int.ediv_nonneg (by omega) (by omega)
  have g4 : 0 ≤ (1 + d) / G (1 + c) (1 + d) := Int.ediv_nonneg (by omega) (by omega)
  refine EvE.bind (spec_l6Rd_pick_ok hs _ 30 (by omega) (by omega) (by omega) (by omega)) ?_
  rintro _ ⟨e, rfl, he, he'⟩
  dsimp only
  refine EvE.ite (fun _ => ?_) (fun _ => EvE.ite (fun _ => ?_) (fun _ => EvE.ite (fun _ => ?_) (fun _ => EvE.now _ ⟨_, _, _, _, _, rfl, by omega⟩)))
  · refine EvE.bind (EvE.now (P := fun r => r = [0, 9, 10]) _ rfl) ?_
    rintro _ rfl
    refine EvE.bind (spec_l6Rd_pick_ok hs _ 3 (by omega) (by omega) (by omega) (by omega)) ?_
    rintro _ ⟨f, rfl, hf, hf'⟩
    dsimp only
    refine EvE.pos hf (EvE.pos (by simp; omega) (EvE.now _ ⟨_, _, _, _, _, rfl, ?_⟩))
    have hr : 0 ≤ rd [0, 9, 10] f ∧ rd [0, 9, 10] f ≤ 10 := by
      have : f = 0 ∨ f = 1 ∨ f = 2 := by omega
      rcases this with rfl | rfl | rfl <;> simp [rd]
    omega
  · refine EvE.bind (spec_l6Rd_pick_ok hs _ 3 (by omega) (by omega) (by omega) (by omega)) ?_
    rintro _ ⟨f, rfl, hf, hf'⟩
    exact EvE.now _ ⟨_, _, _, _, _, rfl, by omega⟩
  · refine EvE.bind (spec_l6Rd_pick_ok hs _ 5 (by omega) (by omega) (by omega) (by omega)) ?_
    rintro _ ⟨f, rfl, hf, hf'⟩
    exact EvE.now _ ⟨_, _, _, _, _, rfl, by omega⟩

theorem spec_l6Open_ok {l : List Int} (h : ∀ x ∈ l, (Lit.int .u8 x).wf = true) : EvE (fun _ => spec_l6Open.f l) (fun r => ∃ s, r = (s, 0) ∧ Coded s) := by
  have h := u8_range h
  unfold spec_l6Open.f
  refine EvE.ite (fun h1 => EvE.pos (by omega) (EvE.now _ ⟨_, rfl, fun x hx => h x (List.mem_of_mem_take hx), ?_⟩)) (fun h1 => EvE.now _ ⟨_, rfl, h, by omega⟩)
  rw [List.length_take]; omega

theorem spec_DrawAskText_ok {l : List Int} (h : ∀ x ∈ l, (Lit.int .u8 x).wf = true) : EvE (fun k => spec_DrawAskText.f k l) (fun _ => True) := by
  unfold spec_DrawAskText.f
  refine EvE.bind (spec_l6Open_ok h) ?_
  rintro _ ⟨s, rfl, hs⟩
  dsimp only
  refine EvE.bind (spec_l92Ask_ok hs 0 (by omega) (by omega)) ?_
  rintro _ ⟨a, b, c, d, q, rfl, _⟩
  exact EvE.now _ trivial

theorem ext_take (s : ByteArray) (n : Nat) : (s.extract 0 n).toList = s.data.toList.take n := by
  rw [ByteArray.toList_eq]
  simp
theorem ext_drop (s : ByteArray) (n : Nat) : (s.extract n s.size).toList = s.data.toList.drop n := by
  rw [ByteArray.toList_eq]
  have e : s.size = s.data.toList.length := Array.length_toList.symm
  have e2 : (s.extract n s.size).data.toList = (s.data.toList.drop n).take (s.size - n) := by simp
  rw [e2]
  exact List.take_of_length_le (by rw [List.length_drop]; omega)
theorem count_no {c : UInt8} {l : List UInt8} (h : c ∉ l) : l.count c = 0 := List.count_eq_zero.2 h
theorem AskWords_end (a b c d : Int) (h : aOk a b c d = true) :
    EvE (fun k => (impl_FracText.f k c d).bind fun t189 => ((some (([(⟨#[]⟩ : ByteArray), (⟨#[98, 105, 116, 32]⟩ : ByteArray), (⟨#[112, 105, 99, 107, 32]⟩ : ByteArray), (⟨#[110, 117, 109, 32]⟩ : ByteArray)] : List ByteArray) : List ByteArray)).bind fun y190 => (if 0 ≤ a then (if a < (y190.length : Int) then (if ((askL a b c d).count 32 : Int) = 2 then (if 0 ≤ ((rdOf ByteArray.empty y190 a).size : Int) then (if ((rdOf ByteArray.empty y190 a).size : Int) ≤ ((askTxt a b (fracTxt c d)).size : Int) then (if ((askTxt a b (fracTxt c d)).extract 0 (((rdOf ByteArray.empty y190 a).size : Int) : Int).toNat).toList = (rdOf ByteArray.empty y190 a).toList then (if 0 ≤ (wrap64 (((askTxt a b (fracTxt c d)).size : Int) - (t189.size : Int))) then (if (wrap64 (((askTxt a b (fracTxt c d)).size : Int) - (t189.size : Int))) ≤ ((askTxt a b (fracTxt c d)).size : Int) then (some (((askTxt a b (fracTxt c d)).extract ((wrap64 (((askTxt a b (fracTxt c d)).size : Int) - (t189.size : Int))) : Int).toNat (askTxt a b (fracTxt c d)).size).toList == t189.toList)) else (none)) else (none)) else (some false)) else (none)) else (none)) else (some false)) else (none)) else (none)))) (· = true) := by
  obtain ⟨k1, k2, k3, k4⟩ := aOk_iff.1 h
  have bb := fOk_bounds k3
  have e0 : txt c d = fracTxt c d := by unfold txt; rw [if_pos k3]
  refine EvE.bind (impl_FracText_ok c d) ?_
  rintro _ rfl
  rw [e0]
  refine EvE.bind (EvE.now (P := fun r => r = [(⟨#[]⟩ : ByteArray), ⟨#[98, 105, 116, 32]⟩, ⟨#[112, 105, 99, 107, 32]⟩, ⟨#[110, 117, 109, 32]⟩]) _ rfl) ?_
  rintro _ rfl
  have hcount : (askL a b c d).count 32 = 2 := by
    unfold askL fracL
    rw [List.count_append, List.count_cons, List.count_append, List.count_cons, List.count_append, List.count_cons, count_no (wordL_no k1), count_no (itoa_no (by omega) (by decide)), count_no (itoa_no (by omega) (by decide)), count_no (itoa_no (by omega) (by decide))]
    decide
  have hsz : (askTxt a b (fracTxt c d)).size = (askL a b c d).length := by
    rw [← askTxt_list]; exact Array.length_toList.symm
  have fsz : (fracTxt c d).size = (fracL c d).length := by
    rw [← fracTxt_list]; exact Array.length_toList.symm
  have hl : (askL a b c d).length = (wordL a ++ 32 :: (Lib.itoa b ++ [32])).length + (fracL c d).length := by
    unfold askL; simp <;> omega
  have s3 := fracTxt_size c d (by omega) (by omega)
  have s2 := itoa_short b (by omega) (by omega)
  have hw : rdOf ByteArray.empty [(⟨#[]⟩ : ByteArray), ⟨#[98, 105, 116, 32]⟩, ⟨#[112, 105, 99, 107, 32]⟩, ⟨#[110, 117, 109, 32]⟩] a = word a ++ ⟨#[32]⟩ := by
    rcases word_cases k1 with rfl | rfl | rfl <;> rfl
  have hws : (word a ++ ⟨#[32]⟩).data.toList = wordL a ++ [32] := by unfold wordL; simp
  have hwz : (word a ++ ⟨#[32]⟩).size = (wordL a).length + 1 := by
    rw [ByteArray.size_append]; unfold wordL; rw [Array.length_toList]; rfl
  have hw4 : (wordL a).length ≤ 4 := by
    rcases word_cases k1 with rfl | rfl | rfl <;> decide
  refine EvE.pos (by omega) (EvE.pos (by simp; omega) (EvE.pos (by rw [hcount]; rfl) ?_))
  rw [hw, hwz, hsz, fsz]
  have hl2 : (wordL a).length + 1 ≤ (askL a b c d).length := by unfold askL; simp <;> omega
  have hbig : (askL a b c d).length ≤ 100 := by
    rw [hl, List.length_append, List.length_cons, List.length_append, List.length_singleton]; omega
  refine EvE.pos (by omega) (EvE.pos (by omega) (EvE.pos ?_ ?_))
  · rw [Int.toNat_natCast, ext_take, toL, askTxt_list, hws]
    have e : askL a b c d = (wordL a ++ [32]) ++ (Lib.itoa b ++ 32 :: fracL c d) := by unfold askL; simp
    rw [e]
    exact List.take_left' (by simp)
  · rw [w64 (x := ((askL a b c d).length : Int) - ((fracL c d).length : Int)) (by omega) (by omega)]
    refine EvE.pos (by omega) (EvE.pos (by omega) (EvE.now _ ?_))
    have e2 : (((askL a b c d).length : Int) - ((fracL c d).length : Int)).toNat = (wordL a ++ 32 :: (Lib.itoa b ++ [32])).length := by omega
    rw [e2, ← hsz, ext_drop, toL, askTxt_list, fracTxt_list, beq_iff_eq]
    have e : askL a b c d = (wordL a ++ 32 :: (Lib.itoa b ++ [32])) ++ fracL c d := by unfold askL; simp
    rw [e]
    exact List.drop_left' rfl
theorem AskWords_loop (a b c d : Int) (h : aOk a b c d = true) (m : Nat) : ∀ (i : Nat), i + m = (askL a b c d).length → EvE (fun k => laws_FnAskWords.l0 k (askTxt a b (fracTxt c d)) ((((askL a b c d).take i).count 32 : Nat) : Int) (i : Int) a b c d) (· = true) := by
  have hsz : (askTxt a b (fracTxt c d)).size = (askL a b c d).length := by
    rw [← askTxt_list]; exact Array.length_toList.symm
  obtain ⟨k1, k2, k3, k4⟩ := aOk_iff.1 h
  have bb := fOk_bounds k3
  have s3 := fracTxt_size c d (by omega) (by omega)
  have fsz : (fracTxt c d).size = (fracL c d).length := by
    rw [← fracTxt_list]; exact Array.length_toList.symm
  have s2 := itoa_short b (by omega) (by omega)
  have hw4 : (wordL a).length ≤ 4 := by
    rcases word_cases k1 with rfl | rfl | rfl <;> decide
  have hbig : (askL a b c d).length ≤ 100 := by unfold askL; simp <;> omega
  induction m with
  | zero =>
    intro i hi
    refine EvE.succ ?_
    simp only [laws_FnAskWords.l0]
    rw [hsz]
    refine EvE.neg (by omega) ?_
    rw [List.take_of_length_le (by omega)]
    have := AskWords_end a b c d h
    rw [hsz] at this
    exact this
  | succ m ih =>
    intro i hi
    refine EvE.succ ?_
    simp only [laws_FnAskWords.l0]
    have hb : bt (askTxt a b (fracTxt c d)) (i : Int) = (((askL a b c d)[i]'(by omega)).toNat : Int) := by
      rw [bt_nat (by omega), askTxt_list, List.getD_eq_getElem?_getD, List.getElem?_eq_getElem (by omega)]; rfl
    have hcl : ((askL a b c d).take i).count 32 ≤ 100 := Nat.le_trans List.count_le_length (by rw [List.length_take]; omega)
    have ht : (askL a b c d).take (i + 1) = (askL a b c d).take i ++ [(askL a b c d)[i]'(by omega)] := (List.take_append_getElem (by omega)).symm
    have hs := ih (i + 1) (by omega)
    rw [ht, List.count_append] at hs
    rw [hb, w64 (x := (i : Int) + 1) (by omega) (by omega), w64 (x := ((((askL a b c d).take i).count 32 : Nat) : Int) + 1) (by omega) (by omega)]
    refine EvE.pos (by rw [hsz]; omega) (EvE.pos (by omega) (EvE.ite (fun h32 => ?_) (fun h32 => ?_)))
    · have e : (askL a b c d)[i]'(by omega) = 32 := UInt8.toNat_inj.1 (by have : (32 : UInt8).toNat = 32 := rfl; omega)
      rw [e] at hs
      have e2 : ((((askL a b c d).take i).count 32 + [(32 : UInt8)].count 32 : Nat) : Int) = ((((askL a b c d).take i).count 32 : Nat) : Int) + 1 := by simp
      rw [e2] at hs
      exact hs
    · have e : (askL a b c d)[i]'(by omega) ≠ 32 := fun e => h32 (by rw [e]; rfl)
      have e2 : [(askL a b c d)[i]'(by omega)].count 32 = 0 := by rw [List.count_eq_zero]; simpa using fun e' => e e'.symm
      rw [e2] at hs
      exact hs
theorem FnAskWords : laws_FnAskWords.Pure := by
  intro l _ _ hw
  refine EvE.rounds ?_
  unfold laws_FnAskWords.f
  refine EvE.ite (fun _ => EvE.now _ rfl) (fun _ => ?_)
  refine EvE.bind (spec_DrawAskText_ok hw) ?_
  rintro ⟨a, b, c, d⟩ _
  dsimp only
  refine EvE.bind (impl_AskText_ok a b c d) ?_
  rintro _ rfl
  refine EvE.bind (spec_AskText_ok a b c d) ?_
  rintro _ rfl
  refine EvE.pos rfl (EvE.succ ?_)
  simp only [laws_FnAskWords.j0]
  refine EvE.ite (fun _ => ?_) (fun h1 => ?_)
  · refine EvE.bind (spec_AskText_ok a b c d) ?_
    rintro _ rfl
    exact EvE.now _ (by simp)
  · have o1 : aOk a b c d = true := by
      by_cases h : aOk a b c d = true
      · exact h
      · unfold aTxt at h1
        rw [if_neg h, toL] at h1
        exact absurd rfl h1
    have e : aTxt a b c d = askTxt a b (fracTxt c d) := by unfold aTxt; rw [if_pos o1]
    rw [e]
    exact AskWords_loop a b c d o1 _ 0 (Nat.zero_add _)

end Go.Proofs.YthcbichnjgkjiaaDoor.Pure
