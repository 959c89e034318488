/- Plain words for the laws' pure statements: what a printed function comes to from some round on, and the arithmetic of fractions. It speaks of no program; it has no conditions of its own. -/
import Derived.Test.YtmgpihkjnlicpaaWWords
import Derived.Laws.BitsLemmas
namespace Go.Proofs.Ytmgpihkjnlicpaa.Pb
open Go.RowKit Go.Proofs.YtmgpihkjnlicpaaW.PrintWords

/-- From some number of rounds on the function tells one answer, and of this answer P holds. -/
def EvE {α : Type} (g : Nat → Option α) (P : α → Prop) : Prop := ∃ r, Ev g r ∧ P r
theorem EvE.now {α : Type} {P : α → Prop} (r : α) (h : P r) : EvE (fun _ => some r) P := ⟨r, Ev.now r, h⟩
theorem EvE.bind {α β : Type} {g : Nat → Option α} {f : Nat → α → Option β} {P : α → Prop} {Q : β → Prop} (h : EvE g P) (k : ∀ a, P a → EvE (fun n => f n a) Q) : EvE (fun n => (g n).bind (f n)) Q := by
  obtain ⟨a, ha, hp⟩ := h
  obtain ⟨b, hb, hq⟩ := k a hp
  exact ⟨b, Ev.bind ha hb, hq⟩
theorem EvE.ite {α : Type} {c : Prop} [Decidable c] {f g : Nat → Option α} {P : α → Prop} (ht : c → EvE f P) (hf : ¬ c → EvE g P) : EvE (fun n => if c then f n else g n) P := by
  by_cases h : c
  · simp only [if_pos h]; exact ht h
  · simp only [if_neg h]; exact hf h
theorem EvE.pos {α : Type} {c : Prop} [Decidable c] {f g : Nat → Option α} {P : α → Prop} (h : c) (ht : EvE f P) : EvE (fun n => if c then f n else g n) P := by
  simp only [if_pos h]; exact ht
theorem EvE.neg {α : Type} {c : Prop} [Decidable c] {f g : Nat → Option α} {P : α → Prop} (h : ¬ c) (ht : EvE g P) : EvE (fun n => if c then f n else g n) P := by
  simp only [if_neg h]; exact ht
theorem EvE.succ {α : Type} {g : Nat → Option α} {P : α → Prop} (h : EvE (fun k => g (k + 1)) P) : EvE g P := by
  obtain ⟨r, hr, hp⟩ := h
  exact ⟨r, Ev.step (fun _ => rfl) hr, hp⟩
theorem EvE.mono {α : Type} {g : Nat → Option α} {P Q : α → Prop} (h : EvE g P) (k : ∀ r, P r → Q r) : EvE g Q := by
  obtain ⟨r, hr, hp⟩ := h
  exact ⟨r, hr, k r hp⟩
theorem EvE.rounds {α : Type} {g : Nat → Option α} {r : α} (h : EvE g (· = r)) : ∃ k, g k = some r := by
  obtain ⟨r', hr, rfl⟩ := h
  exact hr.rounds
theorem EvE.tail {α : Type} {g : Nat → Option α} {P : α → Prop} (h : EvE g P) : EvE (fun n => (g n).bind fun t => some t) P := by
  obtain ⟨r, hr, hp⟩ := h
  refine ⟨r, Ev.congr (fun k => ?_) hr, hp⟩
  cases g k <;> rfl

theorem w64 {x : Int} (h0 : -9223372036854775808 ≤ x) (h1 : x < 9223372036854775808) : wrap64 x = x := by
  unfold wrap64; omega
theorem w64_range (x : Int) : -9223372036854775808 ≤ wrap64 x ∧ wrap64 x < 9223372036854775808 := by
  unfold wrap64; omega

/-! ### A drawn code: its bytes -/
def Coded (s : List Int) : Prop := (∀ x ∈ s, 0 ≤ x ∧ x ≤ 255) ∧ s.length ≤ 2000
theorem rd_range {s : List Int} (h : ∀ x ∈ s, 0 ≤ x ∧ x ≤ 255) (i : Int) : 0 ≤ rd s i ∧ rd s i ≤ 255 := by
  unfold rd
  by_cases hi : i.toNat < s.length
  · rw [List.getD_eq_getElem?_getD, List.getElem?_eq_getElem hi]
    exact h _ (List.getElem_mem hi)
  · rw [List.getD_eq_getElem?_getD, List.getElem?_eq_none (by omega)]
    simp
theorem u8_range {l : List Int} (h : ∀ x ∈ l, (Lit.int .u8 x).wf = true) : ∀ x ∈ l, 0 ≤ x ∧ x ≤ 255 := by
  intro x hx
  have := h x hx
  simp [Lit.wf, IntKind.min, IntKind.max, IntKind.signed, IntKind.bits] at this
  omega
theorem i64_range {x : Int} (h : (Lit.int .i64 x).wf = true) : -9223372036854775808 ≤ x ∧ x < 9223372036854775808 := by
  simp [Lit.wf, IntKind.min, IntKind.max, IntKind.signed, IntKind.bits] at h
  omega
theorem xor_nonneg {a b : Int} (ha : 0 ≤ a) (ha' : a < 9223372036854775808) (hb : 0 ≤ b) (hb' : b < 9223372036854775808) : 0 ≤ Go.bits .xor .i64 a b ∧ Go.bits .xor .i64 a b < 9223372036854775808 := by
  obtain ⟨x, rfl⟩ := Int.eq_ofNat_of_zero_le ha
  obtain ⟨y, rfl⟩ := Int.eq_ofNat_of_zero_le hb
  have hx : x ^^^ y < 2 ^ 63 := Nat.xor_lt_two_pow (by omega) (by omega)
  have h1 : (BitVec.ofInt 64 (x : Int)).toNat = x := by
    rw [BitVec.ofInt_natCast, BitVec.toNat_ofNat]; exact Nat.mod_eq_of_lt (by omega)
  have h2 : (BitVec.ofInt 64 (y : Int)).toNat = y := by
    rw [BitVec.ofInt_natCast, BitVec.toNat_ofNat]; exact Nat.mod_eq_of_lt (by omega)
  have e : Go.bits .xor .i64 (x : Int) (y : Int) = ((x ^^^ y : Nat) : Int) := by
    show IntKind.i64.wrap ((BitVec.ofInt 64 (x : Int) ^^^ BitVec.ofInt 64 (y : Int)).toNat : Int) = _
    rw [BitVec.toNat_xor, h1, h2, IntKind.wrap_i64]
    omega
  rw [e]
  omega
theorem tmod_range {a n : Int} (ha : 0 ≤ a) (hn : 1 ≤ n) : 0 ≤ Int.tmod a n ∧ Int.tmod a n < n :=
  ⟨Int.tmod_nonneg _ ha, Int.tmod_lt_of_pos _ (by omega)⟩

/-! ### Lists of whole numbers, place by place -/
theorem rd_nat {xs : List Int} {i : Nat} (h : i < xs.length) : rd xs (i : Int) = xs[i] := by
  unfold rd
  rw [Int.toNat_natCast, List.getD_eq_getElem?_getD, List.getElem?_eq_getElem h]
  rfl
theorem drop_rd {xs : List Int} {i : Nat} (h : i < xs.length) : xs.drop i = rd xs (i : Int) :: xs.drop (i + 1) := by
  rw [rd_nat h]
  exact List.drop_eq_getElem_cons h
theorem take_rd {xs : List Int} {i : Nat} (h : i < xs.length) : xs.take (i + 1) = xs.take i ++ [rd xs (i : Int)] := by
  rw [rd_nat h]
  exact (List.take_append_getElem h).symm
theorem take_set_succ {α : Type} {xs : List α} {i : Nat} (h : i < xs.length) (v : α) : (xs.set i v).take (i + 1) = xs.take i ++ [v] := by
  apply List.ext_getElem?
  intro j
  rw [List.getElem?_take, List.getElem?_set]
  by_cases h1 : j < i
  · rw [List.getElem?_append_left (by rw [List.length_take]; omega), List.getElem?_take]
    simp [h1, show j < i + 1 by omega, show ¬ i = j by omega]
  · by_cases h2 : j = i
    · subst h2
      rw [List.getElem?_append_right (by rw [List.length_take]; omega)]
      simp [h, List.length_take, Nat.min_eq_left (Nat.le_of_lt h)]
    · rw [List.getElem?_eq_none (l := xs.take i ++ [v]) (by simp [List.length_take]; omega)]
      simp [show ¬ j < i + 1 by omega]
theorem mem_rd {xs : List Int} {i : Nat} (h : i < xs.length) : rd xs (i : Int) ∈ xs := by
  rw [rd_nat h]
  exact List.getElem_mem h
def marks (n : Nat) : List Int := (List.range n).map fun j : Nat => (j : Int) + 1
theorem marks_length (n : Nat) : (marks n).length = n := by simp [marks]
theorem marks_succ (n : Nat) : marks (n + 1) = marks n ++ [(n : Int) + 1] := by simp [marks, List.range_succ]
theorem marks_rd {n i : Nat} (h : i < n) : rd (marks n) (i : Int) = (i : Int) + 1 := by
  rw [rd_nat (by rw [marks_length]; exact h)]
  simp [marks]

/-! ### Lists of any kind, place by place; strings, byte by byte -/
theorem ro_nat {α : Type} {d : α} {xs : List α} {i : Nat} (h : i < xs.length) : rdOf d xs (i : Int) = xs[i] := by
  unfold rdOf
  rw [Int.toNat_natCast, List.getD_eq_getElem?_getD, List.getElem?_eq_getElem h]
  rfl
theorem drop_ro {α : Type} (d : α) {xs : List α} {i : Nat} (h : i < xs.length) : xs.drop i = rdOf d xs (i : Int) :: xs.drop (i + 1) := by
  rw [ro_nat h]
  exact List.drop_eq_getElem_cons h
theorem take_ro {α : Type} (d : α) {xs : List α} {i : Nat} (h : i < xs.length) : xs.take (i + 1) = xs.take i ++ [rdOf d xs (i : Int)] := by
  rw [ro_nat h]
  exact (List.take_append_getElem h).symm
theorem mem_ro {α : Type} (d : α) {xs : List α} {i : Nat} (h : i < xs.length) : rdOf d xs (i : Int) ∈ xs := by
  rw [ro_nat h]
  exact List.getElem_mem h
theorem bt_nat {s : ByteArray} {i : Nat} (h : i < s.size) : bt s (i : Int) = ((s.data.toList.getD i 0).toNat : Int) := by
  unfold bt
  rw [dif_pos (by rw [Int.toNat_natCast]; exact h)]
  have h2 : i < s.data.toList.length := by simpa using h
  rw [List.getD_eq_getElem?_getD, List.getElem?_eq_getElem h2, Option.getD_some]
  simp [ByteArray.getElem_eq_getElem_data]

/-! ### Fractions -/
def G (n d : Int) : Int := (Int.gcd n d : Int)
def fOk (n d : Int) : Bool := decide (0 ≤ n) && decide (n ≤ 999) && decide (1 ≤ d) && decide (d ≤ 60) && decide (G n d = 1)
def red (n d : Int) : Int × Int × Bool := if fOk (n / G n d) (d / G n d) = true then (n / G n d, d / G n d, true) else (0, 0, false)
def fOf (n d : Int) : Int × Int × Bool := if 0 ≤ n ∧ n ≤ 99999 ∧ 1 ≤ d ∧ d ≤ 99999 then red n d else (0, 0, false)
def fSum (a b c d : Int) : Int × Int × Bool := if fOk a b = true ∧ fOk c d = true then red (a * d + c * b) (b * d) else (0, 0, false)
def sg (x y : Int) : Int := if x < y then -1 else if y < x then 1 else 0
def fCmp (a b c d : Int) : Int := if fOk a b = true ∧ fOk c d = true then sg (a * d) (c * b) else 0
theorem fOk_iff {n d : Int} : fOk n d = true ↔ (0 ≤ n ∧ n ≤ 999 ∧ 1 ≤ d ∧ d ≤ 60 ∧ G n d = 1) := by
  simp [fOk, and_assoc]
theorem G_pos {n d : Int} (hd : 1 ≤ d) : 1 ≤ G n d := by
  unfold G
  have : Int.gcd n d ≠ 0 := fun e => by rw [Int.gcd_eq_zero_iff] at e; omega
  omega
theorem G_dvd_left (n d : Int) : G n d ∣ n := Int.gcd_dvd_left ..
theorem G_dvd_right (n d : Int) : G n d ∣ d := Int.gcd_dvd_right ..
theorem G_div {n d : Int} (hd : 1 ≤ d) : G (n / G n d) (d / G n d) = 1 := by
  have h : 0 < Int.gcd n d := by have := G_pos (n := n) hd; unfold G at this; omega
  unfold G
  rw [Int.gcd_ediv_gcd_ediv_gcd h]; rfl
theorem G_mul_div_left (n d : Int) : G n d * (n / G n d) = n := Int.mul_ediv_cancel' (G_dvd_left n d)
theorem G_mul_div_right (n d : Int) : G n d * (d / G n d) = d := Int.mul_ediv_cancel' (G_dvd_right n d)
theorem dvd_of_coprime {k m n : Int} (h1 : Int.gcd k n = 1) (h2 : k ∣ m * n) : k ∣ m := by
  have h2 := Int.natAbs_dvd_natAbs.2 h2
  rw [Int.natAbs_mul] at h2
  exact Int.natAbs_dvd_natAbs.1 (Nat.Coprime.dvd_of_dvd_mul_right (show Nat.Coprime k.natAbs n.natAbs from h1) h2)
/-- Two quotients without a common divisor that are the same are the same to the number. -/
theorem same_of_cross {n d p q : Int} (hd : 1 ≤ d) (hq : 1 ≤ q) (h1 : G n d = 1) (h2 : G p q = 1) (h : n * q = p * d) : n = p ∧ d = q := by
  have hg1 : Int.gcd n d = 1 := by unfold G at h1; omega
  have hg2 : Int.gcd p q = 1 := by unfold G at h2; omega
  have hdq : d ∣ q := by
    have : d ∣ q * n := ⟨p, by rw [Int.mul_comm q n, h, Int.mul_comm]⟩
    exact dvd_of_coprime (by rw [Int.gcd_comm]; exact hg1) this
  have hqd : q ∣ d := by
    have : q ∣ d * p := ⟨n, by rw [Int.mul_comm d p, ← h, Int.mul_comm]⟩
    exact dvd_of_coprime (by rw [Int.gcd_comm]; exact hg2) this
  have e : d = q := by
    have := Int.le_of_dvd (by omega) hdq
    have := Int.le_of_dvd (by omega) hqd
    omega
  subst e
  exact ⟨Int.eq_of_mul_eq_mul_right (by omega) h, rfl⟩
theorem red_cross {n d : Int} (hd : 1 ≤ d) : (n / G n d) * d = n * (d / G n d) := by
  have h1 := G_mul_div_left n d
  have h2 := G_mul_div_right n d
  generalize n / G n d = x at *
  generalize d / G n d = y at *
  generalize G n d = g at *
  subst h1; subst h2
  rw [Int.mul_left_comm, Int.mul_right_comm, Int.mul_assoc]
  simp [Int.mul_comm, Int.mul_left_comm]
theorem div_pos_of {n d : Int} (hd : 1 ≤ d) : 1 ≤ d / G n d := by
  have h2 := G_mul_div_right n d
  have hg := G_pos (n := n) hd
  apply Int.not_lt.1
  intro h
  have : G n d * (d / G n d) ≤ 0 := Int.mul_nonpos_of_nonneg_of_nonpos (by omega) (by omega)
  omega
/-- What 'red' tells, and when. -/
theorem red_true {n d p q : Int} (hd : 1 ≤ d) : red n d = (p, q, true) ↔ fOk p q = true ∧ p * d = n * q := by
  unfold red
  constructor
  · intro h
    split at h
    · injection h with h1 h2
      injection h2 with h2 _
      subst h1; subst h2
      exact ⟨‹_›, red_cross hd⟩
    · injection h with _ h2
      injection h2 with _ h2
      cases h2
  · rintro ⟨h1, h2⟩
    have h1' := fOk_iff.1 h1
    obtain ⟨e1, e2⟩ := same_of_cross (n := n / G n d) (d := d / G n d) (p := p) (q := q) (div_pos_of hd) (by omega) (G_div hd) h1'.2.2.2.2 (by
      have hx := red_cross (n := n) hd
      have hy := div_pos_of (n := n) hd
      apply Int.eq_of_mul_eq_mul_right (a := d) (by omega)
      calc n / G n d * q * d = (n / G n d * d) * q := by rw [Int.mul_right_comm]
        _ = n * (d / G n d) * q := by rw [hx]
        _ = (n * q) * (d / G n d) := by rw [Int.mul_right_comm]
        _ = (p * d) * (d / G n d) := by rw [h2]
        _ = p * (d / G n d) * d := by rw [Int.mul_right_comm])
    rw [e1, e2, if_pos h1]
theorem red_cases (n d : Int) : red n d = (0, 0, false) ∨ ∃ p q, red n d = (p, q, true) := by
  unfold red
  split
  · exact .inr ⟨_, _, rfl⟩
  · exact .inl rfl
theorem red_bounds {n d p q : Int} (hd : 1 ≤ d) (h : red n d = (p, q, true)) : 0 ≤ p ∧ p ≤ 999 ∧ 1 ≤ q ∧ q ≤ 60 := by
  have := fOk_iff.1 ((red_true hd).1 h).1
  omega
theorem fOk_bounds {n d : Int} (h : fOk n d = true) : 0 ≤ n ∧ n ≤ 999 ∧ 1 ≤ d ∧ d ≤ 60 := by
  have := fOk_iff.1 h
  omega
theorem mul_range {a b : Int} {A B : Int} (ha : 0 ≤ a) (ha' : a ≤ A) (hb : 0 ≤ b) (hb' : b ≤ B) : 0 ≤ a * b ∧ a * b ≤ A * B :=
  ⟨Int.mul_nonneg ha hb, Int.mul_le_mul ha' hb' hb (Int.le_trans ha ha')⟩
theorem mul_pos_of {a b : Int} (ha : 1 ≤ a) (hb : 1 ≤ b) : 1 ≤ a * b := by
  have := Int.mul_pos (a := a) (b := b) (by omega) (by omega)
  omega
theorem fOk_twice (a b : Int) : fOk (2 * a) (2 * b) = false := by
  rw [Bool.eq_false_iff]
  intro h
  have h := (fOk_iff.1 h).2.2.2.2
  unfold G at h
  rw [Int.gcd_mul_left] at h
  have : (2 : Int).natAbs = 2 := rfl
  rw [this] at h
  omega
theorem fOk_zero (a : Int) : fOk a 0 = false := by
  rw [Bool.eq_false_iff]
  intro h
  have h := fOk_iff.1 h
  omega
theorem fOk_neg (b : Int) : fOk (-1) b = false := by
  rw [Bool.eq_false_iff]
  intro h
  have h := fOk_iff.1 h
  omega
theorem red_congr {n d n' d' : Int} (hd : 1 ≤ d) (hd' : 1 ≤ d') (h : n * d' = n' * d) : red n d = red n' d' := by
  have hx := red_cross (n := n) hd
  have hx' := red_cross (n := n') hd'
  have hy := div_pos_of (n := n) hd
  have hy' := div_pos_of (n := n') hd'
  obtain ⟨e1, e2⟩ := same_of_cross (n := n / G n d) (d := d / G n d) (p := n' / G n' d') (q := d' / G n' d') hy hy' (G_div hd) (G_div hd') (by
    generalize n / G n d = x at *
    generalize d / G n d = y at *
    generalize n' / G n' d' = x' at *
    generalize d' / G n' d' = y' at *
    have hm : d * d' ≠ 0 := Int.mul_ne_zero (by omega) (by omega)
    apply Int.eq_of_mul_eq_mul_right hm
    grind)
  unfold red
  rw [e1, e2]
theorem red_self {n d : Int} (h : fOk n d = true) : red n d = (n, d, true) := (red_true (fOk_iff.1 h).2.2.1).2 ⟨h, rfl⟩
theorem fSum_comm (a b c d : Int) : fSum c d a b = fSum a b c d := by
  unfold fSum
  by_cases h : fOk a b = true ∧ fOk c d = true
  · rw [if_pos h, if_pos ⟨h.2, h.1⟩, Int.add_comm, Int.mul_comm d b]
  · rw [if_neg h, if_neg (fun e => h ⟨e.2, e.1⟩)]
theorem fSum_zero {a b : Int} (h : fOk a b = true) : fSum a b 0 1 = (a, b, true) := by
  have h1 : fOk 0 1 = true := by decide
  unfold fSum
  rw [if_pos ⟨h, h1⟩]
  simpa using red_self h
theorem fSum_ok {a b c d : Int} (h : fOk a b = true) (h2 : fOk c d = true) : fSum a b c d = red (a * d + c * b) (b * d) := by
  unfold fSum
  rw [if_pos ⟨h, h2⟩]
theorem fSum_true {a b c d p q : Int} (h : fSum a b c d = (p, q, true)) : fOk a b = true ∧ fOk c d = true ∧ fOk p q = true ∧ p * (b * d) = (a * d + c * b) * q := by
  unfold fSum at h
  by_cases hc : fOk a b = true ∧ fOk c d = true
  · rw [if_pos hc] at h
    have h1 := fOk_bounds hc.1
    have h2 := fOk_bounds hc.2
    obtain ⟨e1, e2⟩ := (red_true (mul_pos_of (by omega) (by omega))).1 h
    exact ⟨hc.1, hc.2, e1, e2⟩
  · rw [if_neg hc] at h
    injection h with _ h
    injection h with _ h
    cases h
theorem fSum_cases (a b c d : Int) : fSum a b c d = (0, 0, false) ∨ ∃ p q, fSum a b c d = (p, q, true) := by
  unfold fSum
  split
  · exact red_cases _ _
  · exact .inl rfl
theorem fOf_cases (a b : Int) : fOf a b = (0, 0, false) ∨ ∃ p q, fOf a b = (p, q, true) := by
  unfold fOf
  split
  · exact red_cases _ _
  · exact .inl rfl
theorem fOf_true {a b p q : Int} (h : fOf a b = (p, q, true)) : 0 ≤ a ∧ a ≤ 99999 ∧ 1 ≤ b ∧ b ≤ 99999 ∧ fOk p q = true ∧ p * b = a * q := by
  unfold fOf at h
  by_cases hc : 0 ≤ a ∧ a ≤ 99999 ∧ 1 ≤ b ∧ b ≤ 99999
  · rw [if_pos hc] at h
    obtain ⟨e1, e2⟩ := (red_true hc.2.2.1).1 h
    exact ⟨hc.1, hc.2.1, hc.2.2.1, hc.2.2.2, e1, e2⟩
  · rw [if_neg hc] at h
    injection h with _ h
    injection h with _ h
    cases h
/-- Of three it does not matter which are put together first. -/
theorem fSum_assoc {na da nb db nc dc p q r s : Int} (h1 : fSum na da nb db = (p, q, true)) (h2 : fSum nb db nc dc = (r, s, true)) :
    fSum p q nc dc = fSum na da r s := by
  obtain ⟨ha, hb, hf, e1⟩ := fSum_true h1
  obtain ⟨_, hc, hg, e2⟩ := fSum_true h2
  have ba := fOk_bounds ha
  have bb := fOk_bounds hb
  have bc := fOk_bounds hc
  have bf := fOk_bounds hf
  have bg := fOk_bounds hg
  unfold fSum
  rw [if_pos ⟨hf, hc⟩, if_pos ⟨ha, hg⟩]
  refine red_congr (mul_pos_of (by omega) (by omega)) (mul_pos_of (by omega) (by omega)) ?_
  apply Int.eq_of_mul_eq_mul_right (a := db) (by omega)
  clear h1 h2 ha hb hc hf hg ba bb bc bf bg
  grind
theorem fSum_twice {a b : Int} (h : fOk a b = true) : fSum a b a b = fOf (2 * a) b := by
  have ba := fOk_bounds h
  unfold fSum fOf
  rw [if_pos ⟨h, h⟩, if_pos (by omega)]
  refine red_congr (mul_pos_of (by omega) (by omega)) (by omega) ?_
  clear h ba
  grind
theorem fOf_scale {a b k : Int} {p q : Int} (h : fOf a b = (p, q, true)) (hk : 1 ≤ k) (ha : a * k ≤ 99999) (hb : b * k ≤ 99999) : fOf (a * k) (b * k) = (p, q, true) := by
  obtain ⟨h1, h2, h3, h4, h5, h6⟩ := fOf_true h
  unfold fOf
  have := mul_pos_of h3 hk
  have := Int.mul_nonneg h1 (show 0 ≤ k by omega)
  rw [if_pos (by omega)]
  refine (red_true (by omega)).2 ⟨h5, ?_⟩
  grind
theorem no_common {p q d : Int} (h : fOk p q = true) (hd : 2 ≤ d) (h1 : Int.tmod p d = 0) (h2 : Int.tmod q d = 0) : False := by
  have h := fOk_iff.1 h
  have hp : d ∣ p := Int.dvd_of_tmod_eq_zero h1
  have hq : d ∣ q := Int.dvd_of_tmod_eq_zero h2
  have hg := Int.dvd_coe_gcd hp hq
  have e : ((Int.gcd p q : Nat) : Int) = 1 := h.2.2.2.2
  rw [e] at hg
  have := Int.le_of_dvd (by omega) hg
  omega
theorem sg_neg (x y : Int) : sg y x = - sg x y := by
  unfold sg; split <;> split <;> (try split) <;> omega
theorem sg_zero {x y : Int} : sg x y = 0 ↔ x = y := by
  unfold sg; split <;> (try split) <;> omega
theorem sg_lt {x y : Int} : sg x y = -1 ↔ x < y := by
  unfold sg; split <;> (try split) <;> omega
theorem sg_ge {x y : Int} : 0 ≤ sg x y ↔ y ≤ x := by
  unfold sg; split <;> (try split) <;> omega
theorem sg_range (x y : Int) : -1 ≤ sg x y ∧ sg x y ≤ 1 := by
  unfold sg; split <;> (try split) <;> omega
theorem sg_mul {x y c : Int} (hc : 1 ≤ c) : sg (x * c) (y * c) = sg x y := by
  have e1 : (x * c < y * c) ↔ x < y := Int.mul_lt_mul_right (by omega)
  have e2 : (y * c < x * c) ↔ y < x := Int.mul_lt_mul_right (by omega)
  unfold sg
  simp only [e1, e2]
theorem sg_add (x y c : Int) : sg (x + c) (y + c) = sg x y := by
  unfold sg; split <;> split <;> (try split) <;> (try split) <;> omega
theorem fCmp_zero {a b c d : Int} (h1 : fOk a b = true) (h2 : fOk c d = true) : fCmp a b c d = 0 ↔ (a = c ∧ b = d) := by
  have ba := fOk_iff.1 h1
  have bb := fOk_iff.1 h2
  unfold fCmp
  rw [if_pos ⟨h1, h2⟩, sg_zero]
  constructor
  · intro h
    exact same_of_cross (by omega) (by omega) ba.2.2.2.2 bb.2.2.2.2 h
  · rintro ⟨rfl, rfl⟩; rfl
theorem fCmp_swap (a b c d : Int) : fCmp c d a b = - fCmp a b c d := by
  unfold fCmp
  by_cases h : fOk a b = true ∧ fOk c d = true
  · rw [if_pos h, if_pos ⟨h.2, h.1⟩, sg_neg]
  · rw [if_neg h, if_neg (fun e => h ⟨e.2, e.1⟩)]; rfl
theorem fCmp_range (a b c d : Int) : -1 ≤ fCmp a b c d ∧ fCmp a b c d ≤ 1 := by
  unfold fCmp
  split
  · exact sg_range _ _
  · omega
/-- What is put to both leaves their order. -/
theorem fCmp_add {na da nb db k d p q r s : Int} (h1 : fSum na da k d = (p, q, true)) (h2 : fSum nb db k d = (r, s, true)) : fCmp p q r s = fCmp na da nb db := by
  obtain ⟨ha, hk, hf, e1⟩ := fSum_true h1
  obtain ⟨hb, _, hg, e2⟩ := fSum_true h2
  have ba := fOk_bounds ha
  have bb := fOk_bounds hb
  have bk := fOk_bounds hk
  have bf := fOk_bounds hf
  have bg := fOk_bounds hg
  unfold fCmp
  rw [if_pos ⟨hf, hg⟩, if_pos ⟨ha, hb⟩]
  have m1 : 1 ≤ (da * d) * (db * d) := mul_pos_of (mul_pos_of (by omega) (by omega)) (mul_pos_of (by omega) (by omega))
  have m2 : 1 ≤ (q * s) * (d * d) := mul_pos_of (mul_pos_of (by omega) (by omega)) (mul_pos_of (by omega) (by omega))
  have m3 : 1 ≤ q * s * d := mul_pos_of (mul_pos_of (by omega) (by omega)) (by omega)
  rw [← sg_mul m1 (x := p * s), ← sg_mul m2 (x := na * db), ← sg_add (na * db * (q * s * (d * d))) _ (k * da * db * q * s * d)]
  clear h1 h2 ha hb hf hg hk ba bb bk bf bg m1 m2 m3
  congr 1 <;> grind
theorem fCmp_trans {a b c d e f : Int} (h1 : fCmp a b c d = -1) (h2 : fCmp c d e f = -1) : fCmp a b e f = -1 := by
  unfold fCmp at *
  by_cases c1 : fOk a b = true ∧ fOk c d = true
  · by_cases c2 : fOk c d = true ∧ fOk e f = true
    · rw [if_pos c1] at h1
      rw [if_pos c2] at h2
      rw [if_pos ⟨c1.1, c2.2⟩]
      have ba := fOk_bounds c1.1
      have bb := fOk_bounds c1.2
      have bc := fOk_bounds c2.2
      rw [sg_lt] at *
      have x1 : a * d * f < c * b * f := Int.mul_lt_mul_of_pos_right h1 (by omega)
      have x2 : c * f * b < e * d * b := Int.mul_lt_mul_of_pos_right h2 (by omega)
      have e1 : c * b * f = c * f * b := Int.mul_right_comm ..
      have e2 : a * d * f = a * f * d := Int.mul_right_comm ..
      have e3 : e * d * b = e * b * d := Int.mul_right_comm ..
      exact Int.lt_of_mul_lt_mul_right (a := d) (by omega) (by omega)
    · rw [if_neg c2] at h2; omega
  · rw [if_neg c1] at h1; omega
theorem fCmp_sum {a b c d p q : Int} (h : fSum a b c d = (p, q, true)) : 0 ≤ fCmp p q a b := by
  obtain ⟨ha, hb, hf, e1⟩ := fSum_true h
  have ba := fOk_bounds ha
  have bb := fOk_bounds hb
  have bf := fOk_bounds hf
  unfold fCmp
  rw [if_pos ⟨hf, ha⟩, sg_ge]
  have m := Int.mul_nonneg (Int.mul_nonneg (show 0 ≤ c by omega) (show 0 ≤ b by omega)) (show 0 ≤ q by omega)
  have e2 : p * (b * d) = p * b * d := (Int.mul_assoc ..).symm
  have e3 : (a * d + c * b) * q = a * q * d + c * b * q := by rw [Int.add_mul, Int.mul_right_comm]
  refine Int.le_of_mul_le_mul_right (a := d) ?_ (by omega)
  omega
end Go.Proofs.Ytmgpihkjnlicpaa.Pb
