/- A drawn question is valid just if the reference says so; a valid one costs more than nothing, and with another kind, no need or no cost it is none. It has no conditions. -/
import Derived.Test.YthcbichnjgkjiaaPFnAskFormx3
import Derived.Test.YthcbichnjgkjiaaPb
namespace Go.Proofs.Ythcbichnjgkjiaa.Pure
open Go.RowKit Go.Proofs.Ythcbichnjgkjiaa.PFnAskForm Go.Proofs.YthcbichnjgkjiaaW.PrintWords Go.Proofs.YthcbichnjgkjiaaW.PrintLast Go.Proofs.Ythcbichnjgkjiaa.Pb
set_option linter.unusedVariables false
set_option linter.unusedSimpArgs false

theorem spec_l6In_ok (a b c : Int) : EvE (fun _ => spec_l6In.f a b c) (· = decide (b ≤ a ∧ a ≤ c)) := by
  unfold spec_l6In.f
  refine EvE.ite (fun h => EvE.now _ ?_) (fun h => EvE.now _ ?_)
  · have h : b ≤ a := h
    simp [h]
  · have h : ¬ b ≤ a := h
    simp [h]

theorem spec_l11Kind_ok (a : Int) : EvE (fun _ => spec_l11Kind.f a) (· = decide (1 ≤ a ∧ a ≤ 3)) := by
  unfold spec_l11Kind.f
  exact EvE.tail (spec_l6In_ok a 1 3)

theorem spec_l31Gcd_nat (n : Nat) : ∀ m : Nat, EvE (fun k => spec_l31Gcd.l0 k (m : Int) (n : Int)) (· = ((Nat.gcd n m : Nat) : Int)) := by
  induction n using Nat.strongRecOn with
  | _ n ih =>
    intro m
    refine EvE.succ ?_
    simp only [spec_l31Gcd.l0]
    refine EvE.ite (fun h => ?_) (fun h => ?_)
    · have hn : 0 < n := by omega
      refine EvE.neg (by omega) ?_
      have e : Int.tmod (m : Int) (n : Int) = ((m % n : Nat) : Int) := by rw [Int.tmod_eq_emod_of_nonneg (by omega)]; rfl
      rw [e]
      refine (ih (m % n) (Nat.mod_lt _ hn) n).mono ?_
      rintro _ rfl
      rw [← Nat.gcd_rec]
    · have hn : n = 0 := by omega
      subst hn
      exact EvE.now _ (by simp)
theorem spec_l31Gcd_ok (a b : Int) (ha : 0 ≤ a) (hb : 0 ≤ b) : EvE (fun k => spec_l31Gcd.f k a b) (· = G a b) := by
  obtain ⟨m, rfl⟩ := Int.eq_ofNat_of_zero_le ha
  obtain ⟨n, rfl⟩ := Int.eq_ofNat_of_zero_le hb
  unfold spec_l31Gcd.f
  refine (spec_l31Gcd_nat n m).mono ?_
  rintro _ rfl
  unfold G
  rw [Nat.gcd_comm]; rfl

theorem spec_FracOk_ok (a b : Int) : EvE (fun k => spec_FracOk.f k a b) (· = fOk a b) := by
  unfold spec_FracOk.f
  refine EvE.bind (spec_l6In_ok a 0 999) ?_
  rintro _ rfl
  refine EvE.ite (fun h => ?_) (fun h => EvE.now _ ?_)
  · refine EvE.bind (spec_l6In_ok b 1 60) ?_
    rintro _ rfl
    have h := of_decide_eq_true h
    refine EvE.ite (fun h2 => ?_) (fun h2 => EvE.now _ ?_)
    · have h2 := of_decide_eq_true h2
      refine EvE.bind (spec_l31Gcd_ok a b (by omega) (by omega)) ?_
      rintro _ rfl
      refine EvE.now _ ?_
      rw [Bool.eq_iff_iff, fOk_iff]
      simp; omega
    · rw [eq_comm, Bool.eq_false_iff]
      intro e
      exact h2 (by simp; have := fOk_iff.1 e; omega)
  · rw [eq_comm, Bool.eq_false_iff]
    intro e
    exact h (by simp; have := fOk_iff.1 e; omega)

def aOk (c e n d : Int) : Bool := decide (1 ≤ c ∧ c ≤ 3) && (decide (1 ≤ e ∧ e ≤ 9) && (fOk n d && decide (0 < n)))
theorem aOk_iff {c e n d : Int} : aOk c e n d = true ↔ ((1 ≤ c ∧ c ≤ 3) ∧ (1 ≤ e ∧ e ≤ 9) ∧ fOk n d = true ∧ 0 < n) := by simp [aOk]
theorem spec_AskOk_ok (c e n d : Int) : EvE (fun k => spec_AskOk.f k c e n d) (· = aOk c e n d) := by
  unfold spec_AskOk.f aOk
  refine EvE.bind (spec_l11Kind_ok c) ?_
  rintro _ rfl
  refine EvE.ite (fun h1 => ?_) (fun h1 => EvE.now _ (by rw [Bool.eq_false_iff.2 h1]; rfl))
  refine EvE.bind (spec_l6In_ok e 1 9) ?_
  rintro _ rfl
  rw [h1]
  refine EvE.ite (fun h2 => ?_) (fun h2 => EvE.now _ (by rw [Bool.eq_false_iff.2 h2]; rfl))
  refine EvE.bind (spec_FracOk_ok n d) ?_
  rintro _ rfl
  rw [h2]
  refine EvE.ite (fun h3 => EvE.now _ (by rw [h3]; rfl)) (fun h3 => EvE.now _ (by rw [Bool.eq_false_iff.2 h3]; rfl))

theorem impl_kindOk_ok (a : Int) : EvE (fun _ => impl_kindOk.f a) (· = decide (1 ≤ a ∧ a ≤ 3)) := EvE.now _ rfl

theorem impl_within_ok (a b c : Int) : EvE (fun _ => impl_within.f a b c) (· = decide (b ≤ a ∧ a ≤ c)) := by
  unfold impl_within.f
  refine EvE.ite (fun h => EvE.now _ ?_) (fun h => EvE.now _ ?_)
  · have h : b ≤ a := h
    simp [h]
  · have h : ¬ b ≤ a := h
    simp [h]

theorem impl_needOk_ok (a : Int) : EvE (fun _ => impl_needOk.f a) (· = decide (1 ≤ a ∧ a ≤ 9)) := by
  unfold impl_needOk.f
  exact EvE.tail (impl_within_ok a 1 9)

theorem impl_divisor_nat (n : Nat) : ∀ m : Nat, EvE (fun k => impl_divisor.l0 k (m : Int) (n : Int)) (· = ((Nat.gcd n m : Nat) : Int)) := by
  induction n using Nat.strongRecOn with
  | _ n ih =>
    intro m
    refine EvE.succ ?_
    simp only [impl_divisor.l0]
    refine EvE.ite (fun h => ?_) (fun h => ?_)
    · have hn : n = 0 := by omega
      subst hn
      exact EvE.now _ (by simp)
    · have hn : 0 < n := by omega
      have e : Int.tmod (m : Int) (n : Int) = ((m % n : Nat) : Int) := by rw [Int.tmod_eq_emod_of_nonneg (by omega)]; rfl
      rw [e]
      refine (ih (m % n) (Nat.mod_lt _ hn) n).mono ?_
      rintro _ rfl
      rw [← Nat.gcd_rec]
theorem impl_divisor_ok (a b : Int) (ha : 0 ≤ a) (hb : 0 ≤ b) : EvE (fun k => impl_divisor.f k a b) (· = G a b) := by
  obtain ⟨m, rfl⟩ := Int.eq_ofNat_of_zero_le ha
  obtain ⟨n, rfl⟩ := Int.eq_ofNat_of_zero_le hb
  unfold impl_divisor.f
  refine (impl_divisor_nat n m).mono ?_
  rintro _ rfl
  unfold G
  rw [Nat.gcd_comm]; rfl

theorem impl_FracOk_ok (a b : Int) : EvE (fun k => impl_FracOk.f k a b) (· = fOk a b) := by
  unfold impl_FracOk.f
  refine EvE.bind (impl_within_ok a 0 999) ?_
  rintro _ rfl
  refine EvE.ite (fun h => ?_) (fun h => EvE.now _ ?_)
  · refine EvE.bind (impl_within_ok b 1 60) ?_
    rintro _ rfl
    have h := of_decide_eq_true h
    refine EvE.ite (fun h2 => ?_) (fun h2 => EvE.now _ ?_)
    · have h2 := of_decide_eq_true h2
      refine EvE.bind (impl_divisor_ok a b (by omega) (by omega)) ?_
      rintro _ rfl
      refine EvE.now _ ?_
      rw [Bool.eq_iff_iff, fOk_iff]
      simp; omega
    · rw [eq_comm, Bool.eq_false_iff]
      intro e
      exact h2 (by simp; have := fOk_iff.1 e; omega)
  · rw [eq_comm, Bool.eq_false_iff]
    intro e
    exact h (by simp; have := fOk_iff.1 e; omega)

theorem impl_AskOk_ok (c e n d : Int) : EvE (fun k => impl_AskOk.f k c e n d) (· = aOk c e n d) := by
  unfold impl_AskOk.f aOk
  refine EvE.bind (impl_kindOk_ok c) ?_
  rintro _ rfl
  refine EvE.ite (fun h1 => ?_) (fun h1 => EvE.now _ (by rw [Bool.eq_false_iff.2 h1]; rfl))
  refine EvE.bind (impl_needOk_ok e) ?_
  rintro _ rfl
  rw [h1]
  refine EvE.ite (fun h2 => ?_) (fun h2 => EvE.now _ (by rw [Bool.eq_false_iff.2 h2]; rfl))
  refine EvE.bind (impl_FracOk_ok n d) ?_
  rintro _ rfl
  rw [h2]
  refine EvE.ite (fun h3 => EvE.now _ (by rw [h3]; rfl)) (fun h3 => EvE.now _ (by rw [Bool.eq_false_iff.2 h3]; rfl))

theorem spec_l6Open_ok {l : List Int} (h : ∀ x ∈ l, (Lit.int .u8 x).wf = true) : EvE (fun _ => spec_l6Open.f l) (fun r => ∃ s, r = (s, 0) ∧ Coded s) := by
  have h := u8_range h
  unfold spec_l6Open.f
  refine EvE.ite (fun h1 => EvE.pos (by omega) (EvE.now _ ⟨_, rfl, fun x hx => h x (List.mem_of_mem_take hx), ?_⟩)) (fun h1 => EvE.now _ ⟨_, rfl, h, by omega⟩)
  rw [List.length_take]; omega

theorem spec_l6Rd_pick_ok {s : List Int} (hs : Coded s) (p n : Int) (h0 : 0 ≤ p) (h1 : p ≤ 1000000) (hn : 1 ≤ n) (hn' : n ≤ 1000000) :
    EvE (fun k => spec_l6Rd_pick.f k s p n) (fun r => ∃ v, r = (v, p + 1) ∧ 0 ≤ v ∧ v < n) := by
  unfold spec_l6Rd_pick.f
  rw [w64 (x := p + 1) (by omega) (by omega)]
  refine EvE.neg (by omega) (EvE.succ ?_)
  simp only [spec_l6Rd_pick.j0]
  have e : wrap64 (p + 1 - 1) = p := by rw [w64 (by omega) (by omega)]; omega
  rw [e]
  have rg := rd_range hs.1
  have hl := hs.2
  refine EvE.ite (fun _ => EvE.now _ ⟨0, rfl, by omega, by omega⟩) (fun hz => ?_)
  have hpos : 1 ≤ (s.length : Int) := by
    have : s.length ≠ 0 := by simpa using hz
    omega
  refine EvE.ite (fun hlt => EvE.pos h0 (EvE.neg (by omega) (EvE.now _ ?_))) (fun hge => ?_)
  · have := rg p
    rw [w64 (x := rd s p) (by omega) (by omega)]
    exact ⟨_, rfl, tmod_range (by omega) hn⟩
  · refine EvE.neg (by omega) ?_
    have t1 := tmod_range (a := p) (n := (s.length : Int)) h0 hpos
    have e1 : wrap64 (p * 7) = p * 7 := w64 (by omega) (by omega)
    have e2 : wrap64 (p * 7 + 3) = p * 7 + 3 := w64 (by omega) (by omega)
    rw [e1, e2]
    have t2 := tmod_range (a := p * 7 + 3) (n := (s.length : Int)) (by omega) hpos
    refine EvE.pos t1.1 (EvE.pos t1.2 (EvE.pos t2.1 (EvE.pos t2.2 (EvE.neg (by omega) (EvE.now _ ?_)))))
    have r1 := rg (Int.tmod p s.length)
    have r2 := rg (Int.tmod (p * 7 + 3) s.length)
    generalize rd s (Int.tmod p s.length) = A at *
    generalize rd s (Int.tmod (p * 7 + 3) s.length) = B at *
    have dq : 0 ≤ Int.tdiv p s.length ∧ Int.tdiv p s.length ≤ p := by
      rw [Int.tdiv_eq_ediv_of_nonneg h0]
      exact ⟨Int.ediv_nonneg h0 (by omega), Int.ediv_le_self _ h0⟩
    generalize Int.tdiv p s.length = Q at *
    rw [w64 (x := A) (by omega) (by omega), w64 (x := B) (by omega) (by omega), w64 (x := A * 131) (by omega) (by omega), w64 (x := B * 1117) (by omega) (by omega), w64 (x := p * 29) (by omega) (by omega), w64 (x := Q) (by omega) (by omega), w64 (x := Q * 53) (by omega) (by omega), w64 (x := A * 131 + B * 1117) (by omega) (by omega), w64 (x := A * 131 + B * 1117 + p * 29) (by omega) (by omega), w64 (x := A * 131 + B * 1117 + p * 29 + Q * 53) (by omega) (by omega)]
    have hX : 0 ≤ A * 131 + B * 1117 + p * 29 + Q * 53 ∧ A * 131 + B * 1117 + p * 29 + Q * 53 < 1000000000000 := by omega
    generalize A * 131 + B * 1117 + p * 29 + Q * 53 = X at *
    have e3 : wrap64 (Int.tdiv X 64) = X / 64 := by
      rw [Int.tdiv_eq_ediv_of_nonneg hX.1]
      exact w64 (by omega) (by omega)
    rw [e3]
    have hx := xor_nonneg (a := X) (b := X / 64) (by omega) (by omega) (by omega) (by omega)
    exact ⟨_, rfl, tmod_range hx.1 hn⟩

theorem spec_l31Of_ok (a b : Int) (ha : 0 ≤ a) (ha' : a ≤ 1000000000000) (hb : 1 ≤ b) (hb' : b ≤ 1000000000000) : EvE (fun k => spec_l31Of.f k a b) (· = (a / G a b, b / G a b)) := by
  unfold spec_l31Of.f
  refine EvE.bind (spec_l31Gcd_ok a b ha (by omega)) ?_
  rintro _ rfl
  have hg := G_pos (n := a) hb
  refine EvE.neg (by omega) (EvE.now _ ?_)
  have h1 : a / G a b ≤ a := Int.ediv_le_self _ ha
  have h2 : b / G a b ≤ b := Int.ediv_le_self _ (by omega)
  have h3 : 0 ≤ a / G a b := Int.ediv_nonneg ha (by omega)
  have h4 : 0 ≤ b / G a b := Int.ediv_nonneg (by omega) (by omega)
  rw [Int.tdiv_eq_ediv_of_nonneg ha, Int.tdiv_eq_ediv_of_nonneg (by omega), w64 (by omega) (by omega), w64 (by omega) (by omega)]

theorem spec_l92Ask_ok {s : List Int} (hs : Coded s) (p : Int) (h0 : 0 ≤ p) (h1 : p ≤ 900000) :
    EvE (fun k => spec_l92Ask.f k s p) (fun r => ∃ a b c d q, r = (a, b, c, d, q) ∧ p ≤ q ∧ q ≤ p + 6 ∧ 0 ≤ a ∧ a ≤ 4 ∧ 0 ≤ b ∧ b ≤ 10 ∧ 0 ≤ c ∧ c ≤ 3 ∧ 0 ≤ d ∧ d ≤ 6) := by
  unfold spec_l92Ask.f
  refine EvE.bind (spec_l6Rd_pick_ok hs p 3 h0 (by omega) (by omega) (by omega)) ?_
  rintro _ ⟨a, rfl, ha, ha'⟩
  dsimp only
  refine EvE.bind (spec_l6Rd_pick_ok hs _ 4 (by omega) (by omega) (by omega) (by omega)) ?_
  rintro _ ⟨b, rfl, hb, hb'⟩
  dsimp only
  refine EvE.bind (spec_l6Rd_pick_ok hs _ 3 (by omega) (by omega) (by omega) (by omega)) ?_
  rintro _ ⟨c, rfl, hc, hc'⟩
  dsimp only
  refine EvE.bind (spec_l6Rd_pick_ok hs _ 6 (by omega) (by omega) (by omega) (by omega)) ?_
  rintro _ ⟨d, rfl, hd, hd'⟩
  dsimp only
  rw [w64 (x := 1 + a) (by omega) (by omega), w64 (x := 1 + b) (by omega) (by omega), w64 (x := 1 + c) (by omega) (by omega), w64 (x := 1 + d) (by omega) (by omega)]
  refine EvE.bind (spec_l31Of_ok (1 + c) (1 + d) (by omega) (by omega) (by omega) (by omega)) ?_
  rintro _ rfl
  dsimp only
  have hg := G_pos (n := 1 + c) (d := 1 + d) (by omega)
  have g1 : (1 + c) / G (1 + c) (1 + d) ≤ 1 + c := Int.ediv_le_self _ (by omega)
  have g2 : (1 + d) / G (1 + c) (1 + d) ≤ 1 + d := Int.ediv_le_self _ (by omega)
  have g3 : 0 ≤ (1 + c) / G (1 + c) (1 + d) := Int.ediv_nonneg (by omega) (by omega)
  have g4 : 0 ≤ (1 + d) / G (1 + c) (1 + d) := Int.ediv_nonneg (by omega) (by omega)
  refine EvE.bind (spec_l6Rd_pick_ok hs _ 30 (by omega) (by omega) (by omega) (by omega)) ?_
  rintro _ ⟨e, rfl, he, he'⟩
  dsimp only
  refine EvE.ite (fun _ => ?_) (fun _ => EvE.ite (fun _ => ?_) (fun _ => EvE.ite (fun _ => ?_) (fun _ => EvE.now _ ⟨_, _, _, _, _, rfl, by omega⟩)))
  · refine EvE.bind (EvE.now (P := fun r => r = [0, 9, 10]) _ rfl) ?_
    rintro _ rfl
    refine EvE.bind (spec_l6Rd_pick_ok hs _ 3 (by omega) (by omega) (by omega) (by omega)) ?_
    rintro _ ⟨f, rfl, hf, hf'⟩
    dsimp only
    refine EvE.pos hf (EvE.pos (by simp; omega) (EvE.now _ ⟨_, _, _, _, _, rfl, ?_⟩))
    have hr : 0 ≤ rd [0, 9, 10] f ∧ rd [0, 9, 10] f ≤ 10 := by
      have : f = 0 ∨ f = 1 ∨ f = 2 := by omega
      rcases this with rfl | rfl | rfl <;> simp [rd]
    omega
  · refine EvE.bind (spec_l6Rd_pick_ok hs _ 3 (by omega) (by omega) (by omega) (by omega)) ?_
    rintro _ ⟨f, rfl, hf, hf'⟩
    exact EvE.now _ ⟨_, _, _, _, _, rfl, by omega⟩
  · refine EvE.bind (spec_l6Rd_pick_ok hs _ 5 (by omega) (by omega) (by omega) (by omega)) ?_
    rintro _ ⟨f, rfl, hf, hf'⟩
    exact EvE.now _ ⟨_, _, _, _, _, rfl, by omega⟩

theorem spec_l92Frac_ok {s : List Int} (hs : Coded s) (p : Int) (h0 : 0 ≤ p) (h1 : p ≤ 900000) :
    EvE (fun k => spec_l92Frac.f k s p) (fun r => ∃ a b q, r = (a, b, q) ∧ p ≤ q ∧ q ≤ p + 5 ∧ 0 ≤ a ∧ a ≤ 12 ∧ 0 ≤ b ∧ b ≤ 70) := by
  unfold spec_l92Frac.f
  refine EvE.bind (spec_l6Rd_pick_ok hs p 12 h0 (by omega) (by omega) (by omega)) ?_
  rintro _ ⟨a, rfl, ha, ha'⟩
  dsimp only
  refine EvE.bind (spec_l6Rd_pick_ok hs _ 12 (by omega) (by omega) (by omega) (by omega)) ?_
  rintro _ ⟨b, rfl, hb, hb'⟩
  dsimp only
  rw [w64 (x := 1 + b) (by omega) (by omega)]
  refine EvE.bind (spec_l31Of_ok a (1 + b) (by omega) (by omega) (by omega) (by omega)) ?_
  rintro _ rfl
  dsimp only
  refine EvE.bind (spec_l6Rd_pick_ok hs _ 30 (by omega) (by omega) (by omega) (by omega)) ?_
  rintro _ ⟨c, rfl, hc, hc'⟩
  dsimp only
  refine EvE.ite (fun _ => ?_) (fun _ => EvE.now _ ⟨_, _, _, rfl, by omega, by omega, ?_⟩)
  · refine EvE.bind (spec_l6Rd_pick_ok hs _ 9 (by omega) (by omega) (by omega) (by omega)) ?_
    rintro _ ⟨d, rfl, hd, hd'⟩
    dsimp only
    refine EvE.bind (spec_l6Rd_pick_ok hs _ 70 (by omega) (by omega) (by omega) (by omega)) ?_
    rintro _ ⟨e, rfl, he, he'⟩
    exact EvE.now _ ⟨_, _, _, rfl, by omega, by omega, by omega, by omega, by omega, by omega⟩
  · have hg := G_pos (n := a) (d := 1 + b) (by omega)
    have h1 : a / G a (1 + b) ≤ a := Int.ediv_le_self _ ha
    have h2 : (1 + b) / G a (1 + b) ≤ 1 + b := Int.ediv_le_self _ (by omega)
    have h3 : 0 ≤ a / G a (1 + b) := Int.ediv_nonneg ha (by omega)
    have h4 : 0 ≤ (1 + b) / G a (1 + b) := Int.ediv_nonneg (by omega) (by omega)
    omega

theorem spec_DrawAskOk_ok {l : List Int} (h : ∀ x ∈ l, (Lit.int .u8 x).wf = true) : EvE (fun k => spec_DrawAskOk.f k l) (fun _ => True) := by
  unfold spec_DrawAskOk.f
  refine EvE.bind (spec_l6Open_ok h) ?_
  rintro _ ⟨s, rfl, hs⟩
  dsimp only
  refine EvE.bind (spec_l92Ask_ok hs 0 (by omega) (by omega)) ?_
  rintro _ ⟨a, b, c, d, q, rfl, h1, h2, _⟩
  dsimp only
  refine EvE.bind (spec_l6Rd_pick_ok hs _ 6 (by omega) (by omega) (by omega) (by omega)) ?_
  rintro _ ⟨e, rfl, he, he'⟩
  dsimp only
  refine EvE.ite (fun _ => ?_) (fun _ => EvE.now _ trivial)
  refine EvE.bind (spec_l92Frac_ok hs _ (by omega) (by omega)) ?_
  rintro _ ⟨f, g, q', rfl, _⟩
  exact EvE.now _ trivial

theorem cmp_Compare_ok (x y : Int) : EvE (fun _ => cmp_Compare_int.f x y) (· = sg x y) := by
  unfold cmp_Compare_int.f cmp_isNaN_int.f sg
  refine EvE.bind (EvE.now (P := (· = false)) _ (by simp)) ?_
  rintro _ rfl
  refine EvE.bind (EvE.now (P := (· = false)) _ (by simp)) ?_
  rintro _ rfl
  refine EvE.neg (by decide) (EvE.neg (by decide) ?_)
  exact EvE.ite (fun h => EvE.now _ (by rw [if_pos h])) (fun h => EvE.ite (fun h2 => EvE.now _ (by rw [if_neg h, if_pos h2])) (fun h2 => EvE.now _ (by rw [if_neg h, if_neg h2])))
theorem impl_FracCmp_ok (a b c d : Int) : EvE (fun k => impl_FracCmp.f k a b c d) (· = fCmp a b c d) := by
  unfold impl_FracCmp.f fCmp
  refine EvE.bind (impl_FracOk_ok a b) ?_
  rintro _ rfl
  refine EvE.ite (fun h => ?_) (fun h => EvE.now _ (by rw [if_neg (fun e => h e.1)]))
  refine EvE.bind (impl_FracOk_ok c d) ?_
  rintro _ rfl
  refine EvE.ite (fun h2 => ?_) (fun h2 => EvE.now _ (by rw [if_neg (fun e => h2 e.2)]))
  have h1' := fOk_bounds h
  have h2' := fOk_bounds h2
  have m1 := mul_range (a := a) (b := d) (A := 999) (B := 60) (by omega) (by omega) (by omega) (by omega)
  have m2 := mul_range (a := c) (b := b) (A := 999) (B := 60) (by omega) (by omega) (by omega) (by omega)
  rw [if_pos ⟨h, h2⟩, w64 (x := a * d) (by omega) (by omega), w64 (x := c * b) (by omega) (by omega)]
  exact EvE.tail (cmp_Compare_ok _ _)

theorem FnAskForm : laws_FnAskForm.Pure := by
  intro l _ _ hw
  refine EvE.rounds ?_
  unfold laws_FnAskForm.f
  refine EvE.ite (fun _ => EvE.now _ rfl) (fun _ => ?_)
  refine EvE.bind (spec_DrawAskOk_ok hw) ?_
  rintro ⟨a, b, c, d⟩ _
  dsimp only
  refine EvE.bind (impl_AskOk_ok a b c d) ?_
  rintro _ rfl
  refine EvE.bind (spec_AskOk_ok a b c d) ?_
  rintro _ rfl
  refine EvE.neg (by simp) (EvE.succ ?_)
  simp only [laws_FnAskForm.j0]
  refine EvE.ite (fun _ => ?_) (fun h => ?_)
  · refine EvE.bind (spec_AskOk_ok a b c d) ?_
    rintro _ rfl
    exact EvE.now _ (by simp)
  have h : aOk a b c d = true := by simpa using h
  have h := aOk_iff.1 h
  refine EvE.bind (impl_AskOk_ok _ _ _ _) ?_
  rintro _ rfl
  refine EvE.neg (fun e => by have := aOk_iff.1 e; omega) ?_
  refine EvE.bind (impl_AskOk_ok _ _ _ _) ?_
  rintro _ rfl
  refine EvE.neg (fun e => by have := aOk_iff.1 e; omega) ?_
  refine EvE.bind (impl_AskOk_ok _ _ _ _) ?_
  rintro _ rfl
  refine EvE.neg (fun e => by have := aOk_iff.1 e; omega) ?_
  refine EvE.bind (impl_FracCmp_ok _ _ _ _) ?_
  rintro _ rfl
  refine EvE.now _ ?_
  have e1 : fOk 0 1 = true := by decide
  unfold fCmp
  rw [if_pos ⟨h.2.2.1, e1⟩]
  have e2 : sg (c * 1) (0 * d) = 1 := by
    unfold sg
    rw [if_neg (by omega), if_pos (by omega)]
  rw [e2]; rfl

end Go.Proofs.Ythcbichnjgkjiaa.Pure
