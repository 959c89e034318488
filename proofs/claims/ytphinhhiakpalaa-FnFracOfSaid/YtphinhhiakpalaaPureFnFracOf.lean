/- A drawn quotient's fraction is the reference's; it is as short as can be, and that of the same quotient in greater numbers. It has no conditions. -/
import Derived.Test.YtphinhhiakpalaaPFnFracOfx4
import Derived.Test.YtphinhhiakpalaaPb
namespace Go.Proofs.Ytphinhhiakpalaa.Pure
open Go.RowKit Go.Proofs.Ytphinhhiakpalaa.PFnFracOf Go.Proofs.YtphinhhiakpalaaW.PrintWords Go.Proofs.YtphinhhiakpalaaW.PrintLast Go.Proofs.Ytphinhhiakpalaa.Pb
set_option linter.unusedVariables false
set_option linter.unusedSimpArgs false

theorem impl_within_ok (a b c : Int) : EvE (fun _ => impl_within.f a b c) (· = decide (b ≤ a ∧ a ≤ c)) := by
  unfold impl_within.f
  refine EvE.ite (fun h => EvE.now _ ?_) (fun h => EvE.now _ ?_)
  · have h : b ≤ a := h
    simp [h]
  · have h : ¬ b ≤ a := h
    simp [h]

theorem impl_divisor_nat (n : Nat) : ∀ m : Nat, EvE (fun k => impl_divisor.l0 k (m : Int) (n : Int)) (· = ((Nat.gcd n m : Nat) : Int)) := by
  induction n using Nat.strongRecOn with
  | _ n ih =>
    intro m
    refine EvE.succ ?_
    simp only [impl_divisor.l0]
    refine EvE.ite (fun h => ?_) (fun h => ?_)
    · have hn : n = 0 := by omega
      subst hn
      exact EvE.now _ (by simp)
    · have hn : 0 < n := by omega
      have e : Int.tmod (m : Int) (n : Int) = ((m % n : Nat) : Int) := by rw [Int.tmod_eq_emod_of_nonneg (by omega)]; rfl
      rw [e]
      refine (ih (m % n) (Nat.mod_lt _ hn) n).mono ?_
      rintro _ rfl
      rw [← Nat.gcd_rec]
theorem impl_divisor_ok (a b : Int) (ha : 0 ≤ a) (hb : 0 ≤ b) : EvE (fun k => impl_divisor.f k a b) (· = G a b) := by
  obtain ⟨m, rfl⟩ := Int.eq_ofNat_of_zero_le ha
  obtain ⟨n, rfl⟩ := Int.eq_ofNat_of_zero_le hb
  unfold impl_divisor.f
  refine (impl_divisor_nat n m).mono ?_
  rintro _ rfl
  unfold G
  rw [Nat.gcd_comm]; rfl

theorem impl_FracOk_ok (a b : Int) : EvE (fun k => impl_FracOk.f k a b) (· = fOk a b) := by
  unfold impl_FracOk.f
  refine EvE.bind (impl_within_ok a 0 999) ?_
  rintro _ rfl
  refine EvE.ite (fun h => ?_) (fun h => EvE.now _ ?_)
  · refine EvE.bind (impl_within_ok b 1 60) ?_
    rintro _ rfl
    have h := of_decide_eq_true h
    refine EvE.ite (fun h2 => ?_) (fun h2 => EvE.now _ ?_)
    · have h2 := of_decide_eq_true h2
      refine EvE.bind (impl_divisor_ok a b (by omega) (by omega)) ?_
      rintro _ rfl
      refine EvE.now _ ?_
      rw [Bool.eq_iff_iff, fOk_iff]
      simp; omega
    · rw [eq_comm, Bool.eq_false_iff]
      intro e
      exact h2 (by simp; have := fOk_iff.1 e; omega)
  · rw [eq_comm, Bool.eq_false_iff]
    intro e
    exact h (by simp; have := fOk_iff.1 e; omega)

theorem spec_l6In_ok (a b c : Int) : EvE (fun _ => spec_l6In.f a b c) (· = decide (b ≤ a ∧ a ≤ c)) := by
  unfold spec_l6In.f
  refine EvE.ite (fun h => EvE.now _ ?_) (fun h => EvE.now _ ?_)
  · have h : b ≤ a := h
    simp [h]
  · have h : ¬ b ≤ a := h
    simp [h]

theorem spec_l31Gcd_nat (n : Nat) : ∀ m : Nat, EvE (fun k => spec_l31Gcd.l0 k (m : Int) (n : Int)) (· = ((Nat.gcd n m : Nat) : Int)) := by
  induction n using Nat.strongRecOn with
  | _ n ih =>
    intro m
    refine EvE.succ ?_
    simp only [spec_l31Gcd.l0]
    refine EvE.ite (fun h => ?_) (fun h => ?_)
    · have hn : 0 < n := by omega
      refine EvE.neg (by omega) ?_
      have e : Int.tmod (m : Int) (n : Int) = ((m % n : Nat) : Int) := by rw [Int.tmod_eq_emod_of_nonneg (by omega)]; rfl
      rw [e]
      refine (ih (m % n) (Nat.mod_lt _ hn) n).mono ?_
      rintro _ rfl
      rw [← Nat.gcd_rec]
    · have hn : n = 0 := by omega
      subst hn
      exact EvE.now _ (by simp)
theorem spec_l31Gcd_ok (a b : Int) (ha : 0 ≤ a) (hb : 0 ≤ b) : EvE (fun k => spec_l31Gcd.f k a b) (· = G a b) := by
  obtain ⟨m, rfl⟩ := Int.eq_ofNat_of_zero_le ha
  obtain ⟨n, rfl⟩ := Int.eq_ofNat_of_zero_le hb
  unfold spec_l31Gcd.f
  refine (spec_l31Gcd_nat n m).mono ?_
  rintro _ rfl
  unfold G
  rw [Nat.gcd_comm]; rfl

theorem spec_FracOk_ok (a b : Int) : EvE (fun k => spec_FracOk.f k a b) (· = fOk a b) := by
  unfold spec_FracOk.f
  refine EvE.bind (spec_l6In_ok a 0 999) ?_
  rintro _ rfl
  refine EvE.ite (fun h => ?_) (fun h => EvE.now _ ?_)
  · refine EvE.bind (spec_l6In_ok b 1 60) ?_
    rintro _ rfl
    have h := of_decide_eq_true h
    refine EvE.ite (fun h2 => ?_) (fun h2 => EvE.now _ ?_)
    · have h2 := of_decide_eq_true h2
      refine EvE.bind (spec_l31Gcd_ok a b (by omega) (by omega)) ?_
      rintro _ rfl
      refine EvE.now _ ?_
      rw [Bool.eq_iff_iff, fOk_iff]
      simp; omega
    · rw [eq_comm, Bool.eq_false_iff]
      intro e
      exact h2 (by simp; have := fOk_iff.1 e; omega)
  · rw [eq_comm, Bool.eq_false_iff]
    intro e
    exact h (by simp; have := fOk_iff.1 e; omega)

theorem spec_l31Of_ok (a b : Int) (ha : 0 ≤ a) (ha' : a ≤ 1000000000000) (hb : 1 ≤ b) (hb' : b ≤ 1000000000000) : EvE (fun k => spec_l31Of.f k a b) (· = (a / G a b, b / G a b)) := by
  unfold spec_l31Of.f
  refine EvE.bind (spec_l31Gcd_ok a b ha (by omega)) ?_
  rintro _ rfl
  have hg := G_pos (n := a) hb
  refine EvE.neg (by omega) (EvE.now _ ?_)
  have h1 : a / G a b ≤ a := Int.ediv_le_self _ ha
  have h2 : b / G a b ≤ b := Int.ediv_le_self _ (by omega)
  have h3 : 0 ≤ a / G a b := Int.ediv_nonneg ha (by omega)
  have h4 : 0 ≤ b / G a b := Int.ediv_nonneg (by omega) (by omega)
  rw [Int.tdiv_eq_ediv_of_nonneg ha, Int.tdiv_eq_ediv_of_nonneg (by omega), w64 (by omega) (by omega), w64 (by omega) (by omega)]

theorem spec_FracOf_ok (a b : Int) : EvE (fun k => spec_FracOf.f k a b) (· = fOf a b) := by
  unfold spec_FracOf.f fOf
  refine EvE.bind (spec_l6In_ok a 0 99999) ?_
  rintro _ rfl
  refine EvE.ite (fun h => ?_) (fun h => EvE.now _ ?_)
  · have h := of_decide_eq_true h
    refine EvE.bind (spec_l6In_ok b 1 99999) ?_
    rintro _ rfl
    refine EvE.ite (fun h2 => ?_) (fun h2 => EvE.now _ ?_)
    · have h2 := of_decide_eq_true h2
      rw [if_pos (by omega)]
      refine EvE.bind (spec_l31Of_ok a b (by omega) (by omega) (by omega) (by omega)) ?_
      rintro _ rfl
      dsimp only
      refine EvE.bind (spec_FracOk_ok _ _) ?_
      rintro _ rfl
      unfold red
      refine EvE.ite (fun h3 => ?_) (fun h3 => EvE.now _ (by rw [if_neg h3]))
      rw [if_pos h3]
      refine EvE.bind (spec_l31Of_ok a b (by omega) (by omega) (by omega) (by omega)) ?_
      rintro _ rfl
      exact EvE.now _ rfl
    · rw [if_neg]
      intro e
      exact h2 (by simp; omega)
  · rw [if_neg]
    intro e
    exact h (by simp; omega)

theorem impl_reduced_ok (a b : Int) (ha : 0 ≤ a) (ha' : a ≤ 1000000000000) (hb : 1 ≤ b) (hb' : b ≤ 1000000000000) : EvE (fun k => impl_reduced.f k a b) (· = red a b) := by
  unfold impl_reduced.f
  refine EvE.bind (impl_divisor_ok a b ha (by omega)) ?_
  rintro _ rfl
  have hg := G_pos (n := a) hb
  refine EvE.neg (by omega) ?_
  have h1 : a / G a b ≤ a := Int.ediv_le_self _ ha
  have h2 : b / G a b ≤ b := Int.ediv_le_self _ (by omega)
  have h3 : 0 ≤ a / G a b := Int.ediv_nonneg ha (by omega)
  have h4 : 0 ≤ b / G a b := Int.ediv_nonneg (by omega) (by omega)
  rw [Int.tdiv_eq_ediv_of_nonneg ha, Int.tdiv_eq_ediv_of_nonneg (by omega), w64 (by omega) (by omega), w64 (by omega) (by omega)]
  refine EvE.bind (impl_FracOk_ok _ _) ?_
  rintro _ rfl
  unfold red
  refine EvE.ite (fun h => EvE.now _ ?_) (fun h => EvE.now _ ?_)
  · rw [if_pos h]
  · rw [if_neg h]

theorem impl_FracOf_ok (a b : Int) : EvE (fun k => impl_FracOf.f k a b) (· = fOf a b) := by
  unfold impl_FracOf.f fOf
  refine EvE.bind (impl_within_ok a 0 99999) ?_
  rintro _ rfl
  refine EvE.ite (fun h => ?_) (fun h => EvE.now _ ?_)
  · have h := of_decide_eq_true h
    refine EvE.bind (impl_within_ok b 1 99999) ?_
    rintro _ rfl
    refine EvE.ite (fun h2 => ?_) (fun h2 => EvE.now _ ?_)
    · have h2 := of_decide_eq_true h2
      rw [if_pos (by omega)]
      refine EvE.bind (impl_reduced_ok a b (by omega) (by omega) (by omega) (by omega)) ?_
      rintro _ rfl
      exact EvE.now _ rfl
    · rw [if_neg]
      intro e
      exact h2 (by simp; omega)
  · rw [if_neg]
    intro e
    exact h (by simp; omega)

theorem spec_l6Open_ok {l : List Int} (h : ∀ x ∈ l, (Lit.int .u8 x).wf = true) : EvE (fun _ => spec_l6Open.f l) (fun r => ∃ s, r = (s, 0) ∧ Coded s) := by
  have h := u8_range h
  unfold spec_l6Open.f
  refine EvE.ite (fun h1 => EvE.pos (by omega) (EvE.now _ ⟨_, rfl, fun x hx => h x (List.mem_of_mem_take hx), ?_⟩)) (fun h1 => EvE.now _ ⟨_, rfl, h, by omega⟩)
  rw [List.length_take]; omega

theorem spec_l6Rd_pick_ok {s : List Int} (hs : Coded s) (p n : Int) (h0 : 0 ≤ p) (h1 : p ≤ 1000000) (hn : 1 ≤ n) (hn' : n ≤ 1000000) :
    EvE (fun k => spec_l6Rd_pick.f k s p n) (fun r => ∃ v, r = (v, p + 1) ∧ 0 ≤ v ∧ v < n) := by
  unfold spec_l6Rd_pick.f
  rw [w64 (x := p + 1) (by omega) (by omega)]
  refine EvE.neg (by omega) (EvE.succ ?_)
  simp only [spec_l6Rd_pick.j0]
  have e : wrap64 (p + 1 - 1) = p := by rw [w64 (by omega) (by omega)]; omega
  rw [e]
  have rg := rd_range hs.1
  have hl := hs.2
  refine EvE.ite (fun _ => EvE.now _ ⟨0, rfl, by omega, by omega⟩) (fun hz => ?_)
  have hpos : 1 ≤ (s.length : Int) := by
    have : s.length ≠ 0 := by simpa using hz
    omega
  refine EvE.ite (fun hlt => EvE.pos h0 (EvE.neg (by omega) (EvE.now _ ?_))) (fun hge => ?_)
  · have := rg p
    rw [w64 (x := rd s p) (by omega) (by omega)]
    exact ⟨_, rfl, tmod_range (by omega) hn⟩
  · refine EvE.neg (by omega) ?_
    have t1 := tmod_range (a := p) (n := (s.length : Int)) h0 hpos
    have e1 : wrap64 (p * 7) = p * 7 := w64 (by omega) (by omega)
    have e2 : wrap64 (p * 7 + 3) = p * 7 + 3 := w64 (by omega) (by omega)
    rw [e1, e2]
    have t2 := tmod_range (a := p * 7 + 3) (n := (s.length : Int)) (by omega) hpos
    refine EvE.pos t1.1 (EvE.pos t1.2 (EvE.pos t2.1 (EvE.pos t2.2 (EvE.neg (by omega) (EvE.now _ ?_)))))
    have r1 := rg (Int.tmod p s.length)
    have r2 := rg (Int.tmod (p * 7 + 3) s.length)
    generalize rd s (Int.tmod p s.length) = A at *
    generalize rd s (Int.tmod (p * 7 + 3) s.length) = B at *
    have dq : 0 ≤ Int.tdiv p s.length ∧ Int.tdiv p s.length ≤ p := by
      rw [Int.tdiv_eq_ediv_of_nonneg h0]
      exact ⟨Int.ediv_nonneg h0 (by omega), Int.ediv_le_self _ h0⟩
    generalize Int.tdiv p s.length = Q at *
    rw [w64 (x := A) (by omega) (by omega), w64 (x := B) (by omega) (by omega), w64 (x := A * 131) (by omega) (by omega), w64 (x := B * 1117) (by omega) (by omega), w64 (x := p * 29) (by omega) (by omega), w64 (x := Q) (by omega) (by omega), w64 (x := Q * 53) (by omega) (by omega), w64 (x := A * 131 + B * 1117) (by omega) (by omega), w64 (x := A * 131 + B * 1117 + p * 29) (by omega) (by omega), w64 (x := A * 131 + B * 1117 + p * 29 + Q * 53) (by omega) (by omega)]
    have hX : 0 ≤ A * 131 + B * 1117 + p * 29 + Q * 53 ∧ A * 131 + B * 1117 + p * 29 + Q * 53 < 1000000000000 := by omega
    generalize A * 131 + B * 1117 + p * 29 + Q * 53 = X at *
    have e3 : wrap64 (Int.tdiv X 64) = X / 64 := by
      rw [Int.tdiv_eq_ediv_of_nonneg hX.1]
      exact w64 (by omega) (by omega)
    rw [e3]
    have hx := xor_nonneg (a := X) (b := X / 64) (by omega) (by omega) (by omega) (by omega)
    exact ⟨_, rfl, tmod_range hx.1 hn⟩

theorem spec_DrawFracOf_ok {l : List Int} (h : ∀ x ∈ l, (Lit.int .u8 x).wf = true) : EvE (fun k => spec_DrawFracOf.f k l) (fun r => ∃ a b, r = (a, b) ∧ -100 ≤ a ∧ a ≤ 100 ∧ 0 ≤ b ∧ b ≤ 60) := by
  unfold spec_DrawFracOf.f
  refine EvE.bind (spec_l6Open_ok h) ?_
  rintro _ ⟨s, rfl, hs⟩
  dsimp only
  refine EvE.bind (spec_l6Rd_pick_ok hs _ 60 (by omega) (by omega) (by omega) (by omega)) ?_
  rintro _ ⟨a, rfl, ha, ha'⟩
  dsimp only
  refine EvE.bind (spec_l6Rd_pick_ok hs _ 24 (by omega) (by omega) (by omega) (by omega)) ?_
  rintro _ ⟨b, rfl, hb, hb'⟩
  dsimp only
  refine EvE.bind (spec_l6Rd_pick_ok hs _ 60 (by omega) (by omega) (by omega) (by omega)) ?_
  rintro _ ⟨c, rfl, hc, hc'⟩
  dsimp only
  have e1 : wrap64 (Int.tdiv b 23) = b / 23 := by
    rw [Int.tdiv_eq_ediv_of_nonneg hb]; exact w64 (by omega) (by omega)
  rw [e1, w64 (x := b / 23 * 60) (by omega) (by omega), w64 (x := a - b / 23 * 60) (by omega) (by omega)]
  exact EvE.now _ ⟨_, _, rfl, by omega, by omega, by omega, by omega⟩

theorem FracOf_loop {a b p q g0 g1 : Int} (hq : fOk p q = true) (hb : 0 ≤ b) (hb' : b ≤ 99999) (ha : 0 ≤ a) (ha' : a ≤ 99999) (hx : p * b = a * q) (hg : g0 = p ∧ g1 = q) (n : Nat) : ∀ d : Int, 2 ≤ d → d ≤ q + 2 → (q + 2 - d).toNat = n →
    EvE (fun k => laws_FnFracOf.l0 k a b true d p q g0 g1) (· = true) := by
  have bq := fOk_bounds hq
  have rest : EvE (fun k => if wrap64 (p * b) = wrap64 (a * q) then (if true = true then (if (g0 == p && (g1 == q)) = true then ((impl_FracOk.f k p q).bind fun t158 => (some t158)) else (some false)) else (some false)) else (some false)) (· = true) := by
    refine EvE.pos (by rw [hx]) (EvE.pos (by trivial) (EvE.pos (by simp [hg]) ?_))
    refine EvE.tail ?_
    refine (impl_FracOk_ok p q).mono ?_
    rintro _ rfl
    exact hq
  induction n with
  | zero =>
    intro d hd hd' hn
    refine EvE.succ ?_
    simp only [laws_FnFracOf.l0]
    exact EvE.neg (by omega) rest
  | succ n ih =>
    intro d hd hd' hn
    refine EvE.succ ?_
    simp only [laws_FnFracOf.l0]
    refine EvE.ite (fun hle => EvE.neg (by omega) ?_) (fun _ => rest)
    rw [w64 (x := d + 1) (by omega) (by omega)]
    refine EvE.ite (fun h1 => EvE.neg (fun h2 => no_common hq hd h1 h2) ?_) (fun h1 => ?_)
    · exact ih (d + 1) (by omega) (by omega) (by omega)
    · exact ih (d + 1) (by omega) (by omega) (by omega)
theorem FnFracOf : laws_FnFracOf.Pure := by
  intro l m _ _ hw _ _ _
  refine EvE.rounds ?_
  have yes : EvE (fun k => laws_FnFracOf.j0 k l m true) (· = true) := EvE.succ (by simp only [laws_FnFracOf.j0]; exact EvE.pos (by trivial) (EvE.now _ rfl))
  unfold laws_FnFracOf.f
  refine EvE.ite (fun _ => yes) (fun _ => ?_)
  by_cases hm : (m.length : Int) > 1048576
  · rw [decide_eq_true hm]; exact yes
  rw [decide_eq_false hm]
  refine EvE.succ ?_
  simp only [laws_FnFracOf.j0]
  refine EvE.neg (by decide) ?_
  refine EvE.bind (spec_DrawFracOf_ok hw) ?_
  rintro _ ⟨a, b, rfl, h1, h2, h3, h4⟩
  dsimp only
  refine EvE.bind (spec_FracOf_ok a b) ?_
  rintro _ rfl
  refine EvE.bind (impl_FracOf_ok a b) ?_
  rintro _ rfl
  refine EvE.neg (by simp) (EvE.neg (by simp) (EvE.succ ?_))
  simp only [laws_FnFracOf.j1]
  rcases fOf_cases a b with e | ⟨p, q, e⟩
  · simp only [e]
    exact EvE.pos (by trivial) (EvE.pos (by decide) (EvE.now _ (by decide)))
  · simp only [e]
    obtain ⟨x1, x2, x3, x4, x5, x6⟩ := fOf_true e
    refine EvE.neg (by decide) ?_
    have r1 : 0 ≤ (m.length : Int) % 20 ∧ (m.length : Int) % 20 < 20 := by omega
    generalize (m.length : Int) % 20 = c at *
    have m1 := mul_range (a := a) (b := 1 + c) (A := 100) (B := 20) (by omega) (by omega) (by omega) (by omega)
    have m2 := mul_range (a := b) (b := 1 + c) (A := 60) (B := 20) (by omega) (by omega) (by omega) (by omega)
    rw [w64 (x := a * (1 + c)) (by omega) (by omega), w64 (x := b * (1 + c)) (by omega) (by omega)]
    refine EvE.bind (impl_FracOf_ok _ _) ?_
    rintro _ rfl
    rw [fOf_scale e (k := 1 + c) (by omega) (by omega) (by omega)]
    dsimp only
    have bq := fOk_bounds x5
    exact FracOf_loop x5 (by omega) (by omega) (by omega) (by omega) x6 ⟨rfl, rfl⟩ _ 2 (by omega) (by omega) rfl

end Go.Proofs.Ytphinhhiakpalaa.Pure
