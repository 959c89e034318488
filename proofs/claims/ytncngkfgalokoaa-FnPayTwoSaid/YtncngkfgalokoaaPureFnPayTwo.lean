/- FnPayTwo It has no conditions. -/
import Derived.Test.YtncngkfgalokoaaPLedx20
import Derived.Test.YtncngkfgalokoaaPb
import Derived.Test.YtncngkfgalokoaaPbLed
namespace Go.Proofs.Ytncngkfgalokoaa.Pure
open Go.RowKit Go.Proofs.Ytncngkfgalokoaa.PLed Go.Proofs.YtncngkfgalokoaaW.PrintWords Go.Proofs.YtncngkfgalokoaaW.PrintLast Go.Proofs.Ytncngkfgalokoaa.Pb
open Go.Proofs.Ytncngkfgalokoaa.PbLed
set_option linter.unusedVariables false
set_option linter.unusedSimpArgs false

def pr (l : List S29) : List (Int × Int) := l.map fun z => (z.f0, z.f1)
theorem pr_length (l : List S29) : (pr l).length = l.length := by simp [pr]
theorem pr_snoc (l : List S29) (z : S29) : pr (l ++ [z]) = pr l ++ [(z.f0, z.f1)] := by simp [pr]
theorem pr_inj {l m : List S29} (h : pr l = pr m) : l = m := by
  refine List.map_inj_right (f := fun z : S29 => (z.f0, z.f1)) (fun x y h => ?_) |>.1 h
  cases x; cases y; simp at h; simp [h]
theorem rd29_nat {l : List S29} {i : Nat} (h : i < l.length) : rd_T29 l (i : Int) = l[i] := ro_nat (d := z29) h
theorem drop29 {l : List S29} {i : Nat} (h : i < l.length) : l.drop i = rd_T29 l (i : Int) :: l.drop (i + 1) := drop_ro z29 h
/-- What paying tells. -/
def lPay (a b : Int) (l : List S29) (x y : Int) : Int × Int × List S29 × Bool := if lOk a b (pr l) = true ∧ fOk x y = true then (if lOk a b (pr l ++ [(x, y)]) = true then (a, b, l ++ [(⟨x, y⟩ : S29)], true) else (a, b, l, false)) else (0, 0, [], false)

theorem spec_l6In_ok (a b c : Int) : EvE (fun _ => spec_l6In.f a b c) (· = decide (b ≤ a ∧ a ≤ c)) := by
  unfold spec_l6In.f
  refine EvE.ite (fun h => EvE.now _ ?_) (fun h => EvE.now _ ?_)
  · have h : b ≤ a := h
    simp [h]
  · have h : ¬ b ≤ a := h
    simp [h]

theorem spec_l31Gcd_nat (n : Nat) : ∀ m : Nat, EvE (fun k => spec_l31Gcd.l0 k (m : Int) (n : Int)) (· = ((Nat.gcd n m : Nat) : Int)) := by
  induction n using Nat.strongRecOn with
  | _ n ih =>
    intro m
    refine EvE.succ ?_
    simp only [spec_l31Gcd.l0]
    refine EvE.ite (fun h => ?_) (fun h => ?_)
    · have hn : 0 < n := by omega
      refine EvE.neg (by omega) ?_
      have e : Int.tmod (m : Int) (n : Int) = ((m % n : Nat) : Int) := by rw [Int.tmod_eq_emod_of_nonneg (by omega)]; rfl
      rw [e]
      refine (ih (m % n) (Nat.mod_lt _ hn) n).mono ?_
      rintro _ rfl
      rw [← Nat.gcd_rec]
    · have hn : n = 0 := by omega
      subst hn
      exact EvE.now _ (by simp)
theorem spec_l31Gcd_ok (a b : Int) (ha : 0 ≤ a) (hb : 0 ≤ b) : EvE (fun k => spec_l31Gcd.f k a b) (· = G a b) := by
  obtain ⟨m, rfl⟩ := Int.eq_ofNat_of_zero_le ha
  obtain ⟨n, rfl⟩ := Int.eq_ofNat_of_zero_le hb
  unfold spec_l31Gcd.f
  refine (spec_l31Gcd_nat n m).mono ?_
  rintro _ rfl
  unfold G
  rw [Nat.gcd_comm]; rfl

theorem spec_FracOk_ok (a b : Int) : EvE (fun k => spec_FracOk.f k a b) (· = fOk a b) := by
  unfold spec_FracOk.f
  refine EvE.bind (spec_l6In_ok a 0 999) ?_
  rintro _ rfl
  refine EvE.ite (fun h => ?_) (fun h => EvE.now _ ?_)
  · refine EvE.bind (spec_l6In_ok b 1 60) ?_
    rintro _ rfl
    have h := of_decide_eq_true h
    refine EvE.ite (fun h2 => ?_) (fun h2 => EvE.now _ ?_)
    · have h2 := of_decide_eq_true h2
      refine EvE.bind (spec_l31Gcd_ok a b (by omega) (by omega)) ?_
      rintro _ rfl
      refine EvE.now _ ?_
      rw [Bool.eq_iff_iff, fOk_iff]
      simp; omega
    · rw [eq_comm, Bool.eq_false_iff]
      intro e
      exact h2 (by simp; have := fOk_iff.1 e; omega)
  · rw [eq_comm, Bool.eq_false_iff]
    intro e
    exact h (by simp; have := fOk_iff.1 e; omega)

theorem spec_l31Of_ok (a b : Int) (ha : 0 ≤ a) (ha' : a ≤ 1000000000000) (hb : 1 ≤ b) (hb' : b ≤ 1000000000000) : EvE (fun k => spec_l31Of.f k a b) (· = (a / G a b, b / G a b)) := by
  unfold spec_l31Of.f
  refine EvE.bind (spec_l31Gcd_ok a b ha (by omega)) ?_
  rintro _ rfl
  have hg := G_pos (n := a) hb
  refine EvE.neg (by omega) (EvE.now _ ?_)
  have h1 : a / G a b ≤ a := Int.ediv_le_self _ ha
  have h2 : b / G a b ≤ b := Int.ediv_le_self _ (by omega)
  have h3 : 0 ≤ a / G a b := Int.ediv_nonneg ha (by omega)
  have h4 : 0 ≤ b / G a b := Int.ediv_nonneg (by omega) (by omega)
  rw [Int.tdiv_eq_ediv_of_nonneg ha, Int.tdiv_eq_ediv_of_nonneg (by omega), w64 (by omega) (by omega), w64 (by omega) (by omega)]

theorem spec_FracSum_ok (a b c d : Int) : EvE (fun k => spec_FracSum.f k a b c d) (· = fSum a b c d) := by
  have no : ¬ (fOk a b = true ∧ fOk c d = true) → EvE (fun k => spec_FracSum.j0 k true a b c d) (· = fSum a b c d) := fun h => by
    refine EvE.succ ?_
    simp only [spec_FracSum.j0]
    unfold fSum
    exact EvE.pos (by trivial) (EvE.now _ (by rw [if_neg h]))
  unfold spec_FracSum.f
  refine EvE.bind (spec_FracOk_ok a b) ?_
  rintro _ rfl
  refine EvE.ite (fun h => ?_) (fun h => no (fun e => h e.1))
  refine EvE.bind (spec_FracOk_ok c d) ?_
  rintro _ rfl
  cases h2 : fOk c d
  · exact no (fun e => by rw [h2] at e; exact absurd e.2 (by decide))
  · refine EvE.succ ?_
    simp only [spec_FracSum.j0]
    refine EvE.neg (by decide) ?_
    have h1' := fOk_bounds h
    have h2' := fOk_bounds h2
    have m1 := mul_range (a := a) (b := d) (A := 999) (B := 60) (by omega) (by omega) (by omega) (by omega)
    have m2 := mul_range (a := c) (b := b) (A := 999) (B := 60) (by omega) (by omega) (by omega) (by omega)
    have m3 := mul_range (a := b) (b := d) (A := 60) (B := 60) (by omega) (by omega) (by omega) (by omega)
    have m4 := mul_pos_of (a := b) (b := d) (by omega) (by omega)
    rw [w64 (x := a * d) (by omega) (by omega), w64 (x := c * b) (by omega) (by omega), w64 (x := b * d) (by omega) (by omega), w64 (x := a * d + c * b) (by omega) (by omega)]
    refine EvE.bind (spec_l31Of_ok _ _ (by omega) (by omega) (by omega) (by omega)) ?_
    rintro _ rfl
    dsimp only
    refine EvE.bind (spec_FracOk_ok _ _) ?_
    rintro _ rfl
    rw [fSum_ok h h2]
    unfold red
    exact EvE.ite (fun h3 => EvE.now _ (by rw [if_pos h3])) (fun h3 => EvE.now _ (by rw [if_neg h3]))

theorem spec_l32Sum_loop (l : List S29) (hb : l.length ≤ 1125899906842624) (m : Nat) : ∀ (i : Nat) (n d : Int), i + m = l.length → EvE (fun k => spec_l32Sum.l0 k l (i : Int) n d) (· = lSum n d ((pr l).drop i)) := by
  induction m with
  | zero =>
    intro i n d hi
    refine EvE.succ ?_
    simp only [spec_l32Sum.l0]
    refine EvE.neg (by omega) (EvE.now _ ?_)
    rw [List.drop_of_length_le (by rw [pr_length]; omega)]
    rfl
  | succ m ih =>
    intro i n d hi
    refine EvE.succ ?_
    simp only [spec_l32Sum.l0]
    refine EvE.pos (by omega) (EvE.pos (by omega) ?_)
    refine EvE.bind (spec_FracSum_ok _ _ _ _) ?_
    rintro _ rfl
    have hd : (pr l).drop i = ((rd_T29 l (i : Int)).f0, (rd_T29 l (i : Int)).f1) :: (pr l).drop (i + 1) := by
      unfold pr
      rw [← List.map_drop, ← List.map_drop, drop29 (by omega)]
      rfl
    rw [hd]
    rcases fSum_cases n d (rd_T29 l (i : Int)).f0 (rd_T29 l (i : Int)).f1 with e | ⟨p, q, e⟩
    · rw [lSum_no e, e]
      exact EvE.neg (by decide) (EvE.now _ rfl)
    · rw [lSum_cons e, e]
      refine EvE.pos rfl ?_
      rw [w64 (x := (i : Int) + 1) (by omega) (by omega)]
      exact ih (i + 1) p q (by omega)
theorem spec_l32Sum_ok (l : List S29) (hb : l.length ≤ 1125899906842624) : EvE (fun k => spec_l32Sum.f k l) (· = tot (pr l)) := by
  unfold spec_l32Sum.f
  exact spec_l32Sum_loop l hb l.length 0 0 1 (by omega)

theorem spec_l31Cmp_led (a b c d : Int) (ha : 0 ≤ a) (ha' : a ≤ 999) (hb : 1 ≤ b) (hb' : b ≤ 60) (hc : 0 ≤ c) (hc' : c ≤ 999) (hd : 1 ≤ d) (hd' : d ≤ 60) : EvE (fun _ => spec_l31Cmp.f a b c d) (· = sg (a * d) (c * b)) := by
  have m1 := mul_range (a := a) (b := d) (A := 999) (B := 60) (by omega) (by omega) (by omega) (by omega)
  have m2 := mul_range (a := c) (b := b) (A := 999) (B := 60) (by omega) (by omega) (by omega) (by omega)
  unfold spec_l31Cmp.f sg
  rw [w64 (x := a * d) (by omega) (by omega), w64 (x := c * b) (by omega) (by omega)]
  exact EvE.ite (fun h => EvE.now _ (by rw [if_pos h])) (fun h => EvE.ite (fun h2 => EvE.now _ (by rw [if_neg h, if_pos h2])) (fun h2 => EvE.now _ (by rw [if_neg h, if_neg h2])))
theorem spec_LedgerOk_ok (a b : Int) (l : List S29) (hb : l.length ≤ 1125899906842624) : EvE (fun k => spec_LedgerOk.f k a b l) (· = lOk a b (pr l)) := by
  unfold spec_LedgerOk.f
  refine EvE.bind (spec_l32Sum_ok l hb) ?_
  rintro _ rfl
  refine EvE.bind (spec_FracOk_ok a b) ?_
  rintro _ rfl
  unfold lOk
  rw [pr_length]
  refine EvE.ite (fun h => ?_) (fun h => EvE.now _ (by simp [Bool.eq_false_iff.2 h]))
  refine EvE.ite (fun h2 => ?_) (fun h2 => EvE.now _ (by simp [show ¬ l.length ≤ 8 by omega]))
  have h2' : l.length ≤ 8 := by omega
  rcases tot_cases (pr l) with e | ⟨p, q, e⟩
  · rw [e]
    exact EvE.neg (by decide) (EvE.now _ (by simp))
  · rw [e]
    have b1 := fOk_bounds (tot_ok e)
    have b2 := fOk_bounds h
    refine EvE.pos rfl ?_
    refine EvE.bind (spec_l31Cmp_led p q a b (by omega) (by omega) (by omega) (by omega) (by omega) (by omega) (by omega) (by omega)) ?_
    rintro _ rfl
    exact EvE.now _ (by simp [h, h2'])

theorem impl_within_ok (a b c : Int) : EvE (fun _ => impl_within.f a b c) (· = decide (b ≤ a ∧ a ≤ c)) := by
  unfold impl_within.f
  refine EvE.ite (fun h => EvE.now _ ?_) (fun h => EvE.now _ ?_)
  · have h : b ≤ a := h
    simp [h]
  · have h : ¬ b ≤ a := h
    simp [h]

theorem impl_divisor_nat (n : Nat) : ∀ m : Nat, EvE (fun k => impl_divisor.l0 k (m : Int) (n : Int)) (· = ((Nat.gcd n m : Nat) : Int)) := by
  induction n using Nat.strongRecOn with
  | _ n ih =>
    intro m
    refine EvE.succ ?_
    simp only [impl_divisor.l0]
    refine EvE.ite (fun h => ?_) (fun h => ?_)
    · have hn : n = 0 := by omega
      subst hn
      exact EvE.now _ (by simp)
    · have hn : 0 < n := by omega
      have e : Int.tmod (m : Int) (n : Int) = ((m % n : Nat) : Int) := by rw [Int.tmod_eq_emod_of_nonneg (by omega)]; rfl
      rw [e]
      refine (ih (m % n) (Nat.mod_lt _ hn) n).mono ?_
      rintro _ rfl
      rw [← Nat.gcd_rec]
theorem impl_divisor_ok (a b : Int) (ha : 0 ≤ a) (hb : 0 ≤ b) : EvE (fun k => impl_divisor.f k a b) (· = G a b) := by
  obtain ⟨m, rfl⟩ := Int.eq_ofNat_of_zero_le ha
  obtain ⟨n, rfl⟩ := Int.eq_ofNat_of_zero_le hb
  unfold impl_divisor.f
  refine (impl_divisor_nat n m).mono ?_
  rintro _ rfl
  unfold G
  rw [Nat.gcd_comm]; rfl

theorem impl_FracOk_ok (a b : Int) : EvE (fun k => impl_FracOk.f k a b) (· = fOk a b) := by
  unfold impl_FracOk.f
  refine EvE.bind (impl_within_ok a 0 999) ?_
  rintro _ rfl
  refine EvE.ite (fun h => ?_) (fun h => EvE.now _ ?_)
  · refine EvE.bind (impl_within_ok b 1 60) ?_
    rintro _ rfl
    have h := of_decide_eq_true h
    refine EvE.ite (fun h2 => ?_) (fun h2 => EvE.now _ ?_)
    · have h2 := of_decide_eq_true h2
      refine EvE.bind (impl_divisor_ok a b (by omega) (by omega)) ?_
      rintro _ rfl
      refine EvE.now _ ?_
      rw [Bool.eq_iff_iff, fOk_iff]
      simp; omega
    · rw [eq_comm, Bool.eq_false_iff]
      intro e
      exact h2 (by simp; have := fOk_iff.1 e; omega)
  · rw [eq_comm, Bool.eq_false_iff]
    intro e
    exact h (by simp; have := fOk_iff.1 e; omega)

theorem impl_reduced_ok (a b : Int) (ha : 0 ≤ a) (ha' : a ≤ 1000000000000) (hb : 1 ≤ b) (hb' : b ≤ 1000000000000) : EvE (fun k => impl_reduced.f k a b) (· = red a b) := by
  unfold impl_reduced.f
  refine EvE.bind (impl_divisor_ok a b ha (by omega)) ?_
  rintro _ rfl
  have hg := G_pos (n := a) hb
  refine EvE.neg (by omega) ?_
  have h1 : a / G a b ≤ a := Int.ediv_le_self _ ha
  have h2 : b / G a b ≤ b := Int.ediv_le_self _ (by omega)
  have h3 : 0 ≤ a / G a b := Int.ediv_nonneg ha (by omega)
  have h4 : 0 ≤ b / G a b := Int.ediv_nonneg (by omega) (by omega)
  rw [Int.tdiv_eq_ediv_of_nonneg ha, Int.tdiv_eq_ediv_of_nonneg (by omega), w64 (by omega) (by omega), w64 (by omega) (by omega)]
  refine EvE.bind (impl_FracOk_ok _ _) ?_
  rintro _ rfl
  unfold red
  refine EvE.ite (fun h => EvE.now _ ?_) (fun h => EvE.now _ ?_)
  · rw [if_pos h]
  · rw [if_neg h]

theorem impl_FracSum_ok (a b c d : Int) : EvE (fun k => impl_FracSum.f k a b c d) (· = fSum a b c d) := by
  unfold impl_FracSum.f fSum
  refine EvE.bind (impl_FracOk_ok a b) ?_
  rintro _ rfl
  refine EvE.ite (fun h => ?_) (fun h => EvE.now _ (by rw [if_neg (fun e => h e.1)]))
  refine EvE.bind (impl_FracOk_ok c d) ?_
  rintro _ rfl
  refine EvE.ite (fun h2 => ?_) (fun h2 => EvE.now _ (by rw [if_neg (fun e => h2 e.2)]))
  have h1' := fOk_bounds h
  have h2' := fOk_bounds h2
  have m1 := mul_range (a := a) (b := d) (A := 999) (B := 60) (by omega) (by omega) (by omega) (by omega)
  have m2 := mul_range (a := c) (b := b) (A := 999) (B := 60) (by omega) (by omega) (by omega) (by omega)
  have m3 := mul_range (a := b) (b := d) (A := 60) (B := 60) (by omega) (by omega) (by omega) (by omega)
  have m4 := mul_pos_of (a := b) (b := d) (by omega) (by omega)
  rw [if_pos ⟨h, h2⟩, w64 (x := a * d) (by omega) (by omega), w64 (x := c * b) (by omega) (by omega), w64 (x := b * d) (by omega) (by omega), w64 (x := a * d + c * b) (by omega) (by omega)]
  refine EvE.bind (impl_reduced_ok _ _ (by omega) (by omega) (by omega) (by omega)) ?_
  rintro _ rfl
  exact EvE.now _ rfl

theorem cmp_Compare_ok (x y : Int) : EvE (fun _ => cmp_Compare_int.f x y) (· = sg x y) := by
  unfold cmp_Compare_int.f cmp_isNaN_int.f sg
  refine EvE.bind (EvE.now (P := (· = false)) _ (by simp)) ?_
  rintro _ rfl
  refine EvE.bind (EvE.now (P := (· = false)) _ (by simp)) ?_
  rintro _ rfl
  refine EvE.neg (by decide) (EvE.neg (by decide) ?_)
  exact EvE.ite (fun h => EvE.now _ (by rw [if_pos h])) (fun h => EvE.ite (fun h2 => EvE.now _ (by rw [if_neg h, if_pos h2])) (fun h2 => EvE.now _ (by rw [if_neg h, if_neg h2])))
theorem impl_FracCmp_ok (a b c d : Int) : EvE (fun k => impl_FracCmp.f k a b c d) (· = fCmp a b c d) := by
  unfold impl_FracCmp.f fCmp
  refine EvE.bind (impl_FracOk_ok a b) ?_
  rintro _ rfl
  refine EvE.ite (fun h => ?_) (fun h => EvE.now _ (by rw [if_neg (fun e => h e.1)]))
  refine EvE.bind (impl_FracOk_ok c d) ?_
  rintro _ rfl
  refine EvE.ite (fun h2 => ?_) (fun h2 => EvE.now _ (by rw [if_neg (fun e => h2 e.2)]))
  have h1' := fOk_bounds h
  have h2' := fOk_bounds h2
  have m1 := mul_range (a := a) (b := d) (A := 999) (B := 60) (by omega) (by omega) (by omega) (by omega)
  have m2 := mul_range (a := c) (b := b) (A := 999) (B := 60) (by omega) (by omega) (by omega) (by omega)
  rw [if_pos ⟨h, h2⟩, w64 (x := a * d) (by omega) (by omega), w64 (x := c * b) (by omega) (by omega)]
  exact EvE.tail (cmp_Compare_ok _ _)

theorem addAll_ok (l : List (Int × Int)) : ∀ n d : Int, EvE (fun k => addAll k n d l) (fun r => (lSum n d l = (0, 0, false) ∧ r = none) ∨ ∃ p q, lSum n d l = (p, q, true) ∧ r = some (p, q)) := by
  induction l with
  | nil => exact fun n d => EvE.now _ (.inr ⟨n, d, rfl, rfl⟩)
  | cons z zs ih =>
    intro n d
    simp only [addAll]
    refine EvE.bind (impl_FracSum_ok n d z.1 z.2) ?_
    rintro _ rfl
    rcases fSum_cases n d z.1 z.2 with e | ⟨p, q, e⟩
    · rw [e, lSum_no e]
      exact EvE.neg (by decide) (EvE.now _ (.inl ⟨rfl, rfl⟩))
    · rw [e, lSum_cons e]
      exact EvE.pos rfl (ih p q)
theorem impl_LedgerSum_ok (a b : Int) (l : List S29) : EvE (fun k => impl_LedgerSum.f k a b l) (· = lTot a b (pr l)) := by
  unfold impl_LedgerSum.f
  refine EvE.bind (impl_FracOk_ok a b) ?_
  rintro _ rfl
  refine EvE.ite (fun h => ?_) (fun h => EvE.now _ (lTot_no (by unfold lOk; simp [Bool.eq_false_iff.2 h])).symm)
  refine EvE.ite (fun h2 => ?_) (fun h2 => EvE.now _ (lTot_no (by unfold lOk; rw [pr_length]; simp [h2])).symm)
  refine EvE.bind (addAll_ok (ChargesGiv.prs l) 0 1) ?_
  rintro r (⟨e, rfl⟩ | ⟨p, q, e, rfl⟩)
  · refine EvE.now _ (lTot_no ?_).symm
    have e : tot (pr l) = (0, 0, false) := e
    unfold lOk
    rw [e]
    simp
  · have e : tot (pr l) = (p, q, true) := e
    simp only [addEnd]
    refine EvE.bind (impl_FracCmp_ok p q a b) ?_
    rintro _ rfl
    refine EvE.ite (fun h3 => EvE.now _ (lTot_no ?_).symm) (fun h3 => EvE.now _ ?_)
    · rw [Bool.eq_false_iff]
      intro h4
      obtain ⟨_, _, p', q', e', h5⟩ := lOk_iff.1 h4
      obtain ⟨h6, h7⟩ := Prod.mk.inj (e.symm.trans e')
      obtain ⟨h7, _⟩ := Prod.mk.inj h7
      rw [← h6, ← h7] at h5
      omega
    · exact (lTot_true.2 ⟨lOk_iff.2 ⟨h, by rw [pr_length]; exact h2, p, q, e, by omega⟩, e⟩).symm

theorem impl_LedgerOk_ok (a b : Int) (l : List S29) : EvE (fun k => impl_LedgerOk.f k a b l) (· = lOk a b (pr l)) := by
  unfold impl_LedgerOk.f
  refine EvE.bind (impl_LedgerSum_ok a b l) ?_
  rintro _ rfl
  exact EvE.now _ (lTot_flag a b (pr l))

theorem spec_l6Open_ok {l : List Int} (h : ∀ x ∈ l, (Lit.int .u8 x).wf = true) : EvE (fun _ => spec_l6Open.f l) (fun r => ∃ s, r = (s, 0) ∧ Coded s) := by
  have h := u8_range h
  unfold spec_l6Open.f
  refine EvE.ite (fun h1 => EvE.pos (by omega) (EvE.now _ ⟨_, rfl, fun x hx => h x (List.mem_of_mem_take hx), ?_⟩)) (fun h1 => EvE.now _ ⟨_, rfl, h, by omega⟩)
  rw [List.length_take]; omega

theorem spec_l32Pay_ok (a b : Int) (l : List S29) (x y : Int) (hb : l.length ≤ 1048576) : EvE (fun _ => spec_l32Pay.f a b l x y) (· = (a, b, l ++ [(⟨x, y⟩ : S29)])) := by
  unfold spec_l32Pay.f
  refine EvE.bind (EvE.now (P := fun r => r = ([] : List S29)) _ rfl) ?_
  rintro _ rfl
  refine EvE.pos (by simp; omega) ?_
  refine EvE.bind (EvE.now (P := fun r => r = l) _ rfl) ?_
  rintro _ rfl
  refine EvE.bind (EvE.now (P := fun r => r = [(⟨x, y⟩ : S29)]) _ rfl) ?_
  rintro _ rfl
  exact EvE.pos (by simp; omega) (EvE.now _ rfl)

theorem spec_LedgerPay_ok (a b : Int) (l : List S29) (x y : Int) (hb : l.length ≤ 1048576) : EvE (fun k => spec_LedgerPay.f k a b l x y) (· = lPay a b l x y) := by
  have no : ¬ (lOk a b (pr l) = true ∧ fOk x y = true) → EvE (fun k => spec_LedgerPay.j0 k true a b l x y) (· = lPay a b l x y) := fun h => by
    refine EvE.succ ?_
    simp only [spec_LedgerPay.j0]
    unfold lPay
    exact EvE.pos (by trivial) (EvE.now _ (by rw [if_neg h]))
  unfold spec_LedgerPay.f
  refine EvE.bind (spec_LedgerOk_ok a b l (by omega)) ?_
  rintro _ rfl
  refine EvE.ite (fun h => ?_) (fun h => no (fun e => h e.1))
  refine EvE.bind (spec_FracOk_ok x y) ?_
  rintro _ rfl
  cases h2 : fOk x y
  · exact no (fun e => by rw [h2] at e; exact absurd e.2 (by decide))
  · refine EvE.succ ?_
    simp only [spec_LedgerPay.j0]
    refine EvE.neg (by decide) ?_
    refine EvE.bind (spec_l32Pay_ok a b l x y hb) ?_
    rintro _ rfl
    dsimp only
    refine EvE.bind (spec_LedgerOk_ok a b _ (by simp; omega)) ?_
    rintro _ rfl
    have e : lPay a b l x y = if lOk a b (pr (l ++ [(⟨x, y⟩ : S29)])) = true then (a, b, l ++ [(⟨x, y⟩ : S29)], true) else (a, b, l, false) := by
      unfold lPay
      rw [if_pos ⟨h, h2⟩, pr_snoc]
    rw [e]
    refine EvE.ite (fun h3 => EvE.now _ (by rw [if_pos h3])) (fun h3 => ?_)
    rw [if_neg h3]
    refine EvE.bind (EvE.now (P := fun r => r = ([] : List S29)) _ rfl) ?_
    rintro _ rfl
    exact EvE.pos (by simp; omega) (EvE.now _ rfl)

theorem spec_l6Rd_pick_ok {s : List Int} (hs : Coded s) (p n : Int) (h0 : 0 ≤ p) (h1 : p ≤ 1000000) (hn : 1 ≤ n) (hn' : n ≤ 1000000) :
    EvE (fun k => spec_l6Rd_pick.f k s p n) (fun r => ∃ v, r = (v, p + 1) ∧ 0 ≤ v ∧ v < n) := by
  unfold spec_l6Rd_pick.f
  rw [w64 (x := p + 1) (by omega) (by omega)]
  refine EvE.neg (by omega) (EvE.succ ?_)
  simp only [spec_l6Rd_pick.j0]
  have e : wrap64 (p + 1 - 1) = p := by rw [w64 (by omega) (by omega)]; omega
  rw [e]
  have rg := rd_range hs.1
  have hl := hs.2
  refine EvE.ite (fun _ => EvE.now _ ⟨0, rfl, by omega, by omega⟩) (fun hz => ?_)
  have hpos : 1 ≤ (s.length : Int) := by
    have : s.length ≠ 0 := by simpa using hz
    omega
  refine EvE.ite (fun hlt => EvE.pos h0 (EvE.neg (by omega) (EvE.now _ ?_))) (fun hge => ?_)
  · have := rg p
    rw [w64 (x := rd s p) (by omega) (by omega)]
    exact ⟨_, rfl, tmod_range (by omega) hn⟩
  · refine EvE.neg (by omega) ?_
    have t1 := tmod_range (a := p) (n := (s.length : Int)) h0 hpos
    have e1 : wrap64 (p * 7) = p * 7 := w64 (by omega) (by omega)
    have e2 : wrap64 (p * 7 + 3) = p * 7 + 3 := w64 (by omega) (by omega)
    rw [e1, e2]
    have t2 := tmod_range (a := p * 7 + 3) (n := (s.length : Int)) (by omega) hpos
    refine EvE.pos t1.1 (EvE.pos t1.2 (EvE.pos t2.1 (EvE.pos t2.2 (EvE.neg (by omega) (EvE.now _ ?_)))))
    have r1 := rg (Int.tmod p s.length)
    have r2 := rg (Int.tmod (p * 7 + 3) s.length)
    generalize rd s (Int.tmod p s.length) = A at *
    generalize rd s (Int.tmod (p * 7 + 3) s.length) = B at *
    have dq : 0 ≤ Int.tdiv p s.length ∧ Int.tdiv p s.length ≤ p := by
      rw [Int.tdiv_eq_ediv_of_nonneg h0]
      exact ⟨Int.ediv_nonneg h0 (by omega), Int.ediv_le_self _ h0⟩
    generalize Int.tdiv p s.length = Q at *
    rw [w64 (x := A) (by omega) (by omega), w64 (x := B) (by omega) (by omega), w64 (x := A * 131) (by omega) (by omega), w64 (x := B * 1117) (by omega) (by omega), w64 (x := p * 29) (by omega) (by omega), w64 (x := Q) (by omega) (by omega), w64 (x := Q * 53) (by omega) (by omega), w64 (x := A * 131 + B * 1117) (by omega) (by omega), w64 (x := A * 131 + B * 1117 + p * 29) (by omega) (by omega), w64 (x := A * 131 + B * 1117 + p * 29 + Q * 53) (by omega) (by omega)]
    have hX : 0 ≤ A * 131 + B * 1117 + p * 29 + Q * 53 ∧ A * 131 + B * 1117 + p * 29 + Q * 53 < 1000000000000 := by omega
    generalize A * 131 + B * 1117 + p * 29 + Q * 53 = X at *
    have e3 : wrap64 (Int.tdiv X 64) = X / 64 := by
      rw [Int.tdiv_eq_ediv_of_nonneg hX.1]
      exact w64 (by omega) (by omega)
    rw [e3]
    have hx := xor_nonneg (a := X) (b := X / 64) (by omega) (by omega) (by omega) (by omega)
    exact ⟨_, rfl, tmod_range hx.1 hn⟩

theorem spec_l92Frac_ok {s : List Int} (hs : Coded s) (p : Int) (h0 : 0 ≤ p) (h1 : p ≤ 900000) :
    EvE (fun k => spec_l92Frac.f k s p) (fun r => ∃ a b q, r = (a, b, q) ∧ p ≤ q ∧ q ≤ p + 5 ∧ 0 ≤ a ∧ a ≤ 12 ∧ 0 ≤ b ∧ b ≤ 70) := by
  unfold spec_l92Frac.f
  refine EvE.bind (spec_l6Rd_pick_ok hs p 12 h0 (by omega) (by omega) (by omega)) ?_
  rintro _ ⟨a, rfl, ha, ha'⟩
  dsimp only
  refine EvE.bind (spec_l6Rd_pick_ok hs _ 12 (by omega) (by omega) (by omega) (by omega)) ?_
  rintro _ ⟨b, rfl, hb, hb'⟩
  dsimp only
  rw [w64 (x := 1 + b) (by omega) (by omega)]
  refine EvE.bind (spec_l31Of_ok a (1 + b) (by omega) (by omega) (by omega) (by omega)) ?_
  rintro _ rfl
  dsimp only
  refine EvE.bind (spec_l6Rd_pick_ok hs _ 30 (by omega) (by omega) (by omega) (by omega)) ?_
  rintro _ ⟨c, rfl, hc, hc'⟩
  dsimp only
  refine EvE.ite (fun _ => ?_) (fun _ => EvE.now _ ⟨_, _, _, rfl, by omega, by omega, ?_⟩)
  · refine EvE.bind (spec_l6Rd_pick_ok hs _ 9 (by omega) (by omega) (by omega) (by omega)) ?_
    rintro _ ⟨d, rfl, hd, hd'⟩
    dsimp only
    refine EvE.bind (spec_l6Rd_pick_ok hs _ 70 (by omega) (by omega) (by omega) (by omega)) ?_
    rintro _ ⟨e, rfl, he, he'⟩
    exact EvE.now _ ⟨_, _, _, rfl, by omega, by omega, by omega, by omega, by omega, by omega⟩
  · have hg := G_pos (n := a) (d := 1 + b) (by omega)
    have h1 : a / G a (1 + b) ≤ a := Int.ediv_le_self _ ha
    have h2 : (1 + b) / G a (1 + b) ≤ 1 + b := Int.ediv_le_self _ (by omega)
    have h3 : 0 ≤ a / G a (1 + b) := Int.ediv_nonneg ha (by omega)
    have h4 : 0 ≤ (1 + b) / G a (1 + b) := Int.ediv_nonneg (by omega) (by omega)
    omega

theorem lPay_len {a b : Int} {l : List S29} {x y : Int} (h : (lPay a b l x y).2.2.2 = true) : (lPay a b l x y).2.2.1.length ≤ 8 := by
  unfold lPay at h ⊢
  split
  · rename_i h1
    split
    · rename_i h2
      have h3 := (lOk_iff.1 h2).2.1
      rw [List.length_append, pr_length] at h3
      simpa using h3
    · have h3 := (lOk_iff.1 h1.1).2.1
      rw [pr_length] at h3
      exact h3
  · simp
theorem spec_l92Ledger_loop {s : List Int} (hs : Coded s) (n : Nat) : ∀ (p a b : Int) (l : List S29), 0 ≤ p → p + 2 * n ≤ 1000 → l.length ≤ 8 → EvE (fun k => spec_l92Ledger.l0 k (n : Int) s p a b l) (fun r => ∃ a b l q, r = (a, b, l, q) ∧ 0 ≤ q ∧ q ≤ 2000 ∧ l.length ≤ 9) := by
  induction n with
  | zero =>
    intro p a b l h0 h1 hl
    refine EvE.succ ?_
    simp only [spec_l92Ledger.l0]
    refine EvE.neg (by omega) ?_
    refine EvE.bind (spec_l6Rd_pick_ok hs p 30 h0 (by omega) (by omega) (by omega)) ?_
    rintro _ ⟨v, rfl, hv, hv'⟩
    dsimp only
    refine EvE.ite (fun _ => ?_) (fun _ => EvE.ite (fun _ => ?_) (fun _ => EvE.now _ ⟨_, _, _, _, rfl, by omega, by omega, by omega⟩))
    · refine EvE.bind (spec_l6Rd_pick_ok hs _ 3 (by omega) (by omega) (by omega) (by omega)) ?_
      rintro _ ⟨u, rfl, hu, hu'⟩
      dsimp only
      refine EvE.bind (spec_l6Rd_pick_ok hs _ 3 (by omega) (by omega) (by omega) (by omega)) ?_
      rintro _ ⟨t, rfl, ht, ht'⟩
      exact EvE.now _ ⟨_, _, _, _, rfl, by omega, by omega, by omega⟩
    · refine EvE.bind (spec_l92Frac_ok hs _ (by omega) (by omega)) ?_
      rintro _ ⟨c, d, q, rfl, h2, h3, _⟩
      dsimp only
      exact EvE.pos (by omega) (EvE.now _ ⟨_, _, _, _, rfl, by omega, by omega, by simp; omega⟩)
  | succ n ih =>
    intro p a b l h0 h1 hl
    refine EvE.succ ?_
    simp only [spec_l92Ledger.l0]
    refine EvE.pos (by omega) ?_
    refine EvE.bind (spec_l6Rd_pick_ok hs p 3 h0 (by omega) (by omega) (by omega)) ?_
    rintro _ ⟨v, rfl, hv, hv'⟩
    dsimp only
    refine EvE.bind (spec_l6Rd_pick_ok hs _ 6 (by omega) (by omega) (by omega) (by omega)) ?_
    rintro _ ⟨u, rfl, hu, hu'⟩
    dsimp only
    rw [w64 (x := 1 + v) (by omega) (by omega), w64 (x := 1 + u) (by omega) (by omega), w64 (x := ((n + 1 : Nat) : Int) - 1) (by omega) (by omega)]
    have e : ((n + 1 : Nat) : Int) - 1 = (n : Int) := by omega
    rw [e]
    refine EvE.bind (spec_l31Of_ok (1 + v) (1 + u) (by omega) (by omega) (by omega) (by omega)) ?_
    rintro _ rfl
    dsimp only
    refine EvE.bind (spec_LedgerPay_ok a b l _ _ (by omega)) ?_
    rintro _ rfl
    exact EvE.ite (fun h => ih _ _ _ _ (by omega) (by omega) (lPay_len h)) (fun h => ih _ _ _ _ (by omega) (by omega) hl)
theorem spec_l92Ledger_ok {s : List Int} (hs : Coded s) : EvE (fun k => spec_l92Ledger.f k s 0) (fun r => ∃ a b l q, r = (a, b, l, q) ∧ 0 ≤ q ∧ q ≤ 2000 ∧ l.length ≤ 9) := by
  unfold spec_l92Ledger.f
  refine EvE.bind (spec_l6Rd_pick_ok hs 0 12 (by omega) (by omega) (by omega) (by omega)) ?_
  rintro _ ⟨v, rfl, hv, hv'⟩
  dsimp only
  refine EvE.bind (spec_l6Rd_pick_ok hs _ 4 (by omega) (by omega) (by omega) (by omega)) ?_
  rintro _ ⟨u, rfl, hu, hu'⟩
  dsimp only
  rw [w64 (x := 1 + v) (by omega) (by omega), w64 (x := 1 + u) (by omega) (by omega)]
  refine EvE.bind (spec_l31Of_ok (1 + v) (1 + u) (by omega) (by omega) (by omega) (by omega)) ?_
  rintro _ rfl
  dsimp only
  refine EvE.bind (spec_l6Rd_pick_ok hs _ 6 (by omega) (by omega) (by omega) (by omega)) ?_
  rintro _ ⟨n, rfl, hn, hn'⟩
  dsimp only
  obtain ⟨m, rfl⟩ := Int.eq_ofNat_of_zero_le hn
  exact spec_l92Ledger_loop hs m _ _ _ _ (by omega) (by omega) (by simp)

theorem spec_DrawLedgerPay_ok {l : List Int} (h : ∀ x ∈ l, (Lit.int .u8 x).wf = true) : EvE (fun k => spec_DrawLedgerPay.f k l) (fun r => ∃ a b l x y, r = (a, b, l, x, y) ∧ l.length ≤ 9) := by
  unfold spec_DrawLedgerPay.f
  refine EvE.bind (spec_l6Open_ok h) ?_
  rintro _ ⟨s, rfl, hs⟩
  dsimp only
  refine EvE.bind (spec_l92Ledger_ok hs) ?_
  rintro _ ⟨a, b, l, q, rfl, h1, h2, hl⟩
  dsimp only
  refine EvE.bind (spec_l92Frac_ok hs q (by omega) (by omega)) ?_
  rintro _ ⟨c, d, q', rfl, _⟩
  exact EvE.now _ ⟨_, _, _, _, _, rfl, hl⟩

theorem impl_LedgerPay_ok (a b : Int) (l : List S29) (x y : Int) : EvE (fun k => impl_LedgerPay.f k a b l x y) (· = lPay a b l x y) := by
  unfold impl_LedgerPay.f lPay
  refine EvE.bind (impl_LedgerOk_ok a b l) ?_
  rintro _ rfl
  refine EvE.ite (fun h => ?_) (fun h => EvE.now _ (by rw [if_neg (fun e => h e.1)]))
  refine EvE.bind (impl_FracOk_ok x y) ?_
  rintro _ rfl
  refine EvE.ite (fun h2 => ?_) (fun h2 => EvE.now _ (by rw [if_neg (fun e => h2 e.2)]))
  have hl := (lOk_iff.1 h).2.1
  rw [pr_length] at hl
  rw [if_pos ⟨h, h2⟩]
  refine EvE.pos (by omega) ?_
  refine EvE.bind (impl_LedgerOk_ok a b _) ?_
  rintro _ rfl
  rw [pr_snoc]
  exact EvE.ite (fun h3 => EvE.now _ (by rw [if_pos h3])) (fun h3 => EvE.now _ (by rw [if_neg h3]))

theorem impl_LedgerCan_ok (a b : Int) (l : List S29) (x y : Int) : EvE (fun k => impl_LedgerCan.f k a b l x y) (· = lCan a b (pr l) x y) := by
  unfold impl_LedgerCan.f
  refine EvE.bind (impl_LedgerPay_ok a b l x y) ?_
  rintro _ rfl
  refine EvE.now _ ?_
  unfold lPay lCan
  cases h1 : lOk a b (pr l) <;> cases h2 : fOk x y <;> cases h3 : lOk a b (pr l ++ [(x, y)]) <;> simp

theorem spec_LedgerCan_ok (a b : Int) (l : List S29) (x y : Int) (hb : l.length ≤ 1048576) : EvE (fun k => spec_LedgerCan.f k a b l x y) (· = (lOk a b (pr l) && fOk x y && lOk a b (pr l ++ [(x, y)]))) := by
  unfold spec_LedgerCan.f
  refine EvE.bind (spec_LedgerOk_ok a b l (by omega)) ?_
  rintro _ rfl
  refine EvE.ite (fun h => ?_) (fun h => EvE.now _ (by simp [Bool.eq_false_iff.2 h]))
  refine EvE.bind (spec_FracOk_ok x y) ?_
  rintro _ rfl
  refine EvE.ite (fun h2 => ?_) (fun h2 => EvE.now _ (by simp [Bool.eq_false_iff.2 h2]))
  refine EvE.bind (spec_l32Pay_ok a b l x y hb) ?_
  rintro _ rfl
  dsimp only
  refine EvE.bind (spec_LedgerOk_ok a b _ (by simp; omega)) ?_
  rintro _ rfl
  exact EvE.now _ (by rw [pr_snoc, h, h2]; simp)

theorem spec_DrawLedgerCan_ok {l : List Int} (h : ∀ x ∈ l, (Lit.int .u8 x).wf = true) : EvE (fun k => spec_DrawLedgerCan.f k l) (fun r => ∃ a b l x y, r = (a, b, l, x, y) ∧ l.length ≤ 9) := by
  unfold spec_DrawLedgerCan.f
  refine EvE.bind (spec_DrawLedgerPay_ok h) ?_
  rintro _ ⟨a, b, l, x, y, rfl, hl⟩
  exact EvE.now _ ⟨_, _, _, _, _, rfl, hl⟩

theorem impl_FracOf_ok (a b : Int) : EvE (fun k => impl_FracOf.f k a b) (· = fOf a b) := by
  unfold impl_FracOf.f fOf
  refine EvE.bind (impl_within_ok a 0 99999) ?_
  rintro _ rfl
  refine EvE.ite (fun h => ?_) (fun h => EvE.now _ ?_)
  · have h := of_decide_eq_true h
    refine EvE.bind (impl_within_ok b 1 99999) ?_
    rintro _ rfl
    refine EvE.ite (fun h2 => ?_) (fun h2 => EvE.now _ ?_)
    · have h2 := of_decide_eq_true h2
      rw [if_pos (by omega)]
      refine EvE.bind (impl_reduced_ok a b (by omega) (by omega) (by omega) (by omega)) ?_
      rintro _ rfl
      exact EvE.now _ rfl
    · rw [if_neg]
      intro e
      exact h2 (by simp; omega)
  · rw [if_neg]
    intro e
    exact h (by simp; omega)

theorem laws_loLedger_loop (a b : Int) (l : List S29) (hb : l.length ≤ 1125899906842624) (m : Nat) : ∀ i : Nat, i + m = l.length → EvE (fun k => laws_loLedger.l0 k (i : Int) a b l a b l) (· = true) := by
  induction m with
  | zero =>
    intro i hi
    refine EvE.succ ?_
    simp only [laws_loLedger.l0]
    exact EvE.neg (by omega) (EvE.now _ rfl)
  | succ m ih =>
    intro i hi
    refine EvE.succ ?_
    simp only [laws_loLedger.l0]
    refine EvE.pos (by omega) (EvE.pos (by omega) (EvE.pos (by omega) (EvE.neg (by simp) ?_)))
    rw [w64 (x := (i : Int) + 1) (by omega) (by omega)]
    exact ih (i + 1) (by omega)
theorem laws_loLedger_ok (a b : Int) (l : List S29) (hb : l.length ≤ 1125899906842624) : EvE (fun k => laws_loLedger.f k a b l a b l) (· = true) := by
  unfold laws_loLedger.f
  refine EvE.neg (by simp) (EvE.succ ?_)
  simp only [laws_loLedger.j0]
  exact EvE.neg (by simp) (laws_loLedger_loop a b l hb l.length 0 (by omega))

theorem lPay_yes {a b : Int} {l : List S29} {x y : Int} (h : (lPay a b l x y).2.2.2 = true) : lPay a b l x y = (a, b, l ++ [(⟨x, y⟩ : S29)], true) ∧ lOk a b (pr l) = true ∧ lOk a b (pr l ++ [(x, y)]) = true := by
  unfold lPay at h ⊢
  split
  · rename_i h1
    rw [if_pos h1] at h
    split
    · rename_i h2
      exact ⟨rfl, h1.1, h2⟩
    · rename_i h2
      rw [if_neg h2] at h
      cases h
  · rename_i h1
    rw [if_neg h1] at h
    cases h
theorem lPay_two {a b : Int} {l : List S29} {x y u v : Int} (h1 : lOk a b (pr l ++ [(x, y)]) = true) (h2 : lOk a b (pr l ++ [(x, y)] ++ [(u, v)]) = true) (h3 : lOk a b (pr l ++ [(u, v)]) = true) (h4 : lOk a b (pr l ++ [(u, v)] ++ [(x, y)]) = true) :
    lTot a b (pr l ++ [(x, y)] ++ [(u, v)]) = lTot a b (pr l ++ [(u, v)] ++ [(x, y)]) := by
  obtain ⟨p, q, _, ht, _⟩ := lTot_yes (lOk_less h1)
  obtain ⟨r, s, _, ht1, _⟩ := lTot_yes h1
  obtain ⟨r', s', _, ht2, _⟩ := lTot_yes h3
  have e1 : fSum p q x y = (r, s, true) := by rw [← tot_snoc (x, y) ht]; exact ht1
  have e2 : fSum p q u v = (r', s', true) := by rw [← tot_snoc (u, v) ht]; exact ht2
  unfold lTot
  rw [if_pos h2, if_pos h4, tot_snoc (u, v) ht1, tot_snoc (x, y) ht2]
  have e3 : fSum x y p q = (r, s, true) := by rw [fSum_comm]; exact e1
  have := fSum_assoc e3 e2
  rw [fSum_comm r' s' x y] at this
  exact this
theorem fOf_small (n : Nat) : (fOf (1 + (n : Int) % 3) (1 + (n : Int) % 4)).2.2 = true := by
  have key : ∀ i : Fin 3, ∀ j : Fin 4, (fOf (1 + (i.val : Int)) (1 + (j.val : Int))).2.2 = true := by decide
  have := key ⟨n % 3, by omega⟩ ⟨n % 4, by omega⟩
  simpa using this
theorem FnPayTwo : laws_FnPayTwo.Pure := by
  intro l l1 _ _ hw _ _ _
  refine EvE.rounds ?_
  unfold laws_FnPayTwo.f
  refine EvE.ite (fun _ => EvE.now _ rfl) (fun _ => ?_)
  refine EvE.bind (spec_DrawLedgerPay_ok hw) ?_
  rintro _ ⟨a, b, l, x, y, rfl, hl⟩
  dsimp only
  refine EvE.bind (spec_LedgerPay_ok a b l x y (by omega)) ?_
  rintro _ rfl
  refine EvE.bind (impl_LedgerPay_ok a b l x y) ?_
  rintro _ rfl
  have hlen : (lPay a b l x y).2.2.1.length ≤ 10 := by
    unfold lPay; split
    · split <;> simp <;> omega
    · simp
  refine EvE.pos rfl ?_
  refine EvE.bind (laws_loLedger_ok _ _ _ (by omega)) ?_
  rintro _ rfl
  refine EvE.pos rfl ?_
  refine EvE.bind (spec_LedgerOk_ok a b l (by omega)) ?_
  rintro _ rfl
  refine EvE.ite (fun _ => EvE.now _ rfl) (fun h1 => ?_)
  refine EvE.bind (spec_FracOk_ok x y) ?_
  rintro _ rfl
  refine EvE.ite (fun _ => EvE.now _ rfl) (fun h2 => ?_)
  refine EvE.bind (impl_FracOf_ok _ _) ?_
  rintro _ rfl
  refine EvE.ite (fun h3 => ?_) (fun h3 => ?_)
  · have e : lPay a b l x y = (a, b, l, false) := by
      have h12 : lOk a b (pr l) = true ∧ fOk x y = true := ⟨by simpa using h1, by simpa using h2⟩
      unfold lPay at h3 ⊢
      rw [if_pos h12] at h3 ⊢
      split
      · rename_i h'
        rw [if_pos h'] at h3
        cases h3
      · rfl
    rw [e]
    refine EvE.bind (laws_loLedger_ok a b l (by omega)) ?_
    rintro _ rfl
    exact EvE.pos rfl (EvE.now _ rfl)
  · refine EvE.pos (fOf_small _) ?_
    generalize fOf _ _ = g
    obtain ⟨u, v, gm⟩ := g
    dsimp only
    refine EvE.bind (impl_LedgerPay_ok _ _ _ u v) ?_
    rintro _ rfl
    refine EvE.bind (impl_LedgerPay_ok a b l u v) ?_
    rintro _ rfl
    refine EvE.bind (impl_LedgerPay_ok _ _ _ x y) ?_
    rintro _ rfl
    refine EvE.bind (impl_LedgerSum_ok _ _ _) ?_
    rintro _ rfl
    refine EvE.bind (impl_LedgerSum_ok _ _ _) ?_
    rintro _ rfl
    refine EvE.pos ?_ (EvE.now _ rfl)
    obtain ⟨e0, _, k0⟩ := lPay_yes (by simpa using h3)
    rw [e0]
    dsimp only
    by_cases h5 : (lPay a b (l ++ [(⟨x, y⟩ : S29)]) u v).2.2.2 = true
    case neg => exact .inl (Bool.eq_false_iff.2 h5)
    refine .inr ?_
    by_cases h6 : (lPay a b l u v).2.2.2 = true
    case neg => exact .inl (Bool.eq_false_iff.2 h6)
    refine .inr ?_
    obtain ⟨e6, _, k6⟩ := lPay_yes h6
    rw [e6]
    dsimp only
    by_cases h7 : (lPay a b (l ++ [(⟨u, v⟩ : S29)]) x y).2.2.2 = true
    case neg => exact .inl (Bool.eq_false_iff.2 h7)
    refine .inr ?_
    obtain ⟨e5, _, k5⟩ := lPay_yes h5
    obtain ⟨e7, _, k7⟩ := lPay_yes h7
    rw [e5, e7]
    dsimp only
    rw [pr_snoc] at k5 k7
    rw [pr_snoc, pr_snoc, pr_snoc, pr_snoc, lPay_two k0 k5 k6 k7]
    exact ⟨rfl, rfl⟩

end Go.Proofs.Ytncngkfgalokoaa.Pure
