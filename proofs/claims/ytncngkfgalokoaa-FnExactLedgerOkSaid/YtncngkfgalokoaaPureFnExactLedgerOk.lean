/- FnExactLedgerOk It has no conditions. -/
import Derived.Test.YtncngkfgalokoaaPFnExactLedgerOkx5
import Derived.Test.YtncngkfgalokoaaPb
import Derived.Test.YtncngkfgalokoaaPbLed
namespace Go.Proofs.Ytncngkfgalokoaa.Pure
open Go.RowKit Go.Proofs.Ytncngkfgalokoaa.PFnExactLedgerOk Go.Proofs.YtncngkfgalokoaaW.PrintWords Go.Proofs.YtncngkfgalokoaaW.PrintLast Go.Proofs.Ytncngkfgalokoaa.Pb
open Go.Proofs.Ytncngkfgalokoaa.PbLed
set_option linter.unusedVariables false
set_option linter.unusedSimpArgs false

abbrev Fz (z : S23) : S29 := ⟨z.f0, z.f1⟩

def pr (l : List S29) : List (Int × Int) := l.map fun z => (z.f0, z.f1)
theorem pr_length (l : List S29) : (pr l).length = l.length := by simp [pr]
theorem pr_snoc (l : List S29) (z : S29) : pr (l ++ [z]) = pr l ++ [(z.f0, z.f1)] := by simp [pr]
theorem pr_inj {l m : List S29} (h : pr l = pr m) : l = m := by
  refine List.map_inj_right (f := fun z : S29 => (z.f0, z.f1)) (fun x y h => ?_) |>.1 h
  cases x; cases y; simp at h; simp [h]
theorem rd29_nat {l : List S29} {i : Nat} (h : i < l.length) : rd_T29 l (i : Int) = l[i] := ro_nat (d := z29) h
theorem drop29 {l : List S29} {i : Nat} (h : i < l.length) : l.drop i = rd_T29 l (i : Int) :: l.drop (i + 1) := drop_ro z29 h

theorem laws_szFracS_ok (l : List S23) (hl : l.length ≤ 9223372036854775807) : EvE (fun _ => laws_szFracS.f l 1048576) (fun r => r < 0 ∨ l.length ≤ 1048576) := by
  unfold laws_szFracS.f
  have e : wrap64 (1048576 - (l.length : Int)) = 1048576 - (l.length : Int) := w64 (by omega) (by omega)
  rw [e]
  exact EvE.ite (fun h => EvE.now _ (.inl (by decide))) (fun h => EvE.now _ (.inr (by omega)))

theorem laws_szLedger_ok (a b : Int) (l : List S23) (hl : l.length ≤ 9223372036854775807) : EvE (fun _ => laws_szLedger.f a b l 1048576) (fun r => r < 0 ∨ l.length ≤ 1048576) := by
  unfold laws_szLedger.f
  refine EvE.bind (laws_szFracS_ok l hl) ?_
  intro r hr
  exact EvE.ite (fun h => EvE.now _ (.inl (by decide))) (fun h => EvE.now _ hr)

theorem spec_l6In_ok (a b c : Int) : EvE (fun _ => spec_l6In.f a b c) (· = decide (b ≤ a ∧ a ≤ c)) := by
  unfold spec_l6In.f
  refine EvE.ite (fun h => EvE.now _ ?_) (fun h => EvE.now _ ?_)
  · have h : b ≤ a := h
    simp [h]
  · have h : ¬ b ≤ a := h
    simp [h]

theorem spec_l31Gcd_nat (n : Nat) : ∀ m : Nat, EvE (fun k => spec_l31Gcd.l0 k (m : Int) (n : Int)) (· = ((Nat.gcd n m : Nat) : Int)) := by
  induction n using Nat.strongRecOn with
  | _ n ih =>
    intro m
    refine EvE.succ ?_
    simp only [spec_l31Gcd.l0]
    refine EvE.ite (fun h => ?_) (fun h => ?_)
    · have hn : 0 < n := by omega
      refine EvE.neg (by omega) ?_
      have e : Int.tmod (m : Int) (n : Int) = ((m % n : Nat) : Int) := by rw [Int.tmod_eq_emod_of_nonneg (by omega)]; rfl
      rw [e]
      refine (ih (m % n) (Nat.mod_lt _ hn) n).mono ?_
      rintro _ rfl
      rw [← Nat.gcd_rec]
    · have hn : n = 0 := by omega
      subst hn
      exact EvE.now _ (by simp)
theorem spec_l31Gcd_ok (a b : Int) (ha : 0 ≤ a) (hb : 0 ≤ b) : EvE (fun k => spec_l31Gcd.f k a b) (· = G a b) := by
  obtain ⟨m, rfl⟩ := Int.eq_ofNat_of_zero_le ha
  obtain ⟨n, rfl⟩ := Int.eq_ofNat_of_zero_le hb
  unfold spec_l31Gcd.f
  refine (spec_l31Gcd_nat n m).mono ?_
  rintro _ rfl
  unfold G
  rw [Nat.gcd_comm]; rfl

theorem spec_FracOk_ok (a b : Int) : EvE (fun k => spec_FracOk.f k a b) (· = fOk a b) := by
  unfold spec_FracOk.f
  refine EvE.bind (spec_l6In_ok a 0 999) ?_
  rintro _ rfl
  refine EvE.ite (fun h => ?_) (fun h => EvE.now _ ?_)
  · refine EvE.bind (spec_l6In_ok b 1 60) ?_
    rintro _ rfl
    have h := of_decide_eq_true h
    refine EvE.ite (fun h2 => ?_) (fun h2 => EvE.now _ ?_)
    · have h2 := of_decide_eq_true h2
      refine EvE.bind (spec_l31Gcd_ok a b (by omega) (by omega)) ?_
      rintro _ rfl
      refine EvE.now _ ?_
      rw [Bool.eq_iff_iff, fOk_iff]
      simp; omega
    · rw [eq_comm, Bool.eq_false_iff]
      intro e
      exact h2 (by simp; have := fOk_iff.1 e; omega)
  · rw [eq_comm, Bool.eq_false_iff]
    intro e
    exact h (by simp; have := fOk_iff.1 e; omega)

theorem spec_l31Of_ok (a b : Int) (ha : 0 ≤ a) (ha' : a ≤ 1000000000000) (hb : 1 ≤ b) (hb' : b ≤ 1000000000000) : EvE (fun k => spec_l31Of.f k a b) (· = (a / G a b, b / G a b)) := by
  unfold spec_l31Of.f
  refine EvE.bind (spec_l31Gcd_ok a b ha (by omega)) ?_
  rintro _ rfl
  have hg := G_pos (n := a) hb
  refine EvE.neg (by omega) (EvE.now _ ?_)
  have h1 : a / G a b ≤ a := Int.ediv_le_self _ ha
  have h2 : b / G a b ≤ b := Int.ediv_le_self _ (by omega)
  have h3 : 0 ≤ a / G a b := Int.ediv_nonneg ha (by omega)
  have h4 : 0 ≤ b / G a b := Int.ediv_nonneg (by omega) (by omega)
  rw [Int.tdiv_eq_ediv_of_nonneg ha, Int.tdiv_eq_ediv_of_nonneg (by omega), w64 (by omega) (by omega), w64 (by omega) (by omega)]

theorem spec_FracSum_ok (a b c d : Int) : EvE (fun k => spec_FracSum.f k a b c d) (· = fSum a b c d) := by
  have no : ¬ (fOk a b = true ∧ fOk c d = true) → EvE (fun k => spec_FracSum.j0 k true a b c d) (· = fSum a b c d) := fun h => by
    refine EvE.succ ?_
    simp only [spec_FracSum.j0]
    unfold fSum
    exact EvE.pos (by trivial) (EvE.now _ (by rw [if_neg h]))
  unfold spec_FracSum.f
  refine EvE.bind (spec_FracOk_ok a b) ?_
  rintro _ rfl
  refine EvE.ite (fun h => ?_) (fun h => no (fun e => h e.1))
  refine EvE.bind (spec_FracOk_ok c d) ?_
  rintro _ rfl
  cases h2 : fOk c d
  · exact no (fun e => by rw [h2] at e; exact absurd e.2 (by decide))
  · refine EvE.succ ?_
    simp only [spec_FracSum.j0]
    refine EvE.neg (by decide) ?_
    have h1' := fOk_bounds h
    have h2' := fOk_bounds h2
    have m1 := mul_range (a := a) (b := d) (A := 999) (B := 60) (by omega) (by omega) (by omega) (by omega)
    have m2 := mul_range (a := c) (b := b) (A := 999) (B := 60) (by omega) (by omega) (by omega) (by omega)
    have m3 := mul_range (a := b) (b := d) (A := 60) (B := 60) (by omega) (by omega) (by omega) (by omega)
    have m4 := mul_pos_of (a := b) (b := d) (by omega) (by omega)
    rw [w64 (x := a * d) (by omega) (by omega), w64 (x := c * b) (by omega) (by omega), w64 (x := b * d) (by omega) (by omega), w64 (x := a * d + c * b) (by omega) (by omega)]
    refine EvE.bind (spec_l31Of_ok _ _ (by omega) (by omega) (by omega) (by omega)) ?_
    rintro _ rfl
    dsimp only
    refine EvE.bind (spec_FracOk_ok _ _) ?_
    rintro _ rfl
    rw [fSum_ok h h2]
    unfold red
    exact EvE.ite (fun h3 => EvE.now _ (by rw [if_pos h3])) (fun h3 => EvE.now _ (by rw [if_neg h3]))

theorem spec_l32Sum_loop (l : List S29) (hb : l.length ≤ 1125899906842624) (m : Nat) : ∀ (i : Nat) (n d : Int), i + m = l.length → EvE (fun k => spec_l32Sum.l0 k l (i : Int) n d) (· = lSum n d ((pr l).drop i)) := by
  induction m with
  | zero =>
    intro i n d hi
    refine EvE.succ ?_
    simp only [spec_l32Sum.l0]
    refine EvE.neg (by omega) (EvE.now _ ?_)
    rw [List.drop_of_length_le (by rw [pr_length]; omega)]
    rfl
  | succ m ih =>
    intro i n d hi
    refine EvE.succ ?_
    simp only [spec_l32Sum.l0]
    refine EvE.pos (by omega) (EvE.pos (by omega) ?_)
    refine EvE.bind (spec_FracSum_ok _ _ _ _) ?_
    rintro _ rfl
    have hd : (pr l).drop i = ((rd_T29 l (i : Int)).f0, (rd_T29 l (i : Int)).f1) :: (pr l).drop (i + 1) := by
      unfold pr
      rw [← List.map_drop, ← List.map_drop, drop29 (by omega)]
      rfl
    rw [hd]
    rcases fSum_cases n d (rd_T29 l (i : Int)).f0 (rd_T29 l (i : Int)).f1 with e | ⟨p, q, e⟩
    · rw [lSum_no e, e]
      exact EvE.neg (by decide) (EvE.now _ rfl)
    · rw [lSum_cons e, e]
      refine EvE.pos rfl ?_
      rw [w64 (x := (i : Int) + 1) (by omega) (by omega)]
      exact ih (i + 1) p q (by omega)
theorem spec_l32Sum_ok (l : List S29) (hb : l.length ≤ 1125899906842624) : EvE (fun k => spec_l32Sum.f k l) (· = tot (pr l)) := by
  unfold spec_l32Sum.f
  exact spec_l32Sum_loop l hb l.length 0 0 1 (by omega)

theorem spec_l31Cmp_led (a b c d : Int) (ha : 0 ≤ a) (ha' : a ≤ 999) (hb : 1 ≤ b) (hb' : b ≤ 60) (hc : 0 ≤ c) (hc' : c ≤ 999) (hd : 1 ≤ d) (hd' : d ≤ 60) : EvE (fun _ => spec_l31Cmp.f a b c d) (· = sg (a * d) (c * b)) := by
  have m1 := mul_range (a := a) (b := d) (A := 999) (B := 60) (by omega) (by omega) (by omega) (by omega)
  have m2 := mul_range (a := c) (b := b) (A := 999) (B := 60) (by omega) (by omega) (by omega) (by omega)
  unfold spec_l31Cmp.f sg
  rw [w64 (x := a * d) (by omega) (by omega), w64 (x := c * b) (by omega) (by omega)]
  exact EvE.ite (fun h => EvE.now _ (by rw [if_pos h])) (fun h => EvE.ite (fun h2 => EvE.now _ (by rw [if_neg h, if_pos h2])) (fun h2 => EvE.now _ (by rw [if_neg h, if_neg h2])))
theorem spec_LedgerOk_ok (a b : Int) (l : List S29) (hb : l.length ≤ 1125899906842624) : EvE (fun k => spec_LedgerOk.f k a b l) (· = lOk a b (pr l)) := by
  unfold spec_LedgerOk.f
  refine EvE.bind (spec_l32Sum_ok l hb) ?_
  rintro _ rfl
  refine EvE.bind (spec_FracOk_ok a b) ?_
  rintro _ rfl
  unfold lOk
  rw [pr_length]
  refine EvE.ite (fun h => ?_) (fun h => EvE.now _ (by simp [Bool.eq_false_iff.2 h]))
  refine EvE.ite (fun h2 => ?_) (fun h2 => EvE.now _ (by simp [show ¬ l.length ≤ 8 by omega]))
  have h2' : l.length ≤ 8 := by omega
  rcases tot_cases (pr l) with e | ⟨p, q, e⟩
  · rw [e]
    exact EvE.neg (by decide) (EvE.now _ (by simp))
  · rw [e]
    have b1 := fOk_bounds (tot_ok e)
    have b2 := fOk_bounds h
    refine EvE.pos rfl ?_
    refine EvE.bind (spec_l31Cmp_led p q a b (by omega) (by omega) (by omega) (by omega) (by omega) (by omega) (by omega) (by omega)) ?_
    rintro _ rfl
    exact EvE.now _ (by simp [h, h2'])

theorem laws_toFrac_ok (a b : Int) : EvE (fun _ => laws_toFrac.f a b) (· = (a, b)) := EvE.now _ rfl

theorem laws_toFracS_loop (l : List S23) (hb : l.length ≤ 1125899906842624) (m : Nat) : ∀ (i : Nat) (x : List S29), i + m = l.length → x.length = l.length → x.take i = (l.map Fz).take i → EvE (fun k => laws_toFracS.l0 k l x (i : Int)) (· = l.map Fz) := by
  induction m with
  | zero =>
    intro i x hi hx ht
    refine EvE.succ ?_
    simp only [laws_toFracS.l0]
    refine EvE.neg (by omega) (EvE.now _ ?_)
    rwa [List.take_of_length_le (by omega), List.take_of_length_le (by rw [List.length_map]; omega)] at ht
  | succ m ih =>
    intro i x hi hx ht
    refine EvE.succ ?_
    simp only [laws_toFracS.l0]
    refine EvE.pos (by omega) (EvE.pos (by omega) ?_)
    refine EvE.bind (laws_toFrac_ok _ _) ?_
    rintro _ rfl
    refine EvE.pos (by omega) ?_
    rw [w64 (x := (i : Int) + 1) (by omega) (by omega), Int.toNat_natCast]
    refine ih (i + 1) _ (by omega) (by simpa using hx) ?_
    rw [take_set_succ (by omega), take_ro z29 (xs := l.map Fz) (by rw [List.length_map]; omega), ht]
    have e : rd_T23 l (i : Int) = l[i]'(by omega) := ro_nat (d := z23) (by omega)
    rw [e, ro_nat (d := z29) (xs := l.map Fz) (by rw [List.length_map]; omega)]
    simp
theorem laws_toFracS_ok (l : List S23) (hb : l.length ≤ 1048576) : EvE (fun k => laws_toFracS.f k l) (· = l.map Fz) := by
  unfold laws_toFracS.f
  refine EvE.pos (by omega) (EvE.pos (by omega) ?_)
  exact laws_toFracS_loop l (by omega) l.length 0 _ (by omega) (by simp) (by simp)

theorem laws_toLedger_ok (a b : Int) (l : List S23) (hb : l.length ≤ 1048576) : EvE (fun k => laws_toLedger.f k a b l) (· = (a, b, l.map Fz)) := by
  unfold laws_toLedger.f
  refine EvE.bind (laws_toFrac_ok a b) ?_
  rintro _ rfl
  dsimp only
  refine EvE.bind (laws_toFracS_ok l hb) ?_
  rintro _ rfl
  exact EvE.now _ rfl

theorem impl_within_ok (a b c : Int) : EvE (fun _ => impl_within.f a b c) (· = decide (b ≤ a ∧ a ≤ c)) := by
  unfold impl_within.f
  refine EvE.ite (fun h => EvE.now _ ?_) (fun h => EvE.now _ ?_)
  · have h : b ≤ a := h
    simp [h]
  · have h : ¬ b ≤ a := h
    simp [h]

theorem impl_divisor_nat (n : Nat) : ∀ m : Nat, EvE (fun k => impl_divisor.l0 k (m : Int) (n : Int)) (· = ((Nat.gcd n m : Nat) : Int)) := by
  induction n using Nat.strongRecOn with
  | _ n ih =>
    intro m
    refine EvE.succ ?_
    simp only [impl_divisor.l0]
    refine EvE.ite (fun h => ?_) (fun h => ?_)
    · have hn : n = 0 := by omega
      subst hn
      exact EvE.now _ (by simp)
    · have hn : 0 < n := by omega
      have e : Int.tmod (m : Int) (n : Int) = ((m % n : Nat) : Int) := by rw [Int.tmod_eq_emod_of_nonneg (by omega)]; rfl
      rw [e]
      refine (ih (m % n) (Nat.mod_lt _ hn) n).mono ?_
      rintro _ rfl
      rw [← Nat.gcd_rec]
theorem impl_divisor_ok (a b : Int) (ha : 0 ≤ a) (hb : 0 ≤ b) : EvE (fun k => impl_divisor.f k a b) (· = G a b) := by
  obtain ⟨m, rfl⟩ := Int.eq_ofNat_of_zero_le ha
  obtain ⟨n, rfl⟩ := Int.eq_ofNat_of_zero_le hb
  unfold impl_divisor.f
  refine (impl_divisor_nat n m).mono ?_
  rintro _ rfl
  unfold G
  rw [Nat.gcd_comm]; rfl

theorem impl_FracOk_ok (a b : Int) : EvE (fun k => impl_FracOk.f k a b) (· = fOk a b) := by
  unfold impl_FracOk.f
  refine EvE.bind (impl_within_ok a 0 999) ?_
  rintro _ rfl
  refine EvE.ite (fun h => ?_) (fun h => EvE.now _ ?_)
  · refine EvE.bind (impl_within_ok b 1 60) ?_
    rintro _ rfl
    have h := of_decide_eq_true h
    refine EvE.ite (fun h2 => ?_) (fun h2 => EvE.now _ ?_)
    · have h2 := of_decide_eq_true h2
      refine EvE.bind (impl_divisor_ok a b (by omega) (by omega)) ?_
      rintro _ rfl
      refine EvE.now _ ?_
      rw [Bool.eq_iff_iff, fOk_iff]
      simp; omega
    · rw [eq_comm, Bool.eq_false_iff]
      intro e
      exact h2 (by simp; have := fOk_iff.1 e; omega)
  · rw [eq_comm, Bool.eq_false_iff]
    intro e
    exact h (by simp; have := fOk_iff.1 e; omega)

theorem impl_reduced_ok (a b : Int) (ha : 0 ≤ a) (ha' : a ≤ 1000000000000) (hb : 1 ≤ b) (hb' : b ≤ 1000000000000) : EvE (fun k => impl_reduced.f k a b) (· = red a b) := by
  unfold impl_reduced.f
  refine EvE.bind (impl_divisor_ok a b ha (by omega)) ?_
  rintro _ rfl
  have hg := G_pos (n := a) hb
  refine EvE.neg (by omega) ?_
  have h1 : a / G a b ≤ a := Int.ediv_le_self _ ha
  have h2 : b / G a b ≤ b := Int.ediv_le_self _ (by omega)
  have h3 : 0 ≤ a / G a b := Int.ediv_nonneg ha (by omega)
  have h4 : 0 ≤ b / G a b := Int.ediv_nonneg (by omega) (by omega)
  rw [Int.tdiv_eq_ediv_of_nonneg ha, Int.tdiv_eq_ediv_of_nonneg (by omega), w64 (by omega) (by omega), w64 (by omega) (by omega)]
  refine EvE.bind (impl_FracOk_ok _ _) ?_
  rintro _ rfl
  unfold red
  refine EvE.ite (fun h => EvE.now _ ?_) (fun h => EvE.now _ ?_)
  · rw [if_pos h]
  · rw [if_neg h]

theorem impl_FracSum_ok (a b c d : Int) : EvE (fun k => impl_FracSum.f k a b c d) (· = fSum a b c d) := by
  unfold impl_FracSum.f fSum
  refine EvE.bind (impl_FracOk_ok a b) ?_
  rintro _ rfl
  refine EvE.ite (fun h => ?_) (fun h => EvE.now _ (by rw [if_neg (fun e => h e.1)]))
  refine EvE.bind (impl_FracOk_ok c d) ?_
  rintro _ rfl
  refine EvE.ite (fun h2 => ?_) (fun h2 => EvE.now _ (by rw [if_neg (fun e => h2 e.2)]))
  have h1' := fOk_bounds h
  have h2' := fOk_bounds h2
  have m1 := mul_range (a := a) (b := d) (A := 999) (B := 60) (by omega) (by omega) (by omega) (by omega)
  have m2 := mul_range (a := c) (b := b) (A := 999) (B := 60) (by omega) (by omega) (by omega) (by omega)
  have m3 := mul_range (a := b) (b := d) (A := 60) (B := 60) (by omega) (by omega) (by omega) (by omega)
  have m4 := mul_pos_of (a := b) (b := d) (by omega) (by omega)
  rw [if_pos ⟨h, h2⟩, w64 (x := a * d) (by omega) (by omega), w64 (x := c * b) (by omega) (by omega), w64 (x := b * d) (by omega) (by omega), w64 (x := a * d + c * b) (by omega) (by omega)]
  refine EvE.bind (impl_reduced_ok _ _ (by omega) (by omega) (by omega) (by omega)) ?_
  rintro _ rfl
  exact EvE.now _ rfl

theorem cmp_Compare_ok (x y : Int) : EvE (fun _ => cmp_Compare_int.f x y) (· = sg x y) := by
  unfold cmp_Compare_int.f cmp_isNaN_int.f sg
  refine EvE.bind (EvE.now (P := (· = false)) _ (by simp)) ?_
  rintro _ rfl
  refine EvE.bind (EvE.now (P := (· = false)) _ (by simp)) ?_
  rintro _ rfl
  refine EvE.neg (by decide) (EvE.neg (by decide) ?_)
  exact EvE.ite (fun h => EvE.now _ (by rw [if_pos h])) (fun h => EvE.ite (fun h2 => EvE.now _ (by rw [if_neg h, if_pos h2])) (fun h2 => EvE.now _ (by rw [if_neg h, if_neg h2])))
theorem impl_FracCmp_ok (a b c d : Int) : EvE (fun k => impl_FracCmp.f k a b c d) (· = fCmp a b c d) := by
  unfold impl_FracCmp.f fCmp
  refine EvE.bind (impl_FracOk_ok a b) ?_
  rintro _ rfl
  refine EvE.ite (fun h => ?_) (fun h => EvE.now _ (by rw [if_neg (fun e => h e.1)]))
  refine EvE.bind (impl_FracOk_ok c d) ?_
  rintro _ rfl
  refine EvE.ite (fun h2 => ?_) (fun h2 => EvE.now _ (by rw [if_neg (fun e => h2 e.2)]))
  have h1' := fOk_bounds h
  have h2' := fOk_bounds h2
  have m1 := mul_range (a := a) (b := d) (A := 999) (B := 60) (by omega) (by omega) (by omega) (by omega)
  have m2 := mul_range (a := c) (b := b) (A := 999) (B := 60) (by omega) (by omega) (by omega) (by omega)
  rw [if_pos ⟨h, h2⟩, w64 (x := a * d) (by omega) (by omega), w64 (x := c * b) (by omega) (by omega)]
  exact EvE.tail (cmp_Compare_ok _ _)

theorem addAll_ok (l : List (Int × Int)) : ∀ n d : Int, EvE (fun k => addAll k n d l) (fun r => (lSum n d l = (0, 0, false) ∧ r = none) ∨ ∃ p q, lSum n d l = (p, q, true) ∧ r = some (p, q)) := by
  induction l with
  | nil => exact fun n d => EvE.now _ (.inr ⟨n, d, rfl, rfl⟩)
  | cons z zs ih =>
    intro n d
    simp only [addAll]
    refine EvE.bind (impl_FracSum_ok n d z.1 z.2) ?_
    rintro _ rfl
    rcases fSum_cases n d z.1 z.2 with e | ⟨p, q, e⟩
    · rw [e, lSum_no e]
      exact EvE.neg (by decide) (EvE.now _ (.inl ⟨rfl, rfl⟩))
    · rw [e, lSum_cons e]
      exact EvE.pos rfl (ih p q)
theorem impl_LedgerSum_ok (a b : Int) (l : List S29) : EvE (fun k => impl_LedgerSum.f k a b l) (· = lTot a b (pr l)) := by
  unfold impl_LedgerSum.f
  refine EvE.bind (impl_FracOk_ok a b) ?_
  rintro _ rfl
  refine EvE.ite (fun h => ?_) (fun h => EvE.now _ (lTot_no (by unfold lOk; simp [Bool.eq_false_iff.2 h])).symm)
  refine EvE.ite (fun h2 => ?_) (fun h2 => EvE.now _ (lTot_no (by unfold lOk; rw [pr_length]; simp [h2])).symm)
  refine EvE.bind (addAll_ok (ChargesGiv.prs l) 0 1) ?_
  rintro r (⟨e, rfl⟩ | ⟨p, q, e, rfl⟩)
  · refine EvE.now _ (lTot_no ?_).symm
    have e : tot (pr l) = (0, 0, false) := e
    unfold lOk
    rw [e]
    simp
  · have e : tot (pr l) = (p, q, true) := e
    simp only [addEnd]
    refine EvE.bind (impl_FracCmp_ok p q a b) ?_
    rintro _ rfl
    refine EvE.ite (fun h3 => EvE.now _ (lTot_no ?_).symm) (fun h3 => EvE.now _ ?_)
    · rw [Bool.eq_false_iff]
      intro h4
      obtain ⟨_, _, p', q', e', h5⟩ := lOk_iff.1 h4
      obtain ⟨h6, h7⟩ := Prod.mk.inj (e.symm.trans e')
      obtain ⟨h7, _⟩ := Prod.mk.inj h7
      rw [← h6, ← h7] at h5
      omega
    · exact (lTot_true.2 ⟨lOk_iff.2 ⟨h, by rw [pr_length]; exact h2, p, q, e, by omega⟩, e⟩).symm

theorem impl_LedgerOk_ok (a b : Int) (l : List S29) : EvE (fun k => impl_LedgerOk.f k a b l) (· = lOk a b (pr l)) := by
  unfold impl_LedgerOk.f
  refine EvE.bind (impl_LedgerSum_ok a b l) ?_
  rintro _ rfl
  exact EvE.now _ (lTot_flag a b (pr l))

theorem laws_eqFrac_ok (a b c d : Int) : EvE (fun _ => laws_eqFrac.f a b c d) (· = decide (a = c ∧ b = d)) := by
  unfold laws_eqFrac.f
  exact EvE.ite (fun h => EvE.ite (fun h2 => EvE.now _ (by simp [h, h2])) (fun h2 => EvE.now _ (by simp [h2]))) (fun h => EvE.now _ (by simp [h]))

theorem laws_eqFracS_loop (l : List S29) (hb : l.length ≤ 1125899906842624) (m : Nat) : ∀ i : Nat, i + m = l.length → EvE (fun k => laws_eqFracS.l0 k l l (i : Int)) (· = true) := by
  induction m with
  | zero =>
    intro i hi
    refine EvE.succ ?_
    simp only [laws_eqFracS.l0]
    exact EvE.neg (by omega) (EvE.now _ rfl)
  | succ m ih =>
    intro i hi
    refine EvE.succ ?_
    simp only [laws_eqFracS.l0]
    refine EvE.pos (by omega) (EvE.pos (by omega) (EvE.pos (by omega) ?_))
    refine EvE.bind (laws_eqFrac_ok _ _ _ _) ?_
    rintro _ rfl
    refine EvE.pos (by simp) ?_
    rw [w64 (x := (i : Int) + 1) (by omega) (by omega)]
    exact ih (i + 1) (by omega)
theorem laws_eqFracS_ok (l : List S29) (hb : l.length ≤ 1125899906842624) : EvE (fun k => laws_eqFracS.f k l l) (· = true) := by
  unfold laws_eqFracS.f
  exact EvE.pos (by trivial) (laws_eqFracS_loop l hb l.length 0 (by omega))

theorem laws_eqLedger_ok (a b : Int) (l : List S29) (hb : l.length ≤ 1125899906842624) : EvE (fun k => laws_eqLedger.f k a b l a b l) (· = true) := by
  unfold laws_eqLedger.f
  refine EvE.bind (laws_eqFrac_ok _ _ _ _) ?_
  rintro _ rfl
  refine EvE.pos (by simp) ?_
  refine EvE.bind (laws_eqFracS_ok l hb) ?_
  rintro _ rfl
  exact EvE.pos (by trivial) (EvE.now _ rfl)

theorem FnExactLedgerOk (a b : Int) (l : List S23) (hl : l.length ≤ 9223372036854775807) : ∃ k, laws_FnExactLedgerOk.f k a b l = some true := by
  refine EvE.rounds ?_
  unfold laws_FnExactLedgerOk.f
  refine EvE.bind (laws_szLedger_ok a b l hl) ?_
  intro r hr
  refine EvE.ite (fun _ => EvE.now _ rfl) (fun h0 => ?_)
  have hb : l.length ≤ 1048576 := by rcases hr with hr | hr <;> omega
  refine EvE.bind (laws_toLedger_ok a b l hb) ?_
  rintro _ rfl
  refine EvE.bind (spec_LedgerOk_ok _ _ _ (by simp; omega)) ?_
  rintro _ rfl
  refine EvE.bind (laws_toLedger_ok a b l hb) ?_
  rintro _ rfl
  refine EvE.bind (impl_LedgerOk_ok _ _ _) ?_
  rintro _ rfl
  refine EvE.neg (by simp) ?_
  refine EvE.bind (laws_toLedger_ok a b l hb) ?_
  rintro _ rfl
  refine EvE.bind (laws_eqLedger_ok _ _ _ (by simp; omega)) ?_
  rintro _ rfl
  exact EvE.pos (by trivial) (EvE.now _ rfl)

end Go.Proofs.Ytncngkfgalokoaa.Pure
