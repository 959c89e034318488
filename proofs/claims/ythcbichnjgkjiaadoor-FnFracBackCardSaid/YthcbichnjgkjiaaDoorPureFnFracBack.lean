/- FnFracBack It has no conditions. -/
import Derived.Test.YthcbichnjgkjiaaDoorPFnFracBackx4
import Derived.Test.YthcbichnjgkjiaaDoorPb
import Derived.Test.YthcbichnjgkjiaaDoorPbTxt
namespace Go.Proofs.YthcbichnjgkjiaaDoor.Pure
open Go.RowKit Go.Proofs.YthcbichnjgkjiaaDoor.PFnFracBack Go.Proofs.YthcbichnjgkjiaaDoorW.PrintWords Go.Proofs.YthcbichnjgkjiaaDoorW.PrintLast Go.Proofs.YthcbichnjgkjiaaDoor.Pb
open Go.Proofs.YthcbichnjgkjiaaDoor.PbTxt
set_option linter.unusedVariables false
set_option linter.unusedSimpArgs false

/-- The text of a fraction; of one that is not valid, none. -/
def txt (n d : Int) : ByteArray := if fOk n d = true then fracTxt n d else ⟨#[]⟩

theorem spec_l6In_ok (a b c : Int) : EvE (fun _ => spec_l6In.f a b c) (· = decide (b ≤ a ∧ a ≤ c)) := by
  unfold spec_l6In.f
  refine EvE.ite (fun h => EvE.now _ ?_) (fun h => EvE.now _ ?_)
  · have h : b ≤ a := h
    simp [h]
  · have h : ¬ b ≤ a := h
    simp [h]

theorem spec_l31Gcd_nat (n : Nat) : ∀ m : Nat, EvE (fun k => spec_l31Gcd.l0 k (m : Int) (n : Int)) (· = ((Nat.gcd n m : Nat) : Int)) := by
  induction n using Nat.strongRecOn with
  | _ n ih =>
    intro m
    refine EvE.succ ?_
    simp only [spec_l31Gcd.l0]
    refine EvE.ite (fun h => ?_) (fun h => ?_)
    · have hn : 0 < n := by omega
      refine EvE.neg (by omega) ?_
      have e : Int.tmod (m : Int) (n : Int) = ((m % n : Nat) : Int) := by rw [Int.tmod_eq_emod_of_nonneg (by omega)]; rfl
      rw [e]
      refine (ih (m % n) (Nat.mod_lt _ hn) n).mono ?_
      rintro _ rfl
      rw [← Nat.gcd_rec]
    · have hn : n = 0 := by omega
      subst hn
      exact EvE.now _ (by simp)
theorem spec_l31Gcd_ok (a b : Int) (ha : 0 ≤ a) (hb : 0 ≤ b) : EvE (fun k => spec_l31Gcd.f k a b) (· = G a b) := by
  obtain ⟨m, rfl⟩ := Int.eq_ofNat_of_zero_le ha
  obtain ⟨n, rfl⟩ := Int.eq_ofNat_of_zero_le hb
  unfold spec_l31Gcd.f
  refine (spec_l31Gcd_nat n m).mono ?_
  rintro _ rfl
  unfold G
  rw [Nat.gcd_comm]; rfl

theorem spec_FracOk_ok (a b : Int) : EvE (fun k => spec_FracOk.f k a b) (· = fOk a b) := by
  unfold spec_FracOk.f
  refine EvE.bind (spec_l6In_ok a 0 999) ?_
  rintro _ rfl
  refine EvE.ite (fun h => ?_) (fun h => EvE.now _ ?_)
  · refine EvE.bind (spec_l6In_ok b 1 60) ?_
    rintro _ rfl
    have h := of_decide_eq_true h
    refine EvE.ite (fun h2 => ?_) (fun h2 => EvE.now _ ?_)
    · have h2 := of_decide_eq_true h2
      refine EvE.bind (spec_l31Gcd_ok a b (by omega) (by omega)) ?_
      rintro _ rfl
      refine EvE.now _ ?_
      rw [Bool.eq_iff_iff, fOk_iff]
      simp; omega
    · rw [eq_comm, Bool.eq_false_iff]
      intro e
      exact h2 (by simp; have := fOk_iff.1 e; omega)
  · rw [eq_comm, Bool.eq_false_iff]
    intro e
    exact h (by simp; have := fOk_iff.1 e; omega)

theorem one_digit (n : Int) (h0 : 0 ≤ n) (h1 : n < 10) : strOfNums [wrap64 (48 + n) % 256] = ⟨(Lib.decDigits n.toNat).toArray⟩ := by
  obtain ⟨u, rfl⟩ := Int.eq_ofNat_of_zero_le h0
  rw [Int.toNat_natCast, Lib.decDigits_one (by omega), w64 (by omega) (by omega)]
  have e : (48 + (u : Int)) % 256 = ((48 + u : Nat) : Int) := by omega
  rw [e]
  rfl
theorem spec_l6Dec_nat (u : Nat) : u ≤ 99999 → EvE (fun k => spec_l6Dec.f k (u : Int)) (· = ⟨(Lib.decDigits u).toArray⟩) := by
  induction u using Nat.strongRecOn with
  | _ u ih =>
    intro hu
    refine EvE.succ ?_
    simp only [spec_l6Dec.f]
    refine EvE.neg (by omega) (EvE.neg (by omega) ?_)
    refine EvE.ite (fun h => EvE.now _ ?_) (fun h => ?_)
    · rw [one_digit _ (by omega) h, Int.toNat_natCast]
    · have e1 : wrap64 (Int.tdiv (u : Int) 10) = ((u / 10 : Nat) : Int) := by
        rw [Int.tdiv_eq_ediv_of_nonneg (by omega), w64 (by omega) (by omega)]; rfl
      have e2 : Int.tmod (u : Int) 10 = ((u % 10 : Nat) : Int) := by
        rw [Int.tmod_eq_emod_of_nonneg (by omega)]; rfl
      rw [e1, e2]
      refine EvE.bind (ih (u / 10) (by omega) (by omega)) ?_
      rintro _ rfl
      refine EvE.bind (EvE.now (P := fun r => r = [wrap64 (48 + ((u % 10 : Nat) : Int)) % 256]) _ rfl) ?_
      rintro _ rfl
      rw [one_digit _ (by omega) (by omega), Int.toNat_natCast, b_size, b_size]
      have l1 := decDigits_short (u / 10) (by omega)
      have l2 := decDigits_short (u % 10) (by omega)
      refine EvE.pos (by omega) (EvE.now _ ?_)
      rw [b_append]
      congr 2
      have e3 : Lib.decDigits u = Lib.decDigits (u / 10) ++ [UInt8.ofNat (48 + u % 10)] := by rw [Lib.decDigits, dif_neg (by omega)]
      rw [e3, Lib.decDigits_one (i := u % 10) (by omega)]
theorem spec_l6Dec_ok (n : Int) (h0 : 0 ≤ n) (h1 : n ≤ 99999) : EvE (fun k => spec_l6Dec.f k n) (· = ⟨(Lib.itoa n).toArray⟩) := by
  obtain ⟨u, rfl⟩ := Int.eq_ofNat_of_zero_le h0
  rw [itoa_nat]
  exact spec_l6Dec_nat u (by omega)

theorem spec_FracText_ok (n d : Int) : EvE (fun k => spec_FracText.f k n d) (· = txt n d) := by
  unfold spec_FracText.f txt
  refine EvE.bind (spec_FracOk_ok n d) ?_
  rintro _ rfl
  refine EvE.ite (fun h => ?_) (fun h => EvE.now _ (by rw [if_neg h]))
  have hb := fOk_bounds h
  have l1 := itoa_short n (by omega) (by omega)
  have l2 := itoa_short d (by omega) (by omega)
  refine EvE.bind (spec_l6Dec_ok n (by omega) (by omega)) ?_
  rintro _ rfl
  refine EvE.pos (by rw [b_size]; omega) ?_
  refine EvE.bind (spec_l6Dec_ok d (by omega) (by omega)) ?_
  rintro _ rfl
  refine EvE.pos (by rw [ByteArray.size_append, b_size, b_size, b_size, List.length_singleton]; omega) (EvE.now _ ?_)
  rw [if_pos h, fracTxt_eq]

theorem impl_within_ok (a b c : Int) : EvE (fun _ => impl_within.f a b c) (· = decide (b ≤ a ∧ a ≤ c)) := by
  unfold impl_within.f
  refine EvE.ite (fun h => EvE.now _ ?_) (fun h => EvE.now _ ?_)
  · have h : b ≤ a := h
    simp [h]
  · have h : ¬ b ≤ a := h
    simp [h]

theorem impl_divisor_nat (n : Nat) : ∀ m : Nat, EvE (fun k => impl_divisor.l0 k (m : Int) (n : Int)) (· = ((Nat.gcd n m : Nat) : Int)) := by
  induction n using Nat.strongRecOn with
  | _ n ih =>
    intro m
    refine EvE.succ ?_
    simp only [impl_divisor.l0]
    refine EvE.ite (fun h => ?_) (fun h => ?_)
    · have hn : n = 0 := by omega
      subst hn
      exact EvE.now _ (by simp)
    · have hn : 0 < n := by omega
      have e : Int.tmod (m : Int) (n : Int) = ((m % n : Nat) : Int) := by rw [Int.tmod_eq_emod_of_nonneg (by omega)]; rfl
      rw [e]
      refine (ih (m % n) (Nat.mod_lt _ hn) n).mono ?_
      rintro _ rfl
      rw [← Nat.gcd_rec]
theorem impl_divisor_ok (a b : Int) (ha : 0 ≤ a) (hb : 0 ≤ b) : EvE (fun k => impl_divisor.f k a b) (· = G a b) := by
  obtain ⟨m, rfl⟩ := Int.eq_ofNat_of_zero_le ha
  obtain ⟨n, rfl⟩ := Int.eq_ofNat_of_zero_le hb
  unfold impl_divisor.f
  refine (impl_divisor_nat n m).mono ?_
  rintro _ rfl
  unfold G
  rw [Nat.gcd_comm]; rfl

theorem impl_FracOk_ok (a b : Int) : EvE (fun k => impl_FracOk.f k a b) (· = fOk a b) := by
  unfold impl_FracOk.f
  refine EvE.bind (impl_within_ok a 0 999) ?_
  rintro _ rfl
  refine EvE.ite (fun h => ?_) (fun h => EvE.now _ ?_)
  · refine EvE.bind (impl_within_ok b 1 60) ?_
    rintro _ rfl
    have h := of_decide_eq_true h
    refine EvE.ite (fun h2 => ?_) (fun h2 => EvE.now _ ?_)
    · have h2 := of_decide_eq_true h2
      refine EvE.bind (impl_divisor_ok a b (by omega) (by omega)) ?_
      rintro _ rfl
      refine EvE.now _ ?_
      rw [Bool.eq_iff_iff, fOk_iff]
      simp; omega
    · rw [eq_comm, Bool.eq_false_iff]
      intro e
      exact h2 (by simp; have := fOk_iff.1 e; omega)
  · rw [eq_comm, Bool.eq_false_iff]
    intro e
    exact h (by simp; have := fOk_iff.1 e; omega)

theorem impl_FracText_ok (n d : Int) : EvE (fun k => impl_FracText.f k n d) (· = txt n d) := by
  unfold impl_FracText.f txt
  refine EvE.bind (impl_FracOk_ok n d) ?_
  rintro _ rfl
  refine EvE.ite (fun h => ?_) (fun h => EvE.now _ (by rw [if_neg h]))
  have hb := fOk_bounds h
  exact EvE.pos (by omega) (EvE.now _ (by rw [if_pos h]))

theorem frac_cuts {n d : Int} {s : ByteArray} (hn : 0 ≤ n) (h : s.data.toList = fracL n d) : (cutA s).data.toList = Lib.itoa n ∧ (cutB s).data.toList = Lib.itoa d := by
  have e := cut_frac d hn
  unfold cutA cutB
  rw [h, e]
  exact ⟨rfl, rfl⟩
theorem impl_FracRead_ok (s : ByteArray) (hs : s.size ≤ 4294967280) : EvE (fun k => impl_FracRead.f k s) (Rd s.data.toList) := by
  have key : ∀ n d, fOk n d = true → s.data.toList = fracL n d → Lib.atoiAll (cutA s).data.toList = .ok n ∧ Lib.atoiAll (cutB s).data.toList = .ok d := fun n d h e => by
    have b := fOk_bounds h
    obtain ⟨e1, e2⟩ := frac_cuts (by omega) e
    rw [e1, e2]
    exact ⟨atoi_itoa (by omega) (by omega), atoi_itoa (by omega) (by omega)⟩
  unfold impl_FracRead.f
  refine EvE.pos hs ?_
  rcases h1 : Lib.atoiAll (cutA s).data.toList with n | _ | _
  · rcases h2 : Lib.atoiAll (cutB s).data.toList with d | _ | _
    · have same : ∀ n' d', fOk n' d' = true → s.data.toList = fracL n' d' → n' = n ∧ d' = d := fun n' d' h e => by
        obtain ⟨k1, k2⟩ := key n' d' h e
        rw [h1] at k1
        rw [h2] at k2
        injection k1 with k1
        injection k2 with k2
        exact ⟨k1.symm, k2.symm⟩
      refine EvE.bind (impl_FracOk_ok n d) ?_
      rintro _ rfl
      refine EvE.ite (fun h => ?_) (fun h => EvE.now _ (.inr ⟨rfl, fun n' d' h' e => ?_⟩))
      · have b := fOk_bounds h
        refine EvE.pos (by omega) (EvE.ite (fun e => EvE.now _ (.inl ⟨n, d, rfl, h, ?_⟩)) (fun e => EvE.now _ (.inr ⟨rfl, fun n' d' h' e' => e ?_⟩)))
        · rw [toL, toL, fracTxt_list] at e
          exact e.symm
        · obtain ⟨rfl, rfl⟩ := same n' d' h' e'
          rw [toL, toL, fracTxt_list]
          exact e'.symm
      · obtain ⟨rfl, rfl⟩ := same n' d' h' e
        exact h h'
    all_goals
      refine EvE.now _ (.inr ⟨rfl, fun n' d' h' e => ?_⟩)
      have := (key n' d' h' e).2
      rw [h2] at this
      cases this
  all_goals
    refine EvE.now _ (.inr ⟨rfl, fun n' d' h' e => ?_⟩)
    have := (key n' d' h' e).1
    rw [h1] at this
    cases this

theorem spec_l6Open_ok {l : List Int} (h : ∀ x ∈ l, (Lit.int .u8 x).wf = true) : EvE (fun _ => spec_l6Open.f l) (fun r => ∃ s, r = (s, 0) ∧ Coded s) := by
  have h := u8_range h
  unfold spec_l6Open.f
  refine EvE.ite (fun h1 => EvE.pos (by omega) (EvE.now _ ⟨_, rfl, fun x hx => h x (List.mem_of_mem_take hx), ?_⟩)) (fun h1 => EvE.now _ ⟨_, rfl, h, by omega⟩)
  rw [List.length_take]; omega

theorem spec_l6Rd_pick_ok {s : List Int} (hs : Coded s) (p n : Int) (h0 : 0 ≤ p) (h1 : p ≤ 1000000) (hn : 1 ≤ n) (hn' : n ≤ 1000000) :
    EvE (fun k => spec_l6Rd_pick.f k s p n) (fun r => ∃ v, r = (v, p + 1) ∧ 0 ≤ v ∧ v < n) := by
  unfold spec_l6Rd_pick.f
  rw [w64 (x := p + 1) (by omega) (by omega)]
  refine EvE.neg (by omega) (EvE.succ ?_)
  simp only [spec_l6Rd_pick.j0]
  have e : wrap64 (p + 1 - 1) = p := by rw [w64 (by omega) (by omega)]; omega
  rw [e]
  have rg := rd_range hs.1
  have hl := hs.2
  refine EvE.ite (fun _ => EvE.now _ ⟨0, rfl, by omega, by omega⟩) (fun hz => ?_)
  have hpos : 1 ≤ (s.length : Int) := by
    have : s.length ≠ 0 := by simpa using hz
    omega
  refine EvE.ite (fun hlt => EvE.pos h0 (EvE.neg (by omega) (EvE.now _ ?_))) (fun hge => ?_)
  · have := rg p
    rw [w64 (x := rd s p) (by omega) (by omega)]
    exact ⟨_, rfl, tmod_range (by omega) hn⟩
  · refine EvE.neg (by omega) ?_
    have t1 := tmod_range (a := p) (n := (s.length : Int)) h0 hpos
    have e1 : wrap64 (p * 7) = p * 7 := w64 (by omega) (by omega)
    have e2 : wrap64 (p * 7 + 3) = p * 7 + 3 := w64 (by omega) (by omega)
    rw [e1, e2]
    have t2 := tmod_range (a := p * 7 + 3) (n := (s.length : Int)) (by omega) hpos
    refine EvE.pos t1.1 (EvE.pos t1.2 (EvE.pos t2.1 (EvE.pos t2.2 (EvE.neg (by omega) (EvE.now _ ?_)))))
    have r1 := rg (Int.tmod p s.length)
    have r2 := rg (Int.tmod (p * 7 + 3) s.length)
    generalize rd s (Int.tmod p s.length) = A at *
    generalize rd s (Int.tmod (p * 7 + 3) s.length) = B at *
    have dq : 0 ≤ Int.tdiv p s.length ∧ Int.tdiv p s.length ≤ p := by
      rw [Int.tdiv_eq_ediv_of_nonneg h0]
      exact ⟨Int.ediv_nonneg h0 (by omega), Int.ediv_le_self _ h0⟩
    generalize Int.tdiv p s.length = Q at *
    rw [w64 (x := A) (by omega) (by omega), w64 (x := B) (by omega) (by omega), w64 (x := A * 131) (by omega) (by omega), w64 (x := B * 1117) (by omega) (by omega), w64 (x := p * 29) (by omega) (by omega), w64 (x := Q) (by omega) (by omega), w64 (x := Q * 53) (by omega) (by omega), w64 (x := A * 131 + B * 1117) (by omega) (by omega), w64 (x := A * 131 + B * 1117 + p * 29) (by omega) (by omega), w64 (x := A * 131 + B * 1117 + p * 29 + Q * 53) (by omega) (by omega)]
    have hX : 0 ≤ A * 131 + B * 1117 + p * 29 + Q * 53 ∧ A * 131 + B * 1117 + p * 29 + Q * 53 < 1000000000000 := by omega
    generalize A * 131 + B * 1117 + p * 29 + Q * 53 = X at *
    have e3 : wrap64 (Int.tdiv X 64) = X / 64 := by
      rw [Int.tdiv_eq_ediv_of_nonneg hX.1]
      exact w64 (by omega) (by omega)
    rw [e3]
    have hx := xor_nonneg (a := X) (b := X / 64) (by omega) (by omega) (by omega) (by omega)
    exact ⟨_, rfl, tmod_range hx.1 hn⟩

theorem spec_l31Of_ok (a b : Int) (ha : 0 ≤ a) (ha' : a ≤ 1000000000000) (hb : 1 ≤ b) (hb' : b ≤ 1000000000000) : EvE (fun k => spec_l31Of.f k a b) (· = (a / G a b, b / G a b)) := by
  unfold spec_l31Of.f
  refine EvE.bind (spec_l31Gcd_ok a b ha (by omega)) ?_
  rintro _ rfl
  have hg := G_pos (n := a) hb
  refine EvE.neg (by omega) (EvE.now _ ?_)
  have h1 : a / G a b ≤ a := Int.ediv_le_self _ ha
  have h2 : b / G a b ≤ b := Int.ediv_le_self _ (by omega)
  have h3 : 0 ≤ a / G a b := Int.ediv_nonneg ha (by omega)
  have h4 : 0 ≤ b / G a b := Int.ediv_nonneg (by omega) (by omega)
  rw [Int.tdiv_eq_ediv_of_nonneg ha, Int.tdiv_eq_ediv_of_nonneg (by omega), w64 (by omega) (by omega), w64 (by omega) (by omega)]

theorem spec_l92Frac_ok {s : List Int} (hs : Coded s) (p : Int) (h0 : 0 ≤ p) (h1 : p ≤ 900000) :
    EvE (fun k => spec_l92Frac.f k s p) (fun r => ∃ a b q, r = (a, b, q) ∧ p ≤ q ∧ q ≤ p + 5 ∧ 0 ≤ a ∧ a ≤ 12 ∧ 0 ≤ b ∧ b ≤ 70) := by
  unfold spec_l92Frac.f
  refine EvE.bind (spec_l6Rd_pick_ok hs p 12 h0 (by omega) (by omega) (by omega)) ?_
  rintro _ ⟨a, rfl, ha, ha'⟩
  dsimp only
  refine EvE.bind (spec_l6Rd_pick_ok hs _ 12 (by omega) (by omega) (by omega) (by omega)) ?_
  rintro _ ⟨b, rfl, hb, hb'⟩
  dsimp only
  rw [w64 (x := 1 + b) (by omega) (by omega)]
  refine EvE.bind (spec_l31Of_ok a (1 + b) (by omega) (by omega) (by omega) (by omega)) ?_
  rintro _ rfl
  dsimp only
  refine EvE.bind (spec_l6Rd_pick_ok hs _ 30 (by omega) (by omega) (by omega) (by omega)) ?_
  rintro _ ⟨c, rfl, hc, hc'⟩
  dsimp only
  refine EvE.ite (fun _ => ?_) (fun _ => EvE.now _ ⟨_, _, _, rfl, by omega, by omega, ?_⟩)
  · refine EvE.bind (spec_l6Rd_pick_ok hs _ 9 (by omega) (by omega) (by omega) (by omega)) ?_
    rintro _ ⟨d, rfl, hd, hd'⟩
    dsimp only
    refine EvE.bind (spec_l6Rd_pick_ok hs _ 70 (by omega) (by omega) (by omega) (by omega)) ?_
    rintro _ ⟨e, rfl, he, he'⟩
    exact EvE.now _ ⟨_, _, _, rfl, by omega, by omega, by omega, by omega, by omega, by omega⟩
  · have hg := G_pos (n := a) (d := 1 + b) (by omega)
    have h1 : a / G a (1 + b) ≤ a := Int.ediv_le_self _ ha
    have h2 : (1 + b) / G a (1 + b) ≤ 1 + b := Int.ediv_le_self _ (by omega)
    have h3 : 0 ≤ a / G a (1 + b) := Int.ediv_nonneg ha (by omega)
    have h4 : 0 ≤ (1 + b) / G a (1 + b) := Int.ediv_nonneg (by omega) (by omega)
    omega

theorem spec_DrawFracText_ok {l : List Int} (h : ∀ x ∈ l, (Lit.int .u8 x).wf = true) : EvE (fun k => spec_DrawFracText.f k l) (fun _ => True) := by
  unfold spec_DrawFracText.f
  refine EvE.bind (spec_l6Open_ok h) ?_
  rintro _ ⟨s, rfl, hs⟩
  dsimp only
  refine EvE.bind (spec_l92Frac_ok hs 0 (by omega) (by omega)) ?_
  rintro _ ⟨a, b, q, rfl, _⟩
  exact EvE.now _ trivial

theorem FnFracBack : laws_FnFracBack.Pure := by
  intro l _ _ hw
  refine EvE.rounds ?_
  unfold laws_FnFracBack.f
  refine EvE.ite (fun _ => EvE.now _ rfl) (fun _ => ?_)
  refine EvE.bind (spec_DrawFracText_ok hw) ?_
  rintro ⟨a, b⟩ _
  dsimp only
  refine EvE.bind (impl_FracText_ok a b) ?_
  rintro _ rfl
  refine EvE.bind (spec_FracText_ok a b) ?_
  rintro _ rfl
  refine EvE.pos rfl (EvE.succ ?_)
  simp only [laws_FnFracBack.j0]
  refine EvE.ite (fun _ => ?_) (fun h => ?_)
  · refine EvE.bind (spec_FracText_ok a b) ?_
    rintro _ rfl
    exact EvE.now _ (by simp)
  · have hok : fOk a b = true := by
      cases e : fOk a b
      · refine absurd ?_ h
        unfold txt
        rw [e, if_neg (by decide), toL]
        rfl
      · rfl
    have bd := fOk_bounds hok
    have et : txt a b = fracTxt a b := by unfold txt; rw [if_pos hok]
    rw [et]
    have hz := fracTxt_size a b (by omega) (by omega)
    refine EvE.bind (impl_FracRead_ok _ (by omega)) ?_
    intro r hr
    rw [fracTxt_list] at hr
    obtain rfl := Rd_one hr (.inl ⟨a, b, rfl, hok, rfl⟩)
    dsimp only
    refine EvE.pos rfl (EvE.pos (by simp) (EvE.tail ?_))
    refine (impl_FracOk_ok a b).mono ?_
    rintro _ rfl
    exact hok

end Go.Proofs.YthcbichnjgkjiaaDoor.Pure
