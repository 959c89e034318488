/- Plain words on the texts of numbers and fractions: how they are written, cut and read. It speaks of no function of the program; it has no conditions of its own. -/
import Derived.Test.YthcbichnjgkjiaaDoorPb
import Derived.Test.YthcbichnjgkjiaaDoorEnv
namespace Go.Proofs.YthcbichnjgkjiaaDoor.PbTxt
open Go.RowKit Go.Proofs.YthcbichnjgkjiaaDoorW.PrintWords Go.Proofs.YthcbichnjgkjiaaDoorW.PrintLast Go.Proofs.YthcbichnjgkjiaaDoor.Pb
theorem b_size (l : List UInt8) : (⟨l.toArray⟩ : ByteArray).size = l.length := by simp [ByteArray.size]
theorem b_append (l m : List UInt8) : (⟨l.toArray⟩ : ByteArray) ++ ⟨m.toArray⟩ = ⟨(l ++ m).toArray⟩ := by
  apply ByteArray.ext
  apply Array.ext'
  simp
theorem itoa_nat (u : Nat) : Lib.itoa (u : Int) = Lib.decDigits u := Lib.itoa_nonneg u
theorem dec_mem (u : Nat) : ∀ x ∈ Lib.decDigits u, 48 ≤ x.toNat ∧ x.toNat ≤ 57 := by
  induction u using Nat.strongRecOn with
  | _ u ih =>
    intro x hx
    by_cases h : u < 10
    · rw [Lib.decDigits_one h, List.mem_singleton] at hx
      subst hx
      have : (UInt8.ofNat (48 + u)).toNat = 48 + u := by rw [UInt8.toNat_ofNat']; omega
      omega
    · rw [Lib.decDigits, dif_neg h, List.mem_append] at hx
      rcases hx with hx | hx
      · exact ih (u / 10) (by omega) x hx
      · rw [List.mem_singleton] at hx
        subst hx
        have : (UInt8.ofNat (48 + u % 10)).toNat = 48 + u % 10 := by rw [UInt8.toNat_ofNat']; omega
        omega
def dval (l : List UInt8) : Nat := l.foldl (fun a c => 10 * a + (c.toNat - 48)) 0
theorem dval_dec (u : Nat) : dval (Lib.decDigits u) = u := by
  induction u using Nat.strongRecOn with
  | _ u ih =>
    by_cases h : u < 10
    · rw [Lib.decDigits_one h]
      have : (UInt8.ofNat (48 + u)).toNat = 48 + u := by rw [UInt8.toNat_ofNat']; omega
      simp only [dval, List.foldl_cons, List.foldl_nil, this]
      omega
    · rw [Lib.decDigits, dif_neg h]
      have : (UInt8.ofNat (48 + u % 10)).toNat = 48 + u % 10 := by rw [UInt8.toNat_ofNat']; omega
      have e := ih (u / 10) (by omega)
      unfold dval at e ⊢
      rw [List.foldl_append, e]
      simp only [List.foldl_cons, List.foldl_nil, this]
      omega
theorem itoa_inj {m n : Int} (hm : 0 ≤ m) (hn : 0 ≤ n) (h : Lib.itoa m = Lib.itoa n) : m = n := by
  obtain ⟨u, rfl⟩ := Int.eq_ofNat_of_zero_le hm
  obtain ⟨v, rfl⟩ := Int.eq_ofNat_of_zero_le hn
  rw [itoa_nat, itoa_nat] at h
  have := congrArg dval h
  rw [dval_dec, dval_dec] at this
  rw [this]
theorem itoa_no {n : Int} (hn : 0 ≤ n) {c : UInt8} (hc : c.toNat < 48) : c ∉ Lib.itoa n := by
  obtain ⟨u, rfl⟩ := Int.eq_ofNat_of_zero_le hn
  rw [itoa_nat]
  intro h
  have := dec_mem u c h
  omega
theorem split_inj {c : UInt8} : ∀ {l1 l2 m1 m2 : List UInt8}, c ∉ l1 → c ∉ l2 → l1 ++ c :: m1 = l2 ++ c :: m2 → l1 = l2 ∧ m1 = m2
  | [], [], m1, m2, _, _, h => by simpa using h
  | [], y :: l2, m1, m2, _, h2, h => by
    simp only [List.nil_append, List.cons_append, List.cons.injEq] at h
    exact absurd (by rw [h.1]; exact List.mem_cons_self) h2
  | x :: l1, [], m1, m2, h1, _, h => by
    simp only [List.nil_append, List.cons_append, List.cons.injEq] at h
    exact absurd (by rw [h.1]; exact List.mem_cons_self) h1
  | x :: l1, y :: l2, m1, m2, h1, h2, h => by
    simp only [List.cons_append, List.cons.injEq] at h
    obtain ⟨e1, e2⟩ := split_inj (l1 := l1) (l2 := l2) (fun h => h1 (List.mem_cons_of_mem _ h)) (fun h => h2 (List.mem_cons_of_mem _ h)) h.2
    exact ⟨by rw [h.1, e1], e2⟩
/-- The texts, as rows of bytes. -/
def fracL (n d : Int) : List UInt8 := Lib.itoa n ++ 47 :: Lib.itoa d
theorem fracTxt_list (n d : Int) : (fracTxt n d).data.toList = fracL n d := rfl
theorem toL (s : ByteArray) : s.toList = s.data.toList := ByteArray.toList_eq ..
theorem fracL_inj {n d n' d' : Int} (h0 : 0 ≤ n) (h1 : 0 ≤ d) (h2 : 0 ≤ n') (h3 : 0 ≤ d') (h : fracL n d = fracL n' d') : n = n' ∧ d = d' := by
  obtain ⟨e1, e2⟩ := split_inj (itoa_no h0 (by decide)) (itoa_no h2 (by decide)) h
  exact ⟨itoa_inj h0 h2 e1, itoa_inj h1 h3 e2⟩
theorem fracTxt_size (n d : Int) (hn : 0 ≤ n ∧ n ≤ 999) (hd : 0 ≤ d ∧ d ≤ 999) : (fracTxt n d).size ≤ 11 := by
  have l1 := itoa_short n (by omega) (by omega)
  have l2 := itoa_short d (by omega) (by omega)
  unfold fracTxt
  rw [b_size, List.length_append, List.length_cons]
  omega
theorem itoa_digits {n : Int} (hn : 0 ≤ n) : ∀ x ∈ Lib.itoa n, 48 ≤ x.toNat ∧ x.toNat ≤ 57 := by
  obtain ⟨u, rfl⟩ := Int.eq_ofNat_of_zero_le hn
  rw [itoa_nat]
  exact dec_mem u
theorem itoa_ne {n : Int} (hn : 0 ≤ n) : Lib.itoa n ≠ [] := by
  obtain ⟨u, rfl⟩ := Int.eq_ofNat_of_zero_le hn
  rw [itoa_nat]
  intro h
  by_cases hu : u < 10
  · rw [Lib.decDigits_one hu] at h; cases h
  · rw [Lib.decDigits, dif_neg hu] at h; simp at h
theorem fracL_ne (n d : Int) : fracL n d ≠ [] := by simp [fracL]
/-- Where a byte that is not in the text before it stands first. -/
theorem index_mid (m : List UInt8) (c : UInt8) : ∀ l : List UInt8, c ∉ l → Lib.index (l ++ c :: m) [c] = (l.length : Int)
  | [], _ => by simp [Lib.index, List.isPrefixOf]
  | x :: l, h => by
    have ih := index_mid m c l (fun e => h (List.mem_cons_of_mem _ e))
    have hx : (c == x) = false := beq_eq_false_iff_ne.2 (fun e => h (by rw [e]; exact List.mem_cons_self))
    rw [List.cons_append, Lib.index, ih]
    simp only [List.isPrefixOf, hx, Bool.false_and]
    rw [if_neg (by decide), if_neg (by simp), List.length_cons]
    omega
theorem cut_mid (l m : List UInt8) (c : UInt8) (h : c ∉ l) : Lib.cut (l ++ c :: m) [c] = (l, m, true) := by
  unfold Lib.cut
  rw [index_mid m c l h, if_pos (by omega)]
  simp
theorem cut_frac {n : Int} (d : Int) (hn : 0 ≤ n) : Lib.cut (fracL n d) [47] = (Lib.itoa n, Lib.itoa d, true) := cut_mid _ _ _ (itoa_no hn (by decide))
def gd (a : Nat) (c : UInt8) : Nat := 10 * a + (c.toNat - 48)
theorem fold_ge (l : List UInt8) : ∀ a, a ≤ l.foldl gd a := by
  induction l with
  | nil => exact fun a => Nat.le_refl _
  | cons c r ih =>
    intro a
    refine Nat.le_trans ?_ (ih (gd a c))
    unfold gd
    omega
theorem parse_digits (l : List UInt8) : ∀ a, (∀ x ∈ l, 48 ≤ x.toNat ∧ x.toNat ≤ 57) → l.foldl gd a ≤ 1000000 → Lib.parseUint10 a l = .ok (l.foldl gd a) := by
  induction l with
  | nil => exact fun a _ _ => rfl
  | cons c r ih =>
    intro a h hb
    have hc := h c List.mem_cons_self
    have hge := fold_ge r (gd a c)
    have hb' : r.foldl gd (gd a c) ≤ 1000000 := hb
    have hg : gd a c = 10 * a + (c.toNat - 48) := rfl
    have e : a * 10 + (c.toNat - 48) = gd a c := by omega
    rw [Lib.parseUint10, if_pos hc, if_neg (by omega), e, if_neg (by omega), ih _ (fun x hx => h x (List.mem_cons_of_mem _ hx)) hb', List.foldl_cons]
theorem fold_dec (u : Nat) : (Lib.decDigits u).foldl gd 0 = u := dval_dec u
theorem atoi_itoa {n : Int} (h0 : 0 ≤ n) (h1 : n ≤ 99999) : Lib.atoiAll (Lib.itoa n) = .ok n := by
  obtain ⟨u, rfl⟩ := Int.eq_ofNat_of_zero_le h0
  have hne := itoa_ne h0
  rw [itoa_nat] at hne ⊢
  have hd := dec_mem u
  have hp : Lib.parseMag (Lib.decDigits u) = .ok u := by
    unfold Lib.parseMag
    rw [if_neg hne, parse_digits _ 0 hd (by rw [fold_dec]; omega), fold_dec]
  generalize Lib.decDigits u = l at *
  cases l with
  | nil => exact absurd rfl hne
  | cons c r =>
    have hc := hd c List.mem_cons_self
    unfold Lib.atoiAll
    simp only
    rw [if_neg (by omega), hp]
    simp only
    rw [if_neg (by omega), if_neg (by omega), if_neg (by omega)]
/-- How the reference reads a number. -/
def numL : List UInt8 → Int → Int
  | [], a => a
  | c :: r, a => if c.toNat < 48 then -1 else if c.toNat > 57 then -1 else numL r (10 * a + ((c.toNat : Int) - 48))
theorem numL_digits (l : List UInt8) : ∀ a : Nat, (∀ x ∈ l, 48 ≤ x.toNat ∧ x.toNat ≤ 57) → numL l (a : Int) = ((l.foldl gd a : Nat) : Int) := by
  induction l with
  | nil => exact fun a _ => rfl
  | cons c r ih =>
    intro a h
    have hc := h c List.mem_cons_self
    rw [numL, if_neg (by omega), if_neg (by omega), List.foldl_cons, ← ih (gd a c) (fun x hx => h x (List.mem_cons_of_mem _ hx))]
    congr 1
    unfold gd
    omega
theorem numL_itoa {n : Int} (h0 : 0 ≤ n) : numL (Lib.itoa n) 0 = n := by
  obtain ⟨u, rfl⟩ := Int.eq_ofNat_of_zero_le h0
  rw [itoa_nat]
  have := numL_digits (Lib.decDigits u) 0 (dec_mem u)
  rw [fold_dec] at this
  exact this
theorem dec_small (u : Nat) (h : u ≤ 999) : (Lib.decDigits u).length ≤ 3 := by
  rw [Lib.decDigits_length]
  have e1 : ∀ v, v < 10 → Lib.nDigits v = 1 := fun v h => Lib.nDigits_small h
  have e2 : ∀ v, ¬ v < 10 → Lib.nDigits v = Lib.nDigits (v / 10) + 1 := fun v h => by rw [Lib.nDigits, dif_neg h]
  by_cases h1 : u < 10
  · rw [e1 u h1]; omega
  · rw [e2 u h1]
    by_cases h2 : u / 10 < 10
    · rw [e1 _ h2]; omega
    · rw [e2 _ h2, e1 _ (by omega)]; omega
theorem itoa_small {n : Int} (h0 : 0 ≤ n) (h1 : n ≤ 999) : (Lib.itoa n).length ≤ 3 := by
  obtain ⟨u, rfl⟩ := Int.eq_ofNat_of_zero_le h0
  rw [itoa_nat]
  exact dec_small u (by omega)
theorem itoa_two {n : Int} (h0 : 0 ≤ n) (h1 : n ≤ 99) : (Lib.itoa n).length ≤ 2 := by
  obtain ⟨u, rfl⟩ := Int.eq_ofNat_of_zero_le h0
  rw [itoa_nat, Lib.decDigits_length]
  have e1 : ∀ v, v < 10 → Lib.nDigits v = 1 := fun v h => Lib.nDigits_small h
  have e2 : ∀ v, ¬ v < 10 → Lib.nDigits v = Lib.nDigits (v / 10) + 1 := fun v h => by rw [Lib.nDigits, dif_neg h]
  by_cases h2 : u < 10
  · rw [e1 u h2]; omega
  · rw [e2 u h2, e1 _ (by omega)]; omega
/-- What reading a fraction must answer. -/
def Rd (l : List UInt8) (r : Int × Int × Bool) : Prop := (∃ n d, r = (n, d, true) ∧ fOk n d = true ∧ l = fracL n d) ∨ (r = (0, 0, false) ∧ ∀ n d, fOk n d = true → l ≠ fracL n d)
theorem Rd_one {l : List UInt8} {r r' : Int × Int × Bool} (h : Rd l r) (h' : Rd l r') : r = r' := by
  rcases h with ⟨n, d, rfl, h1, h2⟩ | ⟨rfl, h1⟩ <;> rcases h' with ⟨n', d', rfl, h1', h2'⟩ | ⟨rfl, h1'⟩
  · have b := fOk_bounds h1
    have b' := fOk_bounds h1'
    obtain ⟨e1, e2⟩ := fracL_inj (by omega) (by omega) (by omega) (by omega) (h2.symm.trans h2')
    rw [e1, e2]
  · exact absurd h2 (h1' n d h1)
  · exact absurd h2' (h1 n' d' h1')
  · rfl
end Go.Proofs.YthcbichnjgkjiaaDoor.PbTxt
