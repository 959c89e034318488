/- Plain words on ledgers: the sum of a row of fractions, and when a ledger is valid. It speaks of no program; it has no conditions of its own. -/
import Derived.Test.YtncngkfgalokoaaPb
namespace Go.Proofs.Ytncngkfgalokoaa.PbLed
open Go.Proofs.Ytncngkfgalokoaa.Pb
abbrev Fr := Int × Int
/-- What is put to n/d, one after the other. -/
def lSum : Int → Int → List Fr → Int × Int × Bool
  | n, d, [] => (n, d, true)
  | n, d, z :: zs => if (fSum n d z.1 z.2).2.2 = true then lSum (fSum n d z.1 z.2).1 (fSum n d z.1 z.2).2.1 zs else (0, 0, false)
def tot (l : List Fr) : Int × Int × Bool := lSum 0 1 l
def lOk (a b : Int) (l : List Fr) : Bool := fOk a b && decide (l.length ≤ 8) && (tot l).2.2 && decide (sg ((tot l).1 * b) (a * (tot l).2.1) ≤ 0)
def lTot (a b : Int) (l : List Fr) : Int × Int × Bool := if lOk a b l = true then tot l else (0, 0, false)
theorem lSum_cons {n d : Int} {z : Fr} {zs : List Fr} {p q : Int} (h : fSum n d z.1 z.2 = (p, q, true)) : lSum n d (z :: zs) = lSum p q zs := by
  simp [lSum, h]
theorem lSum_no {n d : Int} {z : Fr} {zs : List Fr} (h : fSum n d z.1 z.2 = (0, 0, false)) : lSum n d (z :: zs) = (0, 0, false) := by
  simp [lSum, h]
theorem lSum_cases (l : List Fr) : ∀ n d, lSum n d l = (0, 0, false) ∨ ∃ p q, lSum n d l = (p, q, true) := by
  induction l with
  | nil => exact fun n d => .inr ⟨n, d, rfl⟩
  | cons z zs ih =>
    intro n d
    rcases fSum_cases n d z.1 z.2 with e | ⟨p, q, e⟩
    · exact .inl (lSum_no e)
    · rw [lSum_cons e]; exact ih p q
theorem lSum_ok (l : List Fr) : ∀ {n d p q : Int}, fOk n d = true → lSum n d l = (p, q, true) → fOk p q = true := by
  induction l with
  | nil => intro n d p q h e; simp [lSum] at e; obtain ⟨rfl, rfl⟩ := e; exact h
  | cons z zs ih =>
    intro n d p q h e
    rcases fSum_cases n d z.1 z.2 with e2 | ⟨p', q', e2⟩
    · rw [lSum_no e2] at e; cases e
    · rw [lSum_cons e2] at e; exact ih (fSum_true e2).2.2.1 e
theorem lSum_snoc (l : List Fr) (z : Fr) : ∀ {n d p q : Int}, lSum n d l = (p, q, true) → lSum n d (l ++ [z]) = fSum p q z.1 z.2 := by
  induction l with
  | nil =>
    intro n d p q h
    simp [lSum] at h
    obtain ⟨rfl, rfl⟩ := h
    rcases fSum_cases n d z.1 z.2 with e2 | ⟨p', q', e2⟩ <;> simp [lSum, e2]
  | cons y ys ih =>
    intro n d p q h
    rcases fSum_cases n d y.1 y.2 with e2 | ⟨p', q', e2⟩
    · rw [lSum_no e2] at h; cases h
    · rw [lSum_cons e2] at h
      rw [List.cons_append, lSum_cons e2]
      exact ih h
theorem lSum_snoc_no (l : List Fr) (z : Fr) : ∀ {n d : Int}, lSum n d l = (0, 0, false) → lSum n d (l ++ [z]) = (0, 0, false) := by
  induction l with
  | nil => intro n d h; simp [lSum] at h
  | cons y ys ih =>
    intro n d h
    rcases fSum_cases n d y.1 y.2 with e2 | ⟨p', q', e2⟩
    · rw [List.cons_append, lSum_no e2]
    · rw [lSum_cons e2] at h
      rw [List.cons_append, lSum_cons e2]
      exact ih h
theorem fOk01 : fOk 0 1 = true := by decide
theorem tot_cases (l : List Fr) : tot l = (0, 0, false) ∨ ∃ p q, tot l = (p, q, true) := lSum_cases l 0 1
theorem tot_ok {l : List Fr} {p q : Int} (h : tot l = (p, q, true)) : fOk p q = true := lSum_ok l fOk01 h
theorem tot_snoc {l : List Fr} (z : Fr) {p q : Int} (h : tot l = (p, q, true)) : tot (l ++ [z]) = fSum p q z.1 z.2 := lSum_snoc l z h
theorem tot_snoc_no {l : List Fr} (z : Fr) (h : tot l = (0, 0, false)) : tot (l ++ [z]) = (0, 0, false) := lSum_snoc_no l z h
/-- A ledger that is valid: its sum. -/
theorem lOk_iff {a b : Int} {l : List Fr} : lOk a b l = true ↔ fOk a b = true ∧ l.length ≤ 8 ∧ ∃ p q, tot l = (p, q, true) ∧ fCmp p q a b ≤ 0 := by
  unfold lOk
  simp only [Bool.and_eq_true, decide_eq_true_eq]
  constructor
  · rintro ⟨⟨⟨h1, h2⟩, h3⟩, h4⟩
    rcases tot_cases l with e | ⟨p, q, e⟩
    · rw [e] at h3; cases h3
    · refine ⟨h1, h2, p, q, e, ?_⟩
      rw [e] at h4
      unfold fCmp
      rw [if_pos ⟨tot_ok e, h1⟩]
      exact h4
  · rintro ⟨h1, h2, p, q, e, h4⟩
    unfold fCmp at h4
    rw [if_pos ⟨tot_ok e, h1⟩] at h4
    rw [e]
    exact ⟨⟨⟨h1, h2⟩, rfl⟩, h4⟩
theorem lTot_true {a b : Int} {l : List Fr} {p q : Int} : lTot a b l = (p, q, true) ↔ lOk a b l = true ∧ tot l = (p, q, true) := by
  unfold lTot
  split
  · simp_all
  · constructor
    · intro h; cases h
    · rintro ⟨h, _⟩; contradiction
theorem lTot_flag (a b : Int) (l : List Fr) : (lTot a b l).2.2 = lOk a b l := by
  unfold lTot
  split
  · rename_i h
    obtain ⟨_, _, p, q, e, _⟩ := lOk_iff.1 h
    rw [e, h]
  · rename_i h
    rw [Bool.eq_false_iff.2 h]
theorem lTot_no {a b : Int} {l : List Fr} (h : lOk a b l = false) : lTot a b l = (0, 0, false) := by
  unfold lTot
  rw [if_neg (by rw [h]; decide)]
theorem lTot_yes {a b : Int} {l : List Fr} (h : lOk a b l = true) : ∃ p q, lTot a b l = (p, q, true) ∧ tot l = (p, q, true) ∧ fOk p q = true ∧ fCmp p q a b ≤ 0 ∧ fOk a b = true ∧ l.length ≤ 8 := by
  obtain ⟨h1, h2, p, q, e, h4⟩ := lOk_iff.1 h
  exact ⟨p, q, lTot_true.2 ⟨h, e⟩, e, tot_ok e, h4, h1, h2⟩
theorem fCmp_le {a b c d : Int} (h1 : fOk a b = true) (h2 : fOk c d = true) : fCmp a b c d ≤ 0 ↔ a * d ≤ c * b := by
  unfold fCmp
  rw [if_pos ⟨h1, h2⟩]
  have := sg_ge (x := c * b) (y := a * d)
  rw [sg_neg (a * d)] at this
  omega
theorem fCmp_le_trans {a b c d e f : Int} (h1 : fOk a b = true) (h2 : fOk c d = true) (h3 : fOk e f = true) (x : fCmp a b c d ≤ 0) (y : fCmp c d e f ≤ 0) : fCmp a b e f ≤ 0 := by
  rw [fCmp_le h1 h2] at x
  rw [fCmp_le h2 h3] at y
  rw [fCmp_le h1 h3]
  have b1 := fOk_bounds h1
  have b2 := fOk_bounds h2
  have b3 := fOk_bounds h3
  have x2 := Int.mul_le_mul_of_nonneg_right x (show 0 ≤ f by omega)
  have y2 := Int.mul_le_mul_of_nonneg_right y (show 0 ≤ b by omega)
  refine Int.le_of_mul_le_mul_right (a := d) ?_ (by omega)
  have e1 : a * d * f = a * f * d := Int.mul_right_comm ..
  have e2 : c * b * f = c * f * b := Int.mul_right_comm ..
  have e3 : e * d * b = e * b * d := Int.mul_right_comm ..
  omega
/-- The last struck, the rest is valid. -/
theorem lOk_less {a b : Int} {l : List Fr} {z : Fr} (h : lOk a b (l ++ [z]) = true) : lOk a b l = true := by
  obtain ⟨h1, h2, p, q, e, h4⟩ := lOk_iff.1 h
  rcases tot_cases l with e2 | ⟨p', q', e2⟩
  · rw [tot_snoc_no z e2] at e; cases e
  · refine lOk_iff.2 ⟨h1, by rw [List.length_append] at h2; omega, p', q', e2, ?_⟩
    rw [tot_snoc z e2] at e
    have hs := fCmp_sum e
    have hw := fCmp_swap p' q' p q
    exact fCmp_le_trans (tot_ok e2) (fSum_true e).2.2.1 h1 (by omega) h4
theorem fSum_mono {a b c d e f p q r s : Int} (h1 : fSum a b c d = (p, q, true)) (h2 : fSum a b e f = (r, s, true)) (h : fCmp c d e f ≤ 0) : fCmp p q r s ≤ 0 := by
  have e1 : fSum c d a b = (p, q, true) := by rw [fSum_comm]; exact h1
  have e2 : fSum e f a b = (r, s, true) := by rw [fSum_comm]; exact h2
  rw [fCmp_add e1 e2]; exact h
theorem lOk_snoc {a b : Int} {l : List Fr} {z : Fr} {p q : Int} (h : lOk a b l = true) (ht : tot l = (p, q, true)) : lOk a b (l ++ [z]) = true ↔ l.length < 8 ∧ ∃ r s, fSum p q z.1 z.2 = (r, s, true) ∧ fCmp r s a b ≤ 0 := by
  have h1 := (lOk_iff.1 h).1
  rw [lOk_iff, tot_snoc z ht, List.length_append]
  constructor
  · rintro ⟨_, h2, r, s, e, h3⟩
    exact ⟨by rw [List.length_singleton] at h2; omega, r, s, e, h3⟩
  · rintro ⟨h2, r, s, e, h3⟩
    exact ⟨h1, by rw [List.length_singleton]; omega, r, s, e, h3⟩
/-- Whether it can be paid. -/
def lCan (a b : Int) (l : List Fr) (x y : Int) : Bool := lOk a b l && fOk x y && lOk a b (l ++ [(x, y)])
theorem lCan_iff {a b : Int} {l : List Fr} {x y : Int} : lCan a b l x y = true ↔ lOk a b l = true ∧ fOk x y = true ∧ lOk a b (l ++ [(x, y)]) = true := by
  unfold lCan; simp [and_assoc]
theorem lCan_snoc {a b : Int} {l : List Fr} {x y p q : Int} (h : lOk a b l = true) (ht : tot l = (p, q, true)) : lCan a b l x y = true ↔ l.length < 8 ∧ ∃ r s, fSum p q x y = (r, s, true) ∧ fCmp r s a b ≤ 0 := by
  rw [lCan_iff, lOk_snoc (z := (x, y)) h ht]
  constructor
  · rintro ⟨_, _, h3⟩; exact h3
  · rintro ⟨h2, r, s, e, h3⟩; exact ⟨h, (fSum_true e).2.1, h2, r, s, e, h3⟩
theorem lCan_none {a b : Int} {l : List Fr} (h : lOk a b l = true) : lCan a b l 0 1 = decide (l.length < 8) := by
  obtain ⟨h1, h2, p, q, ht, hc⟩ := lOk_iff.1 h
  rw [Bool.eq_iff_iff, lCan_snoc h ht, fSum_zero (tot_ok ht)]
  simp only [decide_eq_true_eq]
  exact ⟨fun h => h.1, fun h => ⟨h, p, q, rfl, hc⟩⟩
/-- Less can be paid where more can. -/
theorem lCan_less {a b : Int} {l : List Fr} {x y u v p q r s : Int} (h : lCan a b l x y = true) (ht : tot l = (p, q, true)) (hs : fSum p q u v = (r, s, true)) (hc : fCmp u v x y ≤ 0) : lCan a b l u v = true := by
  obtain ⟨h1, h2, h3⟩ := lCan_iff.1 h
  obtain ⟨h4, r', s', e, h5⟩ := (lOk_snoc (z := (x, y)) h1 ht).1 h3
  refine (lCan_snoc h1 ht).2 ⟨h4, r, s, hs, ?_⟩
  exact fCmp_le_trans (fSum_true hs).2.2.1 (fSum_true e).2.2.1 (lOk_iff.1 h1).1 (fSum_mono hs e hc) h5
/-- What can be paid can be paid where more may be paid. -/
theorem lCan_cap {a b c d x y u v : Int} {l : List Fr} (h : lCan a b l x y = true) (hs : fSum a b u v = (c, d, true)) : lCan c d l x y = true := by
  obtain ⟨h1, h2, h3⟩ := lCan_iff.1 h
  have key : ∀ m, lOk a b m = true → lOk c d m = true := fun m hm => by
    obtain ⟨k1, k2, p, q, ht, hc⟩ := lOk_iff.1 hm
    have hcd := (fSum_true hs).2.2.1
    refine lOk_iff.2 ⟨hcd, k2, p, q, ht, fCmp_le_trans (tot_ok ht) k1 hcd hc ?_⟩
    have := fCmp_sum hs
    have := fCmp_swap a b c d
    omega
  exact lCan_iff.2 ⟨key _ h1, h2, key _ h3⟩
end Go.Proofs.Ytncngkfgalokoaa.PbLed
