-- Written by a program of this session over the kit's printer, with contracts proved by hand; Lean checks it.
import Derived.Test.YtdjenclegglmfaaPFnHeavyStepx0
import Derived.Test.YtdjenclegglmfaaPFnHeavyStepx2
import Derived.Test.YtdjenclegglmfaaPFnHeavyStepx3
namespace Go.Proofs.Ytdjenclegglmfaa.PFnHeavyStep
open Go.RowKit Go.Proofs.YtdjenclegglmfaaW.PrintWords Go.Proofs.YtdjenclegglmfaaW.PrintLast Go.Proofs.YtdjenclegglmfaaW.PrintMore
attribute [local go_sem] max2_int min2_int max_two min_two max_three min_three max_four min_four   -- for this text's walks alone
set_option linter.unusedVariables false
set_option linter.unusedSimpArgs false

/-! ### spec_DrawHeavyStep: function 33 -/
-- The numbers of functions and types are those of the seat of the heavy group.
/-! #### a region that draws its order, by an invariant over what has come up -/
theorem count_set_true {l : List Bool} {i : Nat} (h : l[i]? = some false) : (l.set i true).count false + 1 = l.count false := by
  induction l generalizing i with
  | nil => simp at h
  | cons x l ih =>
    cases i with
    | zero =>
      simp at h
      subst h
      simp
    | succ i =>
      have := ih (by simpa using h)
      rw [List.set_cons_succ, List.count_cons, List.count_cons]
      omega
theorem wpAny_inv {P : Program} {md : Region.Mode} {ops : Array Oper} {Q : Exit → Act → World → Prop} (Inv : Array Bool → Act → World → Prop)
    (hdone : ∀ l a w, Inv l a w → Region.ready md ops l = [] → Q .normal a w)
    (hstep : ∀ l a w i, Inv l a w → i ∈ Region.ready md ops l → wpOp P ops Q i (fun a' w' => Inv (l.setIfInBounds i true) a' w') a w) :
    ∀ (fuel : Nat) (l : Array Bool) (a : Act) (w : World), l.toList.count false ≤ fuel → Inv l a w → wpAny P md ops Q fuel l a w := by
  have bit : ∀ (l : Array Bool) i, i ∈ Region.ready md ops l → l.toList[i]? = some false := fun l i hi => by
    have h := (mem_ready.1 hi).1
    rw [Array.getD_eq_getD_getElem?] at h
    cases hx : l[i]? with
    | none => rw [hx] at h; cases h
    | some x =>
      rw [hx] at h
      rw [Array.getElem?_toList, hx]
      exact congrArg some h
  intro fuel
  induction fuel with
  | zero =>
    intro l a w hc hI
    have hr : Region.ready md ops l = [] := by
      rw [List.eq_nil_iff_forall_not_mem]
      intro i hi
      have h := bit l i hi
      have := List.count_pos_iff.2 (List.mem_of_getElem? h)
      omega
    exact ⟨hr, hdone l a w hI hr⟩
  | succ fuel ih =>
    intro l a w hc hI
    refine ⟨hdone l a w hI, fun i hi => wpOp_mono (fun a' w' h => ih _ _ _ ?_ h) (hstep l a w i hI hi)⟩
    have := count_set_true (bit l i hi)
    rw [Array.toList_setIfInBounds]
    omega
theorem wpOp_of {P : Program} {ops : Array Oper} {Q : Exit → Act → World → Prop} {i : Nat} {o : Oper} {K : Act → World → Prop} {a : Act} {w : World} (hi : ops[i]? = some o)
    (h : if Region.wanted o (yielded ops a.tmps) = true then Oper.wp P o a w K Q else K (a.put o.dst undef) w) : wpOp P ops Q i K a w := by
  unfold wpOp
  simp only [hi]
  split
  · rename_i hw
    rw [if_pos hw] at h
    exact .inl h
  · rename_i hw
    rw [if_neg hw] at h
    exact h
theorem pureOp_ {P : Program} {ops : Array Oper} {Q : Exit → Act → World → Prop} {o : Oper} {K : Act → World → Prop} {a : Act} {w : World} {v : Value} (hw : Region.wanted o (yielded ops a.tmps) = true)
    (hrun : (execOp a.eval o).run P w = .ok (.value v) w) (h : K (a.put o.dst v) w) : if Region.wanted o (yielded ops a.tmps) = true then Oper.wp P o a w K Q else K (a.put o.dst undef) w := by
  rw [if_pos hw]
  unfold Oper.wp
  rw [hrun]
  exact h
theorem allocOp_ {P : Program} {ops : Array Oper} {Q : Exit → Act → World → Prop} {o : Oper} {K : Act → World → Prop} {a : Act} {w w1 : World} {v : Value} (hw : Region.wanted o (yielded ops a.tmps) = true)
    (hrun : (execOp a.eval o).run P w = .ok (.value v) w1) (h : K (a.put o.dst v) w1) : if Region.wanted o (yielded ops a.tmps) = true then Oper.wp P o a w K Q else K (a.put o.dst undef) w := by
  rw [if_pos hw]
  unfold Oper.wp
  rw [hrun]
  exact h
def updF {α : Type} (f : Nat → α) (i : Nat) (x : α) : Nat → α := fun j => if j = i then x else f j
def bitsF (f : Nat → Bool) : Array Bool := #[f 0, f 1, f 2, f 3, f 4, f 5, f 6, f 7, f 8, f 9, f 10, f 11, f 12, f 13, f 14, f 15, f 16]
def actF (t : Nat → Value) : Act := ⟨#[t 0, t 1, t 2, t 3, t 4, t 5, t 6, t 7, t 8, t 9, t 10, t 11, t 12, t 13, t 14, t 15, t 16, t 17, t 18, t 19, t 20, t 21], []⟩
def headsOf : List (List ByteArray) := [[⟨#[]⟩], [⟨#[97]⟩, ⟨#[98]⟩], [⟨#[97, 97]⟩, ⟨#[97, 98]⟩], [⟨#[97, 98]⟩], []]
/-- What is known of the temporaries and of memory, by what has come up. -/
structure HMem (g : Nat) (w0 : World) (ws : List ByteArray) (v need : Int) (f : Nat → Bool) (t : Nat → Value) (w : World) : Prop where
  t5 : t 5 = .pointer (some ⟨g, 0, none⟩)
  p0 : f 0 = true → t 8 = .pointer (some ⟨g, 0, none⟩)
  p8 : f 8 = true → t 16 = .pointer (some ⟨g, 0, none⟩)
  p12 : f 12 = true → t 20 = .pointer (some ⟨g, 0, none⟩)
  p1 : f 1 = true → Kd.R Kd.string 9 w w0.heap.size (fun k => k ≠ g) (t 9) ws
  p2 : f 2 = true → Kd.R Kd.string 9 w w0.heap.size (fun k => k ≠ g) (t 10) [⟨#[]⟩]
  p3 : f 3 = true → Kd.R Kd.string 9 w w0.heap.size (fun k => k ≠ g) (t 11) [⟨#[97]⟩, ⟨#[98]⟩]
  p4 : f 4 = true → Kd.R Kd.string 9 w w0.heap.size (fun k => k ≠ g) (t 12) [⟨#[97, 97]⟩, ⟨#[97, 98]⟩]
  p5 : f 5 = true → Kd.R Kd.string 9 w w0.heap.size (fun k => k ≠ g) (t 13) [⟨#[97, 98]⟩]
  p6 : f 6 = true → Kd.R Kd.string 9 w w0.heap.size (fun k => k ≠ g) (t 14) []
  p7 : f 7 = true → (f 2 = true ∧ f 3 = true ∧ f 4 = true ∧ f 5 = true ∧ f 6 = true) ∧ ∃ b, t 15 = .slice (some ⟨b, 0, none⟩) 5 5 ∧ w0.heap.size ≤ b ∧ b ≠ g ∧ w.heap[b]? = some (.cells #[t 10, t 11, t 12, t 13, t 14] 22 (0, 0))
  p9 : f 9 = true → f 1 = true ∧ f 8 = true ∧ t 17 = .int .i64 v
  p10 : f 10 = true → f 7 = true ∧ f 9 = true ∧ ∃ b, t 15 = .slice (some ⟨b, 0, none⟩) 5 5 ∧ t 18 = .pointer (some ⟨b, v.toNat, none⟩)
  p11 : f 11 = true → f 10 = true ∧ t 19 = t (10 + v.toNat)
  p13 : f 13 = true → f 12 = true ∧ f 9 = true ∧ t 21 = .int .i64 need
  p14 : f 14 = true → f 1 = true ∧ f 13 = true ∧ t 2 = t 9
  p15 : f 15 = true → f 11 = true ∧ f 14 = true ∧ t 3 = t 19
  p16 : f 16 = true → f 13 = true ∧ f 15 = true ∧ t 4 = .int .i64 need
section
variable {g : Nat} {w0 w w1 : World} {ws : List ByteArray} {v need : Int} {f : Nat → Bool} {t : Nat → Value}
theorem HMem.move (h : HMem g w0 ws v need f t w) (hm : ∀ k, k ≠ g → k < w.heap.size → w1.heap[k]? = w.heap[k]?) : HMem g w0 ws v need f t w1 where
  t5 := h.t5
  p0 := h.p0
  p8 := h.p8
  p12 := h.p12
  p1 := fun hf => Kd.R_step (h.p1 hf) (fun k hk hl => hm k hk hl)
  p2 := fun hf => Kd.R_step (h.p2 hf) (fun k hk hl => hm k hk hl)
  p3 := fun hf => Kd.R_step (h.p3 hf) (fun k hk hl => hm k hk hl)
  p4 := fun hf => Kd.R_step (h.p4 hf) (fun k hk hl => hm k hk hl)
  p5 := fun hf => Kd.R_step (h.p5 hf) (fun k hk hl => hm k hk hl)
  p6 := fun hf => Kd.R_step (h.p6 hf) (fun k hk hl => hm k hk hl)
  p7 := fun hf => by
    obtain ⟨h1, b, h2, h3, h4, h5⟩ := h.p7 hf
    exact ⟨h1, b, h2, h3, h4, (hm b h4 (Array.getElem?_eq_some_iff.1 h5).1).trans h5⟩
  p9 := h.p9
  p10 := h.p10
  p11 := h.p11
  p13 := h.p13
  p14 := h.p14
  p15 := h.p15
  p16 := h.p16
theorem HMem.set0 (h : HMem g w0 ws v need f t w) (hf0 : f 0 = false) (hv : v.toNat < 5) {x : Value} (hx : x = .pointer (some ⟨g, 0, none⟩)) : HMem g w0 ws v need (updF f 0 true) (updF t 8 x) w where
  t5 := h.t5
  p0 := fun _ => hx
  p8 := h.p8
  p12 := h.p12
  p1 := h.p1
  p2 := h.p2
  p3 := h.p3
  p4 := h.p4
  p5 := h.p5
  p6 := h.p6
  p7 := h.p7
  p9 := h.p9
  p10 := h.p10
  p11 := fun hf => ⟨(h.p11 hf).1, by
    have e : updF t 8 x (10 + v.toNat) = t (10 + v.toNat) := if_neg (by omega)
    rw [e]
    exact (h.p11 hf).2⟩
  p13 := h.p13
  p14 := h.p14
  p15 := h.p15
  p16 := h.p16
theorem HMem.set1 (h : HMem g w0 ws v need f t w) (hf0 : f 1 = false) (hv : v.toNat < 5) {x : Value} (hx : Kd.R Kd.string 9 w w0.heap.size (fun k => k ≠ g) x ws) : HMem g w0 ws v need (updF f 1 true) (updF t 9 x) w where
  t5 := h.t5
  p0 := h.p0
  p8 := h.p8
  p12 := h.p12
  p1 := fun _ => hx
  p2 := h.p2
  p3 := h.p3
  p4 := h.p4
  p5 := h.p5
  p6 := h.p6
  p7 := h.p7
  p9 := fun hf => absurd (show f 1 = true from (h.p9 hf).1) (by rw [hf0]; decide)
  p10 := h.p10
  p11 := fun hf => ⟨(h.p11 hf).1, by
    have e : updF t 9 x (10 + v.toNat) = t (10 + v.toNat) := if_neg (by omega)
    rw [e]
    exact (h.p11 hf).2⟩
  p13 := h.p13
  p14 := fun hf => absurd (show f 1 = true from (h.p14 hf).1) (by rw [hf0]; decide)
  p15 := h.p15
  p16 := h.p16
theorem HMem.set2 (h : HMem g w0 ws v need f t w) (hf0 : f 2 = false) (hv : v.toNat < 5) {x : Value} (hx : Kd.R Kd.string 9 w w0.heap.size (fun k => k ≠ g) x [⟨#[]⟩]) : HMem g w0 ws v need (updF f 2 true) (updF t 10 x) w where
  t5 := h.t5
  p0 := h.p0
  p8 := h.p8
  p12 := h.p12
  p1 := h.p1
  p2 := fun _ => hx
  p3 := h.p3
  p4 := h.p4
  p5 := h.p5
  p6 := h.p6
  p7 := fun hf => absurd (show f 2 = true from (h.p7 hf).1.1) (by rw [hf0]; decide)
  p9 := h.p9
  p10 := h.p10
  p11 := fun hf => absurd (show f 2 = true from (h.p7 (h.p10 (h.p11 hf).1).1).1.1) (by rw [hf0]; decide)
  p13 := h.p13
  p14 := h.p14
  p15 := h.p15
  p16 := h.p16
theorem HMem.set3 (h : HMem g w0 ws v need f t w) (hf0 : f 3 = false) (hv : v.toNat < 5) {x : Value} (hx : Kd.R Kd.string 9 w w0.heap.size (fun k => k ≠ g) x [⟨#[97]⟩, ⟨#[98]⟩]) : HMem g w0 ws v need (updF f 3 true) (updF t 11 x) w where
  t5 := h.t5
  p0 := h.p0
  p8 := h.p8
  p12 := h.p12
  p1 := h.p1
  p2 := h.p2
  p3 := fun _ => hx
  p4 := h.p4
  p5 := h.p5
  p6 := h.p6
  p7 := fun hf => absurd (show f 3 = true from (h.p7 hf).1.2.1) (by rw [hf0]; decide)
  p9 := h.p9
  p10 := h.p10
  p11 := fun hf => absurd (show f 3 = true from (h.p7 (h.p10 (h.p11 hf).1).1).1.2.1) (by rw [hf0]; decide)
  p13 := h.p13
  p14 := h.p14
  p15 := h.p15
  p16 := h.p16
theorem HMem.set4 (h : HMem g w0 ws v need f t w) (hf0 : f 4 = false) (hv : v.toNat < 5) {x : Value} (hx : Kd.R Kd.string 9 w w0.heap.size (fun k => k ≠ g) x [⟨#[97, 97]⟩, ⟨#[97, 98]⟩]) : HMem g w0 ws v need (updF f 4 true) (updF t 12 x) w where
  t5 := h.t5
  p0 := h.p0
  p8 := h.p8
  p12 := h.p12
  p1 := h.p1
  p2 := h.p2
  p3 := h.p3
  p4 := fun _ => hx
  p5 := h.p5
  p6 := h.p6
  p7 := fun hf => absurd (show f 4 = true from (h.p7 hf).1.2.2.1) (by rw [hf0]; decide)
  p9 := h.p9
  p10 := h.p10
  p11 := fun hf => absurd (show f 4 = true from (h.p7 (h.p10 (h.p11 hf).1).1).1.2.2.1) (by rw [hf0]; decide)
  p13 := h.p13
  p14 := h.p14
  p15 := h.p15
  p16 := h.p16
theorem HMem.set5 (h : HMem g w0 ws v need f t w) (hf0 : f 5 = false) (hv : v.toNat < 5) {x : Value} (hx : Kd.R Kd.string 9 w w0.heap.size (fun k => k ≠ g) x [⟨#[97, 98]⟩]) : HMem g w0 ws v need (updF f 5 true) (updF t 13 x) w where
  t5 := h.t5
  p0 := h.p0
  p8 := h.p8
  p12 := h.p12
  p1 := h.p1
  p2 := h.p2
  p3 := h.p3
  p4 := h.p4
  p5 := fun _ => hx
  p6 := h.p6
  p7 := fun hf => absurd (show f 5 = true from (h.p7 hf).1.2.2.2.1) (by rw [hf0]; decide)
  p9 := h.p9
  p10 := h.p10
  p11 := fun hf => absurd (show f 5 = true from (h.p7 (h.p10 (h.p11 hf).1).1).1.2.2.2.1) (by rw [hf0]; decide)
  p13 := h.p13
  p14 := h.p14
  p15 := h.p15
  p16 := h.p16
theorem HMem.set6 (h : HMem g w0 ws v need f t w) (hf0 : f 6 = false) (hv : v.toNat < 5) {x : Value} (hx : Kd.R Kd.string 9 w w0.heap.size (fun k => k ≠ g) x []) : HMem g w0 ws v need (updF f 6 true) (updF t 14 x) w where
  t5 := h.t5
  p0 := h.p0
  p8 := h.p8
  p12 := h.p12
  p1 := h.p1
  p2 := h.p2
  p3 := h.p3
  p4 := h.p4
  p5 := h.p5
  p6 := fun _ => hx
  p7 := fun hf => absurd (show f 6 = true from (h.p7 hf).1.2.2.2.2) (by rw [hf0]; decide)
  p9 := h.p9
  p10 := h.p10
  p11 := fun hf => absurd (show f 6 = true from (h.p7 (h.p10 (h.p11 hf).1).1).1.2.2.2.2) (by rw [hf0]; decide)
  p13 := h.p13
  p14 := h.p14
  p15 := h.p15
  p16 := h.p16
theorem HMem.set7 (h : HMem g w0 ws v need f t w) (hf0 : f 7 = false) (hv : v.toNat < 5) {x : Value} (hx : (f 2 = true ∧ f 3 = true ∧ f 4 = true ∧ f 5 = true ∧ f 6 = true) ∧ ∃ b, x = .slice (some ⟨b, 0, none⟩) 5 5 ∧ w0.heap.size ≤ b ∧ b ≠ g ∧ w.heap[b]? = some (.cells #[t 10, t 11, t 12, t 13, t 14] 22 (0, 0))) : HMem g w0 ws v need (updF f 7 true) (updF t 15 x) w where
  t5 := h.t5
  p0 := h.p0
  p8 := h.p8
  p12 := h.p12
  p1 := h.p1
  p2 := h.p2
  p3 := h.p3
  p4 := h.p4
  p5 := h.p5
  p6 := h.p6
  p7 := fun _ => hx
  p9 := h.p9
  p10 := fun hf => absurd (show f 7 = true from (h.p10 hf).1) (by rw [hf0]; decide)
  p11 := fun hf => ⟨(h.p11 hf).1, by
    have e : updF t 15 x (10 + v.toNat) = t (10 + v.toNat) := if_neg (by omega)
    rw [e]
    exact (h.p11 hf).2⟩
  p13 := h.p13
  p14 := h.p14
  p15 := h.p15
  p16 := h.p16
theorem HMem.set8 (h : HMem g w0 ws v need f t w) (hf0 : f 8 = false) (hv : v.toNat < 5) {x : Value} (hx : x = .pointer (some ⟨g, 0, none⟩)) : HMem g w0 ws v need (updF f 8 true) (updF t 16 x) w where
  t5 := h.t5
  p0 := h.p0
  p8 := fun _ => hx
  p12 := h.p12
  p1 := h.p1
  p2 := h.p2
  p3 := h.p3
  p4 := h.p4
  p5 := h.p5
  p6 := h.p6
  p7 := h.p7
  p9 := fun hf => absurd (show f 8 = true from (h.p9 hf).2.1) (by rw [hf0]; decide)
  p10 := h.p10
  p11 := fun hf => ⟨(h.p11 hf).1, by
    have e : updF t 16 x (10 + v.toNat) = t (10 + v.toNat) := if_neg (by omega)
    rw [e]
    exact (h.p11 hf).2⟩
  p13 := h.p13
  p14 := h.p14
  p15 := h.p15
  p16 := h.p16
theorem HMem.set9 (h : HMem g w0 ws v need f t w) (hf0 : f 9 = false) (hv : v.toNat < 5) {x : Value} (hx : f 1 = true ∧ f 8 = true ∧ x = .int .i64 v) : HMem g w0 ws v need (updF f 9 true) (updF t 17 x) w where
  t5 := h.t5
  p0 := h.p0
  p8 := h.p8
  p12 := h.p12
  p1 := h.p1
  p2 := h.p2
  p3 := h.p3
  p4 := h.p4
  p5 := h.p5
  p6 := h.p6
  p7 := h.p7
  p9 := fun _ => hx
  p10 := fun hf => absurd (show f 9 = true from (h.p10 hf).2.1) (by rw [hf0]; decide)
  p11 := fun hf => ⟨(h.p11 hf).1, by
    have e : updF t 17 x (10 + v.toNat) = t (10 + v.toNat) := if_neg (by omega)
    rw [e]
    exact (h.p11 hf).2⟩
  p13 := fun hf => absurd (show f 9 = true from (h.p13 hf).2.1) (by rw [hf0]; decide)
  p14 := h.p14
  p15 := h.p15
  p16 := h.p16
theorem HMem.set10 (h : HMem g w0 ws v need f t w) (hf0 : f 10 = false) (hv : v.toNat < 5) {x : Value} (hx : f 7 = true ∧ f 9 = true ∧ ∃ b, t 15 = .slice (some ⟨b, 0, none⟩) 5 5 ∧ x = .pointer (some ⟨b, v.toNat, none⟩)) : HMem g w0 ws v need (updF f 10 true) (updF t 18 x) w where
  t5 := h.t5
  p0 := h.p0
  p8 := h.p8
  p12 := h.p12
  p1 := h.p1
  p2 := h.p2
  p3 := h.p3
  p4 := h.p4
  p5 := h.p5
  p6 := h.p6
  p7 := h.p7
  p9 := h.p9
  p10 := fun _ => hx
  p11 := fun hf => absurd (show f 10 = true from (h.p11 hf).1) (by rw [hf0]; decide)
  p13 := h.p13
  p14 := h.p14
  p15 := h.p15
  p16 := h.p16
theorem HMem.set11 (h : HMem g w0 ws v need f t w) (hf0 : f 11 = false) (hv : v.toNat < 5) {x : Value} (hx : f 10 = true ∧ x = t (10 + v.toNat)) : HMem g w0 ws v need (updF f 11 true) (updF t 19 x) w where
  t5 := h.t5
  p0 := h.p0
  p8 := h.p8
  p12 := h.p12
  p1 := h.p1
  p2 := h.p2
  p3 := h.p3
  p4 := h.p4
  p5 := h.p5
  p6 := h.p6
  p7 := h.p7
  p9 := h.p9
  p10 := h.p10
  p11 := fun _ => ⟨hx.1, by
    have e : updF t 19 x (10 + v.toNat) = t (10 + v.toNat) := if_neg (by omega)
    rw [e]
    exact hx.2⟩
  p13 := h.p13
  p14 := h.p14
  p15 := fun hf => absurd (show f 11 = true from (h.p15 hf).1) (by rw [hf0]; decide)
  p16 := h.p16
theorem HMem.set12 (h : HMem g w0 ws v need f t w) (hf0 : f 12 = false) (hv : v.toNat < 5) {x : Value} (hx : x = .pointer (some ⟨g, 0, none⟩)) : HMem g w0 ws v need (updF f 12 true) (updF t 20 x) w where
  t5 := h.t5
  p0 := h.p0
  p8 := h.p8
  p12 := fun _ => hx
  p1 := h.p1
  p2 := h.p2
  p3 := h.p3
  p4 := h.p4
  p5 := h.p5
  p6 := h.p6
  p7 := h.p7
  p9 := h.p9
  p10 := h.p10
  p11 := fun hf => ⟨(h.p11 hf).1, by
    have e : updF t 20 x (10 + v.toNat) = t (10 + v.toNat) := if_neg (by omega)
    rw [e]
    exact (h.p11 hf).2⟩
  p13 := fun hf => absurd (show f 12 = true from (h.p13 hf).1) (by rw [hf0]; decide)
  p14 := h.p14
  p15 := h.p15
  p16 := h.p16
theorem HMem.set13 (h : HMem g w0 ws v need f t w) (hf0 : f 13 = false) (hv : v.toNat < 5) {x : Value} (hx : f 12 = true ∧ f 9 = true ∧ x = .int .i64 need) : HMem g w0 ws v need (updF f 13 true) (updF t 21 x) w where
  t5 := h.t5
  p0 := h.p0
  p8 := h.p8
  p12 := h.p12
  p1 := h.p1
  p2 := h.p2
  p3 := h.p3
  p4 := h.p4
  p5 := h.p5
  p6 := h.p6
  p7 := h.p7
  p9 := h.p9
  p10 := h.p10
  p11 := fun hf => ⟨(h.p11 hf).1, by
    have e : updF t 21 x (10 + v.toNat) = t (10 + v.toNat) := if_neg (by omega)
    rw [e]
    exact (h.p11 hf).2⟩
  p13 := fun _ => hx
  p14 := fun hf => absurd (show f 13 = true from (h.p14 hf).2.1) (by rw [hf0]; decide)
  p15 := h.p15
  p16 := fun hf => absurd (show f 13 = true from (h.p16 hf).1) (by rw [hf0]; decide)
theorem HMem.set14 (h : HMem g w0 ws v need f t w) (hf0 : f 14 = false) (hv : v.toNat < 5) {x : Value} (hx : f 1 = true ∧ f 13 = true ∧ x = t 9) : HMem g w0 ws v need (updF f 14 true) (updF t 2 x) w where
  t5 := h.t5
  p0 := h.p0
  p8 := h.p8
  p12 := h.p12
  p1 := h.p1
  p2 := h.p2
  p3 := h.p3
  p4 := h.p4
  p5 := h.p5
  p6 := h.p6
  p7 := h.p7
  p9 := h.p9
  p10 := h.p10
  p11 := fun hf => ⟨(h.p11 hf).1, by
    have e : updF t 2 x (10 + v.toNat) = t (10 + v.toNat) := if_neg (by omega)
    rw [e]
    exact (h.p11 hf).2⟩
  p13 := h.p13
  p14 := fun _ => hx
  p15 := fun hf => absurd (show f 14 = true from (h.p15 hf).2.1) (by rw [hf0]; decide)
  p16 := h.p16
theorem HMem.set15 (h : HMem g w0 ws v need f t w) (hf0 : f 15 = false) (hv : v.toNat < 5) {x : Value} (hx : f 11 = true ∧ f 14 = true ∧ x = t 19) : HMem g w0 ws v need (updF f 15 true) (updF t 3 x) w where
  t5 := h.t5
  p0 := h.p0
  p8 := h.p8
  p12 := h.p12
  p1 := h.p1
  p2 := h.p2
  p3 := h.p3
  p4 := h.p4
  p5 := h.p5
  p6 := h.p6
  p7 := h.p7
  p9 := h.p9
  p10 := h.p10
  p11 := fun hf => ⟨(h.p11 hf).1, by
    have e : updF t 3 x (10 + v.toNat) = t (10 + v.toNat) := if_neg (by omega)
    rw [e]
    exact (h.p11 hf).2⟩
  p13 := h.p13
  p14 := h.p14
  p15 := fun _ => hx
  p16 := fun hf => absurd (show f 15 = true from (h.p16 hf).2.1) (by rw [hf0]; decide)
theorem HMem.set16 (h : HMem g w0 ws v need f t w) (hf0 : f 16 = false) (hv : v.toNat < 5) {x : Value} (hx : f 13 = true ∧ f 15 = true ∧ x = .int .i64 need) : HMem g w0 ws v need (updF f 16 true) (updF t 4 x) w where
  t5 := h.t5
  p0 := h.p0
  p8 := h.p8
  p12 := h.p12
  p1 := h.p1
  p2 := h.p2
  p3 := h.p3
  p4 := h.p4
  p5 := h.p5
  p6 := h.p6
  p7 := h.p7
  p9 := h.p9
  p10 := h.p10
  p11 := fun hf => ⟨(h.p11 hf).1, by
    have e : updF t 4 x (10 + v.toNat) = t (10 + v.toNat) := if_neg (by omega)
    rw [e]
    exact (h.p11 hf).2⟩
  p13 := h.p13
  p14 := h.p14
  p15 := h.p15
  p16 := fun _ => hx
end
/-- An operation of the region: what it does, and what it waits for. -/
def IsOp (ops : Array Oper) (i d : Nat) (op : Op) (ty : TypeId) (D : List Nat) : Prop := ∃ pos after, ops[i]? = some { dst := some d, op := op, type := ty, pos := pos, after := after, guard := none } ∧ (after.toList.filter (fun e => Region.binds .any e)).map (·.on) = D
theorem ready_of {l : Array Bool} {ops : Array Oper} {i : Nat} {o : Oper} {D : List Nat} (ho : ops[i]? = some o) (hd : (o.after.toList.filter (fun e => Region.binds .any e)).map (·.on) = D) : i ∈ Region.ready .any ops l ↔ l.getD i true = false ∧ ∀ j ∈ D, l.getD j false = true := by
  rw [mem_ready]
  constructor
  · rintro ⟨h0, o', ho', hall⟩
    obtain rfl := Option.some.inj (ho.symm.trans ho')
    refine ⟨h0, fun j hj => ?_⟩
    rw [← hd] at hj
    obtain ⟨e, he, rfl⟩ := List.mem_map.1 hj
    obtain ⟨h1, h2⟩ := List.mem_filter.1 he
    exact hall e (by simpa using h1) h2
  · rintro ⟨h0, hall⟩
    refine ⟨h0, o, ho, fun e he hb => hall _ ?_⟩
    rw [← hd]
    exact List.mem_map.2 ⟨e, List.mem_filter.2 ⟨by simpa using he, hb⟩, rfl⟩
def pposF (p0 p1 p2 p3 : Int) (f : Nat → Bool) : Int := if f 13 = true then p3 else if f 9 = true then p2 else if f 1 = true then p1 else p0
def HInv (g : Nat) (w0 : World) (s : List Int) (p0 p1 p2 p3 : Int) (ws : List ByteArray) (v need : Int) (l : Array Bool) (a : Act) (w : World) : Prop :=
  ∃ f t, l = bitsF f ∧ a = actF t ∧ HMem g w0 ws v need f t w ∧ IsS59 w0 w g s (pposF p0 p1 p2 p3 f) ∧ Below w0.heap.size w0 w
set_option maxHeartbeats 4000000 in
theorem heads_region (ops : Array Oper) (id : Nat) (hsz : ops.size = 17)
    (o0 : IsOp ops 0 8 (.move (.tmp 5)) 46 [])
    (o1 : IsOp ops 1 9 (.call { callee := .value (.func 45), args := #[.tmp 8], argTypes := #[46] }) 22 [0])
    (o2 : IsOp ops 2 10 (.buildSlice 22 1 #[(0, .const (.string ⟨#[]⟩))]) 22 [])
    (o3 : IsOp ops 3 11 (.buildSlice 22 2 #[(0, .const (.string ⟨#[97]⟩)), (1, .const (.string ⟨#[98]⟩))]) 22 [])
    (o4 : IsOp ops 4 12 (.buildSlice 22 2 #[(0, .const (.string ⟨#[97, 97]⟩)), (1, .const (.string ⟨#[97, 98]⟩))]) 22 [])
    (o5 : IsOp ops 5 13 (.buildSlice 22 1 #[(0, .const (.string ⟨#[97, 98]⟩))]) 22 [])
    (o6 : IsOp ops 6 14 (.buildSlice 22 0 #[]) 22 [])
    (o7 : IsOp ops 7 15 (.buildSlice 51 5 #[(0, .tmp 10), (1, .tmp 11), (2, .tmp 12), (3, .tmp 13), (4, .tmp 14)]) 51 [2, 3, 4, 5, 6])
    (o8 : IsOp ops 8 16 (.move (.tmp 5)) 46 [])
    (o9 : IsOp ops 9 17 (.call { callee := .value (.func 46), args := #[.tmp 16, .const (.int .i64 5)], argTypes := #[46, 3] }) 3 [8, 1])
    (o10 : IsOp ops 10 18 (.indexAddr 51 (.tmp 15) (.tmp 17)) 0 [7, 9])
    (o11 : IsOp ops 11 19 (.load 22 (.tmp 18)) 22 [10])
    (o12 : IsOp ops 12 20 (.move (.tmp 5)) 46 [])
    (o13 : IsOp ops 13 21 (.call { callee := .value (.func 46), args := #[.tmp 20, .const (.int .i64 5)], argTypes := #[46, 3] }) 3 [12, 9])
    (o14 : IsOp ops 14 2 (.assign (.tmp 9)) 22 [1, 13, 0, 1])
    (o15 : IsOp ops 15 3 (.assign (.tmp 19)) 22 [11, 14, 0, 1, 2, 3, 4, 5, 6, 7, 8, 9, 10, 11, 14])
    (o16 : IsOp ops 16 4 (.assign (.tmp 21)) 3 [13, 15, 0, 1, 2, 3, 4, 5, 6, 7, 8, 9, 10, 11, 12, 13, 14, 15])
    {Q : Exit → Act → World → Prop} (k g : Nat) (s : List Int) (p0 p1 p2 p3 : Int) (ws : List ByteArray) (v need : Int) (w0 w : World) (a : Act) (hv0 : 0 ≤ v) (hv5 : v < 5)
    (hwords : spec_l92Words.f k s p0 = some (ws, p1)) (hpick1 : spec_l6Rd_pick.f k s p1 5 = some (v, p2)) (hpick2 : spec_l6Rd_pick.f k s p2 5 = some (need, p3))
    (ha : a = actF (fun j => a.tmps.getD j undef)) (ht5 : a.tmps.getD 5 undef = .pointer (some ⟨g, 0, none⟩)) (hI : IsS59 w0 w g s p0) (hB : Below w0.heap.size w0 w)
    (hQ : ∀ t w', HMem g w0 ws v need (fun _ => true) t w' → IsS59 w0 w' g s p3 → Below w0.heap.size w0 w' → Q .normal (actF t) w') : (Code.region id ops true).wp Try.prog Q a w := by
  have hv : v.toNat < 5 := by omega
  refine wp_region_any rfl ?_
  rw [hsz]
  refine wpAny_inv (HInv g w0 s p0 p1 p2 p3 ws v need) ?done ?step 17 _ _ _ (by decide) ?start
  case start =>
    refine ⟨fun _ => false, _, rfl, ha, ?_, IsS59.drew hI, below_drew1 hB⟩
    exact { t5 := ht5, p0 := (fun h => by cases h), p8 := (fun h => by cases h), p12 := (fun h => by cases h), p1 := (fun h => by cases h), p2 := (fun h => by cases h), p3 := (fun h => by cases h), p4 := (fun h => by cases h), p5 := (fun h => by cases h), p6 := (fun h => by cases h), p7 := (fun h => by cases h), p9 := (fun h => by cases h), p10 := (fun h => by cases h), p11 := (fun h => by cases h), p13 := (fun h => by cases h), p14 := (fun h => by cases h), p15 := (fun h => by cases h), p16 := (fun h => by cases h) }
  case done =>
    rintro l a w ⟨f, t, rfl, rfl, H, hI, hB⟩ hr
    have no : ∀ i, ¬ i ∈ Region.ready .any ops (bitsF f) := fun i h => by rw [hr] at h; cases h
    have f0 : f 0 = true := by
      obtain ⟨_, _, ho, hd⟩ := o0
      have := mt (ready_of (l := bitsF f) ho hd).2 (no 0)
      rcases hx : f 0 with _ | _
      · refine absurd ⟨hx, fun j hj => ?_⟩ this
        simp only [List.mem_cons, List.not_mem_nil, or_false] at hj
      · rfl
    have f1 : f 1 = true := by
      obtain ⟨_, _, ho, hd⟩ := o1
      have := mt (ready_of (l := bitsF f) ho hd).2 (no 1)
      rcases hx : f 1 with _ | _
      · refine absurd ⟨hx, fun j hj => ?_⟩ this
        simp only [List.mem_cons, List.not_mem_nil, or_false] at hj
        rcases hj with rfl
        all_goals first | exact f0
      · rfl
    have f2 : f 2 = true := by
      obtain ⟨_, _, ho, hd⟩ := o2
      have := mt (ready_of (l := bitsF f) ho hd).2 (no 2)
      rcases hx : f 2 with _ | _
      · refine absurd ⟨hx, fun j hj => ?_⟩ this
        simp only [List.mem_cons, List.not_mem_nil, or_false] at hj
      · rfl
    have f3 : f 3 = true := by
      obtain ⟨_, _, ho, hd⟩ := o3
      have := mt (ready_of (l := bitsF f) ho hd).2 (no 3)
      rcases hx : f 3 with _ | _
      · refine absurd ⟨hx, fun j hj => ?_⟩ this
        simp only [List.mem_cons, List.not_mem_nil, or_false] at hj
      · rfl
    have f4 : f 4 = true := by
      obtain ⟨_, _, ho, hd⟩ := o4
      have := mt (ready_of (l := bitsF f) ho hd).2 (no 4)
      rcases hx : f 4 with _ | _
      · refine absurd ⟨hx, fun j hj => ?_⟩ this
        simp only [List.mem_cons, List.not_mem_nil, or_false] at hj
      · rfl
    have f5 : f 5 = true := by
      obtain ⟨_, _, ho, hd⟩ := o5
      have := mt (ready_of (l := bitsF f) ho hd).2 (no 5)
      rcases hx : f 5 with _ | _
      · refine absurd ⟨hx, fun j hj => ?_⟩ this
        simp only [List.mem_cons, List.not_mem_nil, or_false] at hj
      · rfl
    have f6 : f 6 = true := by
      obtain ⟨_, _, ho, hd⟩ := o6
      have := mt (ready_of (l := bitsF f) ho hd).2 (no 6)
      rcases hx : f 6 with _ | _
      · refine absurd ⟨hx, fun j hj => ?_⟩ this
        simp only [List.mem_cons, List.not_mem_nil, or_false] at hj
      · rfl
    have f7 : f 7 = true := by
      obtain ⟨_, _, ho, hd⟩ := o7
      have := mt (ready_of (l := bitsF f) ho hd).2 (no 7)
      rcases hx : f 7 with _ | _
      · refine absurd ⟨hx, fun j hj => ?_⟩ this
        simp only [List.mem_cons, List.not_mem_nil, or_false] at hj
        rcases hj with rfl | rfl | rfl | rfl | rfl
        all_goals first | exact f2 | exact f3 | exact f4 | exact f5 | exact f6
      · rfl
    have f8 : f 8 = true := by
      obtain ⟨_, _, ho, hd⟩ := o8
      have := mt (ready_of (l := bitsF f) ho hd).2 (no 8)
      rcases hx : f 8 with _ | _
      · refine absurd ⟨hx, fun j hj => ?_⟩ this
        simp only [List.mem_cons, List.not_mem_nil, or_false] at hj
      · rfl
    have f9 : f 9 = true := by
      obtain ⟨_, _, ho, hd⟩ := o9
      have := mt (ready_of (l := bitsF f) ho hd).2 (no 9)
      rcases hx : f 9 with _ | _
      · refine absurd ⟨hx, fun j hj => ?_⟩ this
        simp only [List.mem_cons, List.not_mem_nil, or_false] at hj
        rcases hj with rfl | rfl
        all_goals first | exact f1 | exact f8
      · rfl
    have f10 : f 10 = true := by
      obtain ⟨_, _, ho, hd⟩ := o10
      have := mt (ready_of (l := bitsF f) ho hd).2 (no 10)
      rcases hx : f 10 with _ | _
      · refine absurd ⟨hx, fun j hj => ?_⟩ this
        simp only [List.mem_cons, List.not_mem_nil, or_false] at hj
        rcases hj with rfl | rfl
        all_goals first | exact f7 | exact f9
      · rfl
    have f11 : f 11 = true := by
      obtain ⟨_, _, ho, hd⟩ := o11
      have := mt (ready_of (l := bitsF f) ho hd).2 (no 11)
      rcases hx : f 11 with _ | _
      · refine absurd ⟨hx, fun j hj => ?_⟩ this
        simp only [List.mem_cons, List.not_mem_nil, or_false] at hj
        rcases hj with rfl
        all_goals first | exact f10
      · rfl
    have f12 : f 12 = true := by
      obtain ⟨_, _, ho, hd⟩ := o12
      have := mt (ready_of (l := bitsF f) ho hd).2 (no 12)
      rcases hx : f 12 with _ | _
      · refine absurd ⟨hx, fun j hj => ?_⟩ this
        simp only [List.mem_cons, List.not_mem_nil, or_false] at hj
      · rfl
    have f13 : f 13 = true := by
      obtain ⟨_, _, ho, hd⟩ := o13
      have := mt (ready_of (l := bitsF f) ho hd).2 (no 13)
      rcases hx : f 13 with _ | _
      · refine absurd ⟨hx, fun j hj => ?_⟩ this
        simp only [List.mem_cons, List.not_mem_nil, or_false] at hj
        rcases hj with rfl | rfl
        all_goals first | exact f9 | exact f12
      · rfl
    have f14 : f 14 = true := by
      obtain ⟨_, _, ho, hd⟩ := o14
      have := mt (ready_of (l := bitsF f) ho hd).2 (no 14)
      rcases hx : f 14 with _ | _
      · refine absurd ⟨hx, fun j hj => ?_⟩ this
        simp only [List.mem_cons, List.not_mem_nil, or_false] at hj
        rcases hj with rfl | rfl | rfl | rfl
        all_goals first | exact f0 | exact f1 | exact f13
      · rfl
    have f15 : f 15 = true := by
      obtain ⟨_, _, ho, hd⟩ := o15
      have := mt (ready_of (l := bitsF f) ho hd).2 (no 15)
      rcases hx : f 15 with _ | _
      · refine absurd ⟨hx, fun j hj => ?_⟩ this
        simp only [List.mem_cons, List.not_mem_nil, or_false] at hj
        rcases hj with rfl | rfl | rfl | rfl | rfl | rfl | rfl | rfl | rfl | rfl | rfl | rfl | rfl | rfl | rfl
        all_goals first | exact f0 | exact f1 | exact f2 | exact f3 | exact f4 | exact f5 | exact f6 | exact f7 | exact f8 | exact f9 | exact f10 | exact f11 | exact f14
      · rfl
    have f16 : f 16 = true := by
      obtain ⟨_, _, ho, hd⟩ := o16
      have := mt (ready_of (l := bitsF f) ho hd).2 (no 16)
      rcases hx : f 16 with _ | _
      · refine absurd ⟨hx, fun j hj => ?_⟩ this
        simp only [List.mem_cons, List.not_mem_nil, or_false] at hj
        rcases hj with rfl | rfl | rfl | rfl | rfl | rfl | rfl | rfl | rfl | rfl | rfl | rfl | rfl | rfl | rfl | rfl | rfl | rfl
        all_goals first | exact f0 | exact f1 | exact f2 | exact f3 | exact f4 | exact f5 | exact f6 | exact f7 | exact f8 | exact f9 | exact f10 | exact f11 | exact f12 | exact f13 | exact f14 | exact f15
      · rfl
    have hf : f = fun j => if j < 17 then true else f j := by
      funext j
      by_cases hj : j < 17
      · rw [if_pos hj]
        have : j = 0 ∨ j = 1 ∨ j = 2 ∨ j = 3 ∨ j = 4 ∨ j = 5 ∨ j = 6 ∨ j = 7 ∨ j = 8 ∨ j = 9 ∨ j = 10 ∨ j = 11 ∨ j = 12 ∨ j = 13 ∨ j = 14 ∨ j = 15 ∨ j = 16 := by omega
        rcases this with rfl | rfl | rfl | rfl | rfl | rfl | rfl | rfl | rfl | rfl | rfl | rfl | rfl | rfl | rfl | rfl | rfl <;> assumption
      · rw [if_neg hj]
    have e3 : pposF p0 p1 p2 p3 f = p3 := by unfold pposF; rw [if_pos f13]
    rw [e3] at hI
    exact hQ t w { t5 := H.t5, p0 := fun _ => H.p0 f0, p8 := fun _ => H.p8 f8, p12 := fun _ => H.p12 f12, p1 := fun _ => H.p1 f1, p2 := fun _ => H.p2 f2, p3 := fun _ => H.p3 f3, p4 := fun _ => H.p4 f4, p5 := fun _ => H.p5 f5, p6 := fun _ => H.p6 f6, p7 := fun _ => ⟨⟨rfl, rfl, rfl, rfl, rfl⟩, (H.p7 f7).2⟩, p9 := fun _ => ⟨rfl, rfl, (H.p9 f9).2.2⟩, p10 := fun _ => ⟨rfl, rfl, (H.p10 f10).2.2⟩, p11 := fun _ => ⟨rfl, (H.p11 f11).2⟩, p13 := fun _ => ⟨rfl, rfl, (H.p13 f13).2.2⟩, p14 := fun _ => ⟨rfl, rfl, (H.p14 f14).2.2⟩, p15 := fun _ => ⟨rfl, rfl, (H.p15 f15).2.2⟩, p16 := fun _ => ⟨rfl, rfl, (H.p16 f16).2.2⟩ } hI hB
  case step =>
    rintro l a w i ⟨f, t, rfl, rfl, H, hI, hB⟩ hi
    have hi17 : i < 17 := by
      obtain ⟨_, o, ho, _⟩ := mem_ready.1 hi
      rw [← hsz]
      exact (Array.getElem?_eq_some_iff.1 ho).1
    have hc : i = 0 ∨ i = 1 ∨ i = 2 ∨ i = 3 ∨ i = 4 ∨ i = 5 ∨ i = 6 ∨ i = 7 ∨ i = 8 ∨ i = 9 ∨ i = 10 ∨ i = 11 ∨ i = 12 ∨ i = 13 ∨ i = 14 ∨ i = 15 ∨ i = 16 := by omega
    rcases hc with rfl | rfl | rfl | rfl | rfl | rfl | rfl | rfl | rfl | rfl | rfl | rfl | rfl | rfl | rfl | rfl | rfl
    · obtain ⟨pos, after, ho, hd⟩ := o0
      obtain ⟨hf0, hall⟩ := (ready_of ho hd).1 hi
      have hf0 : f 0 = false := hf0
      refine wpOp_of ho ?_
      refine pureOp_ (v := t 5) rfl (by go_simp; rfl) ?_
      exact ⟨updF f 0 true, updF t 8 _, rfl, rfl, HMem.set0 H hf0 hv H.t5, hI, hB⟩
    · obtain ⟨pos, after, ho, hd⟩ := o1
      obtain ⟨hf0, hall⟩ := (ready_of ho hd).1 hi
      have hf0 : f 1 = false := hf0
      have d0 : f 0 = true := hall 0 (by simp)
      refine wpOp_of ho ?_
      have n13 : ¬ f 13 = true := fun h => by have := (H.p9 (H.p13 h).2.1).1; rw [hf0] at this; cases this
      have n9 : ¬ f 9 = true := fun h => by have := (H.p9 h).1; rw [hf0] at this; cases this
      have n1 : ¬ f 1 = true := by rw [hf0]; decide
      have ep : pposF p0 p1 p2 p3 f = p0 := by unfold pposF; rw [if_neg n13, if_neg n9, if_neg n1]
      rw [ep] at hI
      refine call_ 45 #[t 8] rfl rfl (by go_simp; rfl) ?_
      rw [H.p0 d0]
      refine (spec_l92Words.calls k g s p0 ws p1 w0 w hI hB hwords).mono ?_
      rintro e w1 ⟨v1, rfl, hR, hI1, hB1, hk⟩
      have hlt := IsS59.lt hI
      have ep1 : pposF p0 p1 p2 p3 (updF f 1 true) = p1 := by unfold pposF; rw [if_neg (show ¬ updF f 1 true 13 = true from n13), if_neg (show ¬ updF f 1 true 9 = true from n9)]; rfl
      refine ⟨v1, rfl, updF f 1 true, updF t 9 v1, rfl, rfl, HMem.set1 (HMem.move H (fun k hk2 hl => hk.2 k hl hk2 (by simp))) hf0 hv ?_, by rw [ep1]; exact hI1, hB1⟩
      exact Kd.R_mono (Kd.R_lower (Kd.R_bound hR) hB.size) (fun k hk2 => by have := hk2.2.1; omega)
    · obtain ⟨pos, after, ho, hd⟩ := o2
      obtain ⟨hf0, hall⟩ := (ready_of ho hd).1 hi
      have hf0 : f 2 = false := hf0
      refine wpOp_of ho ?_
      refine Kd.R_lit_step Kd.string w0.heap.size 9 rfl (N := 10) rfl (xs := ([⟨#[]⟩] : List ByteArray)) (inner := [.string ⟨#[]⟩]) (ok := fun k => k ≠ g) (okp := fun _ => False) (by first | (go_simp; done) | (go_simp; rfl)) (Reps.one (show Kd.M Kd.string _ _ _ (⟨#[]⟩ : ByteArray) [.string (⟨#[]⟩ : ByteArray)] from rfl) (Reps.none _ _)) (fun _ hk => hk.elim) (by have := IsS59.lt hI; show w.heap.size ≠ g; omega) hB hB.size (by decide) ?_
      intro v1 w1 hR hB1 hg _
      exact ⟨updF f 2 true, updF t 10 _, rfl, rfl, HMem.set2 (HMem.move H (fun k _ hl => hg.block k hl (by simp))) hf0 hv hR, IsS59.grown hI hg (by simp), hB1⟩
    · obtain ⟨pos, after, ho, hd⟩ := o3
      obtain ⟨hf0, hall⟩ := (ready_of ho hd).1 hi
      have hf0 : f 3 = false := hf0
      refine wpOp_of ho ?_
      refine Kd.R_lit_step Kd.string w0.heap.size 9 rfl (N := 11) rfl (xs := ([⟨#[97]⟩, ⟨#[98]⟩] : List ByteArray)) (inner := [.string ⟨#[97]⟩, .string ⟨#[98]⟩]) (ok := fun k => k ≠ g) (okp := fun _ => False) (by first | (go_simp; done) | (go_simp; rfl)) (Reps.one (show Kd.M Kd.string _ _ _ (⟨#[97]⟩ : ByteArray) [.string (⟨#[97]⟩ : ByteArray)] from rfl) (Reps.one (show Kd.M Kd.string _ _ _ (⟨#[98]⟩ : ByteArray) [.string (⟨#[98]⟩ : ByteArray)] from rfl) (Reps.none _ _))) (fun _ hk => hk.elim) (by have := IsS59.lt hI; show w.heap.size ≠ g; omega) hB hB.size (by decide) ?_
      intro v1 w1 hR hB1 hg _
      exact ⟨updF f 3 true, updF t 11 _, rfl, rfl, HMem.set3 (HMem.move H (fun k _ hl => hg.block k hl (by simp))) hf0 hv hR, IsS59.grown hI hg (by simp), hB1⟩
    · obtain ⟨pos, after, ho, hd⟩ := o4
      obtain ⟨hf0, hall⟩ := (ready_of ho hd).1 hi
      have hf0 : f 4 = false := hf0
      refine wpOp_of ho ?_
      refine Kd.R_lit_step Kd.string w0.heap.size 9 rfl (N := 12) rfl (xs := ([⟨#[97, 97]⟩, ⟨#[97, 98]⟩] : List ByteArray)) (inner := [.string ⟨#[97, 97]⟩, .string ⟨#[97, 98]⟩]) (ok := fun k => k ≠ g) (okp := fun _ => False) (by first | (go_simp; done) | (go_simp; rfl)) (Reps.one (show Kd.M Kd.string _ _ _ (⟨#[97, 97]⟩ : ByteArray) [.string (⟨#[97, 97]⟩ : ByteArray)] from rfl) (Reps.one (show Kd.M Kd.string _ _ _ (⟨#[97, 98]⟩ : ByteArray) [.string (⟨#[97, 98]⟩ : ByteArray)] from rfl) (Reps.none _ _))) (fun _ hk => hk.elim) (by have := IsS59.lt hI; show w.heap.size ≠ g; omega) hB hB.size (by decide) ?_
      intro v1 w1 hR hB1 hg _
      exact ⟨updF f 4 true, updF t 12 _, rfl, rfl, HMem.set4 (HMem.move H (fun k _ hl => hg.block k hl (by simp))) hf0 hv hR, IsS59.grown hI hg (by simp), hB1⟩
    · obtain ⟨pos, after, ho, hd⟩ := o5
      obtain ⟨hf0, hall⟩ := (ready_of ho hd).1 hi
      have hf0 : f 5 = false := hf0
      refine wpOp_of ho ?_
      refine Kd.R_lit_step Kd.string w0.heap.size 9 rfl (N := 13) rfl (xs := ([⟨#[97, 98]⟩] : List ByteArray)) (inner := [.string ⟨#[97, 98]⟩]) (ok := fun k => k ≠ g) (okp := fun _ => False) (by first | (go_simp; done) | (go_simp; rfl)) (Reps.one (show Kd.M Kd.string _ _ _ (⟨#[97, 98]⟩ : ByteArray) [.string (⟨#[97, 98]⟩ : ByteArray)] from rfl) (Reps.none _ _)) (fun _ hk => hk.elim) (by have := IsS59.lt hI; show w.heap.size ≠ g; omega) hB hB.size (by decide) ?_
      intro v1 w1 hR hB1 hg _
      exact ⟨updF f 5 true, updF t 13 _, rfl, rfl, HMem.set5 (HMem.move H (fun k _ hl => hg.block k hl (by simp))) hf0 hv hR, IsS59.grown hI hg (by simp), hB1⟩
    · obtain ⟨pos, after, ho, hd⟩ := o6
      obtain ⟨hf0, hall⟩ := (ready_of ho hd).1 hi
      have hf0 : f 6 = false := hf0
      refine wpOp_of ho ?_
      refine Kd.R_lit_step Kd.string w0.heap.size 9 rfl (N := 14) rfl (xs := ([] : List ByteArray)) (inner := []) (ok := fun k => k ≠ g) (okp := fun _ => False) (by first | (go_simp; done) | (go_simp; rfl)) (Reps.none _ _) (fun _ hk => hk.elim) (by have := IsS59.lt hI; show w.heap.size ≠ g; omega) hB hB.size (by decide) ?_
      intro v1 w1 hR hB1 hg _
      exact ⟨updF f 6 true, updF t 14 _, rfl, rfl, HMem.set6 (HMem.move H (fun k _ hl => hg.block k hl (by simp))) hf0 hv hR, IsS59.grown hI hg (by simp), hB1⟩
    · obtain ⟨pos, after, ho, hd⟩ := o7
      obtain ⟨hf0, hall⟩ := (ready_of ho hd).1 hi
      have hf0 : f 7 = false := hf0
      have d2 : f 2 = true := hall 2 (by simp)
      have d3 : f 3 = true := hall 3 (by simp)
      have d4 : f 4 = true := hall 4 (by simp)
      have d5 : f 5 = true := hall 5 (by simp)
      have d6 : f 6 = true := hall 6 (by simp)
      refine wpOp_of ho ?_
      obtain ⟨A0, c0, e0⟩ := Kd.R_slice (H.p2 d2)
      obtain ⟨A1, c1, e1⟩ := Kd.R_slice (H.p3 d3)
      obtain ⟨A2, c2, e2⟩ := Kd.R_slice (H.p4 d4)
      obtain ⟨A3, c3, e3⟩ := Kd.R_slice (H.p5 d5)
      obtain ⟨A4, c4, e4⟩ := Kd.R_slice (H.p6 d6)
      have hrun : ∀ o : Oper, o.op = .buildSlice 51 5 #[(0, .tmp 10), (1, .tmp 11), (2, .tmp 12), (3, .tmp 13), (4, .tmp 14)] → (execOp (actF t).eval o).run Try.prog w = .ok (.value (.slice (some ⟨w.heap.size, 0, none⟩) 5 5)) (w.alloc (.cells #[t 10, t 11, t 12, t 13, t 14] 22)) := fun o ho => by
        have k0 : (actF t).tmps[10]?.getD undef = t 10 := rfl
        have k1 : (actF t).tmps[11]?.getD undef = t 11 := rfl
        have k2 : (actF t).tmps[12]?.getD undef = t 12 := rfl
        have k3 : (actF t).tmps[13]?.getD undef = t 13 := rfl
        have k4 : (actF t).tmps[14]?.getD undef = t 14 := rfl
        rw [e0] at k0 ⊢
        rw [e1] at k1 ⊢
        rw [e2] at k2 ⊢
        rw [e3] at k3 ⊢
        rw [e4] at k4 ⊢
        unfold execOp
        rw [ho]
        simp [go_sem, k0, k1, k2, k3, k4]
      refine allocOp_ rfl (hrun _ rfl) ?_
      have hlt := IsS59.lt hI
      exact ⟨updF f 7 true, updF t 15 _, rfl, rfl, HMem.set7 (HMem.move H (fun k _ hl => Below.heap_alloc _ _ _ hl)) hf0 hv ⟨⟨d2, d3, d4, d5, d6⟩, _, rfl, hB.size, by omega, heap_new rfl⟩, IsS59.alloc hI _, below_alloc hB _⟩
    · obtain ⟨pos, after, ho, hd⟩ := o8
      obtain ⟨hf0, hall⟩ := (ready_of ho hd).1 hi
      have hf0 : f 8 = false := hf0
      refine wpOp_of ho ?_
      refine pureOp_ (v := t 5) rfl (by go_simp; rfl) ?_
      exact ⟨updF f 8 true, updF t 16 _, rfl, rfl, HMem.set8 H hf0 hv H.t5, hI, hB⟩
    · obtain ⟨pos, after, ho, hd⟩ := o9
      obtain ⟨hf0, hall⟩ := (ready_of ho hd).1 hi
      have hf0 : f 9 = false := hf0
      have d1 : f 1 = true := hall 1 (by simp)
      have d8 : f 8 = true := hall 8 (by simp)
      refine wpOp_of ho ?_
      have n13 : ¬ f 13 = true := fun h => by have := (H.p13 h).2.1; rw [hf0] at this; cases this
      have n9 : ¬ f 9 = true := by rw [hf0]; decide
      have ep : pposF p0 p1 p2 p3 f = p1 := by unfold pposF; rw [if_neg n13, if_neg n9, if_pos d1]
      have ep1 : pposF p0 p1 p2 p3 (updF f 9 true) = p2 := by unfold pposF; rw [if_neg (show ¬ updF f 9 true 13 = true from n13)]; rfl
      rw [ep] at hI
      refine call_ 46 #[t 16, .int .i64 5] rfl rfl (by go_simp; rfl) ?_
      rw [H.p8 d8]
      refine (spec_l6Rd_pick.calls k g s p1 5 v p2 w0 w hI hB hpick1).mono ?_
      rintro e w1 ⟨rfl, hI1, hB1, hk⟩
      exact ⟨_, rfl, updF f 9 true, updF t 17 _, rfl, rfl, HMem.set9 (HMem.move H (fun k hk2 hl => hk.2 k hl hk2 (by simp))) hf0 hv ⟨d1, d8, rfl⟩, by rw [ep1]; exact hI1, hB1⟩
    · obtain ⟨pos, after, ho, hd⟩ := o10
      obtain ⟨hf0, hall⟩ := (ready_of ho hd).1 hi
      have hf0 : f 10 = false := hf0
      have d7 : f 7 = true := hall 7 (by simp)
      have d9 : f 9 = true := hall 9 (by simp)
      refine wpOp_of ho ?_
      obtain ⟨h1, b, e15, hb1, hb2, hb3⟩ := H.p7 d7
      have e17 := (H.p9 d9).2.2
      have hrun : ∀ o : Oper, o.op = .indexAddr 51 (.tmp 15) (.tmp 17) → (execOp (actF t).eval o).run Try.prog w = .ok (.value (.pointer (some ⟨b, v.toNat, none⟩))) w := fun o ho => by
        have k0 : (actF t).tmps[15]?.getD undef = t 15 := rfl
        have k1 : (actF t).tmps[17]?.getD undef = t 17 := rfl
        rw [e15] at k0
        rw [e17] at k1
        unfold execOp
        rw [ho]
        have : v = 0 ∨ v = 1 ∨ v = 2 ∨ v = 3 ∨ v = 4 := by omega
        rcases this with rfl | rfl | rfl | rfl | rfl <;> simp [go_sem, k0, k1]
      refine pureOp_ rfl (hrun _ rfl) ?_
      exact ⟨updF f 10 true, updF t 18 _, rfl, rfl, HMem.set10 H hf0 hv ⟨d7, d9, b, e15, rfl⟩, hI, hB⟩
    · obtain ⟨pos, after, ho, hd⟩ := o11
      obtain ⟨hf0, hall⟩ := (ready_of ho hd).1 hi
      have hf0 : f 11 = false := hf0
      have d10 : f 10 = true := hall 10 (by simp)
      refine wpOp_of ho ?_
      obtain ⟨d7, d9, b, e15, e18⟩ := H.p10 d10
      obtain ⟨h1, b', e15', hb1, hb2, hb3⟩ := H.p7 d7
      obtain rfl : b' = b := by rw [e15] at e15'; injection e15' with q; injection q with q; injection q with q; exact q.symm
      obtain ⟨A0, c0, e0⟩ := Kd.R_slice (H.p2 h1.1)
      obtain ⟨A1, c1, e1⟩ := Kd.R_slice (H.p3 h1.2.1)
      obtain ⟨A2, c2, e2⟩ := Kd.R_slice (H.p4 h1.2.2.1)
      obtain ⟨A3, c3, e3⟩ := Kd.R_slice (H.p5 h1.2.2.2.1)
      obtain ⟨A4, c4, e4⟩ := Kd.R_slice (H.p6 h1.2.2.2.2)
      have hrun : ∀ o : Oper, o.op = .load 22 (.tmp 18) → (execOp (actF t).eval o).run Try.prog w = .ok (.value (t (10 + v.toNat))) w := fun o ho => by
        have k0 : (actF t).tmps[18]?.getD undef = t 18 := rfl
        rw [e18] at k0
        unfold execOp
        rw [ho]
        have : v = 0 ∨ v = 1 ∨ v = 2 ∨ v = 3 ∨ v = 4 := by omega
        rcases this with rfl | rfl | rfl | rfl | rfl
        all_goals simp [go_sem, k0, World.cell?, hb3]
      refine pureOp_ rfl (hrun _ rfl) ?_
      exact ⟨updF f 11 true, updF t 19 _, rfl, rfl, HMem.set11 H hf0 hv ⟨d10, rfl⟩, hI, hB⟩
    · obtain ⟨pos, after, ho, hd⟩ := o12
      obtain ⟨hf0, hall⟩ := (ready_of ho hd).1 hi
      have hf0 : f 12 = false := hf0
      refine wpOp_of ho ?_
      refine pureOp_ (v := t 5) rfl (by go_simp; rfl) ?_
      exact ⟨updF f 12 true, updF t 20 _, rfl, rfl, HMem.set12 H hf0 hv H.t5, hI, hB⟩
    · obtain ⟨pos, after, ho, hd⟩ := o13
      obtain ⟨hf0, hall⟩ := (ready_of ho hd).1 hi
      have hf0 : f 13 = false := hf0
      have d9 : f 9 = true := hall 9 (by simp)
      have d12 : f 12 = true := hall 12 (by simp)
      refine wpOp_of ho ?_
      have n13 : ¬ f 13 = true := by rw [hf0]; decide
      have ep : pposF p0 p1 p2 p3 f = p2 := by unfold pposF; rw [if_neg n13, if_pos d9]
      have ep1 : pposF p0 p1 p2 p3 (updF f 13 true) = p3 := rfl
      rw [ep] at hI
      refine call_ 46 #[t 20, .int .i64 5] rfl rfl (by go_simp; rfl) ?_
      rw [H.p12 d12]
      refine (spec_l6Rd_pick.calls k g s p2 5 need p3 w0 w hI hB hpick2).mono ?_
      rintro e w1 ⟨rfl, hI1, hB1, hk⟩
      exact ⟨_, rfl, updF f 13 true, updF t 21 _, rfl, rfl, HMem.set13 (HMem.move H (fun k hk2 hl => hk.2 k hl hk2 (by simp))) hf0 hv ⟨d12, d9, rfl⟩, by rw [ep1]; exact hI1, hB1⟩
    · obtain ⟨pos, after, ho, hd⟩ := o14
      obtain ⟨hf0, hall⟩ := (ready_of ho hd).1 hi
      have hf0 : f 14 = false := hf0
      have d0 : f 0 = true := hall 0 (by simp)
      have d1 : f 1 = true := hall 1 (by simp)
      have d13 : f 13 = true := hall 13 (by simp)
      refine wpOp_of ho ?_
      refine pureOp_ (v := t 9) rfl (by go_simp; rfl) ?_
      exact ⟨updF f 14 true, updF t 2 _, rfl, rfl, HMem.set14 H hf0 hv ⟨d1, d13, rfl⟩, hI, hB⟩
    · obtain ⟨pos, after, ho, hd⟩ := o15
      obtain ⟨hf0, hall⟩ := (ready_of ho hd).1 hi
      have hf0 : f 15 = false := hf0
      have d0 : f 0 = true := hall 0 (by simp)
      have d1 : f 1 = true := hall 1 (by simp)
      have d2 : f 2 = true := hall 2 (by simp)
      have d3 : f 3 = true := hall 3 (by simp)
      have d4 : f 4 = true := hall 4 (by simp)
      have d5 : f 5 = true := hall 5 (by simp)
      have d6 : f 6 = true := hall 6 (by simp)
      have d7 : f 7 = true := hall 7 (by simp)
      have d8 : f 8 = true := hall 8 (by simp)
      have d9 : f 9 = true := hall 9 (by simp)
      have d10 : f 10 = true := hall 10 (by simp)
      have d11 : f 11 = true := hall 11 (by simp)
      have d14 : f 14 = true := hall 14 (by simp)
      refine wpOp_of ho ?_
      refine pureOp_ (v := t 19) rfl (by go_simp; rfl) ?_
      exact ⟨updF f 15 true, updF t 3 _, rfl, rfl, HMem.set15 H hf0 hv ⟨d11, d14, rfl⟩, hI, hB⟩
    · obtain ⟨pos, after, ho, hd⟩ := o16
      obtain ⟨hf0, hall⟩ := (ready_of ho hd).1 hi
      have hf0 : f 16 = false := hf0
      have d0 : f 0 = true := hall 0 (by simp)
      have d1 : f 1 = true := hall 1 (by simp)
      have d2 : f 2 = true := hall 2 (by simp)
      have d3 : f 3 = true := hall 3 (by simp)
      have d4 : f 4 = true := hall 4 (by simp)
      have d5 : f 5 = true := hall 5 (by simp)
      have d6 : f 6 = true := hall 6 (by simp)
      have d7 : f 7 = true := hall 7 (by simp)
      have d8 : f 8 = true := hall 8 (by simp)
      have d9 : f 9 = true := hall 9 (by simp)
      have d10 : f 10 = true := hall 10 (by simp)
      have d11 : f 11 = true := hall 11 (by simp)
      have d12 : f 12 = true := hall 12 (by simp)
      have d13 : f 13 = true := hall 13 (by simp)
      have d14 : f 14 = true := hall 14 (by simp)
      have d15 : f 15 = true := hall 15 (by simp)
      refine wpOp_of ho ?_
      refine pureOp_ (v := t 21) rfl (by go_simp; rfl) ?_
      exact ⟨updF f 16 true, updF t 4 _, rfl, rfl, HMem.set16 H hf0 hv ⟨d13, d15, (H.p13 d13).2.2⟩, hI, hB⟩
def spec_DrawHeavyStep.f (k : Nat) (l0 : List Int) : Option (List ByteArray × List ByteArray × Int) := (spec_l6Open.f l0).bind fun t => (spec_l92Words.f k t.1 t.2).bind fun x => (spec_l6Rd_pick.f k t.1 x.2 5).bind fun y => if 0 ≤ y.1 ∧ y.1 < 5 then (spec_l6Rd_pick.f k t.1 y.2 5).bind fun z => some (x.1, headsOf.getD y.1.toNat [], z.1) else none
theorem spec_DrawHeavyStep.mono : ∀ a0 k, LeO (spec_DrawHeavyStep.f k a0) (spec_DrawHeavyStep.f (k + 1) a0) := by
  intro a0 k
  unfold spec_DrawHeavyStep.f
  exact LeO.bind (LeO.refl _) (fun _ => LeO.bind (spec_l92Words.mono _ _ _) (fun _ => LeO.bind (spec_l6Rd_pick.mono _ _ _ _) (fun _ => LeO.ite (LeO.bind (spec_l6Rd_pick.mono _ _ _ _) (fun _ => LeO.refl _)) (LeO.refl _))))
set_option maxHeartbeats 4000000 in
theorem spec_DrawHeavyStep.calls (k : Nat) (A0 : Option Addr) (c0 : Nat) (l0 : List Int) (r1 : List ByteArray) (r2 : List ByteArray) (r3 : Int) (w : World) (hr0 : Kd.C (Kd.int .u8) w A0 l0.length l0) (hc0 : l0.length ≤ c0) (h : spec_DrawHeavyStep.f k l0 = some (r1, r2, r3)) :
    Calls Try.prog 33 #[.slice A0 l0.length c0] w fun e w' => ∃ v0_ v1_ : Value, e = .returned (.tuple #[v0_, v1_, .int .i64 r3]) ∧ Kd.V Kd.string 9 w' w.heap.size (fun k_ => (w.heap.size ≤ k_)) v0_ r1 ∧ Kd.V Kd.string 9 w' w.heap.size (fun k_ => (w.heap.size ≤ k_)) v1_ r2 ∧ Below w.heap.size w w' := by
  unfold spec_DrawHeavyStep.f at h
  obtain ⟨⟨s, p0⟩, hopen, h⟩ := Option.bind_eq_some_iff.1 h
  obtain ⟨⟨ws, p1⟩, hwords, h⟩ := Option.bind_eq_some_iff.1 h
  obtain ⟨⟨v, p2⟩, hpick1, h⟩ := Option.bind_eq_some_iff.1 h
  dsimp only at hwords hpick1 h
  split at h
  case isFalse => cases h
  rename_i hv
  obtain ⟨⟨need, p3⟩, hpick2, h⟩ := Option.bind_eq_some_iff.1 h
  dsimp only at hpick2 h
  have h := Option.some.inj h
  simp only [Prod.mk.injEq] at h
  obtain ⟨rfl, rfl, rfl⟩ := h
  have HO := Go.Lib.hid (spec_l6Open.calls A0 c0 l0 s p0 w w (Below.refl _ _) hr0 hc0 hopen)
  have HW := Go.Lib.hid hwords
  have H1 := Go.Lib.hid hpick1
  have H2 := Go.Lib.hid hpick2
  have HV := Go.Lib.hid hv
  clear hr0 hc0 hopen hwords hpick1 hpick2 hv
  go_enter Try.func33, Try.ntmps33
  go_wp2_with (go_at_call 44; (with_reducible refine HO.out.mono ?_); rintro e w1 ⟨g, rfl, hI, hB, hB2⟩; have HI := Go.Lib.hid hI; have HB := Go.Lib.hid hB; clear hI hB hB2)
  refine heads_region _ _ rfl ⟨_, _, rfl, rfl⟩ ⟨_, _, rfl, rfl⟩ ⟨_, _, rfl, rfl⟩ ⟨_, _, rfl, rfl⟩ ⟨_, _, rfl, rfl⟩ ⟨_, _, rfl, rfl⟩ ⟨_, _, rfl, rfl⟩ ⟨_, _, rfl, rfl⟩ ⟨_, _, rfl, rfl⟩ ⟨_, _, rfl, rfl⟩ ⟨_, _, rfl, rfl⟩ ⟨_, _, rfl, rfl⟩ ⟨_, _, rfl, rfl⟩ ⟨_, _, rfl, rfl⟩ ⟨_, _, rfl, rfl⟩ ⟨_, _, rfl, rfl⟩ ⟨_, _, rfl, rfl⟩ k g s p0 p1 p2 p3 ws v need w w1 _ HV.out.1 HV.out.2 HW.out H1.out H2.out rfl rfl HI.out HB.out ?_
  intro t w2 H hI2 hB2
  have HH := Go.Lib.hid H
  have HB3 := Go.Lib.hid hB2
  have e4 := (H.p16 rfl).2.2
  clear H hI2 hB2 HI HB HO
  unfold actF
  rw [e4]
  go_wp2
  go_ret3
  have hV : ∀ {u : Value} {xs : List ByteArray}, Kd.R Kd.string 9 w2 w.heap.size (fun k => k ≠ g) u xs → Kd.V Kd.string 9 w2 w.heap.size (fun k_ => (w.heap.size ≤ k_)) u xs := fun hR => Kd.V_mono (Kd.R_V (base' := w.heap.size) (Kd.R_bound hR)) (fun k hk => hk.2.1)
  refine ⟨_, _, rfl, hV ?_, hV ?_, HB3.out⟩
  · rw [(HH.out.p14 rfl).2.2]
    exact HH.out.p1 rfl
  · rw [(HH.out.p15 rfl).2.2, (HH.out.p11 rfl).2]
    have hv := HV.out
    have hc : v = 0 ∨ v = 1 ∨ v = 2 ∨ v = 3 ∨ v = 4 := by omega
    rcases hc with rfl | rfl | rfl | rfl | rfl
    · exact HH.out.p2 rfl
    · exact HH.out.p3 rfl
    · exact HH.out.p4 rfl
    · exact HH.out.p5 rfl
    · exact HH.out.p6 rfl

end Go.Proofs.Ytdjenclegglmfaa.PFnHeavyStep
