-- Written by a program of this session over the kit's printer, with contracts proved by hand; Lean checks it.
import Derived.Test.YthcbichnjgkjiaaDoorPFnAskStrictx0
namespace Go.Proofs.YthcbichnjgkjiaaDoor.PFnAskStrict
open Go.RowKit Go.Proofs.YthcbichnjgkjiaaDoorW.PrintWords Go.Proofs.YthcbichnjgkjiaaDoorW.PrintLast Go.Proofs.YthcbichnjgkjiaaDoorW.PrintMore
attribute [local go_sem] max2_int min2_int max_two min_two max_three min_three max_four min_four   -- for this text's walks alone
set_option linter.unusedVariables false
set_option linter.unusedSimpArgs false

/-! ### impl_within: function 46 -/
def impl_within.f (a0 : Int) (a1 : Int) (a2 : Int) : Option (Bool) := if a0 ≥ a1 then (some (decide (a0 ≤ a2))) else (some false)
set_option maxHeartbeats 8000000 in
set_option maxRecDepth 100000 in
theorem impl_within.calls (a0 : Int) (a1 : Int) (a2 : Int) (r : Bool) (w : World) (h : impl_within.f a0 a1 a2 = some r) :
    Calls Tryd.prog 46 #[.int .i64 a0, .int .i64 a1, .int .i64 a2] w fun e w' => e = .returned (.bool r) ∧ Drawn0 w w' := by
  have H : (if a0 ≥ a1 then (some (decide (a0 ≤ a2))) else (some false)) = some r := h
  clear h
  by_cases c4 : a0 ≥ a1
  · rw [if_pos c4] at H
    have c4b0 : decide (a1 ≤ a0) = true := decide_eq_true c4
    clear c4
    obtain rfl := Option.some.inj H
    go_enter Tryd.func46, Tryd.ntmps46
    go_wp2
    go_ret
    exact ⟨by first | rfl | (simp; done) | (simp [*]; done), by repeat (first | exact Drawn0.refl _ | apply Drawn0.step)⟩
  · rw [if_neg c4] at H
    have c4b0 : decide (a1 ≤ a0) = false := decide_eq_false c4
    clear c4
    obtain rfl := Option.some.inj H
    go_enter Tryd.func46, Tryd.ntmps46
    go_wp2
    go_ret
    exact ⟨by first | rfl | (simp; done) | (simp [*]; done), by repeat (first | exact Drawn0.refl _ | apply Drawn0.step)⟩

/-! ### impl_divisor: function 47 -/
def impl_divisor.l0 : Nat → Int → Int → Option (Int)
  | 0, _, _ => none
  | k + 1, x0, x1 => if x1 = 0 then (some x0) else (impl_divisor.l0 k x1 (Int.tmod x0 x1))
def impl_divisor.f (k : Nat) (a0 : Int) (a1 : Int) : Option (Int) := impl_divisor.l0 k a0 a1
theorem impl_divisor.mono_l : ∀ k, (∀ y0 y1, LeO (impl_divisor.l0 k y0 y1) (impl_divisor.l0 (k + 1) y0 y1))
  | 0 => fun _ _ r h => by simp [impl_divisor.l0] at h
  | k + 1 => by
    have ih0 := impl_divisor.mono_l k
    · intro y0 y1
      unfold impl_divisor.l0
      repeat' first
      | (with_reducible exact ih0 _ _)
      | (with_reducible exact LeO.refl _)
      | (with_reducible exact LeO.none _)
      | (with_reducible refine LeO.ite ?_ ?_)
      | (with_reducible refine LeO.bind ?_ (fun _ => ?_))
      | exact ih0 _ _
      | exact LeO.none _
      | refine LeO.ite ?_ ?_
      | refine LeO.bind ?_ (fun _ => ?_)
theorem impl_divisor.mono : ∀ a0 a1 k, LeO (impl_divisor.f k a0 a1) (impl_divisor.f (k + 1) a0 a1) := by
  intro a0 a1 k
  have ih0 := impl_divisor.mono_l k
  unfold impl_divisor.f
  repeat' first
      | (with_reducible exact ih0 _ _)
      | (with_reducible exact LeO.refl _)
      | (with_reducible exact LeO.none _)
      | (with_reducible refine LeO.ite ?_ ?_)
      | (with_reducible refine LeO.bind ?_ (fun _ => ?_))
      | exact ih0 _ _
      | exact LeO.none _
      | refine LeO.ite ?_ ?_
      | refine LeO.bind ?_ (fun _ => ?_)
set_option maxHeartbeats 8000000 in
set_option maxRecDepth 100000 in
theorem impl_divisor.calls (k : Nat) (a0 : Int) (a1 : Int) (r : Int) (w : World) (h : impl_divisor.f k a0 a1 = some r) :
    Calls Tryd.prog 47 #[.int .i64 a0, .int .i64 a1] w fun e w' => e = .returned (.int .i64 r) ∧ Drawn0 w w' := by
  have H : (impl_divisor.l0 k a0 a1) = some r := h
  clear h
  have H' := Aside0.mk H
  clear H
  go_enter Tryd.func47, Tryd.ntmps47
  go_wp2
  repeat (go_quiet (fail); try go_wp2)
  go_loopg [0, 1] k (fun kq v0 v1 w' => ∃ (x0_1 : Int) (x1_1 : Int), v0 = .int .i64 x0_1 ∧ v1 = .int .i64 x1_1 ∧ Aside0 (impl_divisor.l0 kq x0_1 x1_1 = some r) ∧ Aside0 (kq ≤ k) ∧ Drawn0 w w')
  case atStart => exact ⟨(a0), (a1), (by first | rfl | (simp; done) | (simp [*]; done)), (by first | rfl | (simp; done) | (simp [*]; done)), H', ⟨Nat.le_refl _⟩, by repeat (first | exact Drawn0.refl _ | apply Drawn0.step)⟩
  case round =>
    clear H'
    try clear p2
    obtain ⟨x0_1, x1_1, rfl, rfl, HA, HK1, ⟨m1, rfl⟩⟩ := hrel
    cases gk with
    | zero => exact absurd HA.out (by simp [impl_divisor.l0])
    | succ k1 =>
      have H := HA.out
      clear HA
      simp only [impl_divisor.l0] at H
      by_cases c3 : x1_1 = 0
      · rw [if_pos c3] at H
        have c3b0 : (x1_1 == 0) = true := beq_iff_eq.mpr c3
        have c3b1 : (x1_1 != 0) = false := bne_eq_false_iff_eq.mpr c3
        clear c3
        obtain rfl := Option.some.inj H
        go_wp2
        repeat (go_quiet (fail); try go_wp2)
        go_ret
        exact ⟨by first | rfl | (simp; done) | (simp [*]; done), by repeat (first | exact Drawn0.refl _ | apply Drawn0.step)⟩
      · rw [if_neg c3] at H
        have c3b0 : (x1_1 == 0) = false := beq_eq_false_iff_ne.mpr c3
        have c3b1 : (x1_1 != 0) = true := bne_iff_ne.mpr c3
        have H' := Aside0.mk H
        clear H
        go_wp2
        repeat (go_quiet (fail); try go_wp2)
        go_roundg k1
        case measure => have := HK1.out; omega
        case rel => exact ⟨(x1_1), (Int.tmod x0_1 x1_1), (by first | rfl | (simp; done) | (simp [*]; done)), (by first | rfl | (simp; done) | (simp [*]; done)), H', ⟨by have := HK1.out; omega⟩, by repeat (first | exact Drawn0.refl _ | apply Drawn0.step)⟩

/-! ### impl_FracOk: function 25 -/
def impl_FracOk.f (k : Nat) (a0_0 : Int) (a0_1 : Int) : Option (Bool) := (impl_within.f a0_0 0 999).bind fun t102 => (if t102 = true then ((impl_within.f a0_1 1 60).bind fun t103 => (if t103 = true then ((impl_divisor.f k a0_0 a0_1).bind fun t104 => (some (t104 == 1))) else (some false))) else (some false))
theorem impl_FracOk.mono : ∀ a0 a1 k, LeO (impl_FracOk.f k a0 a1) (impl_FracOk.f (k + 1) a0 a1) := by
  intro a0 a1 k
  unfold impl_FracOk.f
  repeat' first
      | (with_reducible exact impl_divisor.mono _ _ _)
      | (with_reducible exact LeO.refl _)
      | (with_reducible exact LeO.none _)
      | (with_reducible refine LeO.ite ?_ ?_)
      | (with_reducible refine LeO.bind ?_ (fun _ => ?_))
      | exact impl_divisor.mono _ _ _
      | exact LeO.none _
      | refine LeO.ite ?_ ?_
      | refine LeO.bind ?_ (fun _ => ?_)
set_option maxHeartbeats 8000000 in
set_option maxRecDepth 100000 in
theorem impl_FracOk.calls (k : Nat) (a0_0 : Int) (a0_1 : Int) (r : Bool) (w : World) (h : impl_FracOk.f k a0_0 a0_1 = some r) :
    Calls Tryd.prog 25 #[.agg #[.int .i64 a0_0, .int .i64 a0_1]] w fun e w' => e = .returned (.bool r) ∧ Below w.heap.size w w' := by
  have hu25 := Tryd.underlying25
  have HB := Aside0.mk (Below.refl w.heap.size w)
  have H : ((impl_within.f a0_0 0 999).bind fun t102 => (if t102 = true then ((impl_within.f a0_1 1 60).bind fun t103 => (if t103 = true then ((impl_divisor.f k a0_0 a0_1).bind fun t104 => (some (t104 == 1))) else (some false))) else (some false))) = some r := h
  clear h
  replace H := Option.bind_eq_some_iff.mp H
  obtain ⟨t102, A20, H⟩ := H
  replace H : (if t102 = true then ((impl_within.f a0_1 1 60).bind fun t103 => (if t103 = true then ((impl_divisor.f k a0_0 a0_1).bind fun t104 => (some (t104 == 1))) else (some false))) else (some false)) = some r := H
  have A2 := Aside0.mk A20
  clear A20
  by_cases c3 : t102 = true
  · subst c3
    have H1 : ((impl_within.f a0_1 1 60).bind fun t103 => (if t103 = true then ((impl_divisor.f k a0_0 a0_1).bind fun t104 => (some (t104 == 1))) else (some false))) = some r := by rw [if_pos rfl] at H; exact H
    clear H
    have H := H1
    clear H1
    replace H := Option.bind_eq_some_iff.mp H
    obtain ⟨t103, A40, H⟩ := H
    replace H : (if t103 = true then ((impl_divisor.f k a0_0 a0_1).bind fun t104 => (some (t104 == 1))) else (some false)) = some r := H
    have A4 := Aside0.mk A40
    clear A40
    by_cases c5 : t103 = true
    · subst c5
      have H1 : ((impl_divisor.f k a0_0 a0_1).bind fun t104 => (some (t104 == 1))) = some r := by rw [if_pos rfl] at H; exact H
      clear H
      have H := H1
      clear H1
      replace H := Option.bind_eq_some_iff.mp H
      obtain ⟨t104, A60, H⟩ := H
      replace H : (some (t104 == 1)) = some r := H
      have A6 := Aside0.mk A60
      clear A60
      obtain rfl := Option.some.inj H
      go_enter Tryd.func25, Tryd.ntmps25
      go_wp2_with (first | ((with_reducible refine gate_dst (N := 1) rfl ?_); refine box_event ?hg (N := 1) ?hd (cs := #[.int .i64 a0_0, .int .i64 a0_1]) (t := 25) ?hr ?_; (case hd => rfl); (case hg => rfl); (case hr => first | (go_simp; done) | (go_simp; rfl)); intro gb101 hg w7 hbox hb; have n0_ := Aside0.mk (below_step (by repeat (first | (with_reducible first | exact HB.out | apply below_alloc | apply pw_below_drewN | apply below_drew1) | exact HB.out)) hb); have n1_ := Aside0.mk (hbox); have n2_ := Aside0.mk ((by rw [hg]; exact (below_size (by repeat (first | (with_reducible first | exact HB.out | apply below_alloc | apply pw_below_drewN | apply below_drew1) | exact HB.out))) : w.heap.size ≤ gb101)); have n3_ := Aside0.mk ((by rw [hg]; exact (below_size (by repeat (first | (with_reducible first | exact HB.out | apply below_alloc | apply pw_below_drewN | apply below_drew1) | exact HB.out))) : w.heap.size ≤ gb101)); clear HB; have HB := n0_; have BK101 := n1_; have GW101 := n2_; have GE101 := n3_; clear n0_ n1_ n2_ n3_; clear hb hbox hg; have hcz8_0 : w7.cell? ⟨gb101, 0, none⟩ = some (.int .i64 a0_0) := (blk_cell BK101.out 0).trans rfl; have hcz8_1 : w7.cell? ⟨gb101, 1, none⟩ = some (.int .i64 a0_1) := (blk_cell BK101.out 1).trans rfl; have hfz8_0 := blk_frozen BK101.out 0; have hfz8_1 := blk_frozen BK101.out 1) | ((with_reducible refine gate_callee (f := 46) rfl ?_); refine goesL_ (some 5) rfl rfl Tryd.func46 (by kernel_rfl) rfl #[.int .i64 a0_0, .int .i64 0, .int .i64 999] rfl (by (try simp only [List.map_toArray, List.map_cons, List.map_nil]); first | done | rfl | (simp only [List.length_drop, List.length_take]; rfl)) ?_; (with_reducible refine (impl_within.calls a0_0 0 999 true _ A2.out).mono ?_); rintro e w' ⟨rfl, ⟨nd, rfl⟩⟩; refine ⟨_, rfl, ?_⟩) | (go_at_call 46; (with_reducible refine (impl_within.calls a0_1 1 60 true _ A4.out).mono ?_); rintro e w' ⟨rfl, ⟨nd, rfl⟩⟩) | (go_at_call 47; (with_reducible refine (impl_divisor.calls k a0_0 a0_1 t104 _ A6.out).mono ?_); rintro e w' ⟨rfl, ⟨nd, rfl⟩⟩))
      go_ret
      exact ⟨by first | rfl | (simp [errW_none, errW_some] <;> rfl) | (simp [*, errW_none, errW_some] <;> rfl), by repeat (first | (with_reducible first | exact HB.out | apply below_alloc | apply pw_below_drewN | apply below_drew1 | refine below_set ?_ GE101.out) | exact HB.out)⟩
    · replace c5 := Bool.eq_false_iff.mpr c5
      subst c5
      have H1 : (some false) = some r := by rw [if_neg (show ¬ (false = true) by decide)] at H; exact H
      clear H
      have H := H1
      clear H1
      obtain rfl := Option.some.inj H
      go_enter Tryd.func25, Tryd.ntmps25
      go_wp2_with (first | ((with_reducible refine gate_dst (N := 1) rfl ?_); refine box_event ?hg (N := 1) ?hd (cs := #[.int .i64 a0_0, .int .i64 a0_1]) (t := 25) ?hr ?_; (case hd => rfl); (case hg => rfl); (case hr => first | (go_simp; done) | (go_simp; rfl)); intro gb101 hg w9 hbox hb; have n0_ := Aside0.mk (below_step (by repeat (first | (with_reducible first | exact HB.out | apply below_alloc | apply pw_below_drewN | apply below_drew1) | exact HB.out)) hb); have n1_ := Aside0.mk (hbox); have n2_ := Aside0.mk ((by rw [hg]; exact (below_size (by repeat (first | (with_reducible first | exact HB.out | apply below_alloc | apply pw_below_drewN | apply below_drew1) | exact HB.out))) : w.heap.size ≤ gb101)); have n3_ := Aside0.mk ((by rw [hg]; exact (below_size (by repeat (first | (with_reducible first | exact HB.out | apply below_alloc | apply pw_below_drewN | apply below_drew1) | exact HB.out))) : w.heap.size ≤ gb101)); clear HB; have HB := n0_; have BK101 := n1_; have GW101 := n2_; have GE101 := n3_; clear n0_ n1_ n2_ n3_; clear hb hbox hg; have hcz10_0 : w9.cell? ⟨gb101, 0, none⟩ = some (.int .i64 a0_0) := (blk_cell BK101.out 0).trans rfl; have hcz10_1 : w9.cell? ⟨gb101, 1, none⟩ = some (.int .i64 a0_1) := (blk_cell BK101.out 1).trans rfl; have hfz10_0 := blk_frozen BK101.out 0; have hfz10_1 := blk_frozen BK101.out 1) | ((with_reducible refine gate_callee (f := 46) rfl ?_); refine goesL_ (some 5) rfl rfl Tryd.func46 (by kernel_rfl) rfl #[.int .i64 a0_0, .int .i64 0, .int .i64 999] rfl (by (try simp only [List.map_toArray, List.map_cons, List.map_nil]); first | done | rfl | (simp only [List.length_drop, List.length_take]; rfl)) ?_; (with_reducible refine (impl_within.calls a0_0 0 999 true _ A2.out).mono ?_); rintro e w' ⟨rfl, ⟨nd, rfl⟩⟩; refine ⟨_, rfl, ?_⟩) | (go_at_call 46; (with_reducible refine (impl_within.calls a0_1 1 60 false _ A4.out).mono ?_); rintro e w' ⟨rfl, ⟨nd, rfl⟩⟩))
      go_ret
      exact ⟨by first | rfl | (simp [errW_none, errW_some] <;> rfl) | (simp [*, errW_none, errW_some] <;> rfl), by repeat (first | (with_reducible first | exact HB.out | apply below_alloc | apply pw_below_drewN | apply below_drew1 | refine below_set ?_ GE101.out) | exact HB.out)⟩
  · replace c3 := Bool.eq_false_iff.mpr c3
    subst c3
    have H1 : (some false) = some r := by rw [if_neg (show ¬ (false = true) by decide)] at H; exact H
    clear H
    have H := H1
    clear H1
    obtain rfl := Option.some.inj H
    go_enter Tryd.func25, Tryd.ntmps25
    go_wp2_with (first | ((with_reducible refine gate_dst (N := 1) rfl ?_); refine box_event ?hg (N := 1) ?hd (cs := #[.int .i64 a0_0, .int .i64 a0_1]) (t := 25) ?hr ?_; (case hd => rfl); (case hg => rfl); (case hr => first | (go_simp; done) | (go_simp; rfl)); intro gb101 hg w11 hbox hb; have n0_ := Aside0.mk (below_step (by repeat (first | (with_reducible first | exact HB.out | apply below_alloc | apply pw_below_drewN | apply below_drew1) | exact HB.out)) hb); have n1_ := Aside0.mk (hbox); have n2_ := Aside0.mk ((by rw [hg]; exact (below_size (by repeat (first | (with_reducible first | exact HB.out | apply below_alloc | apply pw_below_drewN | apply below_drew1) | exact HB.out))) : w.heap.size ≤ gb101)); have n3_ := Aside0.mk ((by rw [hg]; exact (below_size (by repeat (first | (with_reducible first | exact HB.out | apply below_alloc | apply pw_below_drewN | apply below_drew1) | exact HB.out))) : w.heap.size ≤ gb101)); clear HB; have HB := n0_; have BK101 := n1_; have GW101 := n2_; have GE101 := n3_; clear n0_ n1_ n2_ n3_; clear hb hbox hg; have hcz12_0 : w11.cell? ⟨gb101, 0, none⟩ = some (.int .i64 a0_0) := (blk_cell BK101.out 0).trans rfl; have hcz12_1 : w11.cell? ⟨gb101, 1, none⟩ = some (.int .i64 a0_1) := (blk_cell BK101.out 1).trans rfl; have hfz12_0 := blk_frozen BK101.out 0; have hfz12_1 := blk_frozen BK101.out 1) | ((with_reducible refine gate_callee (f := 46) rfl ?_); refine goesL_ (some 5) rfl rfl Tryd.func46 (by kernel_rfl) rfl #[.int .i64 a0_0, .int .i64 0, .int .i64 999] rfl (by (try simp only [List.map_toArray, List.map_cons, List.map_nil]); first | done | rfl | (simp only [List.length_drop, List.length_take]; rfl)) ?_; (with_reducible refine (impl_within.calls a0_0 0 999 false _ A2.out).mono ?_); rintro e w' ⟨rfl, ⟨nd, rfl⟩⟩; refine ⟨_, rfl, ?_⟩))
    go_ret
    exact ⟨by first | rfl | (simp [errW_none, errW_some] <;> rfl) | (simp [*, errW_none, errW_some] <;> rfl), by repeat (first | (with_reducible first | exact HB.out | apply below_alloc | apply pw_below_drewN | apply below_drew1 | refine below_set ?_ GE101.out) | exact HB.out)⟩

/-! ### impl_FracText: function 15 -/
-- The numbers of functions and types are those of the seat of the texts.
theorem fracText_yes (k : Nat) (n d : Int) (hn : 0 ≤ n ∧ n ≤ 999) (hd : 0 ≤ d ∧ d ≤ 999) (w : World) (h : impl_FracOk.f k n d = some true) (hE : Env w) :
    Calls Tryd.prog 15 #[.agg #[.int .i64 n, .int .i64 d]] w fun e w' => e = .returned (.string (fracTxt n d)) ∧ Below w.heap.size w w' := by
  have hb0 : Below w.heap.size w (w.alloc (.cells #[.int .i64 n, .int .i64 d] 25)) := (Below.refl _ w).alloc (Nat.le_refl _) _
  have hbx : (w.alloc (.cells #[.int .i64 n, .int .i64 d] 25)).heap[w.heap.size]? = some (.cells #[.int .i64 n, .int .i64 d] 25 (0, 0)) := f_new w _
  have HB0 := Go.Lib.hid hb0
  have HBX := Go.Lib.hid hbx
  have HH := Go.Lib.hid h
  have HE := Go.Lib.hid hE
  have HT := Go.Lib.hid (fun (W : World) (hW : Env W) => text_calls n d hn hd W hW)
  clear hb0 hbx h hE hn hd
  go_enter Tryd.func15, Tryd.ntmps15
  go_wp2_with (first | (go_at_call 25; refine (impl_FracOk.calls k n d true _ HH.out).mono ?_; rintro e w4 ⟨rfl, hb4⟩; have hbw := (show Below w.heap.size w w4 from below_then HB0.out (by simp) hb4); have hb4' := (hb4.block w.heap.size (f_lt HBX.out)).trans HBX.out; have x0 := f_cell hb4' 0; have x1 := f_cell hb4' 1; have HBW := Go.Lib.hid hbw; clear hb4 hbw hb4') | (go_at_call 34; refine (HT.out _ (Env.below HE.out HBW.out)).mono ?_; rintro e w5 ⟨rfl, hb5⟩; have hbz := (show Below w.heap.size w w5 from below_then HBW.out HBW.out.size hb5); have HBZ := Go.Lib.hid hbz; clear hb5 hbz))
  go_ret
  exact ⟨rfl, HBZ.out⟩
theorem fracText_no (k : Nat) (n d : Int) (w : World) (h : impl_FracOk.f k n d = some false) :
    Calls Tryd.prog 15 #[.agg #[.int .i64 n, .int .i64 d]] w fun e w' => e = .returned (.string ⟨#[]⟩) ∧ Below w.heap.size w w' := by
  have hb0 : Below w.heap.size w (w.alloc (.cells #[.int .i64 n, .int .i64 d] 25)) := (Below.refl _ w).alloc (Nat.le_refl _) _
  have HB0 := Go.Lib.hid hb0
  have HH := Go.Lib.hid h
  clear hb0 h
  go_enter Tryd.func15, Tryd.ntmps15
  go_wp2_with (go_at_call 25; refine (impl_FracOk.calls k n d false _ HH.out).mono ?_; rintro e w4 ⟨rfl, hb4⟩; have hbw := (show Below w.heap.size w w4 from below_then HB0.out (by simp) hb4))
  go_ret
  exact ⟨rfl, hbw⟩
def impl_FracText.f (k : Nat) (a0_0 a0_1 : Int) : Option ByteArray := (impl_FracOk.f k a0_0 a0_1).bind fun t => if t = true then (if 0 ≤ a0_0 ∧ a0_0 ≤ 999 ∧ 0 ≤ a0_1 ∧ a0_1 ≤ 999 then some (fracTxt a0_0 a0_1) else none) else some ⟨#[]⟩
theorem impl_FracText.mono : ∀ a0 a1 k, LeO (impl_FracText.f k a0 a1) (impl_FracText.f (k + 1) a0 a1) := by
  intro a0 a1 k
  unfold impl_FracText.f
  exact LeO.bind (impl_FracOk.mono _ _ _) (fun t => LeO.refl _)
theorem impl_FracText.calls (k : Nat) (a0_0 : Int) (a0_1 : Int) (r : ByteArray) (w : World) (h : impl_FracText.f k a0_0 a0_1 = some r) (hE : Env w) :
    Calls Tryd.prog 15 #[.agg #[.int .i64 a0_0, .int .i64 a0_1]] w fun e w' => e = .returned (.string r) ∧ Below w.heap.size w w' := by
  unfold impl_FracText.f at h
  obtain ⟨t, ht, h⟩ := Option.bind_eq_some_iff.1 h
  cases t
  · obtain rfl : (⟨#[]⟩ : ByteArray) = r := by simpa using h
    exact fracText_no k a0_0 a0_1 w ht
  · rw [if_pos rfl] at h
    split at h
    · rename_i hb
      obtain rfl := Option.some.inj h
      exact fracText_yes k a0_0 a0_1 ⟨hb.1, hb.2.1⟩ ⟨hb.2.2.1, hb.2.2.2⟩ w ht hE
    · cases h

/-! ### impl_kindOk: function 51 -/
def impl_kindOk.f (a0 : Int) : Option Bool := some (decide (1 ≤ a0 ∧ a0 ≤ 3))
theorem impl_kindOk.calls (a0 : Int) (r : Bool) (w : World) (h : impl_kindOk.f a0 = some r) :
    Calls Tryd.prog 51 #[.int .i64 a0] w fun e w' => e = .returned (.bool r) ∧ Below w.heap.size w w' := by
  obtain rfl := Option.some.inj h
  clear h
  by_cases h1 : a0 = 1
  · subst h1
    go_enter Tryd.func51, Tryd.ntmps51
    go_wp2
    go_ret
    exact ⟨rfl, Below.refl _ _⟩
  by_cases h2 : a0 = 2
  · subst h2
    clear h1
    go_enter Tryd.func51, Tryd.ntmps51
    go_wp2
    go_ret
    exact ⟨rfl, Below.refl _ _⟩
  by_cases h3 : a0 = 3
  · subst h3
    clear h1 h2
    go_enter Tryd.func51, Tryd.ntmps51
    go_wp2
    go_ret
    exact ⟨rfl, Below.refl _ _⟩
  · rw [show decide (1 ≤ a0 ∧ a0 ≤ 3) = false by simp; omega]
    have b1 : (a0 == 1) = false := beq_eq_false_iff_ne.2 h1
    have b2 : (a0 == 2) = false := beq_eq_false_iff_ne.2 h2
    have b3 : (a0 == 3) = false := beq_eq_false_iff_ne.2 h3
    clear h1 h2 h3
    go_enter Tryd.func51, Tryd.ntmps51
    go_wp2
    go_ret
    exact ⟨rfl, Below.refl _ _⟩

/-! ### impl_needOk: function 52 -/
def impl_needOk.f (a0 : Int) : Option (Bool) := (impl_within.f a0 1 9).bind fun t105 => (some t105)
set_option maxHeartbeats 8000000 in
set_option maxRecDepth 100000 in
theorem impl_needOk.calls (a0 : Int) (r : Bool) (w : World) (h : impl_needOk.f a0 = some r) :
    Calls Tryd.prog 52 #[.int .i64 a0] w fun e w' => e = .returned (.bool r) ∧ Drawn0 w w' := by
  have H : ((impl_within.f a0 1 9).bind fun t105 => (some t105)) = some r := h
  clear h
  replace H := Option.bind_eq_some_iff.mp H
  obtain ⟨t105, A20, H⟩ := H
  replace H : (some t105) = some r := H
  have A2 := Aside0.mk A20
  clear A20
  obtain rfl := Option.some.inj H
  go_enter Tryd.func52, Tryd.ntmps52
  go_wp2_with (first | ((with_reducible refine gate_callee (f := 46) rfl ?_); refine goesL_ (some 4) rfl rfl Tryd.func46 (by kernel_rfl) rfl #[.int .i64 a0, .int .i64 1, .int .i64 9] rfl (by (try simp only [List.map_toArray, List.map_cons, List.map_nil]); first | done | rfl | (simp only [List.length_drop, List.length_take]; rfl)) ?_; (with_reducible refine (impl_within.calls a0 1 9 t105 _ A2.out).mono ?_); rintro e w' ⟨rfl, ⟨nd, rfl⟩⟩; refine ⟨_, rfl, ?_⟩))
  go_ret
  exact ⟨by first | rfl | (simp; done) | (simp [*]; done), by repeat (first | exact Drawn0.refl _ | apply Drawn0.step)⟩

/-! ### impl_AskOk: function 28 -/
def impl_AskOk.f (k : Nat) (a0_0 : Int) (a0_1 : Int) (a0_2 : Int) (a0_3 : Int) : Option (Bool) := (impl_kindOk.f a0_0).bind fun t107 => (if t107 = true then ((impl_needOk.f a0_1).bind fun t108 => (if t108 = true then ((impl_FracOk.f k a0_2 a0_3).bind fun t109 => (if t109 = true then (some (decide (a0_2 > 0))) else (some false))) else (some false))) else (some false))
theorem impl_AskOk.mono : ∀ a0 a1 a2 a3 k, LeO (impl_AskOk.f k a0 a1 a2 a3) (impl_AskOk.f (k + 1) a0 a1 a2 a3) := by
  intro a0 a1 a2 a3 k
  unfold impl_AskOk.f
  repeat' first
      | (with_reducible exact impl_FracOk.mono _ _ _)
      | (with_reducible exact LeO.refl _)
      | (with_reducible exact LeO.none _)
      | (with_reducible refine LeO.ite ?_ ?_)
      | (with_reducible refine LeO.bind ?_ (fun _ => ?_))
      | exact impl_FracOk.mono _ _ _
      | exact LeO.none _
      | refine LeO.ite ?_ ?_
      | refine LeO.bind ?_ (fun _ => ?_)
set_option maxHeartbeats 8000000 in
set_option maxRecDepth 100000 in
theorem impl_AskOk.calls (k : Nat) (a0_0 : Int) (a0_1 : Int) (a0_2 : Int) (a0_3 : Int) (r : Bool) (w : World) (h : impl_AskOk.f k a0_0 a0_1 a0_2 a0_3 = some r) :
    Calls Tryd.prog 28 #[.agg #[.int .i64 a0_0, .int .i64 a0_1, .int .i64 a0_2, .int .i64 a0_3]] w fun e w' => e = .returned (.bool r) ∧ Below w.heap.size w w' := by
  have hu32 := Tryd.underlying32
  have hu25 := Tryd.underlying25
  have HB := Aside0.mk (Below.refl w.heap.size w)
  have H : ((impl_kindOk.f a0_0).bind fun t107 => (if t107 = true then ((impl_needOk.f a0_1).bind fun t108 => (if t108 = true then ((impl_FracOk.f k a0_2 a0_3).bind fun t109 => (if t109 = true then (some (decide (a0_2 > 0))) else (some false))) else (some false))) else (some false))) = some r := h
  clear h
  replace H := Option.bind_eq_some_iff.mp H
  obtain ⟨t107, A20, H⟩ := H
  replace H : (if t107 = true then ((impl_needOk.f a0_1).bind fun t108 => (if t108 = true then ((impl_FracOk.f k a0_2 a0_3).bind fun t109 => (if t109 = true then (some (decide (a0_2 > 0))) else (some false))) else (some false))) else (some false)) = some r := H
  have A2 := Aside0.mk A20
  clear A20
  by_cases c3 : t107 = true
  · subst c3
    have H1 : ((impl_needOk.f a0_1).bind fun t108 => (if t108 = true then ((impl_FracOk.f k a0_2 a0_3).bind fun t109 => (if t109 = true then (some (decide (a0_2 > 0))) else (some false))) else (some false))) = some r := by rw [if_pos rfl] at H; exact H
    clear H
    have H := H1
    clear H1
    replace H := Option.bind_eq_some_iff.mp H
    obtain ⟨t108, A40, H⟩ := H
    replace H : (if t108 = true then ((impl_FracOk.f k a0_2 a0_3).bind fun t109 => (if t109 = true then (some (decide (a0_2 > 0))) else (some false))) else (some false)) = some r := H
    have A4 := Aside0.mk A40
    clear A40
    by_cases c5 : t108 = true
    · subst c5
      have H1 : ((impl_FracOk.f k a0_2 a0_3).bind fun t109 => (if t109 = true then (some (decide (a0_2 > 0))) else (some false))) = some r := by rw [if_pos rfl] at H; exact H
      clear H
      have H := H1
      clear H1
      replace H := Option.bind_eq_some_iff.mp H
      obtain ⟨t109, A60, H⟩ := H
      replace H : (if t109 = true then (some (decide (a0_2 > 0))) else (some false)) = some r := H
      have A6 := Aside0.mk A60
      clear A60
      by_cases c7 : t109 = true
      · subst c7
        have H1 : (some (decide (a0_2 > 0))) = some r := by rw [if_pos rfl] at H; exact H
        clear H
        have H := H1
        clear H1
        obtain rfl := Option.some.inj H
        go_enter Tryd.func28, Tryd.ntmps28
        go_wp2_with (first | ((with_reducible refine gate_dst (N := 1) rfl ?_); refine box_event ?hg (N := 1) ?hd (cs := #[.int .i64 a0_0, .int .i64 a0_1, .int .i64 a0_2, .int .i64 a0_3]) (t := 32) ?hr ?_; (case hd => rfl); (case hg => rfl); (case hr => first | (go_simp; done) | (go_simp; rfl)); intro gb106 hg w8 hbox hb; have n0_ := Aside0.mk (below_step (by repeat (first | (with_reducible first | exact HB.out | apply below_alloc | apply pw_below_drewN | apply below_drew1) | exact HB.out)) hb); have n1_ := Aside0.mk (hbox); have n2_ := Aside0.mk ((by rw [hg]; exact (below_size (by repeat (first | (with_reducible first | exact HB.out | apply below_alloc | apply pw_below_drewN | apply below_drew1) | exact HB.out))) : w.heap.size ≤ gb106)); have n3_ := Aside0.mk ((by rw [hg]; exact (below_size (by repeat (first | (with_reducible first | exact HB.out | apply below_alloc | apply pw_below_drewN | apply below_drew1) | exact HB.out))) : w.heap.size ≤ gb106)); clear HB; have HB := n0_; have BK106 := n1_; have GW106 := n2_; have GE106 := n3_; clear n0_ n1_ n2_ n3_; clear hb hbox hg; have hcz9_0 : w8.cell? ⟨gb106, 0, none⟩ = some (.int .i64 a0_0) := (blk_cell BK106.out 0).trans rfl; have hcz9_1 : w8.cell? ⟨gb106, 1, none⟩ = some (.int .i64 a0_1) := (blk_cell BK106.out 1).trans rfl; have hcz9_2 : w8.cell? ⟨gb106, 2, none⟩ = some (.int .i64 a0_2) := (blk_cell BK106.out 2).trans rfl; have hcz9_3 : w8.cell? ⟨gb106, 3, none⟩ = some (.int .i64 a0_3) := (blk_cell BK106.out 3).trans rfl; have hfz9_0 := blk_frozen BK106.out 0; have hfz9_1 := blk_frozen BK106.out 1; have hfz9_2 := blk_frozen BK106.out 2; have hfz9_3 := blk_frozen BK106.out 3) | ((with_reducible refine gate_callee (f := 51) rfl ?_); refine goesL_ (some 5) rfl rfl Tryd.func51 (by kernel_rfl) rfl #[.int .i64 a0_0] rfl (by (try simp only [List.map_toArray, List.map_cons, List.map_nil]); first | done | rfl | (simp only [List.length_drop, List.length_take]; rfl)) ?_; (with_reducible refine (impl_kindOk.calls a0_0 true _ A2.out).mono ?_); rintro e w10 ⟨rfl, hb⟩; refine ⟨_, rfl, ?_⟩; have n0_ := Aside0.mk (blk_below (g := gb106) (o := .cells #[.int .i64 a0_0, .int .i64 a0_1, .int .i64 a0_2, .int .i64 a0_3] 32 (0, 0)) (by (with_reducible repeat (first | refine blk_drewN ?_ _ | refine blk_drew ?_ | refine blk_alloc ?_ _)); exact BK106.out) hb); have n1_ := Aside0.mk (below_step (by repeat (first | (with_reducible first | exact HB.out | apply below_alloc | apply pw_below_drewN | apply below_drew1 | refine below_set ?_ GE106.out) | exact HB.out)) hb); clear BK106; clear HB; have BK106 := n0_; have HB := n1_; clear n0_ n1_; (try clear hb); (try clear hb2); (try clear hk); (try clear hi); have hcz11_0 : w10.cell? ⟨gb106, 0, none⟩ = some (.int .i64 a0_0) := (blk_cell BK106.out 0).trans rfl; have hcz11_1 : w10.cell? ⟨gb106, 1, none⟩ = some (.int .i64 a0_1) := (blk_cell BK106.out 1).trans rfl; have hcz11_2 : w10.cell? ⟨gb106, 2, none⟩ = some (.int .i64 a0_2) := (blk_cell BK106.out 2).trans rfl; have hcz11_3 : w10.cell? ⟨gb106, 3, none⟩ = some (.int .i64 a0_3) := (blk_cell BK106.out 3).trans rfl; have hfz11_0 := blk_frozen BK106.out 0; have hfz11_1 := blk_frozen BK106.out 1; have hfz11_2 := blk_frozen BK106.out 2; have hfz11_3 := blk_frozen BK106.out 3) | (go_at_call 52; (with_reducible refine (impl_needOk.calls a0_1 true _ A4.out).mono ?_); rintro e w' ⟨rfl, ⟨nd, rfl⟩⟩) | (go_at_call 25; (with_reducible refine (impl_FracOk.calls k a0_2 a0_3 true _ A6.out).mono ?_); rintro e w12 ⟨rfl, hb⟩; have n0_ := Aside0.mk (blk_below (g := gb106) (o := .cells #[.int .i64 a0_0, .int .i64 a0_1, .int .i64 a0_2, .int .i64 a0_3] 32 (0, 0)) (by (with_reducible repeat (first | refine blk_drewN ?_ _ | refine blk_drew ?_ | refine blk_alloc ?_ _)); exact BK106.out) hb); have n1_ := Aside0.mk (below_step (by repeat (first | (with_reducible first | exact HB.out | apply below_alloc | apply pw_below_drewN | apply below_drew1 | refine below_set ?_ GE106.out) | exact HB.out)) hb); clear BK106; clear HB; have BK106 := n0_; have HB := n1_; clear n0_ n1_; (try clear hb); (try clear hb2); (try clear hk); (try clear hi); have hcz13_0 : w12.cell? ⟨gb106, 0, none⟩ = some (.int .i64 a0_0) := (blk_cell BK106.out 0).trans rfl; have hcz13_1 : w12.cell? ⟨gb106, 1, none⟩ = some (.int .i64 a0_1) := (blk_cell BK106.out 1).trans rfl; have hcz13_2 : w12.cell? ⟨gb106, 2, none⟩ = some (.int .i64 a0_2) := (blk_cell BK106.out 2).trans rfl; have hcz13_3 : w12.cell? ⟨gb106, 3, none⟩ = some (.int .i64 a0_3) := (blk_cell BK106.out 3).trans rfl; have hfz13_0 := blk_frozen BK106.out 0; have hfz13_1 := blk_frozen BK106.out 1; have hfz13_2 := blk_frozen BK106.out 2; have hfz13_3 := blk_frozen BK106.out 3))
        go_ret
        exact ⟨by first | rfl | (simp [errW_none, errW_some] <;> rfl) | (simp [*, errW_none, errW_some] <;> rfl), by repeat (first | (with_reducible first | exact HB.out | apply below_alloc | apply pw_below_drewN | apply below_drew1 | refine below_set ?_ GE106.out) | exact HB.out)⟩
      · replace c7 := Bool.eq_false_iff.mpr c7
        subst c7
        have H1 : (some false) = some r := by rw [if_neg (show ¬ (false = true) by decide)] at H; exact H
        clear H
        have H := H1
        clear H1
        obtain rfl := Option.some.inj H
        go_enter Tryd.func28, Tryd.ntmps28
        go_wp2_with (first | ((with_reducible refine gate_dst (N := 1) rfl ?_); refine box_event ?hg (N := 1) ?hd (cs := #[.int .i64 a0_0, .int .i64 a0_1, .int .i64 a0_2, .int .i64 a0_3]) (t := 32) ?hr ?_; (case hd => rfl); (case hg => rfl); (case hr => first | (go_simp; done) | (go_simp; rfl)); intro gb106 hg w14 hbox hb; have n0_ := Aside0.mk (below_step (by repeat (first | (with_reducible first | exact HB.out | apply below_alloc | apply pw_below_drewN | apply below_drew1) | exact HB.out)) hb); have n1_ := Aside0.mk (hbox); have n2_ := Aside0.mk ((by rw [hg]; exact (below_size (by repeat (first | (with_reducible first | exact HB.out | apply below_alloc | apply pw_below_drewN | apply below_drew1) | exact HB.out))) : w.heap.size ≤ gb106)); have n3_ := Aside0.mk ((by rw [hg]; exact (below_size (by repeat (first | (with_reducible first | exact HB.out | apply below_alloc | apply pw_below_drewN | apply below_drew1) | exact HB.out))) : w.heap.size ≤ gb106)); clear HB; have HB := n0_; have BK106 := n1_; have GW106 := n2_; have GE106 := n3_; clear n0_ n1_ n2_ n3_; clear hb hbox hg; have hcz15_0 : w14.cell? ⟨gb106, 0, none⟩ = some (.int .i64 a0_0) := (blk_cell BK106.out 0).trans rfl; have hcz15_1 : w14.cell? ⟨gb106, 1, none⟩ = some (.int .i64 a0_1) := (blk_cell BK106.out 1).trans rfl; have hcz15_2 : w14.cell? ⟨gb106, 2, none⟩ = some (.int .i64 a0_2) := (blk_cell BK106.out 2).trans rfl; have hcz15_3 : w14.cell? ⟨gb106, 3, none⟩ = some (.int .i64 a0_3) := (blk_cell BK106.out 3).trans rfl; have hfz15_0 := blk_frozen BK106.out 0; have hfz15_1 := blk_frozen BK106.out 1; have hfz15_2 := blk_frozen BK106.out 2; have hfz15_3 := blk_frozen BK106.out 3) | ((with_reducible refine gate_callee (f := 51) rfl ?_); refine goesL_ (some 5) rfl rfl Tryd.func51 (by kernel_rfl) rfl #[.int .i64 a0_0] rfl (by (try simp only [List.map_toArray, List.map_cons, List.map_nil]); first | done | rfl | (simp only [List.length_drop, List.length_take]; rfl)) ?_; (with_reducible refine (impl_kindOk.calls a0_0 true _ A2.out).mono ?_); rintro e w16 ⟨rfl, hb⟩; refine ⟨_, rfl, ?_⟩; have n0_ := Aside0.mk (blk_below (g := gb106) (o := .cells #[.int .i64 a0_0, .int .i64 a0_1, .int .i64 a0_2, .int .i64 a0_3] 32 (0, 0)) (by (with_reducible repeat (first | refine blk_drewN ?_ _ | refine blk_drew ?_ | refine blk_alloc ?_ _)); exact BK106.out) hb); have n1_ := Aside0.mk (below_step (by repeat (first | (with_reducible first | exact HB.out | apply below_alloc | apply pw_below_drewN | apply below_drew1 | refine below_set ?_ GE106.out) | exact HB.out)) hb); clear BK106; clear HB; have BK106 := n0_; have HB := n1_; clear n0_ n1_; (try clear hb); (try clear hb2); (try clear hk); (try clear hi); have hcz17_0 : w16.cell? ⟨gb106, 0, none⟩ = some (.int .i64 a0_0) := (blk_cell BK106.out 0).trans rfl; have hcz17_1 : w16.cell? ⟨gb106, 1, none⟩ = some (.int .i64 a0_1) := (blk_cell BK106.out 1).trans rfl; have hcz17_2 : w16.cell? ⟨gb106, 2, none⟩ = some (.int .i64 a0_2) := (blk_cell BK106.out 2).trans rfl; have hcz17_3 : w16.cell? ⟨gb106, 3, none⟩ = some (.int .i64 a0_3) := (blk_cell BK106.out 3).trans rfl; have hfz17_0 := blk_frozen BK106.out 0; have hfz17_1 := blk_frozen BK106.out 1; have hfz17_2 := blk_frozen BK106.out 2; have hfz17_3 := blk_frozen BK106.out 3) | (go_at_call 52; (with_reducible refine (impl_needOk.calls a0_1 true _ A4.out).mono ?_); rintro e w' ⟨rfl, ⟨nd, rfl⟩⟩) | (go_at_call 25; (with_reducible refine (impl_FracOk.calls k a0_2 a0_3 false _ A6.out).mono ?_); rintro e w18 ⟨rfl, hb⟩; have n0_ := Aside0.mk (blk_below (g := gb106) (o := .cells #[.int .i64 a0_0, .int .i64 a0_1, .int .i64 a0_2, .int .i64 a0_3] 32 (0, 0)) (by (with_reducible repeat (first | refine blk_drewN ?_ _ | refine blk_drew ?_ | refine blk_alloc ?_ _)); exact BK106.out) hb); have n1_ := Aside0.mk (below_step (by repeat (first | (with_reducible first | exact HB.out | apply below_alloc | apply pw_below_drewN | apply below_drew1 | refine below_set ?_ GE106.out) | exact HB.out)) hb); clear BK106; clear HB; have BK106 := n0_; have HB := n1_; clear n0_ n1_; (try clear hb); (try clear hb2); (try clear hk); (try clear hi)))
        go_ret
        exact ⟨by first | rfl | (simp [errW_none, errW_some] <;> rfl) | (simp [*, errW_none, errW_some] <;> rfl), by repeat (first | (with_reducible first | exact HB.out | apply below_alloc | apply pw_below_drewN | apply below_drew1 | refine below_set ?_ GE106.out) | exact HB.out)⟩
    · replace c5 := Bool.eq_false_iff.mpr c5
      subst c5
      have H1 : (some false) = some r := by rw [if_neg (show ¬ (false = true) by decide)] at H; exact H
      clear H
      have H := H1
      clear H1
      obtain rfl := Option.some.inj H
      go_enter Tryd.func28, Tryd.ntmps28
      go_wp2_with (first | ((with_reducible refine gate_dst (N := 1) rfl ?_); refine box_event ?hg (N := 1) ?hd (cs := #[.int .i64 a0_0, .int .i64 a0_1, .int .i64 a0_2, .int .i64 a0_3]) (t := 32) ?hr ?_; (case hd => rfl); (case hg => rfl); (case hr => first | (go_simp; done) | (go_simp; rfl)); intro gb106 hg w19 hbox hb; have n0_ := Aside0.mk (below_step (by repeat (first | (with_reducible first | exact HB.out | apply below_alloc | apply pw_below_drewN | apply below_drew1) | exact HB.out)) hb); have n1_ := Aside0.mk (hbox); have n2_ := Aside0.mk ((by rw [hg]; exact (below_size (by repeat (first | (with_reducible first | exact HB.out | apply below_alloc | apply pw_below_drewN | apply below_drew1) | exact HB.out))) : w.heap.size ≤ gb106)); have n3_ := Aside0.mk ((by rw [hg]; exact (below_size (by repeat (first | (with_reducible first | exact HB.out | apply below_alloc | apply pw_below_drewN | apply below_drew1) | exact HB.out))) : w.heap.size ≤ gb106)); clear HB; have HB := n0_; have BK106 := n1_; have GW106 := n2_; have GE106 := n3_; clear n0_ n1_ n2_ n3_; clear hb hbox hg; have hcz20_0 : w19.cell? ⟨gb106, 0, none⟩ = some (.int .i64 a0_0) := (blk_cell BK106.out 0).trans rfl; have hcz20_1 : w19.cell? ⟨gb106, 1, none⟩ = some (.int .i64 a0_1) := (blk_cell BK106.out 1).trans rfl; have hcz20_2 : w19.cell? ⟨gb106, 2, none⟩ = some (.int .i64 a0_2) := (blk_cell BK106.out 2).trans rfl; have hcz20_3 : w19.cell? ⟨gb106, 3, none⟩ = some (.int .i64 a0_3) := (blk_cell BK106.out 3).trans rfl; have hfz20_0 := blk_frozen BK106.out 0; have hfz20_1 := blk_frozen BK106.out 1; have hfz20_2 := blk_frozen BK106.out 2; have hfz20_3 := blk_frozen BK106.out 3) | ((with_reducible refine gate_callee (f := 51) rfl ?_); refine goesL_ (some 5) rfl rfl Tryd.func51 (by kernel_rfl) rfl #[.int .i64 a0_0] rfl (by (try simp only [List.map_toArray, List.map_cons, List.map_nil]); first | done | rfl | (simp only [List.length_drop, List.length_take]; rfl)) ?_; (with_reducible refine (impl_kindOk.calls a0_0 true _ A2.out).mono ?_); rintro e w21 ⟨rfl, hb⟩; refine ⟨_, rfl, ?_⟩; have n0_ := Aside0.mk (blk_below (g := gb106) (o := .cells #[.int .i64 a0_0, .int .i64 a0_1, .int .i64 a0_2, .int .i64 a0_3] 32 (0, 0)) (by (with_reducible repeat (first | refine blk_drewN ?_ _ | refine blk_drew ?_ | refine blk_alloc ?_ _)); exact BK106.out) hb); have n1_ := Aside0.mk (below_step (by repeat (first | (with_reducible first | exact HB.out | apply below_alloc | apply pw_below_drewN | apply below_drew1 | refine below_set ?_ GE106.out) | exact HB.out)) hb); clear BK106; clear HB; have BK106 := n0_; have HB := n1_; clear n0_ n1_; (try clear hb); (try clear hb2); (try clear hk); (try clear hi); have hcz22_0 : w21.cell? ⟨gb106, 0, none⟩ = some (.int .i64 a0_0) := (blk_cell BK106.out 0).trans rfl; have hcz22_1 : w21.cell? ⟨gb106, 1, none⟩ = some (.int .i64 a0_1) := (blk_cell BK106.out 1).trans rfl; have hcz22_2 : w21.cell? ⟨gb106, 2, none⟩ = some (.int .i64 a0_2) := (blk_cell BK106.out 2).trans rfl; have hcz22_3 : w21.cell? ⟨gb106, 3, none⟩ = some (.int .i64 a0_3) := (blk_cell BK106.out 3).trans rfl; have hfz22_0 := blk_frozen BK106.out 0; have hfz22_1 := blk_frozen BK106.out 1; have hfz22_2 := blk_frozen BK106.out 2; have hfz22_3 := blk_frozen BK106.out 3) | (go_at_call 52; (with_reducible refine (impl_needOk.calls a0_1 false _ A4.out).mono ?_); rintro e w' ⟨rfl, ⟨nd, rfl⟩⟩))
      go_ret
      exact ⟨by first | rfl | (simp [errW_none, errW_some] <;> rfl) | (simp [*, errW_none, errW_some] <;> rfl), by repeat (first | (with_reducible first | exact HB.out | apply below_alloc | apply pw_below_drewN | apply below_drew1 | refine below_set ?_ GE106.out) | exact HB.out)⟩
  · replace c3 := Bool.eq_false_iff.mpr c3
    subst c3
    have H1 : (some false) = some r := by rw [if_neg (show ¬ (false = true) by decide)] at H; exact H
    clear H
    have H := H1
    clear H1
    obtain rfl := Option.some.inj H
    go_enter Tryd.func28, Tryd.ntmps28
    go_wp2_with (first | ((with_reducible refine gate_dst (N := 1) rfl ?_); refine box_event ?hg (N := 1) ?hd (cs := #[.int .i64 a0_0, .int .i64 a0_1, .int .i64 a0_2, .int .i64 a0_3]) (t := 32) ?hr ?_; (case hd => rfl); (case hg => rfl); (case hr => first | (go_simp; done) | (go_simp; rfl)); intro gb106 hg w23 hbox hb; have n0_ := Aside0.mk (below_step (by repeat (first | (with_reducible first | exact HB.out | apply below_alloc | apply pw_below_drewN | apply below_drew1) | exact HB.out)) hb); have n1_ := Aside0.mk (hbox); have n2_ := Aside0.mk ((by rw [hg]; exact (below_size (by repeat (first | (with_reducible first | exact HB.out | apply below_alloc | apply pw_below_drewN | apply below_drew1) | exact HB.out))) : w.heap.size ≤ gb106)); have n3_ := Aside0.mk ((by rw [hg]; exact (below_size (by repeat (first | (with_reducible first | exact HB.out | apply below_alloc | apply pw_below_drewN | apply below_drew1) | exact HB.out))) : w.heap.size ≤ gb106)); clear HB; have HB := n0_; have BK106 := n1_; have GW106 := n2_; have GE106 := n3_; clear n0_ n1_ n2_ n3_; clear hb hbox hg; have hcz24_0 : w23.cell? ⟨gb106, 0, none⟩ = some (.int .i64 a0_0) := (blk_cell BK106.out 0).trans rfl; have hcz24_1 : w23.cell? ⟨gb106, 1, none⟩ = some (.int .i64 a0_1) := (blk_cell BK106.out 1).trans rfl; have hcz24_2 : w23.cell? ⟨gb106, 2, none⟩ = some (.int .i64 a0_2) := (blk_cell BK106.out 2).trans rfl; have hcz24_3 : w23.cell? ⟨gb106, 3, none⟩ = some (.int .i64 a0_3) := (blk_cell BK106.out 3).trans rfl; have hfz24_0 := blk_frozen BK106.out 0; have hfz24_1 := blk_frozen BK106.out 1; have hfz24_2 := blk_frozen BK106.out 2; have hfz24_3 := blk_frozen BK106.out 3) | ((with_reducible refine gate_callee (f := 51) rfl ?_); refine goesL_ (some 5) rfl rfl Tryd.func51 (by kernel_rfl) rfl #[.int .i64 a0_0] rfl (by (try simp only [List.map_toArray, List.map_cons, List.map_nil]); first | done | rfl | (simp only [List.length_drop, List.length_take]; rfl)) ?_; (with_reducible refine (impl_kindOk.calls a0_0 false _ A2.out).mono ?_); rintro e w25 ⟨rfl, hb⟩; refine ⟨_, rfl, ?_⟩; have n0_ := Aside0.mk (blk_below (g := gb106) (o := .cells #[.int .i64 a0_0, .int .i64 a0_1, .int .i64 a0_2, .int .i64 a0_3] 32 (0, 0)) (by (with_reducible repeat (first | refine blk_drewN ?_ _ | refine blk_drew ?_ | refine blk_alloc ?_ _)); exact BK106.out) hb); have n1_ := Aside0.mk (below_step (by repeat (first | (with_reducible first | exact HB.out | apply below_alloc | apply pw_below_drewN | apply below_drew1 | refine below_set ?_ GE106.out) | exact HB.out)) hb); clear BK106; clear HB; have BK106 := n0_; have HB := n1_; clear n0_ n1_; (try clear hb); (try clear hb2); (try clear hk); (try clear hi)))
    go_ret
    exact ⟨by first | rfl | (simp [errW_none, errW_some] <;> rfl) | (simp [*, errW_none, errW_some] <;> rfl), by repeat (first | (with_reducible first | exact HB.out | apply below_alloc | apply pw_below_drewN | apply below_drew1 | refine below_set ?_ GE106.out) | exact HB.out)⟩

/-! ### impl_AskText: function 18 -/
-- The numbers of functions and types are those of the seat of the texts.
theorem run_index_row {P : Program} {t e : TypeId} {n : Nat} {d : TypeDesc} (hu : P.underlying t = some (.array n e)) (hs : (P.info? e).map (fun i => i.size) = some 1) (he : P.underlying e = some d) (hd : (match d with | .struct _ | .array _ _ => true | _ => false) = false) (cs : Array Value) (k : Nat) (hk : k < n) (v : Value) (hv : cs[k]? = some v) (w : World) :
    (Instr.index t (.agg cs) (.int .i64 (k : Int))).run P w = .ok v w := by
  have h0 : (0 : Int) ≤ (k : Int) ∧ (k : Int) < (n : Int) := by omega
  have hagg : (isAgg e).run P w = .ok false w := by
    unfold isAgg
    rw [Sem.run_bind, run_underlying he w]
    cases d <;> simp_all
  cases hq : P.info? e with
  | none => simp [hq] at hs
  | some i =>
    have hs1 : i.size = 1 := by simpa [hq] using hs
    simp [Instr.index, run_underlying hu, asIntOf, h0, go_sem, sizeOf, typeInfo, hq, hs1, hk, part, hagg, hv]
theorem f_four {w : World} {b : Nat} {p q r t : Value} {T : TypeId} {fr : Nat × Nat} (hb : w.heap[b]? = some (.cells #[p, q, r, t] T fr)) : w.cell? ⟨b, 0, none⟩ = some p ∧ w.cell? ⟨b, 1, none⟩ = some q ∧ w.cell? ⟨b, 2, none⟩ = some r ∧ w.cell? ⟨b, 3, none⟩ = some t := ⟨f_cell hb 0, f_cell hb 1, f_cell hb 2, f_cell hb 3⟩
theorem info9q : (Tryd.prog.info? 9).map (fun i => i.size) = some 1 := by kernel_rfl
theorem kindNames_calls (w : World) :
    Calls Tryd.prog 37 #[] w fun e w' => e = .returned (.agg #[.string ⟨#[]⟩, .string ⟨#[98, 105, 116]⟩, .string ⟨#[112, 105, 99, 107]⟩, .string ⟨#[110, 117, 109]⟩]) ∧ Below w.heap.size w w' := by
  go_enter Tryd.func37, Tryd.ntmps37
  go_wp2
  refine bodyPost_ret (results_cell_row rfl _ _ w.heap.size 53 #[.string ⟨#[]⟩, .string ⟨#[98, 105, 116]⟩, .string ⟨#[112, 105, 99, 107]⟩, .string ⟨#[110, 117, 109]⟩] (0, 0) _ rfl (f_new w _) Tryd.underlying53 rfl (by kernel_rfl)) rfl ?_
  exact ⟨rfl, (Below.refl _ w).alloc (Nat.le_refl _) _⟩
def word (kd : Int) : ByteArray := if kd = 1 then ⟨#[98, 105, 116]⟩ else if kd = 2 then ⟨#[112, 105, 99, 107]⟩ else ⟨#[110, 117, 109]⟩
def askTxt (kd need : Int) (s : ByteArray) : ByteArray := (((word kd ++ ⟨#[32]⟩) ++ ⟨(Lib.itoa need).toArray⟩) ++ ⟨#[32]⟩) ++ s
theorem ask_no (k : Nat) (kd need n d : Int) (w : World) (h : impl_AskOk.f k kd need n d = some false) :
    Calls Tryd.prog 18 #[.agg #[.int .i64 kd, .int .i64 need, .int .i64 n, .int .i64 d]] w fun e w' => e = .returned (.string ⟨#[]⟩) ∧ Below w.heap.size w w' := by
  have hb0 : Below w.heap.size w (w.alloc (.cells #[.int .i64 kd, .int .i64 need, .int .i64 n, .int .i64 d] 32)) := (Below.refl _ w).alloc (Nat.le_refl _) _
  have HB0 := Go.Lib.hid hb0
  have HH := Go.Lib.hid h
  clear hb0 h
  go_enter Tryd.func18, Tryd.ntmps18
  go_wp2_with (go_at_call 28; refine (impl_AskOk.calls k kd need n d false _ HH.out).mono ?_; rintro e w4 ⟨rfl, hb4⟩; have hbw := (show Below w.heap.size w w4 from below_then HB0.out (by simp) hb4))
  go_ret
  exact ⟨rfl, hbw⟩
set_option maxRecDepth 100000 in
set_option maxHeartbeats 4000000 in
theorem ask_yes1 (k : Nat) (need n d : Int) (s : ByteArray) (hs : s.size ≤ 100) (hneed : 0 ≤ need ∧ need ≤ 999) (w : World) (h : impl_AskOk.f k 1 need n d = some true) (hf : impl_FracText.f k n d = some s) (hE : Env w) :
    Calls Tryd.prog 18 #[.agg #[.int .i64 1, .int .i64 need, .int .i64 n, .int .i64 d]] w fun e w' => e = .returned (.string (askTxt 1 need s)) ∧ Below w.heap.size w w' := by
  have hb0 : Below w.heap.size w (w.alloc (.cells #[.int .i64 1, .int .i64 need, .int .i64 n, .int .i64 d] 32)) := (Below.refl _ w).alloc (Nat.le_refl _) _
  have hbx : (w.alloc (.cells #[.int .i64 1, .int .i64 need, .int .i64 n, .int .i64 d] 32)).heap[w.heap.size]? = some (.cells #[.int .i64 1, .int .i64 need, .int .i64 n, .int .i64 d] 32 (0, 0)) := f_new w _
  have hN := itoa_short need (by omega) (by omega)
  have hK := kindNames_calls
  have hI := fun (W : World) (h : Below w.heap.size w W) => itoa_calls need (by omega) (by omega) W (Env.below hE h)
  have hJ := fun (W : World) (h : Below w.heap.size w W) => impl_FracText.calls k n d s W hf (Env.below hE h)
  have eA : askTxt 1 need s = (((⟨#[98, 105, 116]⟩ ++ ⟨#[32]⟩) ++ ⟨(Lib.itoa need).toArray⟩) ++ ⟨#[32]⟩) ++ s := rfl
  rw [eA]
  have sN : (⟨(Lib.itoa need).toArray⟩ : ByteArray).size ≤ 5 := by simpa [ByteArray.size] using hN
  generalize (⟨(Lib.itoa need).toArray⟩ : ByteArray) = ti at *
  have sW : (⟨#[98, 105, 116]⟩ : ByteArray).size ≤ 4 := by decide
  generalize (⟨#[98, 105, 116]⟩ : ByteArray) = tb at *
  generalize (⟨#[112, 105, 99, 107]⟩ : ByteArray) = tp at *
  generalize (⟨#[110, 117, 109]⟩ : ByteArray) = tm at *
  have g1 : (9223372036854775807 < tb.size + 1) = False := eq_false (by omega)
  have g2 : (9223372036854775807 < tb.size + 1 + ti.size) = False := eq_false (by omega)
  have g3 : (9223372036854775807 < tb.size + 1 + ti.size + 1) = False := eq_false (by omega)
  have g4 : (9223372036854775807 < tb.size + 1 + ti.size + 1 + s.size) = False := eq_false (by omega)
  have hix : ∀ W : World, (Instr.index 53 (.agg #[.string ⟨#[]⟩, .string tb, .string tp, .string tm]) (.int .i64 1)).run Tryd.prog W = .ok (.string tb) W := fun W => run_index_row Tryd.underlying53 info9q Tryd.underlying9 rfl #[.string ⟨#[]⟩, .string tb, .string tp, .string tm] 1 (by decide) _ rfl W
  have HI := Go.Lib.hid hI
  have HJ := Go.Lib.hid hJ
  have HK := Go.Lib.hid hK
  have HB0 := Go.Lib.hid hb0
  have HBX := Go.Lib.hid hbx
  have HH := Go.Lib.hid h
  clear hE hb0 hI hJ hK hN sN sW hbx h hf eA hneed hs
  go_enter Tryd.func18, Tryd.ntmps18
  go_wp2_with (go_at_call 28; refine (impl_AskOk.calls k 1 need n d true _ HH.out).mono ?_; rintro e w4 ⟨rfl, hb4⟩; have hbw := (show Below w.heap.size w w4 from below_then HB0.out (by simp) hb4); have hb4' := (hb4.block w.heap.size (f_lt HBX.out)).trans HBX.out; obtain ⟨x0, x1, x2, x3⟩ := f_four hb4'; have HBW := Go.Lib.hid hbw; have HB4 := Go.Lib.hid hb4'; clear hb4 hbw hb4')
  go_region_held3 (fun w' => w'.cell? ⟨w.heap.size, 0, none⟩ = some (.int .i64 1) ∧ w'.cell? ⟨w.heap.size, 1, none⟩ = some (.int .i64 need) ∧ w'.cell? ⟨w.heap.size, 2, none⟩ = some (.int .i64 n) ∧ w'.cell? ⟨w.heap.size, 3, none⟩ = some (.int .i64 d)) (first | (refine ⟨?_, ?_, ?_, ?_⟩ <;> assumption) | go_keep) (first | (go_at_call 37; (with_reducible refine (HK.out _).mono ?_); rintro e w5 ⟨rfl, hb5⟩; have hbw := (show Below w.heap.size w w5 from below_then (by first | exact HBW.out | exact below_drew HBW.out | exact pw_below_drewN HBW.out _) (by have := HBW.out.size; simp; omega) hb5); have hb5' := (hb5.block w.heap.size (f_lt HB4.out)).trans HB4.out; obtain ⟨y0, y1, y2, y3⟩ := f_four hb5'; have HBV := Go.Lib.hid hbw; have HB5 := Go.Lib.hid hb5'; clear hb5 hbw hb5') | (go_at_call 38; (with_reducible refine (HI.out _ ?qb).mono ?_); (case qb => first | exact HBV.out | exact below_drew HBV.out | exact pw_below_drewN HBV.out _); rintro e w6 ⟨rfl, hb6⟩; have hbw := (show Below w.heap.size w w6 from below_then (by first | exact HBV.out | exact below_drew HBV.out | exact pw_below_drewN HBV.out _) (by have := HBV.out.size; simp; omega) hb6); have hb6' := (hb6.block w.heap.size (f_lt HB5.out)).trans HB5.out; obtain ⟨z0, z1, z2, z3⟩ := f_four hb6'; have HBU := Go.Lib.hid hbw; have HB6 := Go.Lib.hid hb6'; clear hb6 hbw hb6') | (go_at_call 15; (with_reducible refine (HJ.out _ ?qb).mono ?_); (case qb => first | exact HBU.out | exact below_drew HBU.out | exact pw_below_drewN HBU.out _); rintro e w7 ⟨rfl, hb7⟩; have hbw := (show Below w.heap.size w w7 from below_then (by first | exact HBU.out | exact below_drew HBU.out | exact pw_below_drewN HBU.out _) (by have := HBU.out.size; simp; omega) hb7); have HBT := Go.Lib.hid hbw; obtain ⟨u0, u1, u2, u3⟩ := f_four ((hb7.block w.heap.size (f_lt HB6.out)).trans HB6.out); clear hb7 hbw))
  all_goals go_wp2
  all_goals go_ret
  all_goals exact ⟨rfl, HBT.out⟩
set_option maxRecDepth 100000 in
set_option maxHeartbeats 4000000 in
theorem ask_yes2 (k : Nat) (need n d : Int) (s : ByteArray) (hs : s.size ≤ 100) (hneed : 0 ≤ need ∧ need ≤ 999) (w : World) (h : impl_AskOk.f k 2 need n d = some true) (hf : impl_FracText.f k n d = some s) (hE : Env w) :
    Calls Tryd.prog 18 #[.agg #[.int .i64 2, .int .i64 need, .int .i64 n, .int .i64 d]] w fun e w' => e = .returned (.string (askTxt 2 need s)) ∧ Below w.heap.size w w' := by
  have hb0 : Below w.heap.size w (w.alloc (.cells #[.int .i64 2, .int .i64 need, .int .i64 n, .int .i64 d] 32)) := (Below.refl _ w).alloc (Nat.le_refl _) _
  have hbx : (w.alloc (.cells #[.int .i64 2, .int .i64 need, .int .i64 n, .int .i64 d] 32)).heap[w.heap.size]? = some (.cells #[.int .i64 2, .int .i64 need, .int .i64 n, .int .i64 d] 32 (0, 0)) := f_new w _
  have hN := itoa_short need (by omega) (by omega)
  have hK := kindNames_calls
  have hI := fun (W : World) (h : Below w.heap.size w W) => itoa_calls need (by omega) (by omega) W (Env.below hE h)
  have hJ := fun (W : World) (h : Below w.heap.size w W) => impl_FracText.calls k n d s W hf (Env.below hE h)
  have eA : askTxt 2 need s = (((⟨#[112, 105, 99, 107]⟩ ++ ⟨#[32]⟩) ++ ⟨(Lib.itoa need).toArray⟩) ++ ⟨#[32]⟩) ++ s := rfl
  rw [eA]
  have sN : (⟨(Lib.itoa need).toArray⟩ : ByteArray).size ≤ 5 := by simpa [ByteArray.size] using hN
  generalize (⟨(Lib.itoa need).toArray⟩ : ByteArray) = ti at *
  have sW : (⟨#[112, 105, 99, 107]⟩ : ByteArray).size ≤ 4 := by decide
  generalize (⟨#[98, 105, 116]⟩ : ByteArray) = tb at *
  generalize (⟨#[112, 105, 99, 107]⟩ : ByteArray) = tp at *
  generalize (⟨#[110, 117, 109]⟩ : ByteArray) = tm at *
  have g1 : (9223372036854775807 < tp.size + 1) = False := eq_false (by omega)
  have g2 : (9223372036854775807 < tp.size + 1 + ti.size) = False := eq_false (by omega)
  have g3 : (9223372036854775807 < tp.size + 1 + ti.size + 1) = False := eq_false (by omega)
  have g4 : (9223372036854775807 < tp.size + 1 + ti.size + 1 + s.size) = False := eq_false (by omega)
  have hix : ∀ W : World, (Instr.index 53 (.agg #[.string ⟨#[]⟩, .string tb, .string tp, .string tm]) (.int .i64 2)).run Tryd.prog W = .ok (.string tp) W := fun W => run_index_row Tryd.underlying53 info9q Tryd.underlying9 rfl #[.string ⟨#[]⟩, .string tb, .string tp, .string tm] 2 (by decide) _ rfl W
  have HI := Go.Lib.hid hI
  have HJ := Go.Lib.hid hJ
  have HK := Go.Lib.hid hK
  have HB0 := Go.Lib.hid hb0
  have HBX := Go.Lib.hid hbx
  have HH := Go.Lib.hid h
  clear hE hb0 hI hJ hK hN sN sW hbx h hf eA hneed hs
  go_enter Tryd.func18, Tryd.ntmps18
  go_wp2_with (go_at_call 28; refine (impl_AskOk.calls k 2 need n d true _ HH.out).mono ?_; rintro e w4 ⟨rfl, hb4⟩; have hbw := (show Below w.heap.size w w4 from below_then HB0.out (by simp) hb4); have hb4' := (hb4.block w.heap.size (f_lt HBX.out)).trans HBX.out; obtain ⟨x0, x1, x2, x3⟩ := f_four hb4'; have HBW := Go.Lib.hid hbw; have HB4 := Go.Lib.hid hb4'; clear hb4 hbw hb4')
  go_region_held3 (fun w' => w'.cell? ⟨w.heap.size, 0, none⟩ = some (.int .i64 2) ∧ w'.cell? ⟨w.heap.size, 1, none⟩ = some (.int .i64 need) ∧ w'.cell? ⟨w.heap.size, 2, none⟩ = some (.int .i64 n) ∧ w'.cell? ⟨w.heap.size, 3, none⟩ = some (.int .i64 d)) (first | (refine ⟨?_, ?_, ?_, ?_⟩ <;> assumption) | go_keep) (first | (go_at_call 37; (with_reducible refine (HK.out _).mono ?_); rintro e w5 ⟨rfl, hb5⟩; have hbw := (show Below w.heap.size w w5 from below_then (by first | exact HBW.out | exact below_drew HBW.out | exact pw_below_drewN HBW.out _) (by have := HBW.out.size; simp; omega) hb5); have hb5' := (hb5.block w.heap.size (f_lt HB4.out)).trans HB4.out; obtain ⟨y0, y1, y2, y3⟩ := f_four hb5'; have HBV := Go.Lib.hid hbw; have HB5 := Go.Lib.hid hb5'; clear hb5 hbw hb5') | (go_at_call 38; (with_reducible refine (HI.out _ ?qb).mono ?_); (case qb => first | exact HBV.out | exact below_drew HBV.out | exact pw_below_drewN HBV.out _); rintro e w6 ⟨rfl, hb6⟩; have hbw := (show Below w.heap.size w w6 from below_then (by first | exact HBV.out | exact below_drew HBV.out | exact pw_below_drewN HBV.out _) (by have := HBV.out.size; simp; omega) hb6); have hb6' := (hb6.block w.heap.size (f_lt HB5.out)).trans HB5.out; obtain ⟨z0, z1, z2, z3⟩ := f_four hb6'; have HBU := Go.Lib.hid hbw; have HB6 := Go.Lib.hid hb6'; clear hb6 hbw hb6') | (go_at_call 15; (with_reducible refine (HJ.out _ ?qb).mono ?_); (case qb => first | exact HBU.out | exact below_drew HBU.out | exact pw_below_drewN HBU.out _); rintro e w7 ⟨rfl, hb7⟩; have hbw := (show Below w.heap.size w w7 from below_then (by first | exact HBU.out | exact below_drew HBU.out | exact pw_below_drewN HBU.out _) (by have := HBU.out.size; simp; omega) hb7); have HBT := Go.Lib.hid hbw; obtain ⟨u0, u1, u2, u3⟩ := f_four ((hb7.block w.heap.size (f_lt HB6.out)).trans HB6.out); clear hb7 hbw))
  all_goals go_wp2
  all_goals go_ret
  all_goals exact ⟨rfl, HBT.out⟩
set_option maxRecDepth 100000 in
set_option maxHeartbeats 4000000 in
theorem ask_yes3 (k : Nat) (need n d : Int) (s : ByteArray) (hs : s.size ≤ 100) (hneed : 0 ≤ need ∧ need ≤ 999) (w : World) (h : impl_AskOk.f k 3 need n d = some true) (hf : impl_FracText.f k n d = some s) (hE : Env w) :
    Calls Tryd.prog 18 #[.agg #[.int .i64 3, .int .i64 need, .int .i64 n, .int .i64 d]] w fun e w' => e = .returned (.string (askTxt 3 need s)) ∧ Below w.heap.size w w' := by
  have hb0 : Below w.heap.size w (w.alloc (.cells #[.int .i64 3, .int .i64 need, .int .i64 n, .int .i64 d] 32)) := (Below.refl _ w).alloc (Nat.le_refl _) _
  have hbx : (w.alloc (.cells #[.int .i64 3, .int .i64 need, .int .i64 n, .int .i64 d] 32)).heap[w.heap.size]? = some (.cells #[.int .i64 3, .int .i64 need, .int .i64 n, .int .i64 d] 32 (0, 0)) := f_new w _
  have hN := itoa_short need (by omega) (by omega)
  have hK := kindNames_calls
  have hI := fun (W : World) (h : Below w.heap.size w W) => itoa_calls need (by omega) (by omega) W (Env.below hE h)
  have hJ := fun (W : World) (h : Below w.heap.size w W) => impl_FracText.calls k n d s W hf (Env.below hE h)
  have eA : askTxt 3 need s = (((⟨#[110, 117, 109]⟩ ++ ⟨#[32]⟩) ++ ⟨(Lib.itoa need).toArray⟩) ++ ⟨#[32]⟩) ++ s := rfl
  rw [eA]
  have sN : (⟨(Lib.itoa need).toArray⟩ : ByteArray).size ≤ 5 := by simpa [ByteArray.size] using hN
  generalize (⟨(Lib.itoa need).toArray⟩ : ByteArray) = ti at *
  have sW : (⟨#[110, 117, 109]⟩ : ByteArray).size ≤ 4 := by decide
  generalize (⟨#[98, 105, 116]⟩ : ByteArray) = tb at *
  generalize (⟨#[112, 105, 99, 107]⟩ : ByteArray) = tp at *
  generalize (⟨#[110, 117, 109]⟩ : ByteArray) = tm at *
  have g1 : (9223372036854775807 < tm.size + 1) = False := eq_false (by omega)
  have g2 : (9223372036854775807 < tm.size + 1 + ti.size) = False := eq_false (by omega)
  have g3 : (9223372036854775807 < tm.size + 1 + ti.size + 1) = False := eq_false (by omega)
  have g4 : (9223372036854775807 < tm.size + 1 + ti.size + 1 + s.size) = False := eq_false (by omega)
  have hix : ∀ W : World, (Instr.index 53 (.agg #[.string ⟨#[]⟩, .string tb, .string tp, .string tm]) (.int .i64 3)).run Tryd.prog W = .ok (.string tm) W := fun W => run_index_row Tryd.underlying53 info9q Tryd.underlying9 rfl #[.string ⟨#[]⟩, .string tb, .string tp, .string tm] 3 (by decide) _ rfl W
  have HI := Go.Lib.hid hI
  have HJ := Go.Lib.hid hJ
  have HK := Go.Lib.hid hK
  have HB0 := Go.Lib.hid hb0
  have HBX := Go.Lib.hid hbx
  have HH := Go.Lib.hid h
  clear hE hb0 hI hJ hK hN sN sW hbx h hf eA hneed hs
  go_enter Tryd.func18, Tryd.ntmps18
  go_wp2_with (go_at_call 28; refine (impl_AskOk.calls k 3 need n d true _ HH.out).mono ?_; rintro e w4 ⟨rfl, hb4⟩; have hbw := (show Below w.heap.size w w4 from below_then HB0.out (by simp) hb4); have hb4' := (hb4.block w.heap.size (f_lt HBX.out)).trans HBX.out; obtain ⟨x0, x1, x2, x3⟩ := f_four hb4'; have HBW := Go.Lib.hid hbw; have HB4 := Go.Lib.hid hb4'; clear hb4 hbw hb4')
  go_region_held3 (fun w' => w'.cell? ⟨w.heap.size, 0, none⟩ = some (.int .i64 3) ∧ w'.cell? ⟨w.heap.size, 1, none⟩ = some (.int .i64 need) ∧ w'.cell? ⟨w.heap.size, 2, none⟩ = some (.int .i64 n) ∧ w'.cell? ⟨w.heap.size, 3, none⟩ = some (.int .i64 d)) (first | (refine ⟨?_, ?_, ?_, ?_⟩ <;> assumption) | go_keep) (first | (go_at_call 37; (with_reducible refine (HK.out _).mono ?_); rintro e w5 ⟨rfl, hb5⟩; have hbw := (show Below w.heap.size w w5 from below_then (by first | exact HBW.out | exact below_drew HBW.out | exact pw_below_drewN HBW.out _) (by have := HBW.out.size; simp; omega) hb5); have hb5' := (hb5.block w.heap.size (f_lt HB4.out)).trans HB4.out; obtain ⟨y0, y1, y2, y3⟩ := f_four hb5'; have HBV := Go.Lib.hid hbw; have HB5 := Go.Lib.hid hb5'; clear hb5 hbw hb5') | (go_at_call 38; (with_reducible refine (HI.out _ ?qb).mono ?_); (case qb => first | exact HBV.out | exact below_drew HBV.out | exact pw_below_drewN HBV.out _); rintro e w6 ⟨rfl, hb6⟩; have hbw := (show Below w.heap.size w w6 from below_then (by first | exact HBV.out | exact below_drew HBV.out | exact pw_below_drewN HBV.out _) (by have := HBV.out.size; simp; omega) hb6); have hb6' := (hb6.block w.heap.size (f_lt HB5.out)).trans HB5.out; obtain ⟨z0, z1, z2, z3⟩ := f_four hb6'; have HBU := Go.Lib.hid hbw; have HB6 := Go.Lib.hid hb6'; clear hb6 hbw hb6') | (go_at_call 15; (with_reducible refine (HJ.out _ ?qb).mono ?_); (case qb => first | exact HBU.out | exact below_drew HBU.out | exact pw_below_drewN HBU.out _); rintro e w7 ⟨rfl, hb7⟩; have hbw := (show Below w.heap.size w w7 from below_then (by first | exact HBU.out | exact below_drew HBU.out | exact pw_below_drewN HBU.out _) (by have := HBU.out.size; simp; omega) hb7); have HBT := Go.Lib.hid hbw; obtain ⟨u0, u1, u2, u3⟩ := f_four ((hb7.block w.heap.size (f_lt HB6.out)).trans HB6.out); clear hb7 hbw))
  all_goals go_wp2
  all_goals go_ret
  all_goals exact ⟨rfl, HBT.out⟩
def impl_AskText.f (k : Nat) (a0_0 a0_1 a0_2 a0_3 : Int) : Option ByteArray := (impl_AskOk.f k a0_0 a0_1 a0_2 a0_3).bind fun t => if t = true then ((impl_FracText.f k a0_2 a0_3).bind fun s => if 1 ≤ a0_0 ∧ a0_0 ≤ 3 ∧ 0 ≤ a0_1 ∧ a0_1 ≤ 999 ∧ s.size ≤ 100 then some (askTxt a0_0 a0_1 s) else none) else some ⟨#[]⟩
theorem impl_AskText.mono : ∀ a0 a1 a2 a3 k, LeO (impl_AskText.f k a0 a1 a2 a3) (impl_AskText.f (k + 1) a0 a1 a2 a3) := by
  intro a0 a1 a2 a3 k
  unfold impl_AskText.f
  exact LeO.bind (impl_AskOk.mono _ _ _ _ _) (fun t => LeO.ite (LeO.bind (impl_FracText.mono _ _ _) (fun _ => LeO.refl _)) (LeO.refl _))
theorem impl_AskText.calls (k : Nat) (a0_0 : Int) (a0_1 : Int) (a0_2 : Int) (a0_3 : Int) (r : ByteArray) (w : World) (h : impl_AskText.f k a0_0 a0_1 a0_2 a0_3 = some r) (hE : Env w) :
    Calls Tryd.prog 18 #[.agg #[.int .i64 a0_0, .int .i64 a0_1, .int .i64 a0_2, .int .i64 a0_3]] w fun e w' => e = .returned (.string r) ∧ Below w.heap.size w w' := by
  unfold impl_AskText.f at h
  obtain ⟨t, ht, h⟩ := Option.bind_eq_some_iff.1 h
  cases t
  · obtain rfl : (⟨#[]⟩ : ByteArray) = r := by simpa using h
    exact ask_no k a0_0 a0_1 a0_2 a0_3 w ht
  · rw [if_pos rfl] at h
    obtain ⟨s, hs, h⟩ := Option.bind_eq_some_iff.1 h
    split at h
    · rename_i hb
      obtain rfl := Option.some.inj h
      have h3 : a0_0 = 1 ∨ a0_0 = 2 ∨ a0_0 = 3 := by omega
      rcases h3 with rfl | rfl | rfl
      · exact ask_yes1 k a0_1 a0_2 a0_3 s hb.2.2.2.2 ⟨hb.2.2.1, hb.2.2.2.1⟩ w ht hs hE
      · exact ask_yes2 k a0_1 a0_2 a0_3 s hb.2.2.2.2 ⟨hb.2.2.1, hb.2.2.2.1⟩ w ht hs hE
      · exact ask_yes3 k a0_1 a0_2 a0_3 s hb.2.2.2.2 ⟨hb.2.2.1, hb.2.2.2.1⟩ w ht hs hE
    · cases h

/-! ### impl_FracRead: function 22 -/
-- The numbers of functions and types are those of the seat of the texts.
/-- What stands before the first '/', and what behind it. -/
def cutA (s : ByteArray) : ByteArray := ⟨(Lib.cut s.data.toList [47]).1.toArray⟩
def cutB (s : ByteArray) : ByteArray := ⟨(Lib.cut s.data.toList [47]).2.1.toArray⟩
def cutC (s : ByteArray) : Bool := (Lib.cut s.data.toList [47]).2.2
theorem cutS_calls (s : ByteArray) (hs : s.size ≤ 4294967280) (w : World) (hE : Env w) :
    Calls Tryd.prog 44 #[.string s, .string ⟨#[47]⟩] w fun e w' => e = .returned (.tuple #[.string (cutA s), .string (cutB s), .bool (cutC s)]) ∧ Below w.heap.size w w' := cut_calls s ⟨#[47]⟩ hs w hE
theorem cut_sizes (s : ByteArray) : (cutA s).size ≤ s.size ∧ (cutB s).size ≤ s.size := by
  have e : s.size = s.data.toList.length := rfl
  have e1 : (cutA s).size = (Lib.cut s.data.toList [47]).1.length := by simp [cutA, ByteArray.size]
  have e2 : (cutB s).size = (Lib.cut s.data.toList [47]).2.1.length := by simp [cutB, ByteArray.size]
  rw [e1, e2, e]
  unfold Lib.cut
  split
  · simp only [List.length_take, List.length_drop]
    omega
  · simp
/-- The box of the result, then (from some call on) the box of the fraction. -/
structure RBox (w : World) (W : World) : Prop where
  b : W.heap[w.heap.size]? = some (.cells #[.int .i64 0, .int .i64 0] 25 (0, 0))
  bel : Below w.heap.size w W
theorem RBox.step {w W W' : World} (h : RBox w W) (hb : Below W.heap.size W W') : RBox w W' := ⟨(hb.block _ (f_lt h.b)).trans h.b, h.bel.trans (hb.mono h.bel.size)⟩
theorem RBox.start (w : World) : RBox w (w.alloc (.cells #[.int .i64 0, .int .i64 0] 25)) := ⟨f_new w _, (Below.refl _ w).alloc (Nat.le_refl _) _⟩
structure RBox2 (w : World) (p : Nat) (n d : Int) (W : World) : Prop where
  b : W.heap[w.heap.size]? = some (.cells #[.int .i64 0, .int .i64 0] 25 (0, 0))
  f : W.heap[p]? = some (.cells #[.int .i64 n, .int .i64 d] 25 (0, 0))
  ne : w.heap.size < p
  bel : Below w.heap.size w W
theorem RBox2.step {w W W' : World} {p : Nat} {n d : Int} (h : RBox2 w p n d W) (hb : Below W.heap.size W W') : RBox2 w p n d W' := ⟨(hb.block _ (f_lt h.b)).trans h.b, (hb.block _ (f_lt h.f)).trans h.f, h.ne, h.bel.trans (hb.mono h.bel.size)⟩
theorem RBox.push {w W : World} (h : RBox w W) (n d : Int) : RBox2 w W.heap.size n d (W.alloc (.cells #[.int .i64 n, .int .i64 d] 25)) :=
  ⟨(h.step ((Below.refl _ W).alloc (Nat.le_refl _) _)).b, f_new W _, f_lt h.b, (h.step ((Below.refl _ W).alloc (Nat.le_refl _) _)).bel⟩
theorem fr_frozen {w : World} {b : Nat} {cs : Array Value} {T : TypeId} (hb : w.heap[b]? = some (.cells cs T (0, 0))) (j : Nat) : w.frozen? ⟨b, j, none⟩ = false := by simp [World.frozen?, hb]
theorem fr_put {W : World} {b : Nat} {T : TypeId} {x y : Value} (h : W.heap[b]? = some (.cells #[x, y] T (0, 0))) (u v : Value) : ((W.setCell ⟨b, 0, none⟩ u).setCell ⟨b, 1, none⟩ v).heap[b]? = some (.cells #[u, v] T (0, 0)) := by
  refine blk_put (cs := #[u, y]) ?_ 1 _ rfl
  exact blk_put (cs := #[x, y]) h 0 _ rfl
theorem fr_below {W W' : World} {m b : Nat} (h : Below m W W') (hb : m ≤ b) (u v : Value) : Below m W ((W'.setCell ⟨b, 0, none⟩ u).setCell ⟨b, 1, none⟩ v) := (h.setCell (p := ⟨b, 0, none⟩) hb u).setCell (p := ⟨b, 1, none⟩) hb v
theorem RBox.cells {w W : World} (h : RBox w W) : (∀ o, (W.alloc o).cell? ⟨w.heap.size, 0, none⟩ = some (.int .i64 0)) ∧ (∀ o, (W.alloc o).cell? ⟨w.heap.size, 1, none⟩ = some (.int .i64 0)) ∧ (∀ o, (W.alloc o).frozen? ⟨w.heap.size, 0, none⟩ = false) ∧ (∀ o, (W.alloc o).frozen? ⟨w.heap.size, 1, none⟩ = false) :=
  have k := fun o => (h.step ((Below.refl _ W).alloc (Nat.le_refl _) o)).b
  ⟨fun o => f_cell (k o) 0, fun o => f_cell (k o) 1, fun o => fr_frozen (k o) 0, fun o => fr_frozen (k o) 1⟩
theorem RBox2.cells {w W : World} {p : Nat} {n d : Int} (h : RBox2 w p n d W) : W.cell? ⟨w.heap.size, 0, none⟩ = some (.int .i64 0) ∧ W.cell? ⟨w.heap.size, 1, none⟩ = some (.int .i64 0) ∧ W.frozen? ⟨w.heap.size, 0, none⟩ = false ∧ W.frozen? ⟨w.heap.size, 1, none⟩ = false ∧ W.cell? ⟨p, 0, none⟩ = some (.int .i64 n) ∧ W.cell? ⟨p, 1, none⟩ = some (.int .i64 d) :=
  ⟨f_cell h.b 0, f_cell h.b 1, fr_frozen h.b 0, fr_frozen h.b 1, f_cell h.f 0, f_cell h.f 1⟩
theorem atoi_any (s : ByteArray) (hs : s.size ≤ 4294967280) (w : World) (hE : Env w) :
    Calls Tryd.prog 45 #[.string s] w fun e w' => ∃ v E, e = .returned (.tuple #[.int .i64 v, E]) ∧ Below w.heap.size w w' := by
  by_cases h : ∃ v, Lib.atoiAll s.data.toList = .ok v
  · obtain ⟨v, h⟩ := h
    refine (atoi_yes s hs v h w).mono ?_
    rintro e w' ⟨rfl, hb⟩
    exact ⟨v, _, rfl, hb⟩
  · refine (atoi_no s hs (fun v e => h ⟨v, e⟩) w hE).mono ?_
    rintro e w' ⟨v, N, rfl, hb⟩
    exact ⟨v, _, rfl, hb⟩
set_option maxHeartbeats 4000000 in
theorem fracRead_no1 (s : ByteArray) (hs : s.size ≤ 4294967280) (h1 : ∀ v, Lib.atoiAll (cutA s).data.toList ≠ .ok v) (w : World) (hE : Env w) :
    Calls Tryd.prog 22 #[.string s] w fun e w' => e = .returned (.tuple #[.agg #[.int .i64 0, .int .i64 0], .bool false]) ∧ Below w.heap.size w w' := by
  have HB := Go.Lib.hid (RBox.start w)
  have HC := Go.Lib.hid (fun W (h : RBox w W) => cutS_calls s hs W (Env.below hE h.bel))
  have HA := Go.Lib.hid (fun W (h : RBox w W) => atoi_no (cutA s) (by have := cut_sizes s; omega) h1 W (Env.below hE h.bel))
  have HD := Go.Lib.hid (fun W (h : RBox w W) => atoi_any (cutB s) (by have := cut_sizes s; omega) W (Env.below hE h.bel))
  clear hE hs h1
  go_enter Tryd.func22, Tryd.ntmps22
  go_wp2_with (first | (go_at_call 44; ((with_reducible refine (HC.out _ ?qb).mono ?_); (case qb => exact HB.out); rintro e w1 ⟨rfl, hb1⟩; have HB1 := Go.Lib.hid (HB.out.step hb1); clear hb1)) | (go_at_call 45; ((with_reducible refine (HD.out _ ?qb).mono ?_); (case qb => exact HB2.out); rintro e wHB3 ⟨q, Eq, rfl, hb1⟩; have HB3 := Go.Lib.hid (HB2.out.step hb1); obtain ⟨x0, x1, x2, x3⟩ := HB3.out.cells; clear hb1)) | (go_at_call 45; ((with_reducible refine (HA.out _ ?qb).mono ?_); (case qb => exact HB1.out); rintro e wHB2 ⟨p, Np, rfl, hb1⟩; have HB2 := Go.Lib.hid (HB1.out.step hb1); clear hb1)))
  refine bodyPost_ret (results_ct rfl _ _ w.heap.size 25 #[.int .i64 0, .int .i64 0] (0, 0) _ rfl (fr_put (HB3.out.step ((Below.refl _ _).alloc (Nat.le_refl _) _)).b _ _) Tryd.underlying25 rfl (by kernel_rfl)) rfl ?_
  exact ⟨rfl, fr_below (HB3.out.step ((Below.refl _ _).alloc (Nat.le_refl _) _)).bel (Nat.le_refl _) _ _⟩
set_option maxHeartbeats 4000000 in
theorem fracRead_no2 (s : ByteArray) (hs : s.size ≤ 4294967280) (n : Int) (h1 : Lib.atoiAll (cutA s).data.toList = .ok n) (h2 : ∀ v, Lib.atoiAll (cutB s).data.toList ≠ .ok v) (w : World) (hE : Env w) :
    Calls Tryd.prog 22 #[.string s] w fun e w' => e = .returned (.tuple #[.agg #[.int .i64 0, .int .i64 0], .bool false]) ∧ Below w.heap.size w w' := by
  have HB := Go.Lib.hid (RBox.start w)
  have HC := Go.Lib.hid (fun W (h : RBox w W) => cutS_calls s hs W (Env.below hE h.bel))
  have HA := Go.Lib.hid (fun W (h : RBox w W) => atoi_yes (cutA s) (by have := cut_sizes s; omega) n h1 W)
  have HD := Go.Lib.hid (fun W (h : RBox w W) => atoi_no (cutB s) (by have := cut_sizes s; omega) h2 W (Env.below hE h.bel))
  clear hE hs h1 h2
  go_enter Tryd.func22, Tryd.ntmps22
  go_wp2_with (first | (go_at_call 44; ((with_reducible refine (HC.out _ ?qb).mono ?_); (case qb => exact HB.out); rintro e w1 ⟨rfl, hb1⟩; have HB1 := Go.Lib.hid (HB.out.step hb1); clear hb1)) | (go_at_call 45; ((with_reducible refine (HD.out _ ?qb).mono ?_); (case qb => exact HB2.out); rintro e wHB3 ⟨q, Nq, rfl, hb1⟩; have HB3 := Go.Lib.hid (HB2.out.step hb1); obtain ⟨x0, x1, x2, x3⟩ := HB3.out.cells; clear hb1)) | (go_at_call 45; ((with_reducible refine (HA.out _ ?qb).mono ?_); (case qb => exact HB1.out); rintro e wHB2 ⟨rfl, hb1⟩; have HB2 := Go.Lib.hid (HB1.out.step hb1); clear hb1)))
  refine bodyPost_ret (results_ct rfl _ _ w.heap.size 25 #[.int .i64 0, .int .i64 0] (0, 0) _ rfl (fr_put (HB3.out.step ((Below.refl _ _).alloc (Nat.le_refl _) _)).b _ _) Tryd.underlying25 rfl (by kernel_rfl)) rfl ?_
  exact ⟨rfl, fr_below (HB3.out.step ((Below.refl _ _).alloc (Nat.le_refl _) _)).bel (Nat.le_refl _) _ _⟩
set_option maxHeartbeats 4000000 in
theorem fracRead_no3 (s : ByteArray) (hs : s.size ≤ 4294967280) (k : Nat) (n d : Int) (h1 : Lib.atoiAll (cutA s).data.toList = .ok n) (h2 : Lib.atoiAll (cutB s).data.toList = .ok d) (hok : impl_FracOk.f k n d = some false) (w : World) (hE : Env w) :
    Calls Tryd.prog 22 #[.string s] w fun e w' => e = .returned (.tuple #[.agg #[.int .i64 0, .int .i64 0], .bool false]) ∧ Below w.heap.size w w' := by
  have HB := Go.Lib.hid (RBox.start w)
  have HC := Go.Lib.hid (fun W (h : RBox w W) => cutS_calls s hs W (Env.below hE h.bel))
  have HA := Go.Lib.hid (fun W (h : RBox w W) => atoi_yes (cutA s) (by have := cut_sizes s; omega) n h1 W)
  have HD := Go.Lib.hid (fun W (h : RBox w W) => atoi_yes (cutB s) (by have := cut_sizes s; omega) d h2 W)
  have HO := Go.Lib.hid hok
  clear hE hs h1 h2 hok
  go_enter Tryd.func22, Tryd.ntmps22
  go_wp2_with (first | (go_at_call 44; ((with_reducible refine (HC.out _ ?qb).mono ?_); (case qb => exact HB.out); rintro e w1 ⟨rfl, hb1⟩; have HB1 := Go.Lib.hid (HB.out.step hb1); clear hb1)) | (go_at_call 45; ((with_reducible refine (HD.out _ ?qb).mono ?_); (case qb => exact HB2.out); rintro e wHB3 ⟨rfl, hb1⟩; have HB3 := Go.Lib.hid (HB2.out.step hb1); have HP := Go.Lib.hid (HB3.out.push n d); clear hb1)) | (go_at_call 45; ((with_reducible refine (HA.out _ ?qb).mono ?_); (case qb => exact HB1.out); rintro e wHB2 ⟨rfl, hb1⟩; have HB2 := Go.Lib.hid (HB1.out.step hb1); clear hb1)) | (go_at_call 25; (refine (impl_FracOk.calls k n d false _ HO.out).mono ?_; rintro e w4 ⟨rfl, hb4⟩; have HP4 := Go.Lib.hid (HP.out.step hb4); obtain ⟨x0, x1, x2, x3, x4, x5⟩ := HP4.out.cells; clear hb4)))
  refine bodyPost_ret (results_ct rfl _ _ w.heap.size 25 #[.int .i64 0, .int .i64 0] (0, 0) _ rfl (fr_put HP4.out.b _ _) Tryd.underlying25 rfl (by kernel_rfl)) rfl ?_
  exact ⟨rfl, fr_below HP4.out.bel (Nat.le_refl _) _ _⟩
set_option maxHeartbeats 4000000 in
theorem fracRead_no4 (s : ByteArray) (hs : s.size ≤ 4294967280) (k : Nat) (n d : Int) (h1 : Lib.atoiAll (cutA s).data.toList = .ok n) (h2 : Lib.atoiAll (cutB s).data.toList = .ok d) (hok : impl_FracOk.f k n d = some true) (hn : 0 ≤ n ∧ n ≤ 999) (hd : 0 ≤ d ∧ d ≤ 999) (ht : ¬ (fracTxt n d).toList = s.toList) (w : World) (hE : Env w) :
    Calls Tryd.prog 22 #[.string s] w fun e w' => e = .returned (.tuple #[.agg #[.int .i64 0, .int .i64 0], .bool false]) ∧ Below w.heap.size w w' := by
  have HB := Go.Lib.hid (RBox.start w)
  have HC := Go.Lib.hid (fun W (h : RBox w W) => cutS_calls s hs W (Env.below hE h.bel))
  have HA := Go.Lib.hid (fun W (h : RBox w W) => atoi_yes (cutA s) (by have := cut_sizes s; omega) n h1 W)
  have HD := Go.Lib.hid (fun W (h : RBox w W) => atoi_yes (cutB s) (by have := cut_sizes s; omega) d h2 W)
  have HO := Go.Lib.hid hok
  have HT := Go.Lib.hid (fun W (h : Below w.heap.size w W) => text_calls n d hn hd W (Env.below hE h))
  clear hE hs h1 h2 hok hn hd
  go_enter Tryd.func22, Tryd.ntmps22
  go_wp2_with (first | (go_at_call 44; ((with_reducible refine (HC.out _ ?qb).mono ?_); (case qb => exact HB.out); rintro e w1 ⟨rfl, hb1⟩; have HB1 := Go.Lib.hid (HB.out.step hb1); clear hb1)) | (go_at_call 45; ((with_reducible refine (HD.out _ ?qb).mono ?_); (case qb => exact HB2.out); rintro e wHB3 ⟨rfl, hb1⟩; have HB3 := Go.Lib.hid (HB2.out.step hb1); have HP := Go.Lib.hid (HB3.out.push n d); clear hb1)) | (go_at_call 45; ((with_reducible refine (HA.out _ ?qb).mono ?_); (case qb => exact HB1.out); rintro e wHB2 ⟨rfl, hb1⟩; have HB2 := Go.Lib.hid (HB1.out.step hb1); clear hb1)) | (go_at_call 25; (refine (impl_FracOk.calls k n d true _ HO.out).mono ?_; rintro e w4 ⟨rfl, hb4⟩; have HP4 := Go.Lib.hid (HP.out.step hb4); obtain ⟨x0, x1, x2, x3, x4, x5⟩ := HP4.out.cells; clear hb4)) | (go_at_call 34; ((with_reducible refine (HT.out _ ?qb).mono ?_); (case qb => exact HP4.out.bel); rintro e w5 ⟨rfl, hb5⟩; have HP5 := Go.Lib.hid (HP4.out.step hb5); clear x0 x1 x2 x3 x4 x5; obtain ⟨x0, x1, x2, x3, x4, x5⟩ := HP5.out.cells; clear hb5)))
  all_goals first | (rename_i hh; exact absurd (by simpa using hh) ht) | (refine bodyPost_ret (results_ct rfl _ _ w.heap.size 25 #[.int .i64 0, .int .i64 0] (0, 0) _ rfl (fr_put HP5.out.b _ _) Tryd.underlying25 rfl (by kernel_rfl)) rfl ?_; exact ⟨rfl, fr_below HP5.out.bel (Nat.le_refl _) _ _⟩)
set_option maxHeartbeats 4000000 in
theorem fracRead_yes (s : ByteArray) (hs : s.size ≤ 4294967280) (k : Nat) (n d : Int) (h1 : Lib.atoiAll (cutA s).data.toList = .ok n) (h2 : Lib.atoiAll (cutB s).data.toList = .ok d) (hok : impl_FracOk.f k n d = some true) (hn : 0 ≤ n ∧ n ≤ 999) (hd : 0 ≤ d ∧ d ≤ 999) (ht : (fracTxt n d).toList = s.toList) (w : World) (hE : Env w) :
    Calls Tryd.prog 22 #[.string s] w fun e w' => e = .returned (.tuple #[.agg #[.int .i64 n, .int .i64 d], .bool true]) ∧ Below w.heap.size w w' := by
  have HB := Go.Lib.hid (RBox.start w)
  have HC := Go.Lib.hid (fun W (h : RBox w W) => cutS_calls s hs W (Env.below hE h.bel))
  have HA := Go.Lib.hid (fun W (h : RBox w W) => atoi_yes (cutA s) (by have := cut_sizes s; omega) n h1 W)
  have HD := Go.Lib.hid (fun W (h : RBox w W) => atoi_yes (cutB s) (by have := cut_sizes s; omega) d h2 W)
  have HO := Go.Lib.hid hok
  have HT := Go.Lib.hid (fun W (h : Below w.heap.size w W) => text_calls n d hn hd W (Env.below hE h))
  clear hE hs h1 h2 hok hn hd
  go_enter Tryd.func22, Tryd.ntmps22
  go_wp2_with (first | (go_at_call 44; ((with_reducible refine (HC.out _ ?qb).mono ?_); (case qb => exact HB.out); rintro e w1 ⟨rfl, hb1⟩; have HB1 := Go.Lib.hid (HB.out.step hb1); clear hb1)) | (go_at_call 45; ((with_reducible refine (HD.out _ ?qb).mono ?_); (case qb => exact HB2.out); rintro e wHB3 ⟨rfl, hb1⟩; have HB3 := Go.Lib.hid (HB2.out.step hb1); have HP := Go.Lib.hid (HB3.out.push n d); clear hb1)) | (go_at_call 45; ((with_reducible refine (HA.out _ ?qb).mono ?_); (case qb => exact HB1.out); rintro e wHB2 ⟨rfl, hb1⟩; have HB2 := Go.Lib.hid (HB1.out.step hb1); clear hb1)) | (go_at_call 25; (refine (impl_FracOk.calls k n d true _ HO.out).mono ?_; rintro e w4 ⟨rfl, hb4⟩; have HP4 := Go.Lib.hid (HP.out.step hb4); obtain ⟨x0, x1, x2, x3, x4, x5⟩ := HP4.out.cells; clear hb4)) | (go_at_call 34; ((with_reducible refine (HT.out _ ?qb).mono ?_); (case qb => exact HP4.out.bel); rintro e w5 ⟨rfl, hb5⟩; have HP5 := Go.Lib.hid (HP4.out.step hb5); clear x0 x1 x2 x3 x4 x5; obtain ⟨x0, x1, x2, x3, x4, x5⟩ := HP5.out.cells; clear hb5)))
  refine bodyPost_ret (results_ct rfl _ _ w.heap.size 25 #[.int .i64 n, .int .i64 d] (0, 0) _ rfl (fr_put HP5.out.b _ _) Tryd.underlying25 rfl (by kernel_rfl)) rfl ?_
  exact ⟨rfl, fr_below HP5.out.bel (Nat.le_refl _) _ _⟩
theorem fracRead_calls (k : Nat) (s : ByteArray) (n d : Int) (o : Bool) (hs : s.size ≤ 4294967280) (h1 : Lib.atoiAll (cutA s).data.toList = .ok n) (h2 : Lib.atoiAll (cutB s).data.toList = .ok d) (hok : impl_FracOk.f k n d = some o) (r1 r2 : Int) (r3 : Bool)
    (h : (if o = true then (if 0 ≤ n ∧ n ≤ 999 ∧ 0 ≤ d ∧ d ≤ 999 then (if (fracTxt n d).toList = s.toList then some (n, d, true) else some (0, 0, false)) else none) else some (0, 0, false)) = some (r1, r2, r3)) (w : World) (hE : Env w) :
    Calls Tryd.prog 22 #[.string s] w fun e w' => e = .returned (.tuple #[.agg #[.int .i64 r1, .int .i64 r2], .bool r3]) ∧ Below w.heap.size w w' := by
  cases o
  · rw [if_neg (by decide)] at h
    have e := Option.some.inj h
    obtain ⟨rfl, rfl, rfl⟩ : 0 = r1 ∧ 0 = r2 ∧ false = r3 := by simpa using e
    exact fracRead_no3 s hs k n d h1 h2 hok w hE
  · rw [if_pos rfl] at h
    split at h
    · rename_i hb
      split at h
      · rename_i ht
        have e := Option.some.inj h
        obtain ⟨rfl, rfl, rfl⟩ : n = r1 ∧ d = r2 ∧ true = r3 := by simpa using e
        exact fracRead_yes s hs k n d h1 h2 hok ⟨hb.1, hb.2.1⟩ hb.2.2 ht w hE
      · rename_i ht
        have e := Option.some.inj h
        obtain ⟨rfl, rfl, rfl⟩ : 0 = r1 ∧ 0 = r2 ∧ false = r3 := by simpa using e
        exact fracRead_no4 s hs k n d h1 h2 hok ⟨hb.1, hb.2.1⟩ hb.2.2 ht w hE
    · cases h
def impl_FracRead.f (k : Nat) (a0 : ByteArray) : Option (Int × Int × Bool) := if a0.size ≤ 4294967280 then (match Lib.atoiAll (cutA a0).data.toList with
  | .ok n => (match Lib.atoiAll (cutB a0).data.toList with
    | .ok d => (impl_FracOk.f k n d).bind fun o => if o = true then (if 0 ≤ n ∧ n ≤ 999 ∧ 0 ≤ d ∧ d ≤ 999 then (if (fracTxt n d).toList = a0.toList then some (n, d, true) else some (0, 0, false)) else none) else some (0, 0, false)
    | _ => some (0, 0, false))
  | _ => some (0, 0, false)) else none
theorem impl_FracRead.mono : ∀ a0 k, LeO (impl_FracRead.f k a0) (impl_FracRead.f (k + 1) a0) := by
  intro a0 k
  unfold impl_FracRead.f
  split
  · split
    · split
      · exact LeO.bind (impl_FracOk.mono _ _ _) (fun t => LeO.refl _)
      · exact LeO.refl _
    · exact LeO.refl _
  · exact LeO.refl _
theorem impl_FracRead.calls (k : Nat) (a0 : ByteArray) (r1 : Int) (r2 : Int) (r3 : Bool) (w : World) (h : impl_FracRead.f k a0 = some (r1, r2, r3)) (hE : Env w) :
    Calls Tryd.prog 22 #[.string a0] w fun e w' => e = .returned (.tuple #[.agg #[.int .i64 r1, .int .i64 r2], .bool r3]) ∧ Below w.heap.size w w' := by
  unfold impl_FracRead.f at h
  split at h
  · rename_i hs
    split at h
    · rename_i n h1
      split at h
      · rename_i d h2
        obtain ⟨o, hok, h⟩ := Option.bind_eq_some_iff.1 h
        exact fracRead_calls k a0 n d o hs h1 h2 hok r1 r2 r3 h w hE
      · rename_i h2
        have e := Option.some.inj h
        obtain ⟨rfl, rfl, rfl⟩ : 0 = r1 ∧ 0 = r2 ∧ false = r3 := by simpa using e
        exact fracRead_no2 a0 hs n h1 (fun v e => h2 v e) w hE
    · rename_i h1
      have e := Option.some.inj h
      obtain ⟨rfl, rfl, rfl⟩ : 0 = r1 ∧ 0 = r2 ∧ false = r3 := by simpa using e
      exact fracRead_no1 a0 hs (fun v e => h1 v e) w hE
  · cases h

end Go.Proofs.YthcbichnjgkjiaaDoor.PFnAskStrict
