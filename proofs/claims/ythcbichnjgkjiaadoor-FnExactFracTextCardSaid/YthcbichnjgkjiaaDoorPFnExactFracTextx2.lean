-- Written by a program of this session over the kit's printer, with contracts proved by hand; Lean checks it.
import Derived.Test.YthcbichnjgkjiaaDoorPFnExactFracTextx0
import Derived.Test.YthcbichnjgkjiaaDoorPFnExactFracTextx1
namespace Go.Proofs.YthcbichnjgkjiaaDoor.PFnExactFracText
open Go.RowKit Go.Proofs.YthcbichnjgkjiaaDoorW.PrintWords Go.Proofs.YthcbichnjgkjiaaDoorW.PrintLast Go.Proofs.YthcbichnjgkjiaaDoorW.PrintMore
attribute [local go_sem] max2_int min2_int max_two min_two max_three min_three max_four min_four   -- for this text's walks alone
set_option linter.unusedVariables false
set_option linter.unusedSimpArgs false

/-! ### impl_FracOk: function 25 -/
def impl_FracOk.f (k : Nat) (a0_0 : Int) (a0_1 : Int) : Option (Bool) := (impl_within.f a0_0 0 999).bind fun t121 => (if t121 = true then ((impl_within.f a0_1 1 60).bind fun t122 => (if t122 = true then ((impl_divisor.f k a0_0 a0_1).bind fun t123 => (some (t123 == 1))) else (some false))) else (some false))
theorem impl_FracOk.mono : ∀ a0 a1 k, LeO (impl_FracOk.f k a0 a1) (impl_FracOk.f (k + 1) a0 a1) := by
  intro a0 a1 k
  unfold impl_FracOk.f
  repeat' first
      | (with_reducible exact impl_divisor.mono _ _ _)
      | (with_reducible exact LeO.refl _)
      | (with_reducible exact LeO.none _)
      | (with_reducible refine LeO.ite ?_ ?_)
      | (with_reducible refine LeO.bind ?_ (fun _ => ?_))
      | exact impl_divisor.mono _ _ _
      | exact LeO.none _
      | refine LeO.ite ?_ ?_
      | refine LeO.bind ?_ (fun _ => ?_)
set_option maxHeartbeats 8000000 in
set_option maxRecDepth 100000 in
theorem impl_FracOk.calls (k : Nat) (a0_0 : Int) (a0_1 : Int) (r : Bool) (w : World) (h : impl_FracOk.f k a0_0 a0_1 = some r) :
    Calls Tryd.prog 25 #[.agg #[.int .i64 a0_0, .int .i64 a0_1]] w fun e w' => e = .returned (.bool r) ∧ Below w.heap.size w w' := by
  have hu25 := Tryd.underlying25
  have HB := Aside0.mk (Below.refl w.heap.size w)
  have H : ((impl_within.f a0_0 0 999).bind fun t121 => (if t121 = true then ((impl_within.f a0_1 1 60).bind fun t122 => (if t122 = true then ((impl_divisor.f k a0_0 a0_1).bind fun t123 => (some (t123 == 1))) else (some false))) else (some false))) = some r := h
  clear h
  replace H := Option.bind_eq_some_iff.mp H
  obtain ⟨t121, A20, H⟩ := H
  replace H : (if t121 = true then ((impl_within.f a0_1 1 60).bind fun t122 => (if t122 = true then ((impl_divisor.f k a0_0 a0_1).bind fun t123 => (some (t123 == 1))) else (some false))) else (some false)) = some r := H
  have A2 := Aside0.mk A20
  clear A20
  by_cases c3 : t121 = true
  · subst c3
    have H1 : ((impl_within.f a0_1 1 60).bind fun t122 => (if t122 = true then ((impl_divisor.f k a0_0 a0_1).bind fun t123 => (some (t123 == 1))) else (some false))) = some r := by rw [if_pos rfl] at H; exact H
    clear H
    have H := H1
    clear H1
    replace H := Option.bind_eq_some_iff.mp H
    obtain ⟨t122, A40, H⟩ := H
    replace H : (if t122 = true then ((impl_divisor.f k a0_0 a0_1).bind fun t123 => (some (t123 == 1))) else (some false)) = some r := H
    have A4 := Aside0.mk A40
    clear A40
    by_cases c5 : t122 = true
    · subst c5
      have H1 : ((impl_divisor.f k a0_0 a0_1).bind fun t123 => (some (t123 == 1))) = some r := by rw [if_pos rfl] at H; exact H
      clear H
      have H := H1
      clear H1
      replace H := Option.bind_eq_some_iff.mp H
      obtain ⟨t123, A60, H⟩ := H
      replace H : (some (t123 == 1)) = some r := H
      have A6 := Aside0.mk A60
      clear A60
      obtain rfl := Option.some.inj H
      go_enter Tryd.func25, Tryd.ntmps25
      go_wp2_with (first | ((with_reducible refine gate_dst (N := 1) rfl ?_); refine box_event ?hg (N := 1) ?hd (cs := #[.int .i64 a0_0, .int .i64 a0_1]) (t := 25) ?hr ?_; (case hd => rfl); (case hg => rfl); (case hr => first | (go_simp; done) | (go_simp; rfl)); intro gb120 hg w7 hbox hb; have n0_ := Aside0.mk (below_step (by repeat (first | (with_reducible first | exact HB.out | apply below_alloc | apply pw_below_drewN | apply below_drew1) | exact HB.out)) hb); have n1_ := Aside0.mk (hbox); have n2_ := Aside0.mk ((by rw [hg]; exact (below_size (by repeat (first | (with_reducible first | exact HB.out | apply below_alloc | apply pw_below_drewN | apply below_drew1) | exact HB.out))) : w.heap.size ≤ gb120)); have n3_ := Aside0.mk ((by rw [hg]; exact (below_size (by repeat (first | (with_reducible first | exact HB.out | apply below_alloc | apply pw_below_drewN | apply below_drew1) | exact HB.out))) : w.heap.size ≤ gb120)); clear HB; have HB := n0_; have BK120 := n1_; have GW120 := n2_; have GE120 := n3_; clear n0_ n1_ n2_ n3_; clear hb hbox hg; have hcz8_0 : w7.cell? ⟨gb120, 0, none⟩ = some (.int .i64 a0_0) := (blk_cell BK120.out 0).trans rfl; have hcz8_1 : w7.cell? ⟨gb120, 1, none⟩ = some (.int .i64 a0_1) := (blk_cell BK120.out 1).trans rfl; have hfz8_0 := blk_frozen BK120.out 0; have hfz8_1 := blk_frozen BK120.out 1) | ((with_reducible refine gate_callee (f := 46) rfl ?_); refine goesL_ (some 5) rfl rfl Tryd.func46 (by kernel_rfl) rfl #[.int .i64 a0_0, .int .i64 0, .int .i64 999] rfl (by (try simp only [List.map_toArray, List.map_cons, List.map_nil]); first | done | rfl | (simp only [List.length_drop, List.length_take]; rfl)) ?_; (with_reducible refine (impl_within.calls a0_0 0 999 true _ A2.out).mono ?_); rintro e w' ⟨rfl, ⟨nd, rfl⟩⟩; refine ⟨_, rfl, ?_⟩) | (go_at_call 46; (with_reducible refine (impl_within.calls a0_1 1 60 true _ A4.out).mono ?_); rintro e w' ⟨rfl, ⟨nd, rfl⟩⟩) | (go_at_call 47; (with_reducible refine (impl_divisor.calls k a0_0 a0_1 t123 _ A6.out).mono ?_); rintro e w' ⟨rfl, ⟨nd, rfl⟩⟩))
      go_ret
      exact ⟨by first | rfl | (simp [errW_none, errW_some] <;> rfl) | (simp [*, errW_none, errW_some] <;> rfl), by repeat (first | (with_reducible first | exact HB.out | apply below_alloc | apply pw_below_drewN | apply below_drew1 | refine below_set ?_ GE120.out) | exact HB.out)⟩
    · replace c5 := Bool.eq_false_iff.mpr c5
      subst c5
      have H1 : (some false) = some r := by rw [if_neg (show ¬ (false = true) by decide)] at H; exact H
      clear H
      have H := H1
      clear H1
      obtain rfl := Option.some.inj H
      go_enter Tryd.func25, Tryd.ntmps25
      go_wp2_with (first | ((with_reducible refine gate_dst (N := 1) rfl ?_); refine box_event ?hg (N := 1) ?hd (cs := #[.int .i64 a0_0, .int .i64 a0_1]) (t := 25) ?hr ?_; (case hd => rfl); (case hg => rfl); (case hr => first | (go_simp; done) | (go_simp; rfl)); intro gb120 hg w9 hbox hb; have n0_ := Aside0.mk (below_step (by repeat (first | (with_reducible first | exact HB.out | apply below_alloc | apply pw_below_drewN | apply below_drew1) | exact HB.out)) hb); have n1_ := Aside0.mk (hbox); have n2_ := Aside0.mk ((by rw [hg]; exact (below_size (by repeat (first | (with_reducible first | exact HB.out | apply below_alloc | apply pw_below_drewN | apply below_drew1) | exact HB.out))) : w.heap.size ≤ gb120)); have n3_ := Aside0.mk ((by rw [hg]; exact (below_size (by repeat (first | (with_reducible first | exact HB.out | apply below_alloc | apply pw_below_drewN | apply below_drew1) | exact HB.out))) : w.heap.size ≤ gb120)); clear HB; have HB := n0_; have BK120 := n1_; have GW120 := n2_; have GE120 := n3_; clear n0_ n1_ n2_ n3_; clear hb hbox hg; have hcz10_0 : w9.cell? ⟨gb120, 0, none⟩ = some (.int .i64 a0_0) := (blk_cell BK120.out 0).trans rfl; have hcz10_1 : w9.cell? ⟨gb120, 1, none⟩ = some (.int .i64 a0_1) := (blk_cell BK120.out 1).trans rfl; have hfz10_0 := blk_frozen BK120.out 0; have hfz10_1 := blk_frozen BK120.out 1) | ((with_reducible refine gate_callee (f := 46) rfl ?_); refine goesL_ (some 5) rfl rfl Tryd.func46 (by kernel_rfl) rfl #[.int .i64 a0_0, .int .i64 0, .int .i64 999] rfl (by (try simp only [List.map_toArray, List.map_cons, List.map_nil]); first | done | rfl | (simp only [List.length_drop, List.length_take]; rfl)) ?_; (with_reducible refine (impl_within.calls a0_0 0 999 true _ A2.out).mono ?_); rintro e w' ⟨rfl, ⟨nd, rfl⟩⟩; refine ⟨_, rfl, ?_⟩) | (go_at_call 46; (with_reducible refine (impl_within.calls a0_1 1 60 false _ A4.out).mono ?_); rintro e w' ⟨rfl, ⟨nd, rfl⟩⟩))
      go_ret
      exact ⟨by first | rfl | (simp [errW_none, errW_some] <;> rfl) | (simp [*, errW_none, errW_some] <;> rfl), by repeat (first | (with_reducible first | exact HB.out | apply below_alloc | apply pw_below_drewN | apply below_drew1 | refine below_set ?_ GE120.out) | exact HB.out)⟩
  · replace c3 := Bool.eq_false_iff.mpr c3
    subst c3
    have H1 : (some false) = some r := by rw [if_neg (show ¬ (false = true) by decide)] at H; exact H
    clear H
    have H := H1
    clear H1
    obtain rfl := Option.some.inj H
    go_enter Tryd.func25, Tryd.ntmps25
    go_wp2_with (first | ((with_reducible refine gate_dst (N := 1) rfl ?_); refine box_event ?hg (N := 1) ?hd (cs := #[.int .i64 a0_0, .int .i64 a0_1]) (t := 25) ?hr ?_; (case hd => rfl); (case hg => rfl); (case hr => first | (go_simp; done) | (go_simp; rfl)); intro gb120 hg w11 hbox hb; have n0_ := Aside0.mk (below_step (by repeat (first | (with_reducible first | exact HB.out | apply below_alloc | apply pw_below_drewN | apply below_drew1) | exact HB.out)) hb); have n1_ := Aside0.mk (hbox); have n2_ := Aside0.mk ((by rw [hg]; exact (below_size (by repeat (first | (with_reducible first | exact HB.out | apply below_alloc | apply pw_below_drewN | apply below_drew1) | exact HB.out))) : w.heap.size ≤ gb120)); have n3_ := Aside0.mk ((by rw [hg]; exact (below_size (by repeat (first | (with_reducible first | exact HB.out | apply below_alloc | apply pw_below_drewN | apply below_drew1) | exact HB.out))) : w.heap.size ≤ gb120)); clear HB; have HB := n0_; have BK120 := n1_; have GW120 := n2_; have GE120 := n3_; clear n0_ n1_ n2_ n3_; clear hb hbox hg; have hcz12_0 : w11.cell? ⟨gb120, 0, none⟩ = some (.int .i64 a0_0) := (blk_cell BK120.out 0).trans rfl; have hcz12_1 : w11.cell? ⟨gb120, 1, none⟩ = some (.int .i64 a0_1) := (blk_cell BK120.out 1).trans rfl; have hfz12_0 := blk_frozen BK120.out 0; have hfz12_1 := blk_frozen BK120.out 1) | ((with_reducible refine gate_callee (f := 46) rfl ?_); refine goesL_ (some 5) rfl rfl Tryd.func46 (by kernel_rfl) rfl #[.int .i64 a0_0, .int .i64 0, .int .i64 999] rfl (by (try simp only [List.map_toArray, List.map_cons, List.map_nil]); first | done | rfl | (simp only [List.length_drop, List.length_take]; rfl)) ?_; (with_reducible refine (impl_within.calls a0_0 0 999 false _ A2.out).mono ?_); rintro e w' ⟨rfl, ⟨nd, rfl⟩⟩; refine ⟨_, rfl, ?_⟩))
    go_ret
    exact ⟨by first | rfl | (simp [errW_none, errW_some] <;> rfl) | (simp [*, errW_none, errW_some] <;> rfl), by repeat (first | (with_reducible first | exact HB.out | apply below_alloc | apply pw_below_drewN | apply below_drew1 | refine below_set ?_ GE120.out) | exact HB.out)⟩

/-! ### impl_FracText: function 15 -/
-- The numbers of functions and types are those of the seat of the texts.
def fracTxt (n d : Int) : ByteArray := ⟨(Lib.itoa n ++ 47 :: Lib.itoa d).toArray⟩
theorem f_cell {w : World} {b : Nat} {cs : Array Value} {T : TypeId} {fr : Nat × Nat} (hb : w.heap[b]? = some (.cells cs T fr)) (j : Nat) : w.cell? ⟨b, j, none⟩ = cs[j]? := by simp [World.cell?, hb]
theorem f_new (w : World) (A : Obj) : (w.alloc A).heap[w.heap.size]? = some A := by
  show (w.heap.push _)[w.heap.size]? = _
  rw [Array.getElem?_push, if_pos rfl]
theorem f_lt {w : World} {g : Nat} {o : Obj} (hg : w.heap[g]? = some o) : g < w.heap.size := (Array.getElem?_eq_some_iff.1 hg).1
theorem decDigits_short (u : Nat) (h : u ≤ 99999) : (Lib.decDigits u).length ≤ 5 := by
  rw [Lib.decDigits_length]
  have e1 : ∀ v, v < 10 → Lib.nDigits v = 1 := fun v h => Lib.nDigits_small h
  have e2 : ∀ v, ¬ v < 10 → Lib.nDigits v = Lib.nDigits (v / 10) + 1 := fun v h => by rw [Lib.nDigits, dif_neg h]
  have step : ∀ m v, v < 10 ^ (m + 1) → Lib.nDigits v ≤ m + 1 := by
    intro m
    induction m with
    | zero => intro v hv; rw [e1 v (by simpa using hv)]; omega
    | succ m ih =>
      intro v hv
      by_cases h10 : v < 10
      · rw [e1 v h10]; omega
      · rw [e2 v h10]
        have := ih (v / 10) (by rw [Nat.div_lt_iff_lt_mul (by omega)]; rw [Nat.pow_succ] at hv; omega)
        omega
  exact step 4 u (by omega)
theorem itoa_short (n : Int) (h0 : 0 ≤ n) (h1 : n ≤ 99999) : (Lib.itoa n).length ≤ 5 := by
  obtain ⟨u, rfl⟩ := Int.eq_ofNat_of_zero_le h0
  rw [Lib.itoa_nonneg]
  exact decDigits_short u (by omega)
theorem fracTxt_eq (n d : Int) : ((⟨(Lib.itoa n).toArray⟩ : ByteArray) ++ ⟨#[47]⟩) ++ ⟨(Lib.itoa d).toArray⟩ = fracTxt n d := by
  apply ByteArray.ext
  apply Array.ext'
  simp [fracTxt]
theorem text_calls (n d : Int) (hn : 0 ≤ n ∧ n ≤ 999) (hd : 0 ≤ d ∧ d ≤ 999) (w : World) (hE : Env w) :
    Calls Tryd.prog 34 #[.agg #[.int .i64 n, .int .i64 d]] w fun e w' => e = .returned (.string (fracTxt n d)) ∧ Below w.heap.size w w' := by
  have hb0 : Below w.heap.size w (w.alloc (.cells #[.int .i64 n, .int .i64 d] 25)) := (Below.refl _ w).alloc (Nat.le_refl _) _
  have HB0 := Go.Lib.hid hb0
  have hN := itoa_short n (by omega) (by omega)
  have hD := itoa_short d (by omega) (by omega)
  have hI := fun (W : World) (h : Below w.heap.size w W) => itoa_calls n (by omega) (by omega) W (Env.below hE h)
  have hJ := fun (W : World) (h : Below w.heap.size w W) => itoa_calls d (by omega) (by omega) W (Env.below hE h)
  rw [← fracTxt_eq]
  have sN : (⟨(Lib.itoa n).toArray⟩ : ByteArray).size ≤ 5 := by simpa [ByteArray.size] using hN
  have sD : (⟨(Lib.itoa d).toArray⟩ : ByteArray).size ≤ 5 := by simpa [ByteArray.size] using hD
  generalize (⟨(Lib.itoa n).toArray⟩ : ByteArray) = tn at *
  generalize (⟨(Lib.itoa d).toArray⟩ : ByteArray) = td at *
  have g1 : (9223372036854775807 < tn.size + 1) = False := eq_false (by omega)
  have g2 : (9223372036854775807 < tn.size + 1 + td.size) = False := eq_false (by omega)
  have HI := Go.Lib.hid hI
  have HJ := Go.Lib.hid hJ
  have hbx : (w.alloc (.cells #[.int .i64 n, .int .i64 d] 25)).heap[w.heap.size]? = some (.cells #[.int .i64 n, .int .i64 d] 25 (0, 0)) := f_new w _
  have HBX := Go.Lib.hid hbx
  clear hE hb0 hI hJ hN hD sN sD hbx hn hd
  go_enter Tryd.func34, Tryd.ntmps34
  go_wp2
  go_region_with (first | (go_at_call 38; (with_reducible refine (HI.out _ ?qb).mono ?_); (case qb => first | exact HB0.out | exact below_drew HB0.out | exact pw_below_drewN HB0.out _); rintro e w4 ⟨rfl, hb4⟩; have hbw := (show Below w.heap.size w w4 from below_then (by with_reducible first | exact HB0.out | exact below_drew HB0.out | exact pw_below_drewN HB0.out _) (by simp) hb4); have hb4' := (hb4.block w.heap.size (f_lt HBX.out)).trans HBX.out; have x1 := f_cell hb4' 1; have HBW := Go.Lib.hid hbw; clear hb4 hbw hb4') | (go_at_call 38; (with_reducible refine (HJ.out _ ?qb).mono ?_); (case qb => first | exact HBW.out | exact below_drew HBW.out | exact pw_below_drewN HBW.out _); rintro e w5 ⟨rfl, hb5⟩; have hbz := (show Below w.heap.size w w5 from below_then (by with_reducible first | exact HBW.out | exact below_drew HBW.out | exact pw_below_drewN HBW.out _) (by have := HBW.out.size; simp; omega) hb5); have HBZ := Go.Lib.hid hbz; clear hb5 hbz))
  all_goals go_wp2
  all_goals go_ret
  all_goals exact ⟨rfl, HBZ.out⟩
theorem fracText_yes (k : Nat) (n d : Int) (hn : 0 ≤ n ∧ n ≤ 999) (hd : 0 ≤ d ∧ d ≤ 999) (w : World) (h : impl_FracOk.f k n d = some true) (hE : Env w) :
    Calls Tryd.prog 15 #[.agg #[.int .i64 n, .int .i64 d]] w fun e w' => e = .returned (.string (fracTxt n d)) ∧ Below w.heap.size w w' := by
  have hb0 : Below w.heap.size w (w.alloc (.cells #[.int .i64 n, .int .i64 d] 25)) := (Below.refl _ w).alloc (Nat.le_refl _) _
  have hbx : (w.alloc (.cells #[.int .i64 n, .int .i64 d] 25)).heap[w.heap.size]? = some (.cells #[.int .i64 n, .int .i64 d] 25 (0, 0)) := f_new w _
  have HB0 := Go.Lib.hid hb0
  have HBX := Go.Lib.hid hbx
  have HH := Go.Lib.hid h
  have HE := Go.Lib.hid hE
  have HT := Go.Lib.hid (fun (W : World) (hW : Env W) => text_calls n d hn hd W hW)
  clear hb0 hbx h hE hn hd
  go_enter Tryd.func15, Tryd.ntmps15
  go_wp2_with (first | (go_at_call 25; refine (impl_FracOk.calls k n d true _ HH.out).mono ?_; rintro e w4 ⟨rfl, hb4⟩; have hbw := (show Below w.heap.size w w4 from below_then HB0.out (by simp) hb4); have hb4' := (hb4.block w.heap.size (f_lt HBX.out)).trans HBX.out; have x0 := f_cell hb4' 0; have x1 := f_cell hb4' 1; have HBW := Go.Lib.hid hbw; clear hb4 hbw hb4') | (go_at_call 34; refine (HT.out _ (Env.below HE.out HBW.out)).mono ?_; rintro e w5 ⟨rfl, hb5⟩; have hbz := (show Below w.heap.size w w5 from below_then HBW.out HBW.out.size hb5); have HBZ := Go.Lib.hid hbz; clear hb5 hbz))
  go_ret
  exact ⟨rfl, HBZ.out⟩
theorem fracText_no (k : Nat) (n d : Int) (w : World) (h : impl_FracOk.f k n d = some false) :
    Calls Tryd.prog 15 #[.agg #[.int .i64 n, .int .i64 d]] w fun e w' => e = .returned (.string ⟨#[]⟩) ∧ Below w.heap.size w w' := by
  have hb0 : Below w.heap.size w (w.alloc (.cells #[.int .i64 n, .int .i64 d] 25)) := (Below.refl _ w).alloc (Nat.le_refl _) _
  have HB0 := Go.Lib.hid hb0
  have HH := Go.Lib.hid h
  clear hb0 h
  go_enter Tryd.func15, Tryd.ntmps15
  go_wp2_with (go_at_call 25; refine (impl_FracOk.calls k n d false _ HH.out).mono ?_; rintro e w4 ⟨rfl, hb4⟩; have hbw := (show Below w.heap.size w w4 from below_then HB0.out (by simp) hb4))
  go_ret
  exact ⟨rfl, hbw⟩
def impl_FracText.f (k : Nat) (a0_0 a0_1 : Int) : Option ByteArray := (impl_FracOk.f k a0_0 a0_1).bind fun t => if t = true then (if 0 ≤ a0_0 ∧ a0_0 ≤ 999 ∧ 0 ≤ a0_1 ∧ a0_1 ≤ 999 then some (fracTxt a0_0 a0_1) else none) else some ⟨#[]⟩
theorem impl_FracText.mono : ∀ a0 a1 k, LeO (impl_FracText.f k a0 a1) (impl_FracText.f (k + 1) a0 a1) := by
  intro a0 a1 k
  unfold impl_FracText.f
  exact LeO.bind (impl_FracOk.mono _ _ _) (fun t => LeO.refl _)
theorem impl_FracText.calls (k : Nat) (a0_0 : Int) (a0_1 : Int) (r : ByteArray) (w : World) (h : impl_FracText.f k a0_0 a0_1 = some r) (hE : Env w) :
    Calls Tryd.prog 15 #[.agg #[.int .i64 a0_0, .int .i64 a0_1]] w fun e w' => e = .returned (.string r) ∧ Below w.heap.size w w' := by
  unfold impl_FracText.f at h
  obtain ⟨t, ht, h⟩ := Option.bind_eq_some_iff.1 h
  cases t
  · obtain rfl : (⟨#[]⟩ : ByteArray) = r := by simpa using h
    exact fracText_no k a0_0 a0_1 w ht
  · rw [if_pos rfl] at h
    split at h
    · rename_i hb
      obtain rfl := Option.some.inj h
      exact fracText_yes k a0_0 a0_1 ⟨hb.1, hb.2.1⟩ ⟨hb.2.2.1, hb.2.2.2⟩ w ht hE
    · cases h

/-! ### laws_FnExactFracText: function 3 -/
def laws_FnExactFracText.f (k : Nat) (a0_0 : Int) (a0_1 : Int) : Option (Bool) := (laws_toFrac.f a0_0 a0_1).bind fun bt125 => ((spec_FracText.f k bt125.1 bt125.2).bind fun t127 => ((laws_toFrac.f a0_0 a0_1).bind fun bt128 => ((impl_FracText.f k bt128.1 bt128.2).bind fun t130 => (if t130.toList = t127.toList then (some true) else (some false)))))
theorem laws_FnExactFracText.mono : ∀ a0 a1 k, LeO (laws_FnExactFracText.f k a0 a1) (laws_FnExactFracText.f (k + 1) a0 a1) := by
  intro a0 a1 k
  unfold laws_FnExactFracText.f
  repeat' first
      | (with_reducible exact impl_FracText.mono _ _ _)
      | (with_reducible exact spec_FracText.mono _ _ _)
      | (with_reducible exact LeO.refl _)
      | (with_reducible exact LeO.none _)
      | (with_reducible refine LeO.ite ?_ ?_)
      | (with_reducible refine LeO.bind ?_ (fun _ => ?_))
      | exact impl_FracText.mono _ _ _
      | exact spec_FracText.mono _ _ _
      | exact LeO.none _
      | refine LeO.ite ?_ ?_
      | refine LeO.bind ?_ (fun _ => ?_)
set_option maxHeartbeats 8000000 in
set_option maxRecDepth 100000 in
theorem laws_FnExactFracText.calls (k : Nat) (a0_0 : Int) (a0_1 : Int) (r : Bool) (w : World) (h : laws_FnExactFracText.f k a0_0 a0_1 = some r) (hrt : r = true) (hE : Env w) :
    Calls Tryd.prog 3 #[.agg #[.int .i64 a0_0, .int .i64 a0_1]] w fun e w' => e = .returned (.bool r) ∧ Below w.heap.size w w' := by
  have HENV := Aside0.mk hE
  clear hE
  have HRT := Aside0.mk hrt
  clear hrt
  have hu23 := Tryd.underlying23
  have HB := Aside0.mk (Below.refl w.heap.size w)
  have H : ((laws_toFrac.f a0_0 a0_1).bind fun bt125 => ((spec_FracText.f k bt125.1 bt125.2).bind fun t127 => ((laws_toFrac.f a0_0 a0_1).bind fun bt128 => ((impl_FracText.f k bt128.1 bt128.2).bind fun t130 => (if t130.toList = t127.toList then (some true) else (some false)))))) = some r := h
  clear h
  replace H := Option.bind_eq_some_iff.mp H
  obtain ⟨⟨t125, t126⟩, A20, H⟩ := H
  replace H : ((spec_FracText.f k t125 t126).bind fun t127 => ((laws_toFrac.f a0_0 a0_1).bind fun bt128 => ((impl_FracText.f k bt128.1 bt128.2).bind fun t130 => (if t130.toList = t127.toList then (some true) else (some false))))) = some r := H
  have A2 := Aside0.mk A20
  clear A20
  replace H := Option.bind_eq_some_iff.mp H
  obtain ⟨t127, A30, H⟩ := H
  replace H : ((laws_toFrac.f a0_0 a0_1).bind fun bt128 => ((impl_FracText.f k bt128.1 bt128.2).bind fun t130 => (if t130.toList = t127.toList then (some true) else (some false)))) = some r := H
  have A3 := Aside0.mk A30
  clear A30
  replace H := Option.bind_eq_some_iff.mp H
  obtain ⟨⟨t128, t129⟩, A40, H⟩ := H
  replace H : ((impl_FracText.f k t128 t129).bind fun t130 => (if t130.toList = t127.toList then (some true) else (some false))) = some r := H
  have A4 := Aside0.mk A40
  clear A40
  replace H := Option.bind_eq_some_iff.mp H
  obtain ⟨t130, A50, H⟩ := H
  replace H : (if t130.toList = t127.toList then (some true) else (some false)) = some r := H
  have A5 := Aside0.mk A50
  clear A50
  by_cases c6 : t130.toList = t127.toList
  · rw [if_pos c6] at H
    have c6b0 : (t130.toList == t127.toList) = true := beq_iff_eq.mpr c6
    have c6b1 : (t130.toList != t127.toList) = false := bne_eq_false_iff_eq.mpr c6
    clear c6
    obtain rfl := Option.some.inj H
    go_enter Tryd.func3, Tryd.ntmps3
    go_wp2_with (first | ((with_reducible refine gate_dst (N := 1) rfl ?_); refine box_event ?hg (N := 1) ?hd (cs := #[.int .i64 a0_0, .int .i64 a0_1]) (t := 23) ?hr ?_; (case hd => rfl); (case hg => rfl); (case hr => first | (go_simp; done) | (go_simp; rfl)); intro gb124 hg w7 hbox hb; have n0_ := Aside0.mk (below_step (by repeat (first | (with_reducible first | exact HB.out | apply below_alloc | apply pw_below_drewN | apply below_drew1) | exact HB.out)) hb); have n1_ := Aside0.mk (hbox); have n2_ := Aside0.mk ((by rw [hg]; exact (below_size (by repeat (first | (with_reducible first | exact HB.out | apply below_alloc | apply pw_below_drewN | apply below_drew1) | exact HB.out))) : w.heap.size ≤ gb124)); have n3_ := Aside0.mk ((by rw [hg]; exact (below_size (by repeat (first | (with_reducible first | exact HB.out | apply below_alloc | apply pw_below_drewN | apply below_drew1) | exact HB.out))) : w.heap.size ≤ gb124)); clear HB; have HB := n0_; have BK124 := n1_; have GW124 := n2_; have GE124 := n3_; clear n0_ n1_ n2_ n3_; clear hb hbox hg; have hcz8_0 : w7.cell? ⟨gb124, 0, none⟩ = some (.int .i64 a0_0) := (blk_cell BK124.out 0).trans rfl; have hcz8_1 : w7.cell? ⟨gb124, 1, none⟩ = some (.int .i64 a0_1) := (blk_cell BK124.out 1).trans rfl; have hfz8_0 := blk_frozen BK124.out 0; have hfz8_1 := blk_frozen BK124.out 1) | ((with_reducible refine gate_callee (f := 14) rfl ?_); refine goesL_ (some 6) rfl rfl Tryd.func14 (by kernel_rfl) rfl #[.agg #[.int .i64 a0_0, .int .i64 a0_1]] rfl (by (try simp only [List.map_toArray, List.map_cons, List.map_nil]); first | done | rfl | (simp only [List.length_drop, List.length_take]; rfl)) ?_; (with_reducible refine (laws_toFrac.calls a0_0 a0_1 t125 t126 _ A2.out).mono ?_); clear A2; rintro e w9 ⟨rfl, hb⟩; refine ⟨_, rfl, ?_⟩; have n0_ := Aside0.mk (blk_below (g := gb124) (o := .cells #[.int .i64 a0_0, .int .i64 a0_1] 23 (0, 0)) (by (with_reducible repeat (first | refine blk_drewN ?_ _ | refine blk_drew ?_ | refine blk_alloc ?_ _)); exact BK124.out) hb); have n1_ := Aside0.mk (below_step (by repeat (first | (with_reducible first | exact HB.out | apply below_alloc | apply pw_below_drewN | apply below_drew1 | refine below_set ?_ GE124.out) | exact HB.out)) hb); clear BK124; clear HB; have BK124 := n0_; have HB := n1_; clear n0_ n1_; (try clear hb); (try clear hb2); (try clear hk); (try clear hi)) | ((with_reducible refine gate_callee (f := 13) rfl ?_); refine goesL_ (some 7) rfl rfl Tryd.func13 (by kernel_rfl) rfl #[.agg #[.int .i64 t125, .int .i64 t126]] rfl (by (try simp only [List.map_toArray, List.map_cons, List.map_nil]); first | done | rfl | (simp only [List.length_drop, List.length_take]; rfl)) ?_; (with_reducible refine (spec_FracText.calls k t125 t126 t127 _ A3.out).mono ?_); rintro e w10 ⟨rfl, hb⟩; refine ⟨_, rfl, ?_⟩; have n0_ := Aside0.mk (blk_below (g := gb124) (o := .cells #[.int .i64 a0_0, .int .i64 a0_1] 23 (0, 0)) (by (with_reducible repeat (first | refine blk_drewN ?_ _ | refine blk_drew ?_ | refine blk_alloc ?_ _)); exact BK124.out) hb); have n1_ := Aside0.mk (below_step (by repeat (first | (with_reducible first | exact HB.out | apply below_alloc | apply pw_below_drewN | apply below_drew1 | refine below_set ?_ GE124.out) | exact HB.out)) hb); clear BK124; clear HB; have BK124 := n0_; have HB := n1_; clear n0_ n1_; (try clear hb); (try clear hb2); (try clear hk); (try clear hi); have hcz11_0 : w10.cell? ⟨gb124, 0, none⟩ = some (.int .i64 a0_0) := (blk_cell BK124.out 0).trans rfl; have hcz11_1 : w10.cell? ⟨gb124, 1, none⟩ = some (.int .i64 a0_1) := (blk_cell BK124.out 1).trans rfl; have hfz11_0 := blk_frozen BK124.out 0; have hfz11_1 := blk_frozen BK124.out 1) | ((with_reducible refine gate_callee (f := 14) rfl ?_); refine goesL_ (some 9) rfl rfl Tryd.func14 (by kernel_rfl) rfl #[.agg #[.int .i64 a0_0, .int .i64 a0_1]] rfl (by (try simp only [List.map_toArray, List.map_cons, List.map_nil]); first | done | rfl | (simp only [List.length_drop, List.length_take]; rfl)) ?_; (with_reducible refine (laws_toFrac.calls a0_0 a0_1 t128 t129 _ A4.out).mono ?_); clear A4; rintro e w12 ⟨rfl, hb⟩; refine ⟨_, rfl, ?_⟩; have n0_ := Aside0.mk (blk_below (g := gb124) (o := .cells #[.int .i64 a0_0, .int .i64 a0_1] 23 (0, 0)) (by (with_reducible repeat (first | refine blk_drewN ?_ _ | refine blk_drew ?_ | refine blk_alloc ?_ _)); exact BK124.out) hb); have n1_ := Aside0.mk (below_step (by repeat (first | (with_reducible first | exact HB.out | apply below_alloc | apply pw_below_drewN | apply below_drew1 | refine below_set ?_ GE124.out) | exact HB.out)) hb); clear BK124; clear HB; have BK124 := n0_; have HB := n1_; clear n0_ n1_; (try clear hb); (try clear hb2); (try clear hk); (try clear hi)) | ((with_reducible refine gate_callee (f := 15) rfl ?_); refine goesL_ (some 10) rfl rfl Tryd.func15 (by kernel_rfl) rfl #[.agg #[.int .i64 t128, .int .i64 t129]] rfl (by (try simp only [List.map_toArray, List.map_cons, List.map_nil]); first | done | rfl | (simp only [List.length_drop, List.length_take]; rfl)) ?_; (with_reducible refine (impl_FracText.calls k t128 t129 t130 _ A5.out (Env.below HENV.out (by repeat (first | (with_reducible first | exact HB.out | apply below_alloc | apply pw_below_drewN | apply below_drew1 | refine below_set ?_ GE124.out) | exact HB.out)))).mono ?_); rintro e w13 ⟨rfl, hb⟩; refine ⟨_, rfl, ?_⟩; have n0_ := Aside0.mk (blk_below (g := gb124) (o := .cells #[.int .i64 a0_0, .int .i64 a0_1] 23 (0, 0)) (by (with_reducible repeat (first | refine blk_drewN ?_ _ | refine blk_drew ?_ | refine blk_alloc ?_ _)); exact BK124.out) hb); have n1_ := Aside0.mk (below_step (by repeat (first | (with_reducible first | exact HB.out | apply below_alloc | apply pw_below_drewN | apply below_drew1 | refine below_set ?_ GE124.out) | exact HB.out)) hb); clear BK124; clear HB; have BK124 := n0_; have HB := n1_; clear n0_ n1_; (try clear hb); (try clear hb2); (try clear hk); (try clear hi)))
    go_ret
    exact ⟨by first | rfl | (simp [errW_none, errW_some] <;> rfl) | (simp [*, errW_none, errW_some] <;> rfl), by repeat (first | (with_reducible first | exact HB.out | apply below_alloc | apply pw_below_drewN | apply below_drew1 | refine below_set ?_ GE124.out) | exact HB.out)⟩
  · rw [if_neg c6] at H
    have c6b0 : (t130.toList == t127.toList) = false := beq_eq_false_iff_ne.mpr c6
    have c6b1 : (t130.toList != t127.toList) = true := bne_iff_ne.mpr c6
    exact absurd (Option.some.inj (H.trans (congrArg some HRT.out))) (by decide)

end Go.Proofs.YthcbichnjgkjiaaDoor.PFnExactFracText
