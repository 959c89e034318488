-- Written by a program of this session over the kit's printer, with contracts proved by hand; Lean checks it.
import Derived.Test.YthcbichnjgkjiaaDoorPFnExactFracReadx0
import Derived.Test.YthcbichnjgkjiaaDoorPFnExactFracReadx2
namespace Go.Proofs.YthcbichnjgkjiaaDoor.PFnExactFracRead
open Go.RowKit Go.Proofs.YthcbichnjgkjiaaDoorW.PrintWords Go.Proofs.YthcbichnjgkjiaaDoorW.PrintLast Go.Proofs.YthcbichnjgkjiaaDoorW.PrintMore
attribute [local go_sem] max2_int min2_int max_two min_two max_three min_three max_four min_four   -- for this text's walks alone
set_option linter.unusedVariables false
set_option linter.unusedSimpArgs false

/-! ### impl_FracOk: function 25 -/
def impl_FracOk.f (k : Nat) (a0_0 : Int) (a0_1 : Int) : Option (Bool) := (impl_within.f a0_0 0 999).bind fun t124 => (if t124 = true then ((impl_within.f a0_1 1 60).bind fun t125 => (if t125 = true then ((impl_divisor.f k a0_0 a0_1).bind fun t126 => (some (t126 == 1))) else (some false))) else (some false))
theorem impl_FracOk.mono : ∀ a0 a1 k, LeO (impl_FracOk.f k a0 a1) (impl_FracOk.f (k + 1) a0 a1) := by
  intro a0 a1 k
  unfold impl_FracOk.f
  repeat' first
      | (with_reducible exact impl_divisor.mono _ _ _)
      | (with_reducible exact LeO.refl _)
      | (with_reducible exact LeO.none _)
      | (with_reducible refine LeO.ite ?_ ?_)
      | (with_reducible refine LeO.bind ?_ (fun _ => ?_))
      | exact impl_divisor.mono _ _ _
      | exact LeO.none _
      | refine LeO.ite ?_ ?_
      | refine LeO.bind ?_ (fun _ => ?_)
set_option maxHeartbeats 8000000 in
set_option maxRecDepth 100000 in
theorem impl_FracOk.calls (k : Nat) (a0_0 : Int) (a0_1 : Int) (r : Bool) (w : World) (h : impl_FracOk.f k a0_0 a0_1 = some r) :
    Calls Tryd.prog 25 #[.agg #[.int .i64 a0_0, .int .i64 a0_1]] w fun e w' => e = .returned (.bool r) ∧ Below w.heap.size w w' := by
  have hu25 := Tryd.underlying25
  have HB := Aside0.mk (Below.refl w.heap.size w)
  have H : ((impl_within.f a0_0 0 999).bind fun t124 => (if t124 = true then ((impl_within.f a0_1 1 60).bind fun t125 => (if t125 = true then ((impl_divisor.f k a0_0 a0_1).bind fun t126 => (some (t126 == 1))) else (some false))) else (some false))) = some r := h
  clear h
  replace H := Option.bind_eq_some_iff.mp H
  obtain ⟨t124, A20, H⟩ := H
  replace H : (if t124 = true then ((impl_within.f a0_1 1 60).bind fun t125 => (if t125 = true then ((impl_divisor.f k a0_0 a0_1).bind fun t126 => (some (t126 == 1))) else (some false))) else (some false)) = some r := H
  have A2 := Aside0.mk A20
  clear A20
  by_cases c3 : t124 = true
  · subst c3
    have H1 : ((impl_within.f a0_1 1 60).bind fun t125 => (if t125 = true then ((impl_divisor.f k a0_0 a0_1).bind fun t126 => (some (t126 == 1))) else (some false))) = some r := by rw [if_pos rfl] at H; exact H
    clear H
    have H := H1
    clear H1
    replace H := Option.bind_eq_some_iff.mp H
    obtain ⟨t125, A40, H⟩ := H
    replace H : (if t125 = true then ((impl_divisor.f k a0_0 a0_1).bind fun t126 => (some (t126 == 1))) else (some false)) = some r := H
    have A4 := Aside0.mk A40
    clear A40
    by_cases c5 : t125 = true
    · subst c5
      have H1 : ((impl_divisor.f k a0_0 a0_1).bind fun t126 => (some (t126 == 1))) = some r := by rw [if_pos rfl] at H; exact H
      clear H
      have H := H1
      clear H1
      replace H := Option.bind_eq_some_iff.mp H
      obtain ⟨t126, A60, H⟩ := H
      replace H : (some (t126 == 1)) = some r := H
      have A6 := Aside0.mk A60
      clear A60
      obtain rfl := Option.some.inj H
      go_enter Tryd.func25, Tryd.ntmps25
      go_wp2_with (first | ((with_reducible refine gate_dst (N := 1) rfl ?_); refine box_event ?hg (N := 1) ?hd (cs := #[.int .i64 a0_0, .int .i64 a0_1]) (t := 25) ?hr ?_; (case hd => rfl); (case hg => rfl); (case hr => first | (go_simp; done) | (go_simp; rfl)); intro gb123 hg w7 hbox hb; have n0_ := Aside0.mk (below_step (by repeat (first | (with_reducible first | exact HB.out | apply below_alloc | apply pw_below_drewN | apply below_drew1) | exact HB.out)) hb); have n1_ := Aside0.mk (hbox); have n2_ := Aside0.mk ((by rw [hg]; exact (below_size (by repeat (first | (with_reducible first | exact HB.out | apply below_alloc | apply pw_below_drewN | apply below_drew1) | exact HB.out))) : w.heap.size ≤ gb123)); have n3_ := Aside0.mk ((by rw [hg]; exact (below_size (by repeat (first | (with_reducible first | exact HB.out | apply below_alloc | apply pw_below_drewN | apply below_drew1) | exact HB.out))) : w.heap.size ≤ gb123)); clear HB; have HB := n0_; have BK123 := n1_; have GW123 := n2_; have GE123 := n3_; clear n0_ n1_ n2_ n3_; clear hb hbox hg; have hcz8_0 : w7.cell? ⟨gb123, 0, none⟩ = some (.int .i64 a0_0) := (blk_cell BK123.out 0).trans rfl; have hcz8_1 : w7.cell? ⟨gb123, 1, none⟩ = some (.int .i64 a0_1) := (blk_cell BK123.out 1).trans rfl; have hfz8_0 := blk_frozen BK123.out 0; have hfz8_1 := blk_frozen BK123.out 1) | ((with_reducible refine gate_callee (f := 46) rfl ?_); refine goesL_ (some 5) rfl rfl Tryd.func46 (by kernel_rfl) rfl #[.int .i64 a0_0, .int .i64 0, .int .i64 999] rfl (by (try simp only [List.map_toArray, List.map_cons, List.map_nil]); first | done | rfl | (simp only [List.length_drop, List.length_take]; rfl)) ?_; (with_reducible refine (impl_within.calls a0_0 0 999 true _ A2.out).mono ?_); rintro e w' ⟨rfl, ⟨nd, rfl⟩⟩; refine ⟨_, rfl, ?_⟩) | (go_at_call 46; (with_reducible refine (impl_within.calls a0_1 1 60 true _ A4.out).mono ?_); rintro e w' ⟨rfl, ⟨nd, rfl⟩⟩) | (go_at_call 47; (with_reducible refine (impl_divisor.calls k a0_0 a0_1 t126 _ A6.out).mono ?_); rintro e w' ⟨rfl, ⟨nd, rfl⟩⟩))
      go_ret
      exact ⟨by first | rfl | (simp [errW_none, errW_some] <;> rfl) | (simp [*, errW_none, errW_some] <;> rfl), by repeat (first | (with_reducible first | exact HB.out | apply below_alloc | apply pw_below_drewN | apply below_drew1 | refine below_set ?_ GE123.out) | exact HB.out)⟩
    · replace c5 := Bool.eq_false_iff.mpr c5
      subst c5
      have H1 : (some false) = some r := by rw [if_neg (show ¬ (false = true) by decide)] at H; exact H
      clear H
      have H := H1
      clear H1
      obtain rfl := Option.some.inj H
      go_enter Tryd.func25, Tryd.ntmps25
      go_wp2_with (first | ((with_reducible refine gate_dst (N := 1) rfl ?_); refine box_event ?hg (N := 1) ?hd (cs := #[.int .i64 a0_0, .int .i64 a0_1]) (t := 25) ?hr ?_; (case hd => rfl); (case hg => rfl); (case hr => first | (go_simp; done) | (go_simp; rfl)); intro gb123 hg w9 hbox hb; have n0_ := Aside0.mk (below_step (by repeat (first | (with_reducible first | exact HB.out | apply below_alloc | apply pw_below_drewN | apply below_drew1) | exact HB.out)) hb); have n1_ := Aside0.mk (hbox); have n2_ := Aside0.mk ((by rw [hg]; exact (below_size (by repeat (first | (with_reducible first | exact HB.out | apply below_alloc | apply pw_below_drewN | apply below_drew1) | exact HB.out))) : w.heap.size ≤ gb123)); have n3_ := Aside0.mk ((by rw [hg]; exact (below_size (by repeat (first | (with_reducible first | exact HB.out | apply below_alloc | apply pw_below_drewN | apply below_drew1) | exact HB.out))) : w.heap.size ≤ gb123)); clear HB; have HB := n0_; have BK123 := n1_; have GW123 := n2_; have GE123 := n3_; clear n0_ n1_ n2_ n3_; clear hb hbox hg; have hcz10_0 : w9.cell? ⟨gb123, 0, none⟩ = some (.int .i64 a0_0) := (blk_cell BK123.out 0).trans rfl; have hcz10_1 : w9.cell? ⟨gb123, 1, none⟩ = some (.int .i64 a0_1) := (blk_cell BK123.out 1).trans rfl; have hfz10_0 := blk_frozen BK123.out 0; have hfz10_1 := blk_frozen BK123.out 1) | ((with_reducible refine gate_callee (f := 46) rfl ?_); refine goesL_ (some 5) rfl rfl Tryd.func46 (by kernel_rfl) rfl #[.int .i64 a0_0, .int .i64 0, .int .i64 999] rfl (by (try simp only [List.map_toArray, List.map_cons, List.map_nil]); first | done | rfl | (simp only [List.length_drop, List.length_take]; rfl)) ?_; (with_reducible refine (impl_within.calls a0_0 0 999 true _ A2.out).mono ?_); rintro e w' ⟨rfl, ⟨nd, rfl⟩⟩; refine ⟨_, rfl, ?_⟩) | (go_at_call 46; (with_reducible refine (impl_within.calls a0_1 1 60 false _ A4.out).mono ?_); rintro e w' ⟨rfl, ⟨nd, rfl⟩⟩))
      go_ret
      exact ⟨by first | rfl | (simp [errW_none, errW_some] <;> rfl) | (simp [*, errW_none, errW_some] <;> rfl), by repeat (first | (with_reducible first | exact HB.out | apply below_alloc | apply pw_below_drewN | apply below_drew1 | refine below_set ?_ GE123.out) | exact HB.out)⟩
  · replace c3 := Bool.eq_false_iff.mpr c3
    subst c3
    have H1 : (some false) = some r := by rw [if_neg (show ¬ (false = true) by decide)] at H; exact H
    clear H
    have H := H1
    clear H1
    obtain rfl := Option.some.inj H
    go_enter Tryd.func25, Tryd.ntmps25
    go_wp2_with (first | ((with_reducible refine gate_dst (N := 1) rfl ?_); refine box_event ?hg (N := 1) ?hd (cs := #[.int .i64 a0_0, .int .i64 a0_1]) (t := 25) ?hr ?_; (case hd => rfl); (case hg => rfl); (case hr => first | (go_simp; done) | (go_simp; rfl)); intro gb123 hg w11 hbox hb; have n0_ := Aside0.mk (below_step (by repeat (first | (with_reducible first | exact HB.out | apply below_alloc | apply pw_below_drewN | apply below_drew1) | exact HB.out)) hb); have n1_ := Aside0.mk (hbox); have n2_ := Aside0.mk ((by rw [hg]; exact (below_size (by repeat (first | (with_reducible first | exact HB.out | apply below_alloc | apply pw_below_drewN | apply below_drew1) | exact HB.out))) : w.heap.size ≤ gb123)); have n3_ := Aside0.mk ((by rw [hg]; exact (below_size (by repeat (first | (with_reducible first | exact HB.out | apply below_alloc | apply pw_below_drewN | apply below_drew1) | exact HB.out))) : w.heap.size ≤ gb123)); clear HB; have HB := n0_; have BK123 := n1_; have GW123 := n2_; have GE123 := n3_; clear n0_ n1_ n2_ n3_; clear hb hbox hg; have hcz12_0 : w11.cell? ⟨gb123, 0, none⟩ = some (.int .i64 a0_0) := (blk_cell BK123.out 0).trans rfl; have hcz12_1 : w11.cell? ⟨gb123, 1, none⟩ = some (.int .i64 a0_1) := (blk_cell BK123.out 1).trans rfl; have hfz12_0 := blk_frozen BK123.out 0; have hfz12_1 := blk_frozen BK123.out 1) | ((with_reducible refine gate_callee (f := 46) rfl ?_); refine goesL_ (some 5) rfl rfl Tryd.func46 (by kernel_rfl) rfl #[.int .i64 a0_0, .int .i64 0, .int .i64 999] rfl (by (try simp only [List.map_toArray, List.map_cons, List.map_nil]); first | done | rfl | (simp only [List.length_drop, List.length_take]; rfl)) ?_; (with_reducible refine (impl_within.calls a0_0 0 999 false _ A2.out).mono ?_); rintro e w' ⟨rfl, ⟨nd, rfl⟩⟩; refine ⟨_, rfl, ?_⟩))
    go_ret
    exact ⟨by first | rfl | (simp [errW_none, errW_some] <;> rfl) | (simp [*, errW_none, errW_some] <;> rfl), by repeat (first | (with_reducible first | exact HB.out | apply below_alloc | apply pw_below_drewN | apply below_drew1 | refine below_set ?_ GE123.out) | exact HB.out)⟩

/-! ### impl_FracRead: function 22 -/
-- The numbers of functions and types are those of the seat of the texts.
/-- What stands before the first '/', and what behind it. -/
def cutA (s : ByteArray) : ByteArray := ⟨(Lib.cut s.data.toList [47]).1.toArray⟩
def cutB (s : ByteArray) : ByteArray := ⟨(Lib.cut s.data.toList [47]).2.1.toArray⟩
def cutC (s : ByteArray) : Bool := (Lib.cut s.data.toList [47]).2.2
theorem cutS_calls (s : ByteArray) (hs : s.size ≤ 4294967280) (w : World) (hE : Env w) :
    Calls Tryd.prog 44 #[.string s, .string ⟨#[47]⟩] w fun e w' => e = .returned (.tuple #[.string (cutA s), .string (cutB s), .bool (cutC s)]) ∧ Below w.heap.size w w' := cut_calls s ⟨#[47]⟩ hs w hE
theorem cut_sizes (s : ByteArray) : (cutA s).size ≤ s.size ∧ (cutB s).size ≤ s.size := by
  have e : s.size = s.data.toList.length := rfl
  have e1 : (cutA s).size = (Lib.cut s.data.toList [47]).1.length := by simp [cutA, ByteArray.size]
  have e2 : (cutB s).size = (Lib.cut s.data.toList [47]).2.1.length := by simp [cutB, ByteArray.size]
  rw [e1, e2, e]
  unfold Lib.cut
  split
  · simp only [List.length_take, List.length_drop]
    omega
  · simp
/-- The box of the result, then (from some call on) the box of the fraction. -/
structure RBox (w : World) (W : World) : Prop where
  b : W.heap[w.heap.size]? = some (.cells #[.int .i64 0, .int .i64 0] 25 (0, 0))
  bel : Below w.heap.size w W
theorem RBox.step {w W W' : World} (h : RBox w W) (hb : Below W.heap.size W W') : RBox w W' := ⟨(hb.block _ (f_lt h.b)).trans h.b, h.bel.trans (hb.mono h.bel.size)⟩
theorem RBox.start (w : World) : RBox w (w.alloc (.cells #[.int .i64 0, .int .i64 0] 25)) := ⟨f_new w _, (Below.refl _ w).alloc (Nat.le_refl _) _⟩
structure RBox2 (w : World) (p : Nat) (n d : Int) (W : World) : Prop where
  b : W.heap[w.heap.size]? = some (.cells #[.int .i64 0, .int .i64 0] 25 (0, 0))
  f : W.heap[p]? = some (.cells #[.int .i64 n, .int .i64 d] 25 (0, 0))
  ne : w.heap.size < p
  bel : Below w.heap.size w W
theorem RBox2.step {w W W' : World} {p : Nat} {n d : Int} (h : RBox2 w p n d W) (hb : Below W.heap.size W W') : RBox2 w p n d W' := ⟨(hb.block _ (f_lt h.b)).trans h.b, (hb.block _ (f_lt h.f)).trans h.f, h.ne, h.bel.trans (hb.mono h.bel.size)⟩
theorem RBox.push {w W : World} (h : RBox w W) (n d : Int) : RBox2 w W.heap.size n d (W.alloc (.cells #[.int .i64 n, .int .i64 d] 25)) :=
  ⟨(h.step ((Below.refl _ W).alloc (Nat.le_refl _) _)).b, f_new W _, f_lt h.b, (h.step ((Below.refl _ W).alloc (Nat.le_refl _) _)).bel⟩
theorem fr_frozen {w : World} {b : Nat} {cs : Array Value} {T : TypeId} (hb : w.heap[b]? = some (.cells cs T (0, 0))) (j : Nat) : w.frozen? ⟨b, j, none⟩ = false := by simp [World.frozen?, hb]
theorem fr_put {W : World} {b : Nat} {T : TypeId} {x y : Value} (h : W.heap[b]? = some (.cells #[x, y] T (0, 0))) (u v : Value) : ((W.setCell ⟨b, 0, none⟩ u).setCell ⟨b, 1, none⟩ v).heap[b]? = some (.cells #[u, v] T (0, 0)) := by
  refine blk_put (cs := #[u, y]) ?_ 1 _ rfl
  exact blk_put (cs := #[x, y]) h 0 _ rfl
theorem fr_below {W W' : World} {m b : Nat} (h : Below m W W') (hb : m ≤ b) (u v : Value) : Below m W ((W'.setCell ⟨b, 0, none⟩ u).setCell ⟨b, 1, none⟩ v) := (h.setCell (p := ⟨b, 0, none⟩) hb u).setCell (p := ⟨b, 1, none⟩) hb v
theorem RBox.cells {w W : World} (h : RBox w W) : (∀ o, (W.alloc o).cell? ⟨w.heap.size, 0, none⟩ = some (.int .i64 0)) ∧ (∀ o, (W.alloc o).cell? ⟨w.heap.size, 1, none⟩ = some (.int .i64 0)) ∧ (∀ o, (W.alloc o).frozen? ⟨w.heap.size, 0, none⟩ = false) ∧ (∀ o, (W.alloc o).frozen? ⟨w.heap.size, 1, none⟩ = false) :=
  have k := fun o => (h.step ((Below.refl _ W).alloc (Nat.le_refl _) o)).b
  ⟨fun o => f_cell (k o) 0, fun o => f_cell (k o) 1, fun o => fr_frozen (k o) 0, fun o => fr_frozen (k o) 1⟩
theorem RBox2.cells {w W : World} {p : Nat} {n d : Int} (h : RBox2 w p n d W) : W.cell? ⟨w.heap.size, 0, none⟩ = some (.int .i64 0) ∧ W.cell? ⟨w.heap.size, 1, none⟩ = some (.int .i64 0) ∧ W.frozen? ⟨w.heap.size, 0, none⟩ = false ∧ W.frozen? ⟨w.heap.size, 1, none⟩ = false ∧ W.cell? ⟨p, 0, none⟩ = some (.int .i64 n) ∧ W.cell? ⟨p, 1, none⟩ = some (.int .i64 d) :=
  ⟨f_cell h.b 0, f_cell h.b 1, fr_frozen h.b 0, fr_frozen h.b 1, f_cell h.f 0, f_cell h.f 1⟩
theorem atoi_any (s : ByteArray) (hs : s.size ≤ 4294967280) (w : World) (hE : Env w) :
    Calls Tryd.prog 45 #[.string s] w fun e w' => ∃ v E, e = .returned (.tuple #[.int .i64 v, E]) ∧ Below w.heap.size w w' := by
  by_cases h : ∃ v, Lib.atoiAll s.data.toList = .ok v
  · obtain ⟨v, h⟩ := h
    refine (atoi_yes s hs v h w).mono ?_
    rintro e w' ⟨rfl, hb⟩
    exact ⟨v, _, rfl, hb⟩
  · refine (atoi_no s hs (fun v e => h ⟨v, e⟩) w hE).mono ?_
    rintro e w' ⟨v, N, rfl, hb⟩
    exact ⟨v, _, rfl, hb⟩
set_option maxHeartbeats 4000000 in
theorem fracRead_no1 (s : ByteArray) (hs : s.size ≤ 4294967280) (h1 : ∀ v, Lib.atoiAll (cutA s).data.toList ≠ .ok v) (w : World) (hE : Env w) :
    Calls Tryd.prog 22 #[.string s] w fun e w' => e = .returned (.tuple #[.agg #[.int .i64 0, .int .i64 0], .bool false]) ∧ Below w.heap.size w w' := by
  have HB := Go.Lib.hid (RBox.start w)
  have HC := Go.Lib.hid (fun W (h : RBox w W) => cutS_calls s hs W (Env.below hE h.bel))
  have HA := Go.Lib.hid (fun W (h : RBox w W) => atoi_no (cutA s) (by have := cut_sizes s; omega) h1 W (Env.below hE h.bel))
  have HD := Go.Lib.hid (fun W (h : RBox w W) => atoi_any (cutB s) (by have := cut_sizes s; omega) W (Env.below hE h.bel))
  clear hE hs h1
  go_enter Tryd.func22, Tryd.ntmps22
  go_wp2_with (first | (go_at_call 44; ((with_reducible refine (HC.out _ ?qb).mono ?_); (case qb => exact HB.out); rintro e w1 ⟨rfl, hb1⟩; have HB1 := Go.Lib.hid (HB.out.step hb1); clear hb1)) | (go_at_call 45; ((with_reducible refine (HD.out _ ?qb).mono ?_); (case qb => exact HB2.out); rintro e wHB3 ⟨q, Eq, rfl, hb1⟩; have HB3 := Go.Lib.hid (HB2.out.step hb1); obtain ⟨x0, x1, x2, x3⟩ := HB3.out.cells; clear hb1)) | (go_at_call 45; ((with_reducible refine (HA.out _ ?qb).mono ?_); (case qb => exact HB1.out); rintro e wHB2 ⟨p, Np, rfl, hb1⟩; have HB2 := Go.Lib.hid (HB1.out.step hb1); clear hb1)))
  refine bodyPost_ret (results_ct rfl _ _ w.heap.size 25 #[.int .i64 0, .int .i64 0] (0, 0) _ rfl (fr_put (HB3.out.step ((Below.refl _ _).alloc (Nat.le_refl _) _)).b _ _) Tryd.underlying25 rfl (by kernel_rfl)) rfl ?_
  exact ⟨rfl, fr_below (HB3.out.step ((Below.refl _ _).alloc (Nat.le_refl _) _)).bel (Nat.le_refl _) _ _⟩
set_option maxHeartbeats 4000000 in
theorem fracRead_no2 (s : ByteArray) (hs : s.size ≤ 4294967280) (n : Int) (h1 : Lib.atoiAll (cutA s).data.toList = .ok n) (h2 : ∀ v, Lib.atoiAll (cutB s).data.toList ≠ .ok v) (w : World) (hE : Env w) :
    Calls Tryd.prog 22 #[.string s] w fun e w' => e = .returned (.tuple #[.agg #[.int .i64 0, .int .i64 0], .bool false]) ∧ Below w.heap.size w w' := by
  have HB := Go.Lib.hid (RBox.start w)
  have HC := Go.Lib.hid (fun W (h : RBox w W) => cutS_calls s hs W (Env.below hE h.bel))
  have HA := Go.Lib.hid (fun W (h : RBox w W) => atoi_yes (cutA s) (by have := cut_sizes s; omega) n h1 W)
  have HD := Go.Lib.hid (fun W (h : RBox w W) => atoi_no (cutB s) (by have := cut_sizes s; omega) h2 W (Env.below hE h.bel))
  clear hE hs h1 h2
  go_enter Tryd.func22, Tryd.ntmps22
  go_wp2_with (first | (go_at_call 44; ((with_reducible refine (HC.out _ ?qb).mono ?_); (case qb => exact HB.out); rintro e w1 ⟨rfl, hb1⟩; have HB1 := Go.Lib.hid (HB.out.step hb1); clear hb1)) | (go_at_call 45; ((with_reducible refine (HD.out _ ?qb).mono ?_); (case qb => exact HB2.out); rintro e wHB3 ⟨q, Nq, rfl, hb1⟩; have HB3 := Go.Lib.hid (HB2.out.step hb1); obtain ⟨x0, x1, x2, x3⟩ := HB3.out.cells; clear hb1)) | (go_at_call 45; ((with_reducible refine (HA.out _ ?qb).mono ?_); (case qb => exact HB1.out); rintro e wHB2 ⟨rfl, hb1⟩; have HB2 := Go.Lib.hid (HB1.out.step hb1); clear hb1)))
  refine bodyPost_ret (results_ct rfl _ _ w.heap.size 25 #[.int .i64 0, .int .i64 0] (0, 0) _ rfl (fr_put (HB3.out.step ((Below.refl _ _).alloc (Nat.le_refl _) _)).b _ _) Tryd.underlying25 rfl (by kernel_rfl)) rfl ?_
  exact ⟨rfl, fr_below (HB3.out.step ((Below.refl _ _).alloc (Nat.le_refl _) _)).bel (Nat.le_refl _) _ _⟩
set_option maxHeartbeats 4000000 in
theorem fracRead_no3 (s : ByteArray) (hs : s.size ≤ 4294967280) (k : Nat) (n d : Int) (h1 : Lib.atoiAll (cutA s).data.toList = .ok n) (h2 : Lib.atoiAll (cutB s).data.toList = .ok d) (hok : impl_FracOk.f k n d = some false) (w : World) (hE : Env w) :
    Calls Tryd.prog 22 #[.string s] w fun e w' => e = .returned (.tuple #[.agg #[.int .i64 0, .int .i64 0], .bool false]) ∧ Below w.heap.size w w' := by
  have HB := Go.Lib.hid (RBox.start w)
  have HC := Go.Lib.hid (fun W (h : RBox w W) => cutS_calls s hs W (Env.below hE h.bel))
  have HA := Go.Lib.hid (fun W (h : RBox w W) => atoi_yes (cutA s) (by have := cut_sizes s; omega) n h1 W)
  have HD := Go.Lib.hid (fun W (h : RBox w W) => atoi_yes (cutB s) (by have := cut_sizes s; omega) d h2 W)
  have HO := Go.Lib.hid hok
  clear hE hs h1 h2 hok
  go_enter Tryd.func22, Tryd.ntmps22
  go_wp2_with (first | (go_at_call 44; ((with_reducible refine (HC.out _ ?qb).mono ?_); (case qb => exact HB.out); rintro e w1 ⟨rfl, hb1⟩; have HB1 := Go.Lib.hid (HB.out.step hb1); clear hb1)) | (go_at_call 45; ((with_reducible refine (HD.out _ ?qb).mono ?_); (case qb => exact HB2.out); rintro e wHB3 ⟨rfl, hb1⟩; have HB3 := Go.Lib.hid (HB2.out.step hb1); have HP := Go.Lib.hid (HB3.out.push n d); clear hb1)) | (go_at_call 45; ((with_reducible refine (HA.out _ ?qb).mono ?_); (case qb => exact HB1.out); rintro e wHB2 ⟨rfl, hb1⟩; have HB2 := Go.Lib.hid (HB1.out.step hb1); clear hb1)) | (go_at_call 25; (refine (impl_FracOk.calls k n d false _ HO.out).mono ?_; rintro e w4 ⟨rfl, hb4⟩; have HP4 := Go.Lib.hid (HP.out.step hb4); obtain ⟨x0, x1, x2, x3, x4, x5⟩ := HP4.out.cells; clear hb4)))
  refine bodyPost_ret (results_ct rfl _ _ w.heap.size 25 #[.int .i64 0, .int .i64 0] (0, 0) _ rfl (fr_put HP4.out.b _ _) Tryd.underlying25 rfl (by kernel_rfl)) rfl ?_
  exact ⟨rfl, fr_below HP4.out.bel (Nat.le_refl _) _ _⟩
set_option maxHeartbeats 4000000 in
theorem fracRead_no4 (s : ByteArray) (hs : s.size ≤ 4294967280) (k : Nat) (n d : Int) (h1 : Lib.atoiAll (cutA s).data.toList = .ok n) (h2 : Lib.atoiAll (cutB s).data.toList = .ok d) (hok : impl_FracOk.f k n d = some true) (hn : 0 ≤ n ∧ n ≤ 999) (hd : 0 ≤ d ∧ d ≤ 999) (ht : ¬ (fracTxt n d).toList = s.toList) (w : World) (hE : Env w) :
    Calls Tryd.prog 22 #[.string s] w fun e w' => e = .returned (.tuple #[.agg #[.int .i64 0, .int .i64 0], .bool false]) ∧ Below w.heap.size w w' := by
  have HB := Go.Lib.hid (RBox.start w)
  have HC := Go.Lib.hid (fun W (h : RBox w W) => cutS_calls s hs W (Env.below hE h.bel))
  have HA := Go.Lib.hid (fun W (h : RBox w W) => atoi_yes (cutA s) (by have := cut_sizes s; omega) n h1 W)
  have HD := Go.Lib.hid (fun W (h : RBox w W) => atoi_yes (cutB s) (by have := cut_sizes s; omega) d h2 W)
  have HO := Go.Lib.hid hok
  have HT := Go.Lib.hid (fun W (h : Below w.heap.size w W) => text_calls n d hn hd W (Env.below hE h))
  clear hE hs h1 h2 hok hn hd
  go_enter Tryd.func22, Tryd.ntmps22
  go_wp2_with (first | (go_at_call 44; ((with_reducible refine (HC.out _ ?qb).mono ?_); (case qb => exact HB.out); rintro e w1 ⟨rfl, hb1⟩; have HB1 := Go.Lib.hid (HB.out.step hb1); clear hb1)) | (go_at_call 45; ((with_reducible refine (HD.out _ ?qb).mono ?_); (case qb => exact HB2.out); rintro e wHB3 ⟨rfl, hb1⟩; have HB3 := Go.Lib.hid (HB2.out.step hb1); have HP := Go.Lib.hid (HB3.out.push n d); clear hb1)) | (go_at_call 45; ((with_reducible refine (HA.out _ ?qb).mono ?_); (case qb => exact HB1.out); rintro e wHB2 ⟨rfl, hb1⟩; have HB2 := Go.Lib.hid (HB1.out.step hb1); clear hb1)) | (go_at_call 25; (refine (impl_FracOk.calls k n d true _ HO.out).mono ?_; rintro e w4 ⟨rfl, hb4⟩; have HP4 := Go.Lib.hid (HP.out.step hb4); obtain ⟨x0, x1, x2, x3, x4, x5⟩ := HP4.out.cells; clear hb4)) | (go_at_call 34; ((with_reducible refine (HT.out _ ?qb).mono ?_); (case qb => exact HP4.out.bel); rintro e w5 ⟨rfl, hb5⟩; have HP5 := Go.Lib.hid (HP4.out.step hb5); clear x0 x1 x2 x3 x4 x5; obtain ⟨x0, x1, x2, x3, x4, x5⟩ := HP5.out.cells; clear hb5)))
  all_goals first | (rename_i hh; exact absurd (by simpa using hh) ht) | (refine bodyPost_ret (results_ct rfl _ _ w.heap.size 25 #[.int .i64 0, .int .i64 0] (0, 0) _ rfl (fr_put HP5.out.b _ _) Tryd.underlying25 rfl (by kernel_rfl)) rfl ?_; exact ⟨rfl, fr_below HP5.out.bel (Nat.le_refl _) _ _⟩)
set_option maxHeartbeats 4000000 in
theorem fracRead_yes (s : ByteArray) (hs : s.size ≤ 4294967280) (k : Nat) (n d : Int) (h1 : Lib.atoiAll (cutA s).data.toList = .ok n) (h2 : Lib.atoiAll (cutB s).data.toList = .ok d) (hok : impl_FracOk.f k n d = some true) (hn : 0 ≤ n ∧ n ≤ 999) (hd : 0 ≤ d ∧ d ≤ 999) (ht : (fracTxt n d).toList = s.toList) (w : World) (hE : Env w) :
    Calls Tryd.prog 22 #[.string s] w fun e w' => e = .returned (.tuple #[.agg #[.int .i64 n, .int .i64 d], .bool true]) ∧ Below w.heap.size w w' := by
  have HB := Go.Lib.hid (RBox.start w)
  have HC := Go.Lib.hid (fun W (h : RBox w W) => cutS_calls s hs W (Env.below hE h.bel))
  have HA := Go.Lib.hid (fun W (h : RBox w W) => atoi_yes (cutA s) (by have := cut_sizes s; omega) n h1 W)
  have HD := Go.Lib.hid (fun W (h : RBox w W) => atoi_yes (cutB s) (by have := cut_sizes s; omega) d h2 W)
  have HO := Go.Lib.hid hok
  have HT := Go.Lib.hid (fun W (h : Below w.heap.size w W) => text_calls n d hn hd W (Env.below hE h))
  clear hE hs h1 h2 hok hn hd
  go_enter Tryd.func22, Tryd.ntmps22
  go_wp2_with (first | (go_at_call 44; ((with_reducible refine (HC.out _ ?qb).mono ?_); (case qb => exact HB.out); rintro e w1 ⟨rfl, hb1⟩; have HB1 := Go.Lib.hid (HB.out.step hb1); clear hb1)) | (go_at_call 45; ((with_reducible refine (HD.out _ ?qb).mono ?_); (case qb => exact HB2.out); rintro e wHB3 ⟨rfl, hb1⟩; have HB3 := Go.Lib.hid (HB2.out.step hb1); have HP := Go.Lib.hid (HB3.out.push n d); clear hb1)) | (go_at_call 45; ((with_reducible refine (HA.out _ ?qb).mono ?_); (case qb => exact HB1.out); rintro e wHB2 ⟨rfl, hb1⟩; have HB2 := Go.Lib.hid (HB1.out.step hb1); clear hb1)) | (go_at_call 25; (refine (impl_FracOk.calls k n d true _ HO.out).mono ?_; rintro e w4 ⟨rfl, hb4⟩; have HP4 := Go.Lib.hid (HP.out.step hb4); obtain ⟨x0, x1, x2, x3, x4, x5⟩ := HP4.out.cells; clear hb4)) | (go_at_call 34; ((with_reducible refine (HT.out _ ?qb).mono ?_); (case qb => exact HP4.out.bel); rintro e w5 ⟨rfl, hb5⟩; have HP5 := Go.Lib.hid (HP4.out.step hb5); clear x0 x1 x2 x3 x4 x5; obtain ⟨x0, x1, x2, x3, x4, x5⟩ := HP5.out.cells; clear hb5)))
  refine bodyPost_ret (results_ct rfl _ _ w.heap.size 25 #[.int .i64 n, .int .i64 d] (0, 0) _ rfl (fr_put HP5.out.b _ _) Tryd.underlying25 rfl (by kernel_rfl)) rfl ?_
  exact ⟨rfl, fr_below HP5.out.bel (Nat.le_refl _) _ _⟩
theorem fracRead_calls (k : Nat) (s : ByteArray) (n d : Int) (o : Bool) (hs : s.size ≤ 4294967280) (h1 : Lib.atoiAll (cutA s).data.toList = .ok n) (h2 : Lib.atoiAll (cutB s).data.toList = .ok d) (hok : impl_FracOk.f k n d = some o) (r1 r2 : Int) (r3 : Bool)
    (h : (if o = true then (if 0 ≤ n ∧ n ≤ 999 ∧ 0 ≤ d ∧ d ≤ 999 then (if (fracTxt n d).toList = s.toList then some (n, d, true) else some (0, 0, false)) else none) else some (0, 0, false)) = some (r1, r2, r3)) (w : World) (hE : Env w) :
    Calls Tryd.prog 22 #[.string s] w fun e w' => e = .returned (.tuple #[.agg #[.int .i64 r1, .int .i64 r2], .bool r3]) ∧ Below w.heap.size w w' := by
  cases o
  · rw [if_neg (by decide)] at h
    have e := Option.some.inj h
    obtain ⟨rfl, rfl, rfl⟩ : 0 = r1 ∧ 0 = r2 ∧ false = r3 := by simpa using e
    exact fracRead_no3 s hs k n d h1 h2 hok w hE
  · rw [if_pos rfl] at h
    split at h
    · rename_i hb
      split at h
      · rename_i ht
        have e := Option.some.inj h
        obtain ⟨rfl, rfl, rfl⟩ : n = r1 ∧ d = r2 ∧ true = r3 := by simpa using e
        exact fracRead_yes s hs k n d h1 h2 hok ⟨hb.1, hb.2.1⟩ hb.2.2 ht w hE
      · rename_i ht
        have e := Option.some.inj h
        obtain ⟨rfl, rfl, rfl⟩ : 0 = r1 ∧ 0 = r2 ∧ false = r3 := by simpa using e
        exact fracRead_no4 s hs k n d h1 h2 hok ⟨hb.1, hb.2.1⟩ hb.2.2 ht w hE
    · cases h
def impl_FracRead.f (k : Nat) (a0 : ByteArray) : Option (Int × Int × Bool) := if a0.size ≤ 4294967280 then (match Lib.atoiAll (cutA a0).data.toList with
  | .ok n => (match Lib.atoiAll (cutB a0).data.toList with
    | .ok d => (impl_FracOk.f k n d).bind fun o => if o = true then (if 0 ≤ n ∧ n ≤ 999 ∧ 0 ≤ d ∧ d ≤ 999 then (if (fracTxt n d).toList = a0.toList then some (n, d, true) else some (0, 0, false)) else none) else some (0, 0, false)
    | _ => some (0, 0, false))
  | _ => some (0, 0, false)) else none
theorem impl_FracRead.mono : ∀ a0 k, LeO (impl_FracRead.f k a0) (impl_FracRead.f (k + 1) a0) := by
  intro a0 k
  unfold impl_FracRead.f
  split
  · split
    · split
      · exact LeO.bind (impl_FracOk.mono _ _ _) (fun t => LeO.refl _)
      · exact LeO.refl _
    · exact LeO.refl _
  · exact LeO.refl _
theorem impl_FracRead.calls (k : Nat) (a0 : ByteArray) (r1 : Int) (r2 : Int) (r3 : Bool) (w : World) (h : impl_FracRead.f k a0 = some (r1, r2, r3)) (hE : Env w) :
    Calls Tryd.prog 22 #[.string a0] w fun e w' => e = .returned (.tuple #[.agg #[.int .i64 r1, .int .i64 r2], .bool r3]) ∧ Below w.heap.size w w' := by
  unfold impl_FracRead.f at h
  split at h
  · rename_i hs
    split at h
    · rename_i n h1
      split at h
      · rename_i d h2
        obtain ⟨o, hok, h⟩ := Option.bind_eq_some_iff.1 h
        exact fracRead_calls k a0 n d o hs h1 h2 hok r1 r2 r3 h w hE
      · rename_i h2
        have e := Option.some.inj h
        obtain ⟨rfl, rfl, rfl⟩ : 0 = r1 ∧ 0 = r2 ∧ false = r3 := by simpa using e
        exact fracRead_no2 a0 hs n h1 (fun v e => h2 v e) w hE
    · rename_i h1
      have e := Option.some.inj h
      obtain ⟨rfl, rfl, rfl⟩ : 0 = r1 ∧ 0 = r2 ∧ false = r3 := by simpa using e
      exact fracRead_no1 a0 hs (fun v e => h1 v e) w hE
  · cases h

/-! ### laws_eqFrac: function 23 -/
def laws_eqFrac.f (a0_0 : Int) (a0_1 : Int) (a1_0 : Int) (a1_1 : Int) : Option (Bool) := if a0_0 = a1_0 then (if a0_1 = a1_1 then (some true) else (some false)) else (some false)
set_option maxHeartbeats 8000000 in
set_option maxRecDepth 100000 in
theorem laws_eqFrac.calls (a0_0 : Int) (a0_1 : Int) (a1_0 : Int) (a1_1 : Int) (r : Bool) (w : World) (h : laws_eqFrac.f a0_0 a0_1 a1_0 a1_1 = some r) :
    Calls Tryd.prog 23 #[.agg #[.int .i64 a0_0, .int .i64 a0_1], .agg #[.int .i64 a1_0, .int .i64 a1_1]] w fun e w' => e = .returned (.bool r) ∧ Below w.heap.size w w' := by
  have hu25 := Tryd.underlying25
  have HB := Aside0.mk (Below.refl w.heap.size w)
  have H : (if a0_0 = a1_0 then (if a0_1 = a1_1 then (some true) else (some false)) else (some false)) = some r := h
  clear h
  by_cases c3 : a0_0 = a1_0
  · rw [if_pos c3] at H
    have c3b0 : (a0_0 == a1_0) = true := beq_iff_eq.mpr c3
    have c3b1 : (a0_0 != a1_0) = false := bne_eq_false_iff_eq.mpr c3
    clear c3
    by_cases c4 : a0_1 = a1_1
    · rw [if_pos c4] at H
      have c4b0 : (a0_1 == a1_1) = true := beq_iff_eq.mpr c4
      have c4b1 : (a0_1 != a1_1) = false := bne_eq_false_iff_eq.mpr c4
      clear c4
      obtain rfl := Option.some.inj H
      go_enter Tryd.func23, Tryd.ntmps23
      go_wp2_with (first | ((with_reducible refine gate_dst (N := 2) rfl ?_); refine box_event ?hg (N := 2) ?hd (cs := #[.int .i64 a0_0, .int .i64 a0_1]) (t := 25) ?hr ?_; (case hd => rfl); (case hg => rfl); (case hr => first | (go_simp; done) | (go_simp; rfl)); intro gb127 hg w5 hbox hb; have n0_ := Aside0.mk (below_step (by repeat (first | (with_reducible first | exact HB.out | apply below_alloc | apply pw_below_drewN | apply below_drew1) | exact HB.out)) hb); have n1_ := Aside0.mk (hbox); have n2_ := Aside0.mk ((by rw [hg]; exact (below_size (by repeat (first | (with_reducible first | exact HB.out | apply below_alloc | apply pw_below_drewN | apply below_drew1) | exact HB.out))) : w.heap.size ≤ gb127)); have n3_ := Aside0.mk ((by rw [hg]; exact (below_size (by repeat (first | (with_reducible first | exact HB.out | apply below_alloc | apply pw_below_drewN | apply below_drew1) | exact HB.out))) : w.heap.size ≤ gb127)); clear HB; have HB := n0_; have BK127 := n1_; have GW127 := n2_; have GE127 := n3_; clear n0_ n1_ n2_ n3_; clear hb hbox hg) | ((with_reducible refine gate_dst (N := 3) rfl ?_); refine box_event ?hg (N := 3) ?hd (cs := #[.int .i64 a1_0, .int .i64 a1_1]) (t := 25) ?hr ?_; (case hd => rfl); (case hg => rfl); (case hr => first | (go_simp; done) | (go_simp; rfl)); intro gb128 hg w6 hbox hb; have n0_ := Aside0.mk (blk_below (g := gb127) (o := .cells #[.int .i64 a0_0, .int .i64 a0_1] 25 (0, 0)) (by (with_reducible repeat (first | refine blk_drewN ?_ _ | refine blk_drew ?_ | refine blk_alloc ?_ _)); exact BK127.out) hb); have n1_ := Aside0.mk (below_step (by repeat (first | (with_reducible first | exact HB.out | apply below_alloc | apply pw_below_drewN | apply below_drew1 | refine below_set ?_ GE127.out) | exact HB.out)) hb); have n2_ := Aside0.mk (hbox); have n3_ := Aside0.mk ((by rw [hg]; exact (below_size (by repeat (first | (with_reducible first | exact HB.out | apply below_alloc | apply pw_below_drewN | apply below_drew1 | refine below_set ?_ GE127.out) | exact HB.out))) : w.heap.size ≤ gb128)); have n4_ := Aside0.mk ((by rw [hg]; exact (below_size (by repeat (first | (with_reducible first | exact HB.out | apply below_alloc | apply pw_below_drewN | apply below_drew1 | refine below_set ?_ GE127.out) | exact HB.out))) : w.heap.size ≤ gb128)); have n5_ := Aside0.mk ((by rw [hg]; exact Nat.ne_of_lt (blk_lt (g := gb127) (o := .cells #[.int .i64 a0_0, .int .i64 a0_1] 25 (0, 0)) (by (with_reducible repeat (first | refine blk_drewN ?_ _ | refine blk_drew ?_ | refine blk_alloc ?_ _)); exact BK127.out)) : gb127 ≠ gb128)); have n6_ := Aside0.mk ((by rw [hg]; exact Nat.ne_of_gt (blk_lt (g := gb127) (o := .cells #[.int .i64 a0_0, .int .i64 a0_1] 25 (0, 0)) (by (with_reducible repeat (first | refine blk_drewN ?_ _ | refine blk_drew ?_ | refine blk_alloc ?_ _)); exact BK127.out)) : gb128 ≠ gb127)); clear BK127; clear HB; have BK127 := n0_; have HB := n1_; have BK128 := n2_; have GW128 := n3_; have GE128 := n4_; have NB127_128 := n5_; have NB128_127 := n6_; clear n0_ n1_ n2_ n3_ n4_ n5_ n6_; clear hb hbox hg; have hnb7 := NB127_128.out; have hnc7 := NB128_127.out; have hcz8_0 : w6.cell? ⟨gb127, 0, none⟩ = some (.int .i64 a0_0) := (blk_cell BK127.out 0).trans rfl; have hcz8_1 : w6.cell? ⟨gb127, 1, none⟩ = some (.int .i64 a0_1) := (blk_cell BK127.out 1).trans rfl; have hfz8_0 := blk_frozen BK127.out 0; have hfz8_1 := blk_frozen BK127.out 1; have hcz9_0 : w6.cell? ⟨gb128, 0, none⟩ = some (.int .i64 a1_0) := (blk_cell BK128.out 0).trans rfl; have hcz9_1 : w6.cell? ⟨gb128, 1, none⟩ = some (.int .i64 a1_1) := (blk_cell BK128.out 1).trans rfl; have hfz9_0 := blk_frozen BK128.out 0; have hfz9_1 := blk_frozen BK128.out 1))
      go_ret
      exact ⟨by first | rfl | (simp [errW_none, errW_some] <;> rfl) | (simp [*, errW_none, errW_some] <;> rfl), by repeat (first | (with_reducible first | exact HB.out | apply below_alloc | apply pw_below_drewN | apply below_drew1 | refine below_set ?_ GE127.out | refine below_set ?_ GE128.out) | exact HB.out)⟩
    · rw [if_neg c4] at H
      have c4b0 : (a0_1 == a1_1) = false := beq_eq_false_iff_ne.mpr c4
      have c4b1 : (a0_1 != a1_1) = true := bne_iff_ne.mpr c4
      obtain rfl := Option.some.inj H
      go_enter Tryd.func23, Tryd.ntmps23
      go_wp2_with (first | ((with_reducible refine gate_dst (N := 2) rfl ?_); refine box_event ?hg (N := 2) ?hd (cs := #[.int .i64 a0_0, .int .i64 a0_1]) (t := 25) ?hr ?_; (case hd => rfl); (case hg => rfl); (case hr => first | (go_simp; done) | (go_simp; rfl)); intro gb127 hg w10 hbox hb; have n0_ := Aside0.mk (below_step (by repeat (first | (with_reducible first | exact HB.out | apply below_alloc | apply pw_below_drewN | apply below_drew1) | exact HB.out)) hb); have n1_ := Aside0.mk (hbox); have n2_ := Aside0.mk ((by rw [hg]; exact (below_size (by repeat (first | (with_reducible first | exact HB.out | apply below_alloc | apply pw_below_drewN | apply below_drew1) | exact HB.out))) : w.heap.size ≤ gb127)); have n3_ := Aside0.mk ((by rw [hg]; exact (below_size (by repeat (first | (with_reducible first | exact HB.out | apply below_alloc | apply pw_below_drewN | apply below_drew1) | exact HB.out))) : w.heap.size ≤ gb127)); clear HB; have HB := n0_; have BK127 := n1_; have GW127 := n2_; have GE127 := n3_; clear n0_ n1_ n2_ n3_; clear hb hbox hg) | ((with_reducible refine gate_dst (N := 3) rfl ?_); refine box_event ?hg (N := 3) ?hd (cs := #[.int .i64 a1_0, .int .i64 a1_1]) (t := 25) ?hr ?_; (case hd => rfl); (case hg => rfl); (case hr => first | (go_simp; done) | (go_simp; rfl)); intro gb128 hg w11 hbox hb; have n0_ := Aside0.mk (blk_below (g := gb127) (o := .cells #[.int .i64 a0_0, .int .i64 a0_1] 25 (0, 0)) (by (with_reducible repeat (first | refine blk_drewN ?_ _ | refine blk_drew ?_ | refine blk_alloc ?_ _)); exact BK127.out) hb); have n1_ := Aside0.mk (below_step (by repeat (first | (with_reducible first | exact HB.out | apply below_alloc | apply pw_below_drewN | apply below_drew1 | refine below_set ?_ GE127.out) | exact HB.out)) hb); have n2_ := Aside0.mk (hbox); have n3_ := Aside0.mk ((by rw [hg]; exact (below_size (by repeat (first | (with_reducible first | exact HB.out | apply below_alloc | apply pw_below_drewN | apply below_drew1 | refine below_set ?_ GE127.out) | exact HB.out))) : w.heap.size ≤ gb128)); have n4_ := Aside0.mk ((by rw [hg]; exact (below_size (by repeat (first | (with_reducible first | exact HB.out | apply below_alloc | apply pw_below_drewN | apply below_drew1 | refine below_set ?_ GE127.out) | exact HB.out))) : w.heap.size ≤ gb128)); have n5_ := Aside0.mk ((by rw [hg]; exact Nat.ne_of_lt (blk_lt (g := gb127) (o := .cells #[.int .i64 a0_0, .int .i64 a0_1] 25 (0, 0)) (by (with_reducible repeat (first | refine blk_drewN ?_ _ | refine blk_drew ?_ | refine blk_alloc ?_ _)); exact BK127.out)) : gb127 ≠ gb128)); have n6_ := Aside0.mk ((by rw [hg]; exact Nat.ne_of_gt (blk_lt (g := gb127) (o := .cells #[.int .i64 a0_0, .int .i64 a0_1] 25 (0, 0)) (by (with_reducible repeat (first | refine blk_drewN ?_ _ | refine blk_drew ?_ | refine blk_alloc ?_ _)); exact BK127.out)) : gb128 ≠ gb127)); clear BK127; clear HB; have BK127 := n0_; have HB := n1_; have BK128 := n2_; have GW128 := n3_; have GE128 := n4_; have NB127_128 := n5_; have NB128_127 := n6_; clear n0_ n1_ n2_ n3_ n4_ n5_ n6_; clear hb hbox hg; have hnb12 := NB127_128.out; have hnc12 := NB128_127.out; have hcz13_0 : w11.cell? ⟨gb127, 0, none⟩ = some (.int .i64 a0_0) := (blk_cell BK127.out 0).trans rfl; have hcz13_1 : w11.cell? ⟨gb127, 1, none⟩ = some (.int .i64 a0_1) := (blk_cell BK127.out 1).trans rfl; have hfz13_0 := blk_frozen BK127.out 0; have hfz13_1 := blk_frozen BK127.out 1; have hcz14_0 : w11.cell? ⟨gb128, 0, none⟩ = some (.int .i64 a1_0) := (blk_cell BK128.out 0).trans rfl; have hcz14_1 : w11.cell? ⟨gb128, 1, none⟩ = some (.int .i64 a1_1) := (blk_cell BK128.out 1).trans rfl; have hfz14_0 := blk_frozen BK128.out 0; have hfz14_1 := blk_frozen BK128.out 1))
      go_ret
      exact ⟨by first | rfl | (simp [errW_none, errW_some] <;> rfl) | (simp [*, errW_none, errW_some] <;> rfl), by repeat (first | (with_reducible first | exact HB.out | apply below_alloc | apply pw_below_drewN | apply below_drew1 | refine below_set ?_ GE127.out | refine below_set ?_ GE128.out) | exact HB.out)⟩
  · rw [if_neg c3] at H
    have c3b0 : (a0_0 == a1_0) = false := beq_eq_false_iff_ne.mpr c3
    have c3b1 : (a0_0 != a1_0) = true := bne_iff_ne.mpr c3
    obtain rfl := Option.some.inj H
    go_enter Tryd.func23, Tryd.ntmps23
    go_wp2_with (first | ((with_reducible refine gate_dst (N := 2) rfl ?_); refine box_event ?hg (N := 2) ?hd (cs := #[.int .i64 a0_0, .int .i64 a0_1]) (t := 25) ?hr ?_; (case hd => rfl); (case hg => rfl); (case hr => first | (go_simp; done) | (go_simp; rfl)); intro gb127 hg w15 hbox hb; have n0_ := Aside0.mk (below_step (by repeat (first | (with_reducible first | exact HB.out | apply below_alloc | apply pw_below_drewN | apply below_drew1) | exact HB.out)) hb); have n1_ := Aside0.mk (hbox); have n2_ := Aside0.mk ((by rw [hg]; exact (below_size (by repeat (first | (with_reducible first | exact HB.out | apply below_alloc | apply pw_below_drewN | apply below_drew1) | exact HB.out))) : w.heap.size ≤ gb127)); have n3_ := Aside0.mk ((by rw [hg]; exact (below_size (by repeat (first | (with_reducible first | exact HB.out | apply below_alloc | apply pw_below_drewN | apply below_drew1) | exact HB.out))) : w.heap.size ≤ gb127)); clear HB; have HB := n0_; have BK127 := n1_; have GW127 := n2_; have GE127 := n3_; clear n0_ n1_ n2_ n3_; clear hb hbox hg) | ((with_reducible refine gate_dst (N := 3) rfl ?_); refine box_event ?hg (N := 3) ?hd (cs := #[.int .i64 a1_0, .int .i64 a1_1]) (t := 25) ?hr ?_; (case hd => rfl); (case hg => rfl); (case hr => first | (go_simp; done) | (go_simp; rfl)); intro gb128 hg w16 hbox hb; have n0_ := Aside0.mk (blk_below (g := gb127) (o := .cells #[.int .i64 a0_0, .int .i64 a0_1] 25 (0, 0)) (by (with_reducible repeat (first | refine blk_drewN ?_ _ | refine blk_drew ?_ | refine blk_alloc ?_ _)); exact BK127.out) hb); have n1_ := Aside0.mk (below_step (by repeat (first | (with_reducible first | exact HB.out | apply below_alloc | apply pw_below_drewN | apply below_drew1 | refine below_set ?_ GE127.out) | exact HB.out)) hb); have n2_ := Aside0.mk (hbox); have n3_ := Aside0.mk ((by rw [hg]; exact (below_size (by repeat (first | (with_reducible first | exact HB.out | apply below_alloc | apply pw_below_drewN | apply below_drew1 | refine below_set ?_ GE127.out) | exact HB.out))) : w.heap.size ≤ gb128)); have n4_ := Aside0.mk ((by rw [hg]; exact (below_size (by repeat (first | (with_reducible first | exact HB.out | apply below_alloc | apply pw_below_drewN | apply below_drew1 | refine below_set ?_ GE127.out) | exact HB.out))) : w.heap.size ≤ gb128)); have n5_ := Aside0.mk ((by rw [hg]; exact Nat.ne_of_lt (blk_lt (g := gb127) (o := .cells #[.int .i64 a0_0, .int .i64 a0_1] 25 (0, 0)) (by (with_reducible repeat (first | refine blk_drewN ?_ _ | refine blk_drew ?_ | refine blk_alloc ?_ _)); exact BK127.out)) : gb127 ≠ gb128)); have n6_ := Aside0.mk ((by rw [hg]; exact Nat.ne_of_gt (blk_lt (g := gb127) (o := .cells #[.int .i64 a0_0, .int .i64 a0_1] 25 (0, 0)) (by (with_reducible repeat (first | refine blk_drewN ?_ _ | refine blk_drew ?_ | refine blk_alloc ?_ _)); exact BK127.out)) : gb128 ≠ gb127)); clear BK127; clear HB; have BK127 := n0_; have HB := n1_; have BK128 := n2_; have GW128 := n3_; have GE128 := n4_; have NB127_128 := n5_; have NB128_127 := n6_; clear n0_ n1_ n2_ n3_ n4_ n5_ n6_; clear hb hbox hg; have hnb17 := NB127_128.out; have hnc17 := NB128_127.out; have hcz18_0 : w16.cell? ⟨gb127, 0, none⟩ = some (.int .i64 a0_0) := (blk_cell BK127.out 0).trans rfl; have hcz18_1 : w16.cell? ⟨gb127, 1, none⟩ = some (.int .i64 a0_1) := (blk_cell BK127.out 1).trans rfl; have hfz18_0 := blk_frozen BK127.out 0; have hfz18_1 := blk_frozen BK127.out 1; have hcz19_0 : w16.cell? ⟨gb128, 0, none⟩ = some (.int .i64 a1_0) := (blk_cell BK128.out 0).trans rfl; have hcz19_1 : w16.cell? ⟨gb128, 1, none⟩ = some (.int .i64 a1_1) := (blk_cell BK128.out 1).trans rfl; have hfz19_0 := blk_frozen BK128.out 0; have hfz19_1 := blk_frozen BK128.out 1))
    go_ret
    exact ⟨by first | rfl | (simp [errW_none, errW_some] <;> rfl) | (simp [*, errW_none, errW_some] <;> rfl), by repeat (first | (with_reducible first | exact HB.out | apply below_alloc | apply pw_below_drewN | apply below_drew1 | refine below_set ?_ GE127.out | refine below_set ?_ GE128.out) | exact HB.out)⟩

/-! ### laws_FnExactFracRead: function 7 -/
def laws_FnExactFracRead.f (k : Nat) (a0 : ByteArray) : Option (Bool) := if (a0.size : Int) > 1048576 then (some true) else ((spec_FracRead.f k a0).bind fun bt129 => ((impl_FracRead.f k a0).bind fun bt133 => ((laws_eqFrac.f bt133.1 bt133.2.1 bt129.1 bt129.2.1).bind fun t137 => (if t137 = true then (if (bt133.2.2 != bt129.2.2) = true then (some false) else (some true)) else (some false)))))
theorem laws_FnExactFracRead.mono : ∀ a0 k, LeO (laws_FnExactFracRead.f k a0) (laws_FnExactFracRead.f (k + 1) a0) := by
  intro a0 k
  unfold laws_FnExactFracRead.f
  repeat' first
      | (with_reducible exact impl_FracRead.mono _ _)
      | (with_reducible exact spec_FracRead.mono _ _)
      | (with_reducible exact LeO.refl _)
      | (with_reducible exact LeO.none _)
      | (with_reducible refine LeO.ite ?_ ?_)
      | (with_reducible refine LeO.bind ?_ (fun _ => ?_))
      | exact impl_FracRead.mono _ _
      | exact spec_FracRead.mono _ _
      | exact LeO.none _
      | refine LeO.ite ?_ ?_
      | refine LeO.bind ?_ (fun _ => ?_)
set_option maxHeartbeats 8000000 in
set_option maxRecDepth 100000 in
theorem laws_FnExactFracRead.calls (k : Nat) (a0 : ByteArray) (r : Bool) (w : World) (h : laws_FnExactFracRead.f k a0 = some r) (hrt : r = true) (hE : Env w) :
    Calls Tryd.prog 7 #[.string a0] w fun e w' => e = .returned (.bool r) ∧ Below w.heap.size w w' := by
  have HENV := Aside0.mk hE
  clear hE
  have HRT := Aside0.mk hrt
  clear hrt
  have hu25 := Tryd.underlying25
  have HB := Aside0.mk (Below.refl w.heap.size w)
  have H : (if (a0.size : Int) > 1048576 then (some true) else ((spec_FracRead.f k a0).bind fun bt129 => ((impl_FracRead.f k a0).bind fun bt133 => ((laws_eqFrac.f bt133.1 bt133.2.1 bt129.1 bt129.2.1).bind fun t137 => (if t137 = true then (if (bt133.2.2 != bt129.2.2) = true then (some false) else (some true)) else (some false)))))) = some r := h
  clear h
  by_cases c2 : (a0.size : Int) > 1048576
  · rw [if_pos c2] at H
    have c2b0 : decide (1048576 < (a0.size : Int)) = true := decide_eq_true c2
    have c2b1 : decide (1048576 < a0.size) = true := decide_eq_true (by omega)
    clear c2
    obtain rfl := Option.some.inj H
    go_enter Tryd.func7, Tryd.ntmps7
    go_wp2
    go_ret
    exact ⟨by first | rfl | (simp [errW_none, errW_some] <;> rfl) | (simp [*, errW_none, errW_some] <;> rfl), by repeat (first | (with_reducible first | exact HB.out | apply below_alloc | apply pw_below_drewN | apply below_drew1) | exact HB.out)⟩
  · rw [if_neg c2] at H
    have c2b0 : decide (1048576 < (a0.size : Int)) = false := decide_eq_false c2
    have c2b1 : decide (1048576 < a0.size) = false := decide_eq_false (by omega)
    clear c2
    replace H := Option.bind_eq_some_iff.mp H
    obtain ⟨⟨t129, t130, t131⟩, A30, H⟩ := H
    replace H : ((impl_FracRead.f k a0).bind fun bt133 => ((laws_eqFrac.f bt133.1 bt133.2.1 t129 t130).bind fun t137 => (if t137 = true then (if (bt133.2.2 != t131) = true then (some false) else (some true)) else (some false)))) = some r := H
    have A3 := Aside0.mk A30
    clear A30
    replace H := Option.bind_eq_some_iff.mp H
    obtain ⟨⟨t133, t134, t135⟩, A40, H⟩ := H
    replace H : ((laws_eqFrac.f t133 t134 t129 t130).bind fun t137 => (if t137 = true then (if (t135 != t131) = true then (some false) else (some true)) else (some false))) = some r := H
    have A4 := Aside0.mk A40
    clear A40
    replace H := Option.bind_eq_some_iff.mp H
    obtain ⟨t137, A50, H⟩ := H
    replace H : (if t137 = true then (if (t135 != t131) = true then (some false) else (some true)) else (some false)) = some r := H
    have A5 := Aside0.mk A50
    clear A50
    by_cases c6 : t137 = true
    · subst c6
      have H1 : (if (t135 != t131) = true then (some false) else (some true)) = some r := by rw [if_pos rfl] at H; exact H
      clear H
      have H := H1
      clear H1
      by_cases c7 : (t135 != t131) = true
      · rw [if_pos c7] at H
        have c7b0 : (t135 != t131) = true := c7
        (try (have c7b1 : decide (t135 = t131) = false := by simpa using c7))
        (try (have c7b2 : (t135 == t131) = false := by simpa using c7))
        (try (have c7b3 : ¬ (t135 = t131) := by simpa using c7))
        clear c7
        exact absurd (Option.some.inj (H.trans (congrArg some HRT.out))) (by decide)
      · rw [if_neg c7] at H
        have c7b0 : (t135 != t131) = false := by simpa using c7
        (try (have c7b1 : decide (t135 = t131) = true := by simpa using c7))
        (try (have c7b2 : (t135 == t131) = true := by simpa using c7))
        clear c7
        obtain rfl := Option.some.inj H
        go_enter Tryd.func7, Tryd.ntmps7
        go_wp2_with (first | ((with_reducible refine gate_callee (f := 21) rfl ?_); refine goesL_ (some 12) rfl rfl Tryd.func21 (by kernel_rfl) rfl #[.string a0] rfl (by (try simp only [List.map_toArray, List.map_cons, List.map_nil]); first | done | rfl | (simp only [List.length_drop, List.length_take]; rfl)) ?_; (with_reducible refine (spec_FracRead.calls k a0 t129 t130 t131 _ A3.out).mono ?_); rintro e w8 ⟨rfl, hb⟩; refine ⟨_, rfl, ?_⟩; have n0_ := Aside0.mk (below_step (by repeat (first | (with_reducible first | exact HB.out | apply below_alloc | apply pw_below_drewN | apply below_drew1) | exact HB.out)) hb); clear HB; have HB := n0_; clear n0_; (try clear hb); (try clear hb2); (try clear hk); (try clear hi)) | ((with_reducible refine gate_dst (N := 3) rfl ?_); refine box_event ?hg (N := 3) ?hd (cs := #[.int .i64 0, .int .i64 0]) (t := 25) ?hr ?_; (case hd => rfl); (case hg => rfl); (case hr => first | (go_simp; done) | (go_simp; rfl)); intro gb132 hg w9 hbox hb; have n0_ := Aside0.mk (below_step (by repeat (first | (with_reducible first | exact HB.out | apply below_alloc | apply pw_below_drewN | apply below_drew1) | exact HB.out)) hb); have n1_ := Aside0.mk (hbox); have n2_ := Aside0.mk ((by rw [hg]; exact (below_size (by repeat (first | (with_reducible first | exact HB.out | apply below_alloc | apply pw_below_drewN | apply below_drew1) | exact HB.out))) : w.heap.size ≤ gb132)); have n3_ := Aside0.mk ((by rw [hg]; exact (below_size (by repeat (first | (with_reducible first | exact HB.out | apply below_alloc | apply pw_below_drewN | apply below_drew1) | exact HB.out))) : w.heap.size ≤ gb132)); clear HB; have HB := n0_; have BK132 := n1_; have GW132 := n2_; have GE132 := n3_; clear n0_ n1_ n2_ n3_; clear hb hbox hg; have hcz10_0 : w9.cell? ⟨gb132, 0, none⟩ = some (.int .i64 0) := (blk_cell BK132.out 0).trans rfl; have hcz10_1 : w9.cell? ⟨gb132, 1, none⟩ = some (.int .i64 0) := (blk_cell BK132.out 1).trans rfl; have hfz10_0 := blk_frozen BK132.out 0; have hfz10_1 := blk_frozen BK132.out 1) | ((with_reducible refine gate_callee (f := 22) rfl ?_); refine goesL_ (some 17) rfl rfl Tryd.func22 (by kernel_rfl) rfl #[.string a0] rfl (by (try simp only [List.map_toArray, List.map_cons, List.map_nil]); first | done | rfl | (simp only [List.length_drop, List.length_take]; rfl)) ?_; (with_reducible refine (impl_FracRead.calls k a0 t133 t134 t135 _ A4.out (Env.below HENV.out (by repeat (first | (with_reducible first | exact HB.out | apply below_alloc | apply pw_below_drewN | apply below_drew1 | refine below_set ?_ GE132.out) | exact HB.out)))).mono ?_); rintro e w11 ⟨rfl, hb⟩; refine ⟨_, rfl, ?_⟩; have n0_ := Aside0.mk (blk_below (g := gb132) (o := .cells #[.int .i64 t129, .int .i64 t130] 25 (0, 0)) (by (with_reducible repeat (first | refine blk_drewN ?_ _ | refine blk_drew ?_ | refine blk_alloc ?_ _)); refine blk_put (cs := #[.int .i64 t129, .int .i64 0]) ?_ 1 _ rfl; (with_reducible repeat (first | refine blk_drewN ?_ _ | refine blk_drew ?_ | refine blk_alloc ?_ _)); refine blk_put (cs := #[.int .i64 0, .int .i64 0]) ?_ 0 _ rfl; (with_reducible repeat (first | refine blk_drewN ?_ _ | refine blk_drew ?_ | refine blk_alloc ?_ _)); exact BK132.out) hb); have n1_ := Aside0.mk (below_step (by repeat (first | (with_reducible first | exact HB.out | apply below_alloc | apply pw_below_drewN | apply below_drew1 | refine below_set ?_ GE132.out) | exact HB.out)) hb); clear BK132; clear HB; have BK132 := n0_; have HB := n1_; clear n0_ n1_; (try clear hb); (try clear hb2); (try clear hk); (try clear hi)) | ((with_reducible refine gate_dst (N := 5) rfl ?_); refine box_event ?hg (N := 5) ?hd (cs := #[.int .i64 0, .int .i64 0]) (t := 25) ?hr ?_; (case hd => rfl); (case hg => rfl); (case hr => first | (go_simp; done) | (go_simp; rfl)); intro gb136 hg w12 hbox hb; have n0_ := Aside0.mk (blk_below (g := gb132) (o := .cells #[.int .i64 t129, .int .i64 t130] 25 (0, 0)) (by (with_reducible repeat (first | refine blk_drewN ?_ _ | refine blk_drew ?_ | refine blk_alloc ?_ _)); exact BK132.out) hb); have n1_ := Aside0.mk (below_step (by repeat (first | (with_reducible first | exact HB.out | apply below_alloc | apply pw_below_drewN | apply below_drew1 | refine below_set ?_ GE132.out) | exact HB.out)) hb); have n2_ := Aside0.mk (hbox); have n3_ := Aside0.mk ((by rw [hg]; exact (below_size (by repeat (first | (with_reducible first | exact HB.out | apply below_alloc | apply pw_below_drewN | apply below_drew1 | refine below_set ?_ GE132.out) | exact HB.out))) : w.heap.size ≤ gb136)); have n4_ := Aside0.mk ((by rw [hg]; exact (below_size (by repeat (first | (with_reducible first | exact HB.out | apply below_alloc | apply pw_below_drewN | apply below_drew1 | refine below_set ?_ GE132.out) | exact HB.out))) : w.heap.size ≤ gb136)); have n5_ := Aside0.mk ((by rw [hg]; exact Nat.ne_of_lt (blk_lt (g := gb132) (o := .cells #[.int .i64 t129, .int .i64 t130] 25 (0, 0)) (by (with_reducible repeat (first | refine blk_drewN ?_ _ | refine blk_drew ?_ | refine blk_alloc ?_ _)); exact BK132.out)) : gb132 ≠ gb136)); have n6_ := Aside0.mk ((by rw [hg]; exact Nat.ne_of_gt (blk_lt (g := gb132) (o := .cells #[.int .i64 t129, .int .i64 t130] 25 (0, 0)) (by (with_reducible repeat (first | refine blk_drewN ?_ _ | refine blk_drew ?_ | refine blk_alloc ?_ _)); exact BK132.out)) : gb136 ≠ gb132)); clear BK132; clear HB; have BK132 := n0_; have HB := n1_; have BK136 := n2_; have GW136 := n3_; have GE136 := n4_; have NB132_136 := n5_; have NB136_132 := n6_; clear n0_ n1_ n2_ n3_ n4_ n5_ n6_; clear hb hbox hg; have hnb13 := NB136_132.out; have hnc13 := NB132_136.out; have hcz14_0 : w12.cell? ⟨gb136, 0, none⟩ = some (.int .i64 0) := (blk_cell BK136.out 0).trans rfl; have hcz14_1 : w12.cell? ⟨gb136, 1, none⟩ = some (.int .i64 0) := (blk_cell BK136.out 1).trans rfl; have hfz14_0 := blk_frozen BK136.out 0; have hfz14_1 := blk_frozen BK136.out 1; have hcz15_0 : w12.cell? ⟨gb132, 0, none⟩ = some (.int .i64 t129) := (blk_cell BK132.out 0).trans rfl; have hcz15_1 : w12.cell? ⟨gb132, 1, none⟩ = some (.int .i64 t130) := (blk_cell BK132.out 1).trans rfl; have hfz15_0 := blk_frozen BK132.out 0; have hfz15_1 := blk_frozen BK132.out 1) | ((with_reducible refine gate_callee (f := 23) rfl ?_); refine goesL_ (some 22) rfl rfl Tryd.func23 (by kernel_rfl) rfl #[.agg #[.int .i64 t133, .int .i64 t134], .agg #[.int .i64 t129, .int .i64 t130]] rfl (by (try simp only [List.map_toArray, List.map_cons, List.map_nil]); first | done | rfl | (simp only [List.length_drop, List.length_take]; rfl)) ?_; (with_reducible refine (laws_eqFrac.calls t133 t134 t129 t130 true _ A5.out).mono ?_); rintro e w16 ⟨rfl, hb⟩; refine ⟨_, rfl, ?_⟩; have n0_ := Aside0.mk (blk_below (g := gb132) (o := .cells #[.int .i64 t129, .int .i64 t130] 25 (0, 0)) (by (with_reducible repeat (first | refine blk_drewN ?_ _ | refine blk_drew ?_ | refine blk_alloc ?_ _)); refine blk_far ?_ NB132_136.out _; (with_reducible repeat (first | refine blk_drewN ?_ _ | refine blk_drew ?_ | refine blk_alloc ?_ _)); refine blk_far ?_ NB132_136.out _; (with_reducible repeat (first | refine blk_drewN ?_ _ | refine blk_drew ?_ | refine blk_alloc ?_ _)); exact BK132.out) hb); have n1_ := Aside0.mk (blk_below (g := gb136) (o := .cells #[.int .i64 t133, .int .i64 t134] 25 (0, 0)) (by (with_reducible repeat (first | refine blk_drewN ?_ _ | refine blk_drew ?_ | refine blk_alloc ?_ _)); refine blk_put (cs := #[.int .i64 t133, .int .i64 0]) ?_ 1 _ rfl; (with_reducible repeat (first | refine blk_drewN ?_ _ | refine blk_drew ?_ | refine blk_alloc ?_ _)); refine blk_put (cs := #[.int .i64 0, .int .i64 0]) ?_ 0 _ rfl; (with_reducible repeat (first | refine blk_drewN ?_ _ | refine blk_drew ?_ | refine blk_alloc ?_ _)); exact BK136.out) hb); have n2_ := Aside0.mk (below_step (by repeat (first | (with_reducible first | exact HB.out | apply below_alloc | apply pw_below_drewN | apply below_drew1 | refine below_set ?_ GE132.out | refine below_set ?_ GE136.out) | exact HB.out)) hb); clear BK132; clear BK136; clear HB; have BK132 := n0_; have BK136 := n1_; have HB := n2_; clear n0_ n1_ n2_; (try clear hb); (try clear hb2); (try clear hk); (try clear hi)))
        go_ret
        exact ⟨by first | rfl | (simp [errW_none, errW_some] <;> rfl) | (simp [*, errW_none, errW_some] <;> rfl), by repeat (first | (with_reducible first | exact HB.out | apply below_alloc | apply pw_below_drewN | apply below_drew1 | refine below_set ?_ GE132.out | refine below_set ?_ GE136.out) | exact HB.out)⟩
    · replace c6 := Bool.eq_false_iff.mpr c6
      subst c6
      have H1 : (some false) = some r := by rw [if_neg (show ¬ (false = true) by decide)] at H; exact H
      clear H
      have H := H1
      clear H1
      exact absurd (Option.some.inj (H.trans (congrArg some HRT.out))) (by decide)

/-- THE ONE PURE STATEMENT of laws_FnExactFracRead: yours. -/
def laws_FnExactFracRead.Pure : Prop := ∀ (a0 : ByteArray), a0.size ≤ 140737488351232 → ∃ k, laws_FnExactFracRead.f k a0 = some true
theorem laws_FnExactFracRead.walk (P : laws_FnExactFracRead.Pure) (a0 : ByteArray) (w : World) (w0 : a0.size ≤ 140737488351232) (hE : Env w) :
    Calls Tryd.prog 7 #[.string a0] w fun e w' => e = .returned (.bool true) ∧ Below w.heap.size w w' := by
  obtain ⟨k, h⟩ := P a0 w0
  refine (laws_FnExactFracRead.calls k a0 true w h rfl hE).mono ?_
  rintro e w' ⟨rfl, hd⟩
  exact ⟨rfl, hd⟩

end Go.Proofs.YthcbichnjgkjiaaDoor.PFnExactFracRead
