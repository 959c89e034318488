-- Written by a program of this session over the kit's printer, with contracts proved by hand; Lean checks it.
import Derived.Test.YthmllnigphcpaaaPFnExactNoiseOfx0
namespace Go.Proofs.Ythmllnigphcpaaa.PFnExactNoiseOf
open Go.RowKit Go.Proofs.YthmllnigphcpaaaW.PrintWords Go.Proofs.YthmllnigphcpaaaW.PrintLast Go.Proofs.YthmllnigphcpaaaW.PrintMore
attribute [local go_sem] max2_int min2_int max_two min_two max_three min_three max_four min_four   -- for this text's walks alone
set_option linter.unusedVariables false
set_option linter.unusedSimpArgs false

/-! ### spec_l33Of: function 31 -/
def spec_l33Of.f (a0 : Int) : Option (Int) := if a0 < 11 then (some 0) else (if a0 < 18 then (some 1) else (if a0 < 25 then (some (-1)) else (if a0 < 28 then (some 2) else (some (-2)))))
set_option maxHeartbeats 8000000 in
set_option maxRecDepth 100000 in
theorem spec_l33Of.calls (a0 : Int) (r : Int) (w : World) (h : spec_l33Of.f a0 = some r) :
    Calls Try.prog 31 #[.int .i64 a0] w fun e w' => e = .returned (.int .i64 r) ∧ Drawn0 w w' := by
  have H : (if a0 < 11 then (some 0) else (if a0 < 18 then (some 1) else (if a0 < 25 then (some (-1)) else (if a0 < 28 then (some 2) else (some (-2)))))) = some r := h
  clear h
  by_cases c2 : a0 < 11
  · rw [if_pos c2] at H
    have c2b0 : decide (a0 < 11) = true := decide_eq_true c2
    clear c2
    obtain rfl := Option.some.inj H
    go_enter Try.func31, Try.ntmps31
    go_wp2
    go_ret
    exact ⟨by first | rfl | (simp; done) | (simp [*]; done), by repeat (first | exact Drawn0.refl _ | apply Drawn0.step)⟩
  · rw [if_neg c2] at H
    have c2b0 : decide (a0 < 11) = false := decide_eq_false c2
    clear c2
    by_cases c3 : a0 < 18
    · rw [if_pos c3] at H
      have c3b0 : decide (a0 < 18) = true := decide_eq_true c3
      clear c3
      obtain rfl := Option.some.inj H
      go_enter Try.func31, Try.ntmps31
      go_wp2
      go_ret
      exact ⟨by first | rfl | (simp; done) | (simp [*]; done), by repeat (first | exact Drawn0.refl _ | apply Drawn0.step)⟩
    · rw [if_neg c3] at H
      have c3b0 : decide (a0 < 18) = false := decide_eq_false c3
      clear c3
      by_cases c4 : a0 < 25
      · rw [if_pos c4] at H
        have c4b0 : decide (a0 < 25) = true := decide_eq_true c4
        clear c4
        obtain rfl := Option.some.inj H
        go_enter Try.func31, Try.ntmps31
        go_wp2
        go_ret
        exact ⟨by first | rfl | (simp; done) | (simp [*]; done), by repeat (first | exact Drawn0.refl _ | apply Drawn0.step)⟩
      · rw [if_neg c4] at H
        have c4b0 : decide (a0 < 25) = false := decide_eq_false c4
        clear c4
        by_cases c5 : a0 < 28
        · rw [if_pos c5] at H
          have c5b0 : decide (a0 < 28) = true := decide_eq_true c5
          clear c5
          obtain rfl := Option.some.inj H
          go_enter Try.func31, Try.ntmps31
          go_wp2
          go_ret
          exact ⟨by first | rfl | (simp; done) | (simp [*]; done), by repeat (first | exact Drawn0.refl _ | apply Drawn0.step)⟩
        · rw [if_neg c5] at H
          have c5b0 : decide (a0 < 28) = false := decide_eq_false c5
          clear c5
          obtain rfl := Option.some.inj H
          go_enter Try.func31, Try.ntmps31
          go_wp2
          go_ret
          exact ⟨by first | rfl | (simp; done) | (simp [*]; done), by repeat (first | exact Drawn0.refl _ | apply Drawn0.step)⟩

/-! ### spec_l6In: function 44 -/
def spec_l6In.f (a0 : Int) (a1 : Int) (a2 : Int) : Option (Bool) := if a0 ≥ a1 then (some (decide (a0 ≤ a2))) else (some false)
set_option maxHeartbeats 8000000 in
set_option maxRecDepth 100000 in
theorem spec_l6In.calls (a0 : Int) (a1 : Int) (a2 : Int) (r : Bool) (w : World) (h : spec_l6In.f a0 a1 a2 = some r) :
    Calls Try.prog 44 #[.int .i64 a0, .int .i64 a1, .int .i64 a2] w fun e w' => e = .returned (.bool r) ∧ Drawn0 w w' := by
  have H : (if a0 ≥ a1 then (some (decide (a0 ≤ a2))) else (some false)) = some r := h
  clear h
  by_cases c4 : a0 ≥ a1
  · rw [if_pos c4] at H
    have c4b0 : decide (a1 ≤ a0) = true := decide_eq_true c4
    clear c4
    obtain rfl := Option.some.inj H
    go_enter Try.func44, Try.ntmps44
    go_wp2
    go_ret
    exact ⟨by first | rfl | (simp; done) | (simp [*]; done), by repeat (first | exact Drawn0.refl _ | apply Drawn0.step)⟩
  · rw [if_neg c4] at H
    have c4b0 : decide (a1 ≤ a0) = false := decide_eq_false c4
    clear c4
    obtain rfl := Option.some.inj H
    go_enter Try.func44, Try.ntmps44
    go_wp2
    go_ret
    exact ⟨by first | rfl | (simp; done) | (simp [*]; done), by repeat (first | exact Drawn0.refl _ | apply Drawn0.step)⟩

/-! ### spec_FieldOk: function 33 -/
def spec_FieldOk.f (a0 : Int) : Option (Bool) := (spec_l6In.f a0 0 30).bind fun t101 => (some t101)
set_option maxHeartbeats 8000000 in
set_option maxRecDepth 100000 in
theorem spec_FieldOk.calls (a0 : Int) (r : Bool) (w : World) (h : spec_FieldOk.f a0 = some r) :
    Calls Try.prog 33 #[.int .i64 a0] w fun e w' => e = .returned (.bool r) ∧ Drawn0 w w' := by
  have H : ((spec_l6In.f a0 0 30).bind fun t101 => (some t101)) = some r := h
  clear h
  replace H := Option.bind_eq_some_iff.mp H
  obtain ⟨t101, A20, H⟩ := H
  replace H : (some t101) = some r := H
  have A2 := Aside0.mk A20
  clear A20
  obtain rfl := Option.some.inj H
  go_enter Try.func33, Try.ntmps33
  go_wp2_with (first | ((with_reducible refine gate_callee (f := 44) rfl ?_); refine goesL_ (some 4) rfl rfl Try.func44 (by kernel_rfl) rfl #[.int .i64 a0, .int .i64 0, .int .i64 30] rfl (by (try simp only [List.map_toArray, List.map_cons, List.map_nil]); first | done | rfl | (simp only [List.length_drop, List.length_take]; rfl)) ?_; (with_reducible refine (spec_l6In.calls a0 0 30 t101 _ A2.out).mono ?_); rintro e w' ⟨rfl, ⟨nd, rfl⟩⟩; refine ⟨_, rfl, ?_⟩))
  go_ret
  exact ⟨by first | rfl | (simp; done) | (simp [*]; done), by repeat (first | exact Drawn0.refl _ | apply Drawn0.step)⟩

/-! ### spec_NoiseOf: function 15 -/
def spec_NoiseOf.f (a0 : Int) : Option (Int) := (spec_FieldOk.f a0).bind fun t102 => (if t102 = true then ((spec_l33Of.f a0).bind fun t103 => (some t103)) else (some 0))
set_option maxHeartbeats 8000000 in
set_option maxRecDepth 100000 in
theorem spec_NoiseOf.calls (a0 : Int) (r : Int) (w : World) (h : spec_NoiseOf.f a0 = some r) :
    Calls Try.prog 15 #[.int .i64 a0] w fun e w' => e = .returned (.int .i64 r) ∧ Drawn0 w w' := by
  have H : ((spec_FieldOk.f a0).bind fun t102 => (if t102 = true then ((spec_l33Of.f a0).bind fun t103 => (some t103)) else (some 0))) = some r := h
  clear h
  replace H := Option.bind_eq_some_iff.mp H
  obtain ⟨t102, A20, H⟩ := H
  replace H : (if t102 = true then ((spec_l33Of.f a0).bind fun t103 => (some t103)) else (some 0)) = some r := H
  have A2 := Aside0.mk A20
  clear A20
  by_cases c3 : t102 = true
  · subst c3
    have H1 : ((spec_l33Of.f a0).bind fun t103 => (some t103)) = some r := by rw [if_pos rfl] at H; exact H
    clear H
    have H := H1
    clear H1
    replace H := Option.bind_eq_some_iff.mp H
    obtain ⟨t103, A40, H⟩ := H
    replace H : (some t103) = some r := H
    have A4 := Aside0.mk A40
    clear A40
    obtain rfl := Option.some.inj H
    go_enter Try.func15, Try.ntmps15
    go_wp2_with (first | ((with_reducible refine gate_callee (f := 33) rfl ?_); refine goesL_ (some 4) rfl rfl Try.func33 (by kernel_rfl) rfl #[.int .i64 a0] rfl (by (try simp only [List.map_toArray, List.map_cons, List.map_nil]); first | done | rfl | (simp only [List.length_drop, List.length_take]; rfl)) ?_; (with_reducible refine (spec_FieldOk.calls a0 true _ A2.out).mono ?_); rintro e w' ⟨rfl, ⟨nd, rfl⟩⟩; refine ⟨_, rfl, ?_⟩) | ((with_reducible refine gate_callee (f := 31) rfl ?_); refine goesL_ (some 7) rfl rfl Try.func31 (by kernel_rfl) rfl #[.int .i64 a0] rfl (by (try simp only [List.map_toArray, List.map_cons, List.map_nil]); first | done | rfl | (simp only [List.length_drop, List.length_take]; rfl)) ?_; (with_reducible refine (spec_l33Of.calls a0 t103 _ A4.out).mono ?_); rintro e w' ⟨rfl, ⟨nd, rfl⟩⟩; refine ⟨_, rfl, ?_⟩))
    go_ret
    exact ⟨by first | rfl | (simp; done) | (simp [*]; done), by repeat (first | exact Drawn0.refl _ | apply Drawn0.step)⟩
  · replace c3 := Bool.eq_false_iff.mpr c3
    subst c3
    have H1 : (some 0) = some r := by rw [if_neg (show ¬ (false = true) by decide)] at H; exact H
    clear H
    have H := H1
    clear H1
    obtain rfl := Option.some.inj H
    go_enter Try.func15, Try.ntmps15
    go_wp2_with (first | ((with_reducible refine gate_callee (f := 33) rfl ?_); refine goesL_ (some 4) rfl rfl Try.func33 (by kernel_rfl) rfl #[.int .i64 a0] rfl (by (try simp only [List.map_toArray, List.map_cons, List.map_nil]); first | done | rfl | (simp only [List.length_drop, List.length_take]; rfl)) ?_; (with_reducible refine (spec_FieldOk.calls a0 false _ A2.out).mono ?_); rintro e w' ⟨rfl, ⟨nd, rfl⟩⟩; refine ⟨_, rfl, ?_⟩))
    go_ret
    exact ⟨by first | rfl | (simp; done) | (simp [*]; done), by repeat (first | exact Drawn0.refl _ | apply Drawn0.step)⟩

/-! ### impl_noises: function 32 -/
def nz (n : Int) : Int := if n ≤ 10 then 0 else if n ≤ 17 then 1 else if n ≤ 24 then -1 else if n ≤ 27 then 2 else -2
def tab (k : Nat) : Array Value := Array.ofFn (n := 31) fun i => .int .i64 (if i.val < k then nz i.val else 0)
theorem tab_size (k : Nat) : (tab k).size = 31 := by simp [tab]
theorem tab_get (k i : Nat) (h : i < 31) : (tab k)[i]? = some (.int .i64 (if i < k then nz i else 0)) := by
  simp [tab, h]
theorem below_setRow {B : Nat} {a w : World} {g : Nat} (h : Below B a w) (hg : B ≤ g) (cs : Array Value) : Below B a (w.setRow g cs) :=
  h.trans ⟨rfl, rfl, rfl, by simp, fun k hk => by simp [World.setRow, Array.getElem?_modify]; omega⟩
theorem tab_set (k : Nat) (v : Int) (hv : v = nz k) : (tab k).setIfInBounds k (.int .i64 v) = tab (k + 1) := by
  subst hv
  apply Array.ext_getElem?
  intro i
  rw [Array.getElem?_setIfInBounds, tab_size]
  by_cases hi : i < 31
  · rw [tab_get _ _ hi, tab_get _ _ hi]
    by_cases e : k = i
    · subst e; simp [hi]
    · have : (i < k + 1) = (i < k) := by simp; omega
      simp [e, this]
  · have e1 : (tab k)[i]? = none := by rw [Array.getElem?_eq_none]; rw [tab_size]; omega
    have e2 : (tab (k + 1))[i]? = none := by rw [Array.getElem?_eq_none]; rw [tab_size]; omega
    rw [e1, e2]
    by_cases e : k = i
    · subst e; simp [hi]
    · simp [e]
theorem info41' : (Try.prog.info? 41).map (fun i => i.size) = some 31 := by kernel_rfl
theorem tab_info : (Try.prog.info? 41).map (fun i => i.size) = some (tab 31).size := by
  have e := tab_size 31
  generalize (tab 31).size = n at *
  subst e
  exact info41'
theorem ints_one (a : Array Value) (h : ∀ (i : Nat) (v : Value), a[i]? = some v → ∃ n, v = .int .i64 n) : a.all (fun v => v.oneCell') = true := by
  apply Array.all_eq_true_iff_forall_mem.2
  intro v hv
  obtain ⟨i, hi, e⟩ := Array.mem_iff_getElem.1 hv
  obtain ⟨n, rfl⟩ := h i v (by rw [Array.getElem?_eq_getElem hi, e])
  rfl
theorem tab_one (k : Nat) : (tab k).all (fun v => v.oneCell') = true := by
  refine ints_one _ fun i v hv => ?_
  by_cases hi : i < 31
  · rw [tab_get k i hi] at hv
    injection hv with hv
    exact ⟨_, hv.symm⟩
  · rw [Array.getElem?_eq_none (by rw [tab_size]; omega)] at hv
    cases hv
def NoiseRel (w w' : World) (k : Nat) : Prop := w'.heap[w.heap.size + 1]? = some (.cells (tab k) 41 (0, 0)) ∧ (∃ z : Array Value, z.size = 31 ∧ w'.heap[w.heap.size]? = some (.cells z 41 (0, 0))) ∧ Below w.heap.size w w'
theorem NoiseRel.cell {w w' : World} {k : Nat} (h : NoiseRel w w' k) (hk : k < 31) : w'.cell? ⟨w.heap.size + 1, k, none⟩ = some (.int .i64 0) := by
  rw [cell_of_row w' _ k _ _ _ h.1, tab_get k k hk]; simp
theorem NoiseRel.frozen {w w' : World} {k : Nat} (h : NoiseRel w w' k) (i : Nat) : w'.frozen? ⟨w.heap.size + 1, i, none⟩ = false := frozen_of_row w' _ i _ _ h.1
theorem NoiseRel.next {w w' : World} {k : Nat} (h : NoiseRel w w' k) (v : Int) (hv : v = nz k) : NoiseRel w (w'.setCell ⟨w.heap.size + 1, k, none⟩ (.int .i64 v)) (k + 1) := by
  refine ⟨?_, ?_, ?_⟩
  · rw [heap_setCell_same w' _ k _ _ _ h.1, tab_set k v hv]
  · obtain ⟨z, hz, hh⟩ := h.2.1
    exact ⟨z, hz, by rw [heap_setCell_other w' _ _ _ (by simp)]; exact hh⟩
  · exact h.2.2.setCell (by simp) _
set_option maxRecDepth 100000 in
theorem noises_calls (w : World) : Calls Try.prog 32 #[] w fun e w' => e = .returned (.agg (tab 31)) ∧ Below w.heap.size w w' := by
  go_enter Try.func32, Try.ntmps32
  go_wp2
  go_loopw [3] (fun v3 w' => ∃ k : Nat, k ≤ 31 ∧ v3 = .int .i64 k ∧ NoiseRel w w' k) (fun v3 _ => 31 - (intOf v3).toNat)
  case atStart =>
    refine ⟨0, by omega, rfl, ?_, ⟨_, ?_, heap_alloc2_old _ _ _⟩, ?_⟩
    · rw [heap_alloc2_new]; rfl
    · rfl
    · exact ((Below.refl _ _).alloc (Nat.le_refl _) _).alloc (by simp) _
  case round =>
    obtain ⟨k, hk, rfl, hR⟩ := hrel
    by_cases hlt : k < 31
    · have hc := hR.cell hlt
      have hf := hR.frozen k
      have HR := Go.Lib.hid hR
      clear hR
      have hn : nz k = (if (k : Int) ≤ 10 then 0 else if (k : Int) ≤ 17 then 1 else if (k : Int) ≤ 24 then -1 else if (k : Int) ≤ 27 then 2 else -2) := rfl
      have HN := Go.Lib.hid hn
      clear hn
      have hw : k ≤ 10 ∨ (11 ≤ k ∧ k ≤ 17) ∨ (18 ≤ k ∧ k ≤ 24) ∨ (25 ≤ k ∧ k ≤ 27) ∨ 28 ≤ k := by omega
      rcases hw with h1 | ⟨h1, h2⟩ | ⟨h1, h2⟩ | ⟨h1, h2⟩ | h1
      · go_wp2
        go_roundw
        case rel => exact ⟨k + 1, by omega, by go_num, HR.out.next _ (by rw [HN.out, if_pos (by omega)])⟩
        case measure => simp [intOf]; omega
      · go_wp2
        go_roundw
        case rel => exact ⟨k + 1, by omega, by go_num, HR.out.next _ (by rw [HN.out, if_neg (by omega), if_pos (by omega)])⟩
        case measure => simp [intOf]; omega
      · go_wp2
        go_roundw
        case rel => exact ⟨k + 1, by omega, by go_num, HR.out.next _ (by rw [HN.out, if_neg (by omega), if_neg (by omega), if_pos (by omega)])⟩
        case measure => simp [intOf]; omega
      · go_wp2
        go_roundw
        case rel => exact ⟨k + 1, by omega, by go_num, HR.out.next _ (by rw [HN.out, if_neg (by omega), if_neg (by omega), if_neg (by omega), if_pos (by omega)])⟩
        case measure => simp [intOf]; omega
      · go_wp2
        go_roundw
        case rel => exact ⟨k + 1, by omega, by go_num, HR.out.next _ (by rw [HN.out, if_neg (by omega), if_neg (by omega), if_neg (by omega), if_neg (by omega)])⟩
        case measure => simp [intOf]; omega
    · have hk31 : k = 31 := by omega
      subst hk31
      obtain ⟨h1, ⟨z, hz, h2⟩, h3⟩ := hR
      have H1 := Go.Lib.hid h1
      have H2 := Go.Lib.hid h2
      clear h1 h2
      go_wp2_with (first | (refine wpList_load_row rfl 41 _ rfl (w.heap.size + 1) rfl 41 (tab 31) (0, 0) _ H1.out Try.underlying41 rfl tab_info ?_) | (refine wpList_store_row rfl 41 _ _ rfl (w.heap.size) (tab 31) rfl rfl 41 z H2.out tab_info (hz.trans (tab_size 31).symm) (tab_one 31) ?_))
      refine bodyPost_ret (v := .agg (tab 31)) ?_ rfl ⟨rfl, ?_⟩
      · exact results_cell_row (p := 0) (ty := 41) rfl _ _ w.heap.size 41 (tab 31) (0, 0) _ rfl (setRow_heap _ _ _ _ _ _ H2.out) Try.underlying41 rfl tab_info
      · exact below_setRow h3 (Nat.le_refl _) _
theorem run_index_row {P : Program} {t e : TypeId} {n : Nat} {d : TypeDesc} (hu : P.underlying t = some (.array n e)) (hs : (P.info? e).map (fun i => i.size) = some 1) (he : P.underlying e = some d) (hd : (match d with | .struct _ | .array _ _ => true | _ => false) = false) (cs : Array Value) (k : Nat) (hk : k < n) (v : Value) (hv : cs[k]? = some v) (w : World) :
    (Instr.index t (.agg cs) (.int .i64 (k : Int))).run P w = .ok v w := by
  have h0 : (0 : Int) ≤ (k : Int) ∧ (k : Int) < (n : Int) := by omega
  have hagg : (isAgg e).run P w = .ok false w := by
    unfold isAgg
    rw [Sem.run_bind, run_underlying he w]
    cases d <;> simp_all
  cases hq : P.info? e with
  | none => simp [hq] at hs
  | some i =>
    have hs1 : i.size = 1 := by simpa [hq] using hs
    simp [Instr.index, run_underlying hu, asIntOf, h0, go_sem, sizeOf, typeInfo, hq, hs1, hk, part, hagg, hv]
theorem info3' : (Try.prog.info? 3).map (fun i => i.size) = some 1 := by kernel_rfl
theorem run_index_tab (i : Int) (h0 : 0 ≤ i) (h1 : i ≤ 30) (w : World) : (Instr.index 41 (.agg (tab 31)) (.int .i64 i)).run Try.prog w = .ok (.int .i64 (nz i)) w := by
  obtain ⟨k, rfl⟩ := Int.eq_ofNat_of_zero_le h0
  exact run_index_row Try.underlying41 info3' Try.underlying3 rfl (tab 31) k (by omega) _ (by rw [tab_get 31 k (by omega), if_pos (by omega)]) w

/-! ### impl_NoiseOf: function 16 -/
def impl_NoiseOf.f (a0 : Int) : Option Int := some (if 0 ≤ a0 ∧ a0 ≤ 30 then nz a0 else 0)
theorem impl_NoiseOf.calls (a0 : Int) (r : Int) (w : World) (h : impl_NoiseOf.f a0 = some r) :
    Calls Try.prog 16 #[.int .i64 a0] w fun e w' => e = .returned (.int .i64 r) ∧ Below w.heap.size w w' := by
  by_cases h0 : 0 ≤ a0
  · by_cases h1 : a0 ≤ 30
    · have hr : nz a0 = r := by unfold impl_NoiseOf.f at h; rw [if_pos ⟨h0, h1⟩] at h; exact Option.some.inj h
      have hix := run_index_tab a0 h0 h1
      clear h
      subst hr
      go_enter Try.func16, Try.ntmps16
      go_wp2_with (first | (go_at_call 32; refine (noises_calls _).mono ?_; rintro e w' ⟨rfl, hb⟩) | go_in)
      go_ret
      exact ⟨rfl, hb⟩
    · have hr : r = 0 := by unfold impl_NoiseOf.f at h; rw [if_neg (by omega)] at h; exact (Option.some.inj h).symm
      subst hr
      clear h
      go_enter Try.func16, Try.ntmps16
      go_wp2
      go_ret
      exact ⟨rfl, Below.refl _ _⟩
  · have hr : r = 0 := by unfold impl_NoiseOf.f at h; rw [if_neg (by omega)] at h; exact (Option.some.inj h).symm
    subst hr
    clear h
    go_enter Try.func16, Try.ntmps16
    go_wp2
    go_ret
    exact ⟨rfl, Below.refl _ _⟩

/-! ### laws_FnExactNoiseOf: function 4 -/
def laws_FnExactNoiseOf.f (a0 : Int) : Option (Bool) := (spec_NoiseOf.f a0).bind fun t104 => ((impl_NoiseOf.f a0).bind fun t105 => (if t105 = t104 then (some true) else (some false)))
set_option maxHeartbeats 8000000 in
set_option maxRecDepth 100000 in
theorem laws_FnExactNoiseOf.calls (a0 : Int) (r : Bool) (w : World) (h : laws_FnExactNoiseOf.f a0 = some r) (hrt : r = true) :
    Calls Try.prog 4 #[.int .i64 a0] w fun e w' => e = .returned (.bool r) ∧ Below w.heap.size w w' := by
  have HRT := Aside0.mk hrt
  clear hrt
  have HB := Aside0.mk (Below.refl w.heap.size w)
  have H : ((spec_NoiseOf.f a0).bind fun t104 => ((impl_NoiseOf.f a0).bind fun t105 => (if t105 = t104 then (some true) else (some false)))) = some r := h
  clear h
  replace H := Option.bind_eq_some_iff.mp H
  obtain ⟨t104, A20, H⟩ := H
  replace H : ((impl_NoiseOf.f a0).bind fun t105 => (if t105 = t104 then (some true) else (some false))) = some r := H
  have A2 := Aside0.mk A20
  clear A20
  replace H := Option.bind_eq_some_iff.mp H
  obtain ⟨t105, A30, H⟩ := H
  replace H : (if t105 = t104 then (some true) else (some false)) = some r := H
  have A3 := Aside0.mk A30
  clear A30
  by_cases c4 : t105 = t104
  · rw [if_pos c4] at H
    have c4b0 : (t105 == t104) = true := beq_iff_eq.mpr c4
    have c4b1 : (t105 != t104) = false := bne_eq_false_iff_eq.mpr c4
    clear c4
    obtain rfl := Option.some.inj H
    go_enter Try.func4, Try.ntmps4
    go_wp2_with (first | ((with_reducible refine gate_callee (f := 15) rfl ?_); refine goesL_ (some 6) rfl rfl Try.func15 (by kernel_rfl) rfl #[.int .i64 a0] rfl (by (try simp only [List.map_toArray, List.map_cons, List.map_nil]); first | done | rfl | (simp only [List.length_drop, List.length_take]; rfl)) ?_; (with_reducible refine (spec_NoiseOf.calls a0 t104 _ A2.out).mono ?_); rintro e w' ⟨rfl, ⟨nd, rfl⟩⟩; refine ⟨_, rfl, ?_⟩) | ((with_reducible refine gate_callee (f := 16) rfl ?_); refine goesL_ (some 8) rfl rfl Try.func16 (by kernel_rfl) rfl #[.int .i64 a0] rfl (by (try simp only [List.map_toArray, List.map_cons, List.map_nil]); first | done | rfl | (simp only [List.length_drop, List.length_take]; rfl)) ?_; (with_reducible refine (impl_NoiseOf.calls a0 t105 _ A3.out).mono ?_); rintro e w5 ⟨rfl, hb⟩; refine ⟨_, rfl, ?_⟩; have n0_ := Aside0.mk (below_step (by repeat (first | (with_reducible first | exact HB.out | apply below_alloc | apply pw_below_drewN | apply below_drew1) | exact HB.out)) hb); clear HB; have HB := n0_; clear n0_; (try clear hb); (try clear hb2); (try clear hk); (try clear hi)))
    go_ret
    exact ⟨by first | rfl | (simp [errW_none, errW_some] <;> rfl) | (simp [*, errW_none, errW_some] <;> rfl), by repeat (first | (with_reducible first | exact HB.out | apply below_alloc | apply pw_below_drewN | apply below_drew1) | exact HB.out)⟩
  · rw [if_neg c4] at H
    have c4b0 : (t105 == t104) = false := beq_eq_false_iff_ne.mpr c4
    have c4b1 : (t105 != t104) = true := bne_iff_ne.mpr c4
    exact absurd (Option.some.inj (H.trans (congrArg some HRT.out))) (by decide)

/-- THE ONE PURE STATEMENT of laws_FnExactNoiseOf: yours. -/
def laws_FnExactNoiseOf.Pure : Prop := ∀ (a0 : Int), (Lit.int .i64 a0).wf = true → laws_FnExactNoiseOf.f a0 = some true
theorem laws_FnExactNoiseOf.walk (P : laws_FnExactNoiseOf.Pure) (a0 : Int) (w : World) (w0 : (Lit.int .i64 a0).wf = true) :
    Calls Try.prog 4 #[.int .i64 a0] w fun e w' => e = .returned (.bool true) ∧ Below w.heap.size w w' := by
  have h := P a0 w0
  refine (laws_FnExactNoiseOf.calls a0 true w h rfl).mono ?_
  rintro e w' ⟨rfl, hd⟩
  exact ⟨rfl, hd⟩

end Go.Proofs.Ythmllnigphcpaaa.PFnExactNoiseOf
