-- Written by a program of this session over the kit's printer, with contracts proved by hand; Lean checks it.
import Derived.Test.YthmllnigphcpaaaPFnNoiseLessx0
import Derived.Test.YthmllnigphcpaaaPFnNoiseLessx1
namespace Go.Proofs.Ythmllnigphcpaaa.PFnNoiseLess
open Go.RowKit Go.Proofs.YthmllnigphcpaaaW.PrintWords Go.Proofs.YthmllnigphcpaaaW.PrintLast Go.Proofs.YthmllnigphcpaaaW.PrintMore
attribute [local go_sem] max2_int min2_int max_two min_two max_three min_three max_four min_four   -- for this text's walks alone
set_option linter.unusedVariables false
set_option linter.unusedSimpArgs false

/-! ### laws_FnNoiseLess: function 7 -/
def laws_FnNoiseLess.f (k : Nat) (l0 : List Int) : Option (Bool) := if (l0.length : Int) > 1048576 then (some true) else ((spec_DrawNoiseOf.f k l0).bind fun t135 => ((impl_NoiseOf.f t135).bind fun t136 => ((spec_NoiseOf.f t135).bind fun t137 => (if t136 = t137 then (if t136 ≥ (-2) then (if t136 ≤ 2 then ((impl_NoiseMany.f 0).bind fun t138 => ((impl_NoiseMany.f 1).bind fun t139 => (if t138 > t139 then ((impl_NoiseMany.f 1).bind fun t140 => ((impl_NoiseMany.f 2).bind fun t141 => (if t140 > t141 then ((impl_NoiseMany.f 3).bind fun t142 => (some (t142 == 0))) else (some false)))) else (some false)))) else (some false)) else (some false)) else (some false)))))
theorem laws_FnNoiseLess.mono : ∀ a0 k, LeO (laws_FnNoiseLess.f k a0) (laws_FnNoiseLess.f (k + 1) a0) := by
  intro a0 k
  unfold laws_FnNoiseLess.f
  repeat' first
      | (with_reducible exact spec_DrawNoiseOf.mono _ _)
      | (with_reducible exact LeO.refl _)
      | (with_reducible exact LeO.none _)
      | (with_reducible refine LeO.ite ?_ ?_)
      | (with_reducible refine LeO.bind ?_ (fun _ => ?_))
      | exact spec_DrawNoiseOf.mono _ _
      | exact LeO.none _
      | refine LeO.ite ?_ ?_
      | refine LeO.bind ?_ (fun _ => ?_)
set_option maxHeartbeats 8000000 in
set_option maxRecDepth 100000 in
theorem laws_FnNoiseLess.calls (k : Nat) (A0 : Option Addr) (c0 : Nat) (l0 : List Int) (r : Bool) (w : World) (hr0 : Kd.C (Kd.int .u8) w A0 l0.length l0) (hc0 : l0.length ≤ c0) (h : laws_FnNoiseLess.f k l0 = some r) (hrt : r = true) :
    Calls Try.prog 7 #[.slice A0 l0.length c0] w fun e w' => e = .returned (.bool r) ∧ Below w.heap.size w w' := by
  have HRT := Aside0.mk hrt
  clear hrt
  have HR0 := Aside0.mk hr0
  have HC0 := Aside0.mk hc0
  clear hr0 hc0
  have HB := Aside0.mk (Below.refl w.heap.size w)
  have H : (if (l0.length : Int) > 1048576 then (some true) else ((spec_DrawNoiseOf.f k l0).bind fun t135 => ((impl_NoiseOf.f t135).bind fun t136 => ((spec_NoiseOf.f t135).bind fun t137 => (if t136 = t137 then (if t136 ≥ (-2) then (if t136 ≤ 2 then ((impl_NoiseMany.f 0).bind fun t138 => ((impl_NoiseMany.f 1).bind fun t139 => (if t138 > t139 then ((impl_NoiseMany.f 1).bind fun t140 => ((impl_NoiseMany.f 2).bind fun t141 => (if t140 > t141 then ((impl_NoiseMany.f 3).bind fun t142 => (some (t142 == 0))) else (some false)))) else (some false)))) else (some false)) else (some false)) else (some false)))))) = some r := h
  clear h
  by_cases c2 : (l0.length : Int) > 1048576
  · rw [if_pos c2] at H
    have c2b0 : decide (1048576 < (l0.length : Int)) = true := decide_eq_true c2
    have c2b1 : decide (1048576 < l0.length) = true := decide_eq_true (by omega)
    clear c2
    obtain rfl := Option.some.inj H
    go_enter Try.func7, Try.ntmps7
    go_wp2
    go_ret
    exact ⟨by first | rfl | (simp [errW_none, errW_some] <;> rfl) | (simp [*, errW_none, errW_some] <;> rfl), by repeat (first | (with_reducible first | exact HB.out | apply below_alloc | apply pw_below_drewN | apply below_drew1) | exact HB.out)⟩
  · rw [if_neg c2] at H
    have c2b0 : decide (1048576 < (l0.length : Int)) = false := decide_eq_false c2
    have c2b1 : decide (1048576 < l0.length) = false := decide_eq_false (by omega)
    clear c2
    replace H := Option.bind_eq_some_iff.mp H
    obtain ⟨t135, A30, H⟩ := H
    replace H : ((impl_NoiseOf.f t135).bind fun t136 => ((spec_NoiseOf.f t135).bind fun t137 => (if t136 = t137 then (if t136 ≥ (-2) then (if t136 ≤ 2 then ((impl_NoiseMany.f 0).bind fun t138 => ((impl_NoiseMany.f 1).bind fun t139 => (if t138 > t139 then ((impl_NoiseMany.f 1).bind fun t140 => ((impl_NoiseMany.f 2).bind fun t141 => (if t140 > t141 then ((impl_NoiseMany.f 3).bind fun t142 => (some (t142 == 0))) else (some false)))) else (some false)))) else (some false)) else (some false)) else (some false)))) = some r := H
    have A3 := Aside0.mk A30
    clear A30
    replace H := Option.bind_eq_some_iff.mp H
    obtain ⟨t136, A40, H⟩ := H
    replace H : ((spec_NoiseOf.f t135).bind fun t137 => (if t136 = t137 then (if t136 ≥ (-2) then (if t136 ≤ 2 then ((impl_NoiseMany.f 0).bind fun t138 => ((impl_NoiseMany.f 1).bind fun t139 => (if t138 > t139 then ((impl_NoiseMany.f 1).bind fun t140 => ((impl_NoiseMany.f 2).bind fun t141 => (if t140 > t141 then ((impl_NoiseMany.f 3).bind fun t142 => (some (t142 == 0))) else (some false)))) else (some false)))) else (some false)) else (some false)) else (some false))) = some r := H
    have A4 := Aside0.mk A40
    clear A40
    replace H := Option.bind_eq_some_iff.mp H
    obtain ⟨t137, A50, H⟩ := H
    replace H : (if t136 = t137 then (if t136 ≥ (-2) then (if t136 ≤ 2 then ((impl_NoiseMany.f 0).bind fun t138 => ((impl_NoiseMany.f 1).bind fun t139 => (if t138 > t139 then ((impl_NoiseMany.f 1).bind fun t140 => ((impl_NoiseMany.f 2).bind fun t141 => (if t140 > t141 then ((impl_NoiseMany.f 3).bind fun t142 => (some (t142 == 0))) else (some false)))) else (some false)))) else (some false)) else (some false)) else (some false)) = some r := H
    have A5 := Aside0.mk A50
    clear A50
    by_cases c6 : t136 = t137
    · rw [if_pos c6] at H
      have c6b0 : (t136 == t137) = true := beq_iff_eq.mpr c6
      have c6b1 : (t136 != t137) = false := bne_eq_false_iff_eq.mpr c6
      clear c6
      by_cases c7 : t136 ≥ (-2)
      · rw [if_pos c7] at H
        have c7b0 : decide ((-2) ≤ t136) = true := decide_eq_true c7
        clear c7
        by_cases c8 : t136 ≤ 2
        · rw [if_pos c8] at H
          have c8b0 : decide (t136 ≤ 2) = true := decide_eq_true c8
          clear c8
          replace H := Option.bind_eq_some_iff.mp H
          obtain ⟨t138, A90, H⟩ := H
          replace H : ((impl_NoiseMany.f 1).bind fun t139 => (if t138 > t139 then ((impl_NoiseMany.f 1).bind fun t140 => ((impl_NoiseMany.f 2).bind fun t141 => (if t140 > t141 then ((impl_NoiseMany.f 3).bind fun t142 => (some (t142 == 0))) else (some false)))) else (some false))) = some r := H
          have A9 := Aside0.mk A90
          clear A90
          replace H := Option.bind_eq_some_iff.mp H
          obtain ⟨t139, A100, H⟩ := H
          replace H : (if t138 > t139 then ((impl_NoiseMany.f 1).bind fun t140 => ((impl_NoiseMany.f 2).bind fun t141 => (if t140 > t141 then ((impl_NoiseMany.f 3).bind fun t142 => (some (t142 == 0))) else (some false)))) else (some false)) = some r := H
          have A10 := Aside0.mk A100
          clear A100
          by_cases c11 : t138 > t139
          · rw [if_pos c11] at H
            have c11b0 : decide (t139 < t138) = true := decide_eq_true c11
            clear c11
            replace H := Option.bind_eq_some_iff.mp H
            obtain ⟨t140, A120, H⟩ := H
            replace H : ((impl_NoiseMany.f 2).bind fun t141 => (if t140 > t141 then ((impl_NoiseMany.f 3).bind fun t142 => (some (t142 == 0))) else (some false))) = some r := H
            have A12 := Aside0.mk A120
            clear A120
            replace H := Option.bind_eq_some_iff.mp H
            obtain ⟨t141, A130, H⟩ := H
            replace H : (if t140 > t141 then ((impl_NoiseMany.f 3).bind fun t142 => (some (t142 == 0))) else (some false)) = some r := H
            have A13 := Aside0.mk A130
            clear A130
            by_cases c14 : t140 > t141
            · rw [if_pos c14] at H
              have c14b0 : decide (t141 < t140) = true := decide_eq_true c14
              clear c14
              replace H := Option.bind_eq_some_iff.mp H
              obtain ⟨t142, A150, H⟩ := H
              replace H : (some (t142 == 0)) = some r := H
              have A15 := Aside0.mk A150
              clear A150
              obtain rfl := Option.some.inj H
              go_enter Try.func7, Try.ntmps7
              go_wp2_with (first | ((with_reducible refine gate_callee (f := 18) rfl ?_); refine goesL_ (some 9) rfl rfl Try.func18 (by kernel_rfl) rfl #[.slice A0 l0.length c0] rfl (by (try simp only [List.map_toArray, List.map_cons, List.map_nil]); first | done | rfl | (simp only [List.length_drop, List.length_take]; rfl)) ?_; (with_reducible refine (spec_DrawNoiseOf.calls k _ _ l0 t135 _ ?side1 ?side2 A3.out).mono ?_); (case side1 => repeat (first | exact HR0.out | (with_reducible refine Kd.C_alloc ?_ _) | (with_reducible refine Kd.C_drewN ?_ _) | (with_reducible refine Kd.C_drew ?_))); (case side2 => exact HC0.out); rintro e w16 ⟨rfl, hb⟩; refine ⟨_, rfl, ?_⟩; have n0_ := Aside0.mk (below_step (by repeat (first | (with_reducible first | exact HB.out | apply below_alloc | apply pw_below_drewN | apply below_drew1) | exact HB.out)) hb); clear HB; have HB := n0_; clear n0_; (try clear hb); (try clear hb2); (try clear hk); (try clear hi)) | ((with_reducible refine gate_callee (f := 16) rfl ?_); refine goesL_ (some 11) rfl rfl Try.func16 (by kernel_rfl) rfl #[.int .i64 t135] rfl (by (try simp only [List.map_toArray, List.map_cons, List.map_nil]); first | done | rfl | (simp only [List.length_drop, List.length_take]; rfl)) ?_; (with_reducible refine (impl_NoiseOf.calls t135 t136 _ A4.out).mono ?_); rintro e w17 ⟨rfl, hb⟩; refine ⟨_, rfl, ?_⟩; have n0_ := Aside0.mk (below_step (by repeat (first | (with_reducible first | exact HB.out | apply below_alloc | apply pw_below_drewN | apply below_drew1) | exact HB.out)) hb); clear HB; have HB := n0_; clear n0_; (try clear hb); (try clear hb2); (try clear hk); (try clear hi)) | ((with_reducible refine gate_callee (f := 15) rfl ?_); refine goesL_ (some 14) rfl rfl Try.func15 (by kernel_rfl) rfl #[.int .i64 t135] rfl (by (try simp only [List.map_toArray, List.map_cons, List.map_nil]); first | done | rfl | (simp only [List.length_drop, List.length_take]; rfl)) ?_; (with_reducible refine (spec_NoiseOf.calls t135 t137 _ A5.out).mono ?_); rintro e w' ⟨rfl, ⟨nd, rfl⟩⟩; refine ⟨_, rfl, ?_⟩) | (go_at_call 14; (with_reducible refine (impl_NoiseMany.calls 0 t138 _ A9.out).mono ?_); rintro e w18 ⟨rfl, hb⟩; have n0_ := Aside0.mk (below_step (by repeat (first | (with_reducible first | exact HB.out | apply below_alloc | apply pw_below_drewN | apply below_drew1) | exact HB.out)) hb); clear HB; have HB := n0_; clear n0_; (try clear hb); (try clear hb2); (try clear hk); (try clear hi)) | (go_at_call 14; (with_reducible refine (impl_NoiseMany.calls 1 t139 _ A10.out).mono ?_); clear A10; rintro e w19 ⟨rfl, hb⟩; have n0_ := Aside0.mk (below_step (by repeat (first | (with_reducible first | exact HB.out | apply below_alloc | apply pw_below_drewN | apply below_drew1) | exact HB.out)) hb); clear HB; have HB := n0_; clear n0_; (try clear hb); (try clear hb2); (try clear hk); (try clear hi)) | (go_at_call 14; (with_reducible refine (impl_NoiseMany.calls 1 t140 _ A12.out).mono ?_); clear A12; rintro e w20 ⟨rfl, hb⟩; have n0_ := Aside0.mk (below_step (by repeat (first | (with_reducible first | exact HB.out | apply below_alloc | apply pw_below_drewN | apply below_drew1) | exact HB.out)) hb); clear HB; have HB := n0_; clear n0_; (try clear hb); (try clear hb2); (try clear hk); (try clear hi)) | (go_at_call 14; (with_reducible refine (impl_NoiseMany.calls 2 t141 _ A13.out).mono ?_); rintro e w21 ⟨rfl, hb⟩; have n0_ := Aside0.mk (below_step (by repeat (first | (with_reducible first | exact HB.out | apply below_alloc | apply pw_below_drewN | apply below_drew1) | exact HB.out)) hb); clear HB; have HB := n0_; clear n0_; (try clear hb); (try clear hb2); (try clear hk); (try clear hi)) | (go_at_call 14; (with_reducible refine (impl_NoiseMany.calls 3 t142 _ A15.out).mono ?_); rintro e w22 ⟨rfl, hb⟩; have n0_ := Aside0.mk (below_step (by repeat (first | (with_reducible first | exact HB.out | apply below_alloc | apply pw_below_drewN | apply below_drew1) | exact HB.out)) hb); clear HB; have HB := n0_; clear n0_; (try clear hb); (try clear hb2); (try clear hk); (try clear hi)))
              go_ret
              exact ⟨by first | rfl | (simp [errW_none, errW_some] <;> rfl) | (simp [*, errW_none, errW_some] <;> rfl), by repeat (first | (with_reducible first | exact HB.out | apply below_alloc | apply pw_below_drewN | apply below_drew1) | exact HB.out)⟩
            · rw [if_neg c14] at H
              have c14b0 : decide (t141 < t140) = false := decide_eq_false c14
              clear c14
              exact absurd (Option.some.inj (H.trans (congrArg some HRT.out))) (by decide)
          · rw [if_neg c11] at H
            have c11b0 : decide (t139 < t138) = false := decide_eq_false c11
            clear c11
            exact absurd (Option.some.inj (H.trans (congrArg some HRT.out))) (by decide)
        · rw [if_neg c8] at H
          have c8b0 : decide (t136 ≤ 2) = false := decide_eq_false c8
          clear c8
          exact absurd (Option.some.inj (H.trans (congrArg some HRT.out))) (by decide)
      · rw [if_neg c7] at H
        have c7b0 : decide ((-2) ≤ t136) = false := decide_eq_false c7
        clear c7
        exact absurd (Option.some.inj (H.trans (congrArg some HRT.out))) (by decide)
    · rw [if_neg c6] at H
      have c6b0 : (t136 == t137) = false := beq_eq_false_iff_ne.mpr c6
      have c6b1 : (t136 != t137) = true := bne_iff_ne.mpr c6
      exact absurd (Option.some.inj (H.trans (congrArg some HRT.out))) (by decide)

/-- THE ONE PURE STATEMENT of laws_FnNoiseLess: yours. -/
def laws_FnNoiseLess.Pure : Prop := ∀ (l0 : List Int), l0.length ≤ maxLen → l0.length * 1 ≤ 140737488351232 → (∀ x ∈ l0, (Lit.int .u8 x).wf = true) → ∃ k, laws_FnNoiseLess.f k l0 = some true
theorem laws_FnNoiseLess.walk (P : laws_FnNoiseLess.Pure) (a0 : Option Addr) (len0 cap0 : Nat) (z0 : List Int) (w : World) (w0 : (a0 = none ∧ len0 = 0 ∧ cap0 = 0 ∧ z0 = []) ∨ ∃ x, a0 = some x ∧ len0 ≤ cap0 ∧ cap0 ≤ maxLen ∧ z0.length = cap0 ∧ (∀ i, i < z0.length → w.cell? (x.add i) = some (.int .u8 (z0.getD i 0))) ∧ ∀ n ∈ z0, (Lit.int .u8 n).wf = true) (y0 : len0 * 1 ≤ 140737488351232) :
    Calls Try.prog 7 #[.slice a0 len0 cap0] w fun e w' => e = .returned (.bool true) ∧ Below w.heap.size w w' := by
  obtain ⟨l0, rfl, hr0, hm0, hw0, hc0⟩ := ReadsInt.ofRowC w0
  obtain ⟨k, h⟩ := P l0 hm0 y0 hw0
  refine (laws_FnNoiseLess.calls k _ _ l0 true w (Kd.C_of_reads (d := (0 : Int)) (h1 := fun _ => rfl) hr0) hc0 h rfl).mono ?_
  rintro e w' ⟨rfl, hd⟩
  exact ⟨rfl, hd⟩

end Go.Proofs.Ythmllnigphcpaaa.PFnNoiseLess
