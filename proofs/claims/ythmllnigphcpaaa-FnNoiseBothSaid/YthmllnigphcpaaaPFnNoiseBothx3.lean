-- Written by a program of this session over the kit's printer, with contracts proved by hand; Lean checks it.
import Derived.Test.YthmllnigphcpaaaPFnNoiseBothx0
import Derived.Test.YthmllnigphcpaaaPFnNoiseBothx1
import Derived.Test.YthmllnigphcpaaaPFnNoiseBothx2
namespace Go.Proofs.Ythmllnigphcpaaa.PFnNoiseBoth
open Go.RowKit Go.Proofs.YthmllnigphcpaaaW.PrintWords Go.Proofs.YthmllnigphcpaaaW.PrintLast Go.Proofs.YthmllnigphcpaaaW.PrintMore
attribute [local go_sem] max2_int min2_int max_two min_two max_three min_three max_four min_four   -- for this text's walks alone
set_option linter.unusedVariables false
set_option linter.unusedSimpArgs false

/-! ### laws_FnNoiseBoth: function 9 -/
mutual
def laws_FnNoiseBoth.j0 : Nat → List Int → List Int → Bool → Option (Bool)
  | 0, _, _, _ => none
  | k + 1, x0, x1, x20 => if x20 = true then (some true) else ((spec_DrawNoiseBoth.f k x0).bind fun bt161 => ((impl_NoiseBoth.f k bt161.1 bt161.2.1 bt161.2.2).bind fun t164 => ((spec_NoiseBoth.f k bt161.1 bt161.2.1 bt161.2.2).bind fun t165 => (if t164 = t165 then (if bt161.1 < 0 then (laws_FnNoiseBoth.j1 k x1 bt161.1 bt161.2.1 bt161.2.2 t164 true) else (if bt161.1 > 999 then (laws_FnNoiseBoth.j1 k x1 bt161.1 bt161.2.1 bt161.2.2 t164 true) else (if bt161.2.1 < 0 then (laws_FnNoiseBoth.j1 k x1 bt161.1 bt161.2.1 bt161.2.2 t164 true) else (if bt161.2.1 > 999 then (laws_FnNoiseBoth.j1 k x1 bt161.1 bt161.2.1 bt161.2.2 t164 true) else (if bt161.2.2 < 0 then (laws_FnNoiseBoth.j1 k x1 bt161.1 bt161.2.1 bt161.2.2 t164 true) else (laws_FnNoiseBoth.j1 k x1 bt161.1 bt161.2.1 bt161.2.2 t164 (decide (bt161.2.2 > 20)))))))) else (laws_FnNoiseBoth.j1 k x1 bt161.1 bt161.2.1 bt161.2.2 t164 true)))))
def laws_FnNoiseBoth.j1 : Nat → List Int → Int → Int → Int → Int → Bool → Option (Bool)
  | 0, _, _, _, _, _, _ => none
  | k + 1, x1, x5, x6, x7, x8, x60 => if x60 = true then ((spec_NoiseBoth.f k x5 x6 x7).bind fun t166 => (some (x8 == t166))) else (laws_FnNoiseBoth.l0 k x5 x6 x7 x8 (((x1.length : Int) % 5) - 2) 0 0 0)
def laws_FnNoiseBoth.l0 : Nat → Int → Int → Int → Int → Int → Int → Int → Int → Option (Bool)
  | 0, _, _, _, _, _, _, _, _ => none
  | k + 1, x5, x6, x7, x8, x9, x10, x11, x12 => if x12 < 31 then ((impl_NoiseBoth.f k x12 x6 x7).bind fun t170 => (if t170 = x9 then ((impl_NoiseBoth.f k x5 x12 x7).bind fun t171 => (if t171 = x9 then (laws_FnNoiseBoth.l0 k x5 x6 x7 x8 x9 (wrap64 (x10 + 1)) (wrap64 (x11 + 1)) (wrap64 (x12 + 1))) else (laws_FnNoiseBoth.l0 k x5 x6 x7 x8 x9 (wrap64 (x10 + 1)) x11 (wrap64 (x12 + 1))))) else ((impl_NoiseBoth.f k x5 x12 x7).bind fun t172 => (if t172 = x9 then (laws_FnNoiseBoth.l0 k x5 x6 x7 x8 x9 x10 (wrap64 (x11 + 1)) (wrap64 (x12 + 1))) else (laws_FnNoiseBoth.l0 k x5 x6 x7 x8 x9 x10 x11 (wrap64 (x12 + 1))))))) else ((impl_RandBoth.f k x5 x6 x7).bind fun t167 => ((impl_NoiseOf.f t167).bind fun t168 => (if x8 = t168 then ((impl_NoiseMany.f x9).bind fun t169 => (if x10 = t169 then (some (x11 == x10)) else (some false))) else (some false))))
end
def laws_FnNoiseBoth.f (k : Nat) (l0 : List Int) (l1 : List Int) : Option (Bool) := if (l0.length : Int) > 1048576 then (laws_FnNoiseBoth.j0 k l0 l1 true) else (laws_FnNoiseBoth.j0 k l0 l1 (decide ((l1.length : Int) > 1048576)))
theorem laws_FnNoiseBoth.mono_l : ∀ k, (∀ y0 y1 y2, LeO (laws_FnNoiseBoth.j0 k y0 y1 y2) (laws_FnNoiseBoth.j0 (k + 1) y0 y1 y2)) ∧ (∀ y0 y1 y2 y3 y4 y5, LeO (laws_FnNoiseBoth.j1 k y0 y1 y2 y3 y4 y5) (laws_FnNoiseBoth.j1 (k + 1) y0 y1 y2 y3 y4 y5)) ∧ (∀ y0 y1 y2 y3 y4 y5 y6 y7, LeO (laws_FnNoiseBoth.l0 k y0 y1 y2 y3 y4 y5 y6 y7) (laws_FnNoiseBoth.l0 (k + 1) y0 y1 y2 y3 y4 y5 y6 y7))
  | 0 => ⟨fun _ _ _ r h => by simp [laws_FnNoiseBoth.j0] at h, fun _ _ _ _ _ _ r h => by simp [laws_FnNoiseBoth.j1] at h, fun _ _ _ _ _ _ _ _ r h => by simp [laws_FnNoiseBoth.l0] at h⟩
  | k + 1 => by
    obtain ⟨ih0, ih1, ih2⟩ := laws_FnNoiseBoth.mono_l k
    refine ⟨?_, ?_, ?_⟩
    · intro y0 y1 y2
      unfold laws_FnNoiseBoth.j0
      repeat' first
      | (with_reducible exact ih0 _ _ _)
      | (with_reducible exact ih1 _ _ _ _ _ _)
      | (with_reducible exact ih2 _ _ _ _ _ _ _ _)
      | (with_reducible exact impl_NoiseBoth.mono _ _ _ _)
      | (with_reducible exact impl_RandBoth.mono _ _ _ _)
      | (with_reducible exact spec_DrawNoiseBoth.mono _ _)
      | (with_reducible exact spec_NoiseBoth.mono _ _ _ _)
      | (with_reducible exact LeO.refl _)
      | (with_reducible exact LeO.none _)
      | (with_reducible refine LeO.ite ?_ ?_)
      | (with_reducible refine LeO.bind ?_ (fun _ => ?_))
      | exact ih0 _ _ _
      | exact ih1 _ _ _ _ _ _
      | exact ih2 _ _ _ _ _ _ _ _
      | exact impl_NoiseBoth.mono _ _ _ _
      | exact impl_RandBoth.mono _ _ _ _
      | exact spec_DrawNoiseBoth.mono _ _
      | exact spec_NoiseBoth.mono _ _ _ _
      | exact LeO.none _
      | refine LeO.ite ?_ ?_
      | refine LeO.bind ?_ (fun _ => ?_)
    · intro y0 y1 y2 y3 y4 y5
      unfold laws_FnNoiseBoth.j1
      repeat' first
      | (with_reducible exact ih0 _ _ _)
      | (with_reducible exact ih1 _ _ _ _ _ _)
      | (with_reducible exact ih2 _ _ _ _ _ _ _ _)
      | (with_reducible exact impl_NoiseBoth.mono _ _ _ _)
      | (with_reducible exact impl_RandBoth.mono _ _ _ _)
      | (with_reducible exact spec_DrawNoiseBoth.mono _ _)
      | (with_reducible exact spec_NoiseBoth.mono _ _ _ _)
      | (with_reducible exact LeO.refl _)
      | (with_reducible exact LeO.none _)
      | (with_reducible refine LeO.ite ?_ ?_)
      | (with_reducible refine LeO.bind ?_ (fun _ => ?_))
      | exact ih0 _ _ _
      | exact ih1 _ _ _ _ _ _
      | exact ih2 _ _ _ _ _ _ _ _
      | exact impl_NoiseBoth.mono _ _ _ _
      | exact impl_RandBoth.mono _ _ _ _
      | exact spec_DrawNoiseBoth.mono _ _
      | exact spec_NoiseBoth.mono _ _ _ _
      | exact LeO.none _
      | refine LeO.ite ?_ ?_
      | refine LeO.bind ?_ (fun _ => ?_)
    · intro y0 y1 y2 y3 y4 y5 y6 y7
      unfold laws_FnNoiseBoth.l0
      repeat' first
      | (with_reducible exact ih0 _ _ _)
      | (with_reducible exact ih1 _ _ _ _ _ _)
      | (with_reducible exact ih2 _ _ _ _ _ _ _ _)
      | (with_reducible exact impl_NoiseBoth.mono _ _ _ _)
      | (with_reducible exact impl_RandBoth.mono _ _ _ _)
      | (with_reducible exact spec_DrawNoiseBoth.mono _ _)
      | (with_reducible exact spec_NoiseBoth.mono _ _ _ _)
      | (with_reducible exact LeO.refl _)
      | (with_reducible exact LeO.none _)
      | (with_reducible refine LeO.ite ?_ ?_)
      | (with_reducible refine LeO.bind ?_ (fun _ => ?_))
      | exact ih0 _ _ _
      | exact ih1 _ _ _ _ _ _
      | exact ih2 _ _ _ _ _ _ _ _
      | exact impl_NoiseBoth.mono _ _ _ _
      | exact impl_RandBoth.mono _ _ _ _
      | exact spec_DrawNoiseBoth.mono _ _
      | exact spec_NoiseBoth.mono _ _ _ _
      | exact LeO.none _
      | refine LeO.ite ?_ ?_
      | refine LeO.bind ?_ (fun _ => ?_)
theorem laws_FnNoiseBoth.mono : ∀ a0 a1 k, LeO (laws_FnNoiseBoth.f k a0 a1) (laws_FnNoiseBoth.f (k + 1) a0 a1) := by
  intro a0 a1 k
  obtain ⟨ih0, ih1, ih2⟩ := laws_FnNoiseBoth.mono_l k
  unfold laws_FnNoiseBoth.f
  repeat' first
      | (with_reducible exact ih0 _ _ _)
      | (with_reducible exact ih1 _ _ _ _ _ _)
      | (with_reducible exact ih2 _ _ _ _ _ _ _ _)
      | (with_reducible exact impl_NoiseBoth.mono _ _ _ _)
      | (with_reducible exact impl_RandBoth.mono _ _ _ _)
      | (with_reducible exact spec_DrawNoiseBoth.mono _ _)
      | (with_reducible exact spec_NoiseBoth.mono _ _ _ _)
      | (with_reducible exact LeO.refl _)
      | (with_reducible exact LeO.none _)
      | (with_reducible refine LeO.ite ?_ ?_)
      | (with_reducible refine LeO.bind ?_ (fun _ => ?_))
      | exact ih0 _ _ _
      | exact ih1 _ _ _ _ _ _
      | exact ih2 _ _ _ _ _ _ _ _
      | exact impl_NoiseBoth.mono _ _ _ _
      | exact impl_RandBoth.mono _ _ _ _
      | exact spec_DrawNoiseBoth.mono _ _
      | exact spec_NoiseBoth.mono _ _ _ _
      | exact LeO.none _
      | refine LeO.ite ?_ ?_
      | refine LeO.bind ?_ (fun _ => ?_)
set_option maxHeartbeats 8000000 in
set_option maxRecDepth 100000 in
theorem laws_FnNoiseBoth.calls (k : Nat) (A0 : Option Addr) (c0 : Nat) (l0 : List Int) (A1 : Option Addr) (c1 : Nat) (l1 : List Int) (r : Bool) (w : World) (hr0 : Kd.C (Kd.int .u8) w A0 l0.length l0) (hc0 : l0.length ≤ c0) (hr1 : Kd.C (Kd.int .u8) w A1 l1.length l1) (hc1 : l1.length ≤ c1) (h : laws_FnNoiseBoth.f k l0 l1 = some r) (hrt : r = true) :
    Calls Try.prog 9 #[.slice A0 l0.length c0, .slice A1 l1.length c1] w fun e w' => e = .returned (.bool r) ∧ Below w.heap.size w w' := by
  have HRT := Aside0.mk hrt
  clear hrt
  have HR0 := Aside0.mk hr0
  have HC0 := Aside0.mk hc0
  clear hr0 hc0
  have HR1 := Aside0.mk hr1
  have HC1 := Aside0.mk hc1
  clear hr1 hc1
  have HB := Aside0.mk (Below.refl w.heap.size w)
  have H : (if (l0.length : Int) > 1048576 then (laws_FnNoiseBoth.j0 k l0 l1 true) else (laws_FnNoiseBoth.j0 k l0 l1 (decide ((l1.length : Int) > 1048576)))) = some r := h
  clear h
  have HC3 := Aside0.mk H
  clear H
  go_enter Try.func9, Try.ntmps9
  go_upto_region 1 with (fail)
  go_cut [20] (fun v20 wc => ∃ (kq : Nat) (x20_2 : Bool), v20 = .bool x20_2 ∧ Aside0 (laws_FnNoiseBoth.j0 kq l0 l1 x20_2 = some r) ∧ Aside0 (kq ≤ k) ∧ Aside0 (Below w.heap.size w wc))
  case first =>
    have H := HC3.out
    clear HC3
    by_cases c4 : (l0.length : Int) > 1048576
    · rw [if_pos c4] at H
      have c4b0 : decide (1048576 < (l0.length : Int)) = true := decide_eq_true c4
      have c4b1 : decide (1048576 < l0.length) = true := decide_eq_true (by omega)
      clear c4
      (first | rw [c4b0] | (simp only [i64_w, i32_w]; rw [c4b0]) | skip)
      have H' := Aside0.mk H
      clear H
      go_wp2
      go_meet
      case rel => exact ⟨_, (true), (by first | rfl | (simp; done) | (simp [*]; done)), H', ⟨by first | omega | exact Nat.le_refl _⟩, ⟨by repeat (first | (with_reducible first | exact HB.out | apply below_alloc | apply pw_below_drewN | apply below_drew1) | exact HB.out)⟩⟩
    · rw [if_neg c4] at H
      have c4b0 : decide (1048576 < (l0.length : Int)) = false := decide_eq_false c4
      have c4b1 : decide (1048576 < l0.length) = false := decide_eq_false (by omega)
      clear c4
      (first | rw [c4b0] | (simp only [i64_w, i32_w]; rw [c4b0]) | skip)
      have H' := Aside0.mk H
      clear H
      go_wp2
      go_meet
      case rel => exact ⟨_, (decide ((l1.length : Int) > 1048576)), (by first | rfl | (simp; done) | (simp [*]; done)), H', ⟨by first | omega | exact Nat.le_refl _⟩, ⟨by repeat (first | (with_reducible first | exact HB.out | apply below_alloc | apply pw_below_drewN | apply below_drew1) | exact HB.out)⟩⟩
  case rest =>
    clear HC3
    try clear c1
    try clear p2
    try clear c4
    try clear c4b0
    try clear c4b1
    obtain ⟨kq, x20_2, rfl, HA, HJ2, HB⟩ := hcut
    cases kq with
    | zero => exact absurd HA.out (by simp [laws_FnNoiseBoth.j0])
    | succ kj2 =>
      have H := HA.out
      clear HA
      simp only [laws_FnNoiseBoth.j0] at H
      by_cases c5 : x20_2 = true
      · subst c5
        have H1 : (some true) = some r := by rw [if_pos rfl] at H; exact H
        clear H
        have H := H1
        clear H1
        obtain rfl := Option.some.inj H
        go_wp2
        go_ret
        exact ⟨by first | rfl | (simp [errW_none, errW_some] <;> rfl) | (simp [*, errW_none, errW_some] <;> rfl), by repeat (first | (with_reducible first | exact HB.out | apply below_alloc | apply pw_below_drewN | apply below_drew1) | exact HB.out)⟩
      · replace c5 := Bool.eq_false_iff.mpr c5
        subst c5
        have H1 : ((spec_DrawNoiseBoth.f kj2 l0).bind fun bt161 => ((impl_NoiseBoth.f kj2 bt161.1 bt161.2.1 bt161.2.2).bind fun t164 => ((spec_NoiseBoth.f kj2 bt161.1 bt161.2.1 bt161.2.2).bind fun t165 => (if t164 = t165 then (if bt161.1 < 0 then (laws_FnNoiseBoth.j1 kj2 l1 bt161.1 bt161.2.1 bt161.2.2 t164 true) else (if bt161.1 > 999 then (laws_FnNoiseBoth.j1 kj2 l1 bt161.1 bt161.2.1 bt161.2.2 t164 true) else (if bt161.2.1 < 0 then (laws_FnNoiseBoth.j1 kj2 l1 bt161.1 bt161.2.1 bt161.2.2 t164 true) else (if bt161.2.1 > 999 then (laws_FnNoiseBoth.j1 kj2 l1 bt161.1 bt161.2.1 bt161.2.2 t164 true) else (if bt161.2.2 < 0 then (laws_FnNoiseBoth.j1 kj2 l1 bt161.1 bt161.2.1 bt161.2.2 t164 true) else (laws_FnNoiseBoth.j1 kj2 l1 bt161.1 bt161.2.1 bt161.2.2 t164 (decide (bt161.2.2 > 20)))))))) else (laws_FnNoiseBoth.j1 kj2 l1 bt161.1 bt161.2.1 bt161.2.2 t164 true))))) = some r := by rw [if_neg (show ¬ (false = true) by decide)] at H; exact H
        clear H
        have H := H1
        clear H1
        replace H := Option.bind_eq_some_iff.mp H
        obtain ⟨⟨t161, t162, t163⟩, A60, H⟩ := H
        replace H : ((impl_NoiseBoth.f kj2 t161 t162 t163).bind fun t164 => ((spec_NoiseBoth.f kj2 t161 t162 t163).bind fun t165 => (if t164 = t165 then (if t161 < 0 then (laws_FnNoiseBoth.j1 kj2 l1 t161 t162 t163 t164 true) else (if t161 > 999 then (laws_FnNoiseBoth.j1 kj2 l1 t161 t162 t163 t164 true) else (if t162 < 0 then (laws_FnNoiseBoth.j1 kj2 l1 t161 t162 t163 t164 true) else (if t162 > 999 then (laws_FnNoiseBoth.j1 kj2 l1 t161 t162 t163 t164 true) else (if t163 < 0 then (laws_FnNoiseBoth.j1 kj2 l1 t161 t162 t163 t164 true) else (laws_FnNoiseBoth.j1 kj2 l1 t161 t162 t163 t164 (decide (t163 > 20)))))))) else (laws_FnNoiseBoth.j1 kj2 l1 t161 t162 t163 t164 true)))) = some r := H
        have A6 := Aside0.mk A60
        clear A60
        replace H := Option.bind_eq_some_iff.mp H
        obtain ⟨t164, A70, H⟩ := H
        replace H : ((spec_NoiseBoth.f kj2 t161 t162 t163).bind fun t165 => (if t164 = t165 then (if t161 < 0 then (laws_FnNoiseBoth.j1 kj2 l1 t161 t162 t163 t164 true) else (if t161 > 999 then (laws_FnNoiseBoth.j1 kj2 l1 t161 t162 t163 t164 true) else (if t162 < 0 then (laws_FnNoiseBoth.j1 kj2 l1 t161 t162 t163 t164 true) else (if t162 > 999 then (laws_FnNoiseBoth.j1 kj2 l1 t161 t162 t163 t164 true) else (if t163 < 0 then (laws_FnNoiseBoth.j1 kj2 l1 t161 t162 t163 t164 true) else (laws_FnNoiseBoth.j1 kj2 l1 t161 t162 t163 t164 (decide (t163 > 20)))))))) else (laws_FnNoiseBoth.j1 kj2 l1 t161 t162 t163 t164 true))) = some r := H
        have A7 := Aside0.mk A70
        clear A70
        have HC8 := Aside0.mk H
        clear H
        go_upto_region 5 with (first | ((with_reducible refine gate_callee (f := 21) rfl ?_); refine goesL_ (some 23) rfl rfl Try.func21 (by kernel_rfl) rfl #[.slice A0 l0.length c0] rfl (by (try simp only [List.map_toArray, List.map_cons, List.map_nil]); first | done | rfl | (simp only [List.length_drop, List.length_take]; rfl)) ?_; (with_reducible refine (spec_DrawNoiseBoth.calls kj2 _ _ l0 t161 t162 t163 _ ?side1 ?side2 A6.out).mono ?_); (case side1 => repeat (first | exact (Kd.C_below HR0.out HB.out) | (with_reducible refine Kd.C_alloc ?_ _) | (with_reducible refine Kd.C_drewN ?_ _) | (with_reducible refine Kd.C_drew ?_))); (case side2 => exact HC0.out); rintro e w9 ⟨rfl, hb⟩; refine ⟨_, rfl, ?_⟩; have n0_ := Aside0.mk (below_step (by repeat (first | (with_reducible first | exact HB.out | apply below_alloc | apply pw_below_drewN | apply below_drew1) | exact HB.out)) hb); clear HB; have HB := n0_; clear n0_; (try clear hb); (try clear hb2); (try clear hk); (try clear hi)) | ((with_reducible refine gate_callee (f := 20) rfl ?_); refine goesL_ (some 30) rfl rfl Try.func20 (by kernel_rfl) rfl #[.int .i64 t161, .int .i64 t162, .int .i64 t163] rfl (by (try simp only [List.map_toArray, List.map_cons, List.map_nil]); first | done | rfl | (simp only [List.length_drop, List.length_take]; rfl)) ?_; (with_reducible refine (impl_NoiseBoth.calls kj2 t161 t162 t163 t164 _ A7.out).mono ?_); rintro e w10 ⟨rfl, hb⟩; refine ⟨_, rfl, ?_⟩; have n0_ := Aside0.mk (below_step (by repeat (first | (with_reducible first | exact HB.out | apply below_alloc | apply pw_below_drewN | apply below_drew1) | exact HB.out)) hb); clear HB; have HB := n0_; clear n0_; (try clear hb); (try clear hb2); (try clear hk); (try clear hi)))
        (try simp only [Act.put, List.setIfInBounds_toArray, List.set_cons_zero, List.set_cons_succ])
        go_cut [60] (fun v60 wc => ∃ (kq : Nat) (x60_7 : Bool), v60 = .bool x60_7 ∧ Aside0 (laws_FnNoiseBoth.j1 kq l1 t161 t162 t163 t164 x60_7 = some r) ∧ Aside0 (kq ≤ kj2) ∧ Aside0 (Below w.heap.size w wc))
        case first =>
          have H := HC8.out
          clear HC8
          replace H := Option.bind_eq_some_iff.mp H
          obtain ⟨t165, A110, H⟩ := H
          replace H : (if t164 = t165 then (if t161 < 0 then (laws_FnNoiseBoth.j1 kj2 l1 t161 t162 t163 t164 true) else (if t161 > 999 then (laws_FnNoiseBoth.j1 kj2 l1 t161 t162 t163 t164 true) else (if t162 < 0 then (laws_FnNoiseBoth.j1 kj2 l1 t161 t162 t163 t164 true) else (if t162 > 999 then (laws_FnNoiseBoth.j1 kj2 l1 t161 t162 t163 t164 true) else (if t163 < 0 then (laws_FnNoiseBoth.j1 kj2 l1 t161 t162 t163 t164 true) else (laws_FnNoiseBoth.j1 kj2 l1 t161 t162 t163 t164 (decide (t163 > 20)))))))) else (laws_FnNoiseBoth.j1 kj2 l1 t161 t162 t163 t164 true)) = some r := H
          have A11 := Aside0.mk A110
          clear A110
          by_cases c12 : t164 = t165
          · rw [if_pos c12] at H
            have c12b0 : (t164 == t165) = true := beq_iff_eq.mpr c12
            have c12b1 : (t164 != t165) = false := bne_eq_false_iff_eq.mpr c12
            clear c12
            (first | rw [c12b0] | (simp only [i64_w, i32_w]; rw [c12b0]) | skip)
            by_cases c13 : t161 < 0
            · rw [if_pos c13] at H
              have c13b0 : decide (t161 < 0) = true := decide_eq_true c13
              clear c13
              have H' := Aside0.mk H
              clear H
              go_wp2_with (first | ((with_reducible refine gate_callee (f := 19) rfl ?_); refine goesL_ (some 35) rfl rfl Try.func19 (by kernel_rfl) rfl #[.int .i64 t161, .int .i64 t162, .int .i64 t163] rfl (by (try simp only [List.map_toArray, List.map_cons, List.map_nil]); first | done | rfl | (simp only [List.length_drop, List.length_take]; rfl)) ?_; (with_reducible refine (spec_NoiseBoth.calls kj2 t161 t162 t163 t165 _ A11.out).mono ?_); rintro e w' ⟨rfl, ⟨nd, rfl⟩⟩; refine ⟨_, rfl, ?_⟩))
              go_meet
              case rel => exact ⟨_, (true), (by first | rfl | (simp; done) | (simp [*]; done)), H', ⟨by have := HJ2.out; first | omega | exact Nat.le_refl _⟩, ⟨by repeat (first | (with_reducible first | exact HB.out | apply below_alloc | apply pw_below_drewN | apply below_drew1) | exact HB.out)⟩⟩
            · rw [if_neg c13] at H
              have c13b0 : decide (t161 < 0) = false := decide_eq_false c13
              clear c13
              by_cases c14 : t161 > 999
              · rw [if_pos c14] at H
                have c14b0 : decide (999 < t161) = true := decide_eq_true c14
                clear c14
                have H' := Aside0.mk H
                clear H
                go_wp2_with (first | ((with_reducible refine gate_callee (f := 19) rfl ?_); refine goesL_ (some 35) rfl rfl Try.func19 (by kernel_rfl) rfl #[.int .i64 t161, .int .i64 t162, .int .i64 t163] rfl (by (try simp only [List.map_toArray, List.map_cons, List.map_nil]); first | done | rfl | (simp only [List.length_drop, List.length_take]; rfl)) ?_; (with_reducible refine (spec_NoiseBoth.calls kj2 t161 t162 t163 t165 _ A11.out).mono ?_); rintro e w' ⟨rfl, ⟨nd, rfl⟩⟩; refine ⟨_, rfl, ?_⟩))
                go_meet
                case rel => exact ⟨_, (true), (by first | rfl | (simp; done) | (simp [*]; done)), H', ⟨by have := HJ2.out; first | omega | exact Nat.le_refl _⟩, ⟨by repeat (first | (with_reducible first | exact HB.out | apply below_alloc | apply pw_below_drewN | apply below_drew1) | exact HB.out)⟩⟩
              · rw [if_neg c14] at H
                have c14b0 : decide (999 < t161) = false := decide_eq_false c14
                clear c14
                by_cases c15 : t162 < 0
                · rw [if_pos c15] at H
                  have c15b0 : decide (t162 < 0) = true := decide_eq_true c15
                  clear c15
                  have H' := Aside0.mk H
                  clear H
                  go_wp2_with (first | ((with_reducible refine gate_callee (f := 19) rfl ?_); refine goesL_ (some 35) rfl rfl Try.func19 (by kernel_rfl) rfl #[.int .i64 t161, .int .i64 t162, .int .i64 t163] rfl (by (try simp only [List.map_toArray, List.map_cons, List.map_nil]); first | done | rfl | (simp only [List.length_drop, List.length_take]; rfl)) ?_; (with_reducible refine (spec_NoiseBoth.calls kj2 t161 t162 t163 t165 _ A11.out).mono ?_); rintro e w' ⟨rfl, ⟨nd, rfl⟩⟩; refine ⟨_, rfl, ?_⟩))
                  go_meet
                  case rel => exact ⟨_, (true), (by first | rfl | (simp; done) | (simp [*]; done)), H', ⟨by have := HJ2.out; first | omega | exact Nat.le_refl _⟩, ⟨by repeat (first | (with_reducible first | exact HB.out | apply below_alloc | apply pw_below_drewN | apply below_drew1) | exact HB.out)⟩⟩
                · rw [if_neg c15] at H
                  have c15b0 : decide (t162 < 0) = false := decide_eq_false c15
                  clear c15
                  by_cases c16 : t162 > 999
                  · rw [if_pos c16] at H
                    have c16b0 : decide (999 < t162) = true := decide_eq_true c16
                    clear c16
                    have H' := Aside0.mk H
                    clear H
                    go_wp2_with (first | ((with_reducible refine gate_callee (f := 19) rfl ?_); refine goesL_ (some 35) rfl rfl Try.func19 (by kernel_rfl) rfl #[.int .i64 t161, .int .i64 t162, .int .i64 t163] rfl (by (try simp only [List.map_toArray, List.map_cons, List.map_nil]); first | done | rfl | (simp only [List.length_drop, List.length_take]; rfl)) ?_; (with_reducible refine (spec_NoiseBoth.calls kj2 t161 t162 t163 t165 _ A11.out).mono ?_); rintro e w' ⟨rfl, ⟨nd, rfl⟩⟩; refine ⟨_, rfl, ?_⟩))
                    go_meet
                    case rel => exact ⟨_, (true), (by first | rfl | (simp; done) | (simp [*]; done)), H', ⟨by have := HJ2.out; first | omega | exact Nat.le_refl _⟩, ⟨by repeat (first | (with_reducible first | exact HB.out | apply below_alloc | apply pw_below_drewN | apply below_drew1) | exact HB.out)⟩⟩
                  · rw [if_neg c16] at H
                    have c16b0 : decide (999 < t162) = false := decide_eq_false c16
                    clear c16
                    by_cases c17 : t163 < 0
                    · rw [if_pos c17] at H
                      have c17b0 : decide (t163 < 0) = true := decide_eq_true c17
                      clear c17
                      have H' := Aside0.mk H
                      clear H
                      go_wp2_with (first | ((with_reducible refine gate_callee (f := 19) rfl ?_); refine goesL_ (some 35) rfl rfl Try.func19 (by kernel_rfl) rfl #[.int .i64 t161, .int .i64 t162, .int .i64 t163] rfl (by (try simp only [List.map_toArray, List.map_cons, List.map_nil]); first | done | rfl | (simp only [List.length_drop, List.length_take]; rfl)) ?_; (with_reducible refine (spec_NoiseBoth.calls kj2 t161 t162 t163 t165 _ A11.out).mono ?_); rintro e w' ⟨rfl, ⟨nd, rfl⟩⟩; refine ⟨_, rfl, ?_⟩))
                      go_meet
                      case rel => exact ⟨_, (true), (by first | rfl | (simp; done) | (simp [*]; done)), H', ⟨by have := HJ2.out; first | omega | exact Nat.le_refl _⟩, ⟨by repeat (first | (with_reducible first | exact HB.out | apply below_alloc | apply pw_below_drewN | apply below_drew1) | exact HB.out)⟩⟩
                    · rw [if_neg c17] at H
                      have c17b0 : decide (t163 < 0) = false := decide_eq_false c17
                      clear c17
                      have H' := Aside0.mk H
                      clear H
                      go_wp2_with (first | ((with_reducible refine gate_callee (f := 19) rfl ?_); refine goesL_ (some 35) rfl rfl Try.func19 (by kernel_rfl) rfl #[.int .i64 t161, .int .i64 t162, .int .i64 t163] rfl (by (try simp only [List.map_toArray, List.map_cons, List.map_nil]); first | done | rfl | (simp only [List.length_drop, List.length_take]; rfl)) ?_; (with_reducible refine (spec_NoiseBoth.calls kj2 t161 t162 t163 t165 _ A11.out).mono ?_); rintro e w' ⟨rfl, ⟨nd, rfl⟩⟩; refine ⟨_, rfl, ?_⟩))
                      go_meet
                      case rel => exact ⟨_, (decide (t163 > 20)), (by first | rfl | (simp; done) | (simp [*]; done)), H', ⟨by have := HJ2.out; first | omega | exact Nat.le_refl _⟩, ⟨by repeat (first | (with_reducible first | exact HB.out | apply below_alloc | apply pw_below_drewN | apply below_drew1) | exact HB.out)⟩⟩
          · rw [if_neg c12] at H
            have c12b0 : (t164 == t165) = false := beq_eq_false_iff_ne.mpr c12
            have c12b1 : (t164 != t165) = true := bne_iff_ne.mpr c12
            (first | rw [c12b0] | (simp only [i64_w, i32_w]; rw [c12b0]) | skip)
            have H' := Aside0.mk H
            clear H
            go_wp2_with (first | ((with_reducible refine gate_callee (f := 19) rfl ?_); refine goesL_ (some 35) rfl rfl Try.func19 (by kernel_rfl) rfl #[.int .i64 t161, .int .i64 t162, .int .i64 t163] rfl (by (try simp only [List.map_toArray, List.map_cons, List.map_nil]); first | done | rfl | (simp only [List.length_drop, List.length_take]; rfl)) ?_; (with_reducible refine (spec_NoiseBoth.calls kj2 t161 t162 t163 t165 _ A11.out).mono ?_); rintro e w' ⟨rfl, ⟨nd, rfl⟩⟩; refine ⟨_, rfl, ?_⟩))
            go_meet
            case rel => exact ⟨_, (true), (by first | rfl | (simp; done) | (simp [*]; done)), H', ⟨by have := HJ2.out; first | omega | exact Nat.le_refl _⟩, ⟨by repeat (first | (with_reducible first | exact HB.out | apply below_alloc | apply pw_below_drewN | apply below_drew1) | exact HB.out)⟩⟩
        case rest =>
          clear HC8
          try clear c1
          try clear c2
          try clear p2
          try clear c4
          try clear c4b0
          try clear c4b1
          try clear c5
          try clear c9
          try clear c12
          try clear c12b0
          try clear c12b1
          try clear c13
          try clear c13b0
          try clear c14
          try clear c14b0
          try clear c15
          try clear c15b0
          try clear c16
          try clear c16b0
          try clear c17
          try clear c17b0
          try clear p2
          obtain ⟨kq, x60_7, rfl, HA, HJ7, HB⟩ := hcut
          cases kq with
          | zero => exact absurd HA.out (by simp [laws_FnNoiseBoth.j1])
          | succ kj7 =>
            have H := HA.out
            clear HA
            simp only [laws_FnNoiseBoth.j1] at H
            by_cases c18 : x60_7 = true
            · subst c18
              have H1 : ((spec_NoiseBoth.f kj7 t161 t162 t163).bind fun t166 => (some (t164 == t166))) = some r := by rw [if_pos rfl] at H; exact H
              clear H
              have H := H1
              clear H1
              replace H := Option.bind_eq_some_iff.mp H
              obtain ⟨t166, A190, H⟩ := H
              replace H : (some (t164 == t166)) = some r := H
              have A19 := Aside0.mk A190
              clear A190
              obtain rfl := Option.some.inj H
              go_wp2_with (first | ((with_reducible refine gate_callee (f := 19) rfl ?_); refine goesL_ (some 65) rfl rfl Try.func19 (by kernel_rfl) rfl #[.int .i64 t161, .int .i64 t162, .int .i64 t163] rfl (by (try simp only [List.map_toArray, List.map_cons, List.map_nil]); first | done | rfl | (simp only [List.length_drop, List.length_take]; rfl)) ?_; (with_reducible refine (spec_NoiseBoth.calls kj7 t161 t162 t163 t166 _ A19.out).mono ?_); rintro e w' ⟨rfl, ⟨nd, rfl⟩⟩; refine ⟨_, rfl, ?_⟩))
              go_ret
              exact ⟨by first | rfl | (simp [errW_none, errW_some] <;> rfl) | (simp [*, errW_none, errW_some] <;> rfl), by repeat (first | (with_reducible first | exact HB.out | apply below_alloc | apply pw_below_drewN | apply below_drew1) | exact HB.out)⟩
            · replace c18 := Bool.eq_false_iff.mpr c18
              subst c18
              have H1 : (laws_FnNoiseBoth.l0 kj7 t161 t162 t163 t164 (((l1.length : Int) % 5) - 2) 0 0 0) = some r := by rw [if_neg (show ¬ (false = true) by decide)] at H; exact H
              clear H
              have H := H1
              clear H1
              have H' := Aside0.mk H
              clear H
              go_wp2
              go_loopg [10, 11, 12] kj7 (fun kq v10 v11 v12 w' => ∃ (x10_3 : Int) (x11_3 : Int) (x12_3 : Int), v10 = .int .i64 x10_3 ∧ v11 = .int .i64 x11_3 ∧ v12 = .int .i64 x12_3 ∧ Aside0 (laws_FnNoiseBoth.l0 kq t161 t162 t163 t164 (((l1.length : Int) % 5) - 2) x10_3 x11_3 x12_3 = some r) ∧ Aside0 (kq ≤ kj7) ∧ Aside0 (Below w.heap.size w w'))
              case atStart => exact ⟨(0), (0), (0), (by first | rfl | (simp; done) | (simp [*]; done)), (by first | rfl | (simp; done) | (simp [*]; done)), (by first | rfl | (simp; done) | (simp [*]; done)), H', ⟨Nat.le_refl _⟩, ⟨by repeat (first | (with_reducible first | exact HB.out | apply below_alloc | apply pw_below_drewN | apply below_drew1) | exact HB.out)⟩⟩
              case round =>
                clear H'
                try clear c1
                try clear c2
                try clear p2
                try clear c4
                try clear c4b0
                try clear c4b1
                try clear c5
                try clear c9
                try clear c12
                try clear c12b0
                try clear c12b1
                try clear c13
                try clear c13b0
                try clear c14
                try clear c14b0
                try clear c15
                try clear c15b0
                try clear c16
                try clear c16b0
                try clear c17
                try clear c17b0
                try clear c18
                try clear c19
                try clear p2
                obtain ⟨x10_3, x11_3, x12_3, rfl, rfl, rfl, HA, HK3, HB⟩ := hrel
                cases gk with
                | zero => exact absurd HA.out (by simp [laws_FnNoiseBoth.l0])
                | succ k3 =>
                  have H := HA.out
                  clear HA
                  simp only [laws_FnNoiseBoth.l0] at H
                  by_cases c20 : x12_3 < 31
                  · rw [if_pos c20] at H
                    have c20b0 : decide (x12_3 < 31) = true := decide_eq_true c20
                    clear c20
                    replace H := Option.bind_eq_some_iff.mp H
                    obtain ⟨t170, A210, H⟩ := H
                    replace H : (if t170 = (((l1.length : Int) % 5) - 2) then ((impl_NoiseBoth.f k3 t161 x12_3 t163).bind fun t171 => (if t171 = (((l1.length : Int) % 5) - 2) then (laws_FnNoiseBoth.l0 k3 t161 t162 t163 t164 (((l1.length : Int) % 5) - 2) (wrap64 (x10_3 + 1)) (wrap64 (x11_3 + 1)) (wrap64 (x12_3 + 1))) else (laws_FnNoiseBoth.l0 k3 t161 t162 t163 t164 (((l1.length : Int) % 5) - 2) (wrap64 (x10_3 + 1)) x11_3 (wrap64 (x12_3 + 1))))) else ((impl_NoiseBoth.f k3 t161 x12_3 t163).bind fun t172 => (if t172 = (((l1.length : Int) % 5) - 2) then (laws_FnNoiseBoth.l0 k3 t161 t162 t163 t164 (((l1.length : Int) % 5) - 2) x10_3 (wrap64 (x11_3 + 1)) (wrap64 (x12_3 + 1))) else (laws_FnNoiseBoth.l0 k3 t161 t162 t163 t164 (((l1.length : Int) % 5) - 2) x10_3 x11_3 (wrap64 (x12_3 + 1)))))) = some r := H
                    have A21 := Aside0.mk A210
                    clear A210
                    by_cases c22 : t170 = (((l1.length : Int) % 5) - 2)
                    · rw [if_pos c22] at H
                      have c22b0 : (t170 == (((l1.length : Int) % 5) - 2)) = true := beq_iff_eq.mpr c22
                      have c22b1 : (t170 != (((l1.length : Int) % 5) - 2)) = false := bne_eq_false_iff_eq.mpr c22
                      clear c22
                      replace H := Option.bind_eq_some_iff.mp H
                      obtain ⟨t171, A230, H⟩ := H
                      replace H : (if t171 = (((l1.length : Int) % 5) - 2) then (laws_FnNoiseBoth.l0 k3 t161 t162 t163 t164 (((l1.length : Int) % 5) - 2) (wrap64 (x10_3 + 1)) (wrap64 (x11_3 + 1)) (wrap64 (x12_3 + 1))) else (laws_FnNoiseBoth.l0 k3 t161 t162 t163 t164 (((l1.length : Int) % 5) - 2) (wrap64 (x10_3 + 1)) x11_3 (wrap64 (x12_3 + 1)))) = some r := H
                      have A23 := Aside0.mk A230
                      clear A230
                      by_cases c24 : t171 = (((l1.length : Int) % 5) - 2)
                      · rw [if_pos c24] at H
                        have c24b0 : (t171 == (((l1.length : Int) % 5) - 2)) = true := beq_iff_eq.mpr c24
                        have c24b1 : (t171 != (((l1.length : Int) % 5) - 2)) = false := bne_eq_false_iff_eq.mpr c24
                        clear c24
                        have H' := Aside0.mk H
                        clear H
                        go_wp2_with (first | ((with_reducible refine gate_callee (f := 20) rfl ?_); refine goesL_ (some 78) rfl rfl Try.func20 (by kernel_rfl) rfl #[.int .i64 x12_3, .int .i64 t162, .int .i64 t163] rfl (by (try simp only [List.map_toArray, List.map_cons, List.map_nil]); first | done | rfl | (simp only [List.length_drop, List.length_take]; rfl)) ?_; (with_reducible refine (impl_NoiseBoth.calls k3 x12_3 t162 t163 t170 _ A21.out).mono ?_); rintro e w25 ⟨rfl, hb⟩; refine ⟨_, rfl, ?_⟩; have n0_ := Aside0.mk (below_step (by repeat (first | (with_reducible first | exact HB.out | apply below_alloc | apply pw_below_drewN | apply below_drew1) | exact HB.out)) hb); clear HB; have HB := n0_; clear n0_; (try clear hb); (try clear hb2); (try clear hk); (try clear hi)) | ((with_reducible refine gate_callee (f := 20) rfl ?_); refine goesL_ (some 86) rfl rfl Try.func20 (by kernel_rfl) rfl #[.int .i64 t161, .int .i64 x12_3, .int .i64 t163] rfl (by (try simp only [List.map_toArray, List.map_cons, List.map_nil]); first | done | rfl | (simp only [List.length_drop, List.length_take]; rfl)) ?_; (with_reducible refine (impl_NoiseBoth.calls k3 t161 x12_3 t163 t171 _ A23.out).mono ?_); rintro e w26 ⟨rfl, hb⟩; refine ⟨_, rfl, ?_⟩; have n0_ := Aside0.mk (below_step (by repeat (first | (with_reducible first | exact HB.out | apply below_alloc | apply pw_below_drewN | apply below_drew1) | exact HB.out)) hb); clear HB; have HB := n0_; clear n0_; (try clear hb); (try clear hb2); (try clear hk); (try clear hi)))
                        go_roundg k3
                        case measure => have := HJ2.out; have := HJ7.out; have := HK3.out; omega
                        case rel => exact ⟨(wrap64 (x10_3 + 1)), (wrap64 (x11_3 + 1)), (wrap64 (x12_3 + 1)), (by first | rfl | (simp; done) | (simp [*]; done)), (by first | rfl | (simp; done) | (simp [*]; done)), (by first | rfl | (simp; done) | (simp [*]; done)), H', ⟨by have := HJ2.out; have := HJ7.out; have := HK3.out; omega⟩, ⟨by repeat (first | (with_reducible first | exact HB.out | apply below_alloc | apply pw_below_drewN | apply below_drew1) | exact HB.out)⟩⟩
                      · rw [if_neg c24] at H
                        have c24b0 : (t171 == (((l1.length : Int) % 5) - 2)) = false := beq_eq_false_iff_ne.mpr c24
                        have c24b1 : (t171 != (((l1.length : Int) % 5) - 2)) = true := bne_iff_ne.mpr c24
                        have H' := Aside0.mk H
                        clear H
                        go_wp2_with (first | ((with_reducible refine gate_callee (f := 20) rfl ?_); refine goesL_ (some 78) rfl rfl Try.func20 (by kernel_rfl) rfl #[.int .i64 x12_3, .int .i64 t162, .int .i64 t163] rfl (by (try simp only [List.map_toArray, List.map_cons, List.map_nil]); first | done | rfl | (simp only [List.length_drop, List.length_take]; rfl)) ?_; (with_reducible refine (impl_NoiseBoth.calls k3 x12_3 t162 t163 t170 _ A21.out).mono ?_); rintro e w27 ⟨rfl, hb⟩; refine ⟨_, rfl, ?_⟩; have n0_ := Aside0.mk (below_step (by repeat (first | (with_reducible first | exact HB.out | apply below_alloc | apply pw_below_drewN | apply below_drew1) | exact HB.out)) hb); clear HB; have HB := n0_; clear n0_; (try clear hb); (try clear hb2); (try clear hk); (try clear hi)) | ((with_reducible refine gate_callee (f := 20) rfl ?_); refine goesL_ (some 86) rfl rfl Try.func20 (by kernel_rfl) rfl #[.int .i64 t161, .int .i64 x12_3, .int .i64 t163] rfl (by (try simp only [List.map_toArray, List.map_cons, List.map_nil]); first | done | rfl | (simp only [List.length_drop, List.length_take]; rfl)) ?_; (with_reducible refine (impl_NoiseBoth.calls k3 t161 x12_3 t163 t171 _ A23.out).mono ?_); rintro e w28 ⟨rfl, hb⟩; refine ⟨_, rfl, ?_⟩; have n0_ := Aside0.mk (below_step (by repeat (first | (with_reducible first | exact HB.out | apply below_alloc | apply pw_below_drewN | apply below_drew1) | exact HB.out)) hb); clear HB; have HB := n0_; clear n0_; (try clear hb); (try clear hb2); (try clear hk); (try clear hi)))
                        go_roundg k3
                        case measure => have := HJ2.out; have := HJ7.out; have := HK3.out; omega
                        case rel => exact ⟨(wrap64 (x10_3 + 1)), (x11_3), (wrap64 (x12_3 + 1)), (by first | rfl | (simp; done) | (simp [*]; done)), (by first | rfl | (simp; done) | (simp [*]; done)), (by first | rfl | (simp; done) | (simp [*]; done)), H', ⟨by have := HJ2.out; have := HJ7.out; have := HK3.out; omega⟩, ⟨by repeat (first | (with_reducible first | exact HB.out | apply below_alloc | apply pw_below_drewN | apply below_drew1) | exact HB.out)⟩⟩
                    · rw [if_neg c22] at H
                      have c22b0 : (t170 == (((l1.length : Int) % 5) - 2)) = false := beq_eq_false_iff_ne.mpr c22
                      have c22b1 : (t170 != (((l1.length : Int) % 5) - 2)) = true := bne_iff_ne.mpr c22
                      replace H := Option.bind_eq_some_iff.mp H
                      obtain ⟨t172, A290, H⟩ := H
                      replace H : (if t172 = (((l1.length : Int) % 5) - 2) then (laws_FnNoiseBoth.l0 k3 t161 t162 t163 t164 (((l1.length : Int) % 5) - 2) x10_3 (wrap64 (x11_3 + 1)) (wrap64 (x12_3 + 1))) else (laws_FnNoiseBoth.l0 k3 t161 t162 t163 t164 (((l1.length : Int) % 5) - 2) x10_3 x11_3 (wrap64 (x12_3 + 1)))) = some r := H
                      have A29 := Aside0.mk A290
                      clear A290
                      by_cases c30 : t172 = (((l1.length : Int) % 5) - 2)
                      · rw [if_pos c30] at H
                        have c30b0 : (t172 == (((l1.length : Int) % 5) - 2)) = true := beq_iff_eq.mpr c30
                        have c30b1 : (t172 != (((l1.length : Int) % 5) - 2)) = false := bne_eq_false_iff_eq.mpr c30
                        clear c30
                        have H' := Aside0.mk H
                        clear H
                        go_wp2_with (first | ((with_reducible refine gate_callee (f := 20) rfl ?_); refine goesL_ (some 78) rfl rfl Try.func20 (by kernel_rfl) rfl #[.int .i64 x12_3, .int .i64 t162, .int .i64 t163] rfl (by (try simp only [List.map_toArray, List.map_cons, List.map_nil]); first | done | rfl | (simp only [List.length_drop, List.length_take]; rfl)) ?_; (with_reducible refine (impl_NoiseBoth.calls k3 x12_3 t162 t163 t170 _ A21.out).mono ?_); rintro e w31 ⟨rfl, hb⟩; refine ⟨_, rfl, ?_⟩; have n0_ := Aside0.mk (below_step (by repeat (first | (with_reducible first | exact HB.out | apply below_alloc | apply pw_below_drewN | apply below_drew1) | exact HB.out)) hb); clear HB; have HB := n0_; clear n0_; (try clear hb); (try clear hb2); (try clear hk); (try clear hi)) | ((with_reducible refine gate_callee (f := 20) rfl ?_); refine goesL_ (some 86) rfl rfl Try.func20 (by kernel_rfl) rfl #[.int .i64 t161, .int .i64 x12_3, .int .i64 t163] rfl (by (try simp only [List.map_toArray, List.map_cons, List.map_nil]); first | done | rfl | (simp only [List.length_drop, List.length_take]; rfl)) ?_; (with_reducible refine (impl_NoiseBoth.calls k3 t161 x12_3 t163 t172 _ A29.out).mono ?_); rintro e w32 ⟨rfl, hb⟩; refine ⟨_, rfl, ?_⟩; have n0_ := Aside0.mk (below_step (by repeat (first | (with_reducible first | exact HB.out | apply below_alloc | apply pw_below_drewN | apply below_drew1) | exact HB.out)) hb); clear HB; have HB := n0_; clear n0_; (try clear hb); (try clear hb2); (try clear hk); (try clear hi)))
                        go_roundg k3
                        case measure => have := HJ2.out; have := HJ7.out; have := HK3.out; omega
                        case rel => exact ⟨(x10_3), (wrap64 (x11_3 + 1)), (wrap64 (x12_3 + 1)), (by first | rfl | (simp; done) | (simp [*]; done)), (by first | rfl | (simp; done) | (simp [*]; done)), (by first | rfl | (simp; done) | (simp [*]; done)), H', ⟨by have := HJ2.out; have := HJ7.out; have := HK3.out; omega⟩, ⟨by repeat (first | (with_reducible first | exact HB.out | apply below_alloc | apply pw_below_drewN | apply below_drew1) | exact HB.out)⟩⟩
                      · rw [if_neg c30] at H
                        have c30b0 : (t172 == (((l1.length : Int) % 5) - 2)) = false := beq_eq_false_iff_ne.mpr c30
                        have c30b1 : (t172 != (((l1.length : Int) % 5) - 2)) = true := bne_iff_ne.mpr c30
                        have H' := Aside0.mk H
                        clear H
                        go_wp2_with (first | ((with_reducible refine gate_callee (f := 20) rfl ?_); refine goesL_ (some 78) rfl rfl Try.func20 (by kernel_rfl) rfl #[.int .i64 x12_3, .int .i64 t162, .int .i64 t163] rfl (by (try simp only [List.map_toArray, List.map_cons, List.map_nil]); first | done | rfl | (simp only [List.length_drop, List.length_take]; rfl)) ?_; (with_reducible refine (impl_NoiseBoth.calls k3 x12_3 t162 t163 t170 _ A21.out).mono ?_); rintro e w33 ⟨rfl, hb⟩; refine ⟨_, rfl, ?_⟩; have n0_ := Aside0.mk (below_step (by repeat (first | (with_reducible first | exact HB.out | apply below_alloc | apply pw_below_drewN | apply below_drew1) | exact HB.out)) hb); clear HB; have HB := n0_; clear n0_; (try clear hb); (try clear hb2); (try clear hk); (try clear hi)) | ((with_reducible refine gate_callee (f := 20) rfl ?_); refine goesL_ (some 86) rfl rfl Try.func20 (by kernel_rfl) rfl #[.int .i64 t161, .int .i64 x12_3, .int .i64 t163] rfl (by (try simp only [List.map_toArray, List.map_cons, List.map_nil]); first | done | rfl | (simp only [List.length_drop, List.length_take]; rfl)) ?_; (with_reducible refine (impl_NoiseBoth.calls k3 t161 x12_3 t163 t172 _ A29.out).mono ?_); rintro e w34 ⟨rfl, hb⟩; refine ⟨_, rfl, ?_⟩; have n0_ := Aside0.mk (below_step (by repeat (first | (with_reducible first | exact HB.out | apply below_alloc | apply pw_below_drewN | apply below_drew1) | exact HB.out)) hb); clear HB; have HB := n0_; clear n0_; (try clear hb); (try clear hb2); (try clear hk); (try clear hi)))
                        go_roundg k3
                        case measure => have := HJ2.out; have := HJ7.out; have := HK3.out; omega
                        case rel => exact ⟨(x10_3), (x11_3), (wrap64 (x12_3 + 1)), (by first | rfl | (simp; done) | (simp [*]; done)), (by first | rfl | (simp; done) | (simp [*]; done)), (by first | rfl | (simp; done) | (simp [*]; done)), H', ⟨by have := HJ2.out; have := HJ7.out; have := HK3.out; omega⟩, ⟨by repeat (first | (with_reducible first | exact HB.out | apply below_alloc | apply pw_below_drewN | apply below_drew1) | exact HB.out)⟩⟩
                  · rw [if_neg c20] at H
                    have c20b0 : decide (x12_3 < 31) = false := decide_eq_false c20
                    clear c20
                    replace H := Option.bind_eq_some_iff.mp H
                    obtain ⟨t167, A350, H⟩ := H
                    replace H : ((impl_NoiseOf.f t167).bind fun t168 => (if t164 = t168 then ((impl_NoiseMany.f (((l1.length : Int) % 5) - 2)).bind fun t169 => (if x10_3 = t169 then (some (x11_3 == x10_3)) else (some false))) else (some false))) = some r := H
                    have A35 := Aside0.mk A350
                    clear A350
                    replace H := Option.bind_eq_some_iff.mp H
                    obtain ⟨t168, A360, H⟩ := H
                    replace H : (if t164 = t168 then ((impl_NoiseMany.f (((l1.length : Int) % 5) - 2)).bind fun t169 => (if x10_3 = t169 then (some (x11_3 == x10_3)) else (some false))) else (some false)) = some r := H
                    have A36 := Aside0.mk A360
                    clear A360
                    by_cases c37 : t164 = t168
                    · rw [if_pos c37] at H
                      have c37b0 : (t164 == t168) = true := beq_iff_eq.mpr c37
                      have c37b1 : (t164 != t168) = false := bne_eq_false_iff_eq.mpr c37
                      clear c37
                      replace H := Option.bind_eq_some_iff.mp H
                      obtain ⟨t169, A380, H⟩ := H
                      replace H : (if x10_3 = t169 then (some (x11_3 == x10_3)) else (some false)) = some r := H
                      have A38 := Aside0.mk A380
                      clear A380
                      by_cases c39 : x10_3 = t169
                      · rw [if_pos c39] at H
                        have c39b0 : (x10_3 == t169) = true := beq_iff_eq.mpr c39
                        have c39b1 : (x10_3 != t169) = false := bne_eq_false_iff_eq.mpr c39
                        clear c39
                        obtain rfl := Option.some.inj H
                        go_wp2_with (first | ((with_reducible refine gate_callee (f := 22) rfl ?_); refine goesL_ (some 95) rfl rfl Try.func22 (by kernel_rfl) rfl #[.int .i64 t161, .int .i64 t162, .int .i64 t163] rfl (by (try simp only [List.map_toArray, List.map_cons, List.map_nil]); first | done | rfl | (simp only [List.length_drop, List.length_take]; rfl)) ?_; (with_reducible refine (impl_RandBoth.calls k3 t161 t162 t163 t167 _ A35.out).mono ?_); rintro e w' ⟨rfl, ⟨nd, rfl⟩⟩; refine ⟨_, rfl, ?_⟩) | ((with_reducible refine gate_callee (f := 16) rfl ?_); refine goesL_ (some 96) rfl rfl Try.func16 (by kernel_rfl) rfl #[.int .i64 t167] rfl (by (try simp only [List.map_toArray, List.map_cons, List.map_nil]); first | done | rfl | (simp only [List.length_drop, List.length_take]; rfl)) ?_; (with_reducible refine (impl_NoiseOf.calls t167 t168 _ A36.out).mono ?_); rintro e w40 ⟨rfl, hb⟩; refine ⟨_, rfl, ?_⟩; have n0_ := Aside0.mk (below_step (by repeat (first | (with_reducible first | exact HB.out | apply below_alloc | apply pw_below_drewN | apply below_drew1) | exact HB.out)) hb); clear HB; have HB := n0_; clear n0_; (try clear hb); (try clear hb2); (try clear hk); (try clear hi)) | (go_at_call 14; (with_reducible refine (impl_NoiseMany.calls (((l1.length : Int) % 5) - 2) t169 _ A38.out).mono ?_); rintro e w41 ⟨rfl, hb⟩; have n0_ := Aside0.mk (below_step (by repeat (first | (with_reducible first | exact HB.out | apply below_alloc | apply pw_below_drewN | apply below_drew1) | exact HB.out)) hb); clear HB; have HB := n0_; clear n0_; (try clear hb); (try clear hb2); (try clear hk); (try clear hi)))
                        go_ret
                        exact ⟨by first | rfl | (simp [errW_none, errW_some] <;> rfl) | (simp [*, errW_none, errW_some] <;> rfl), by repeat (first | (with_reducible first | exact HB.out | apply below_alloc | apply pw_below_drewN | apply below_drew1) | exact HB.out)⟩
                      · rw [if_neg c39] at H
                        have c39b0 : (x10_3 == t169) = false := beq_eq_false_iff_ne.mpr c39
                        have c39b1 : (x10_3 != t169) = true := bne_iff_ne.mpr c39
                        exact absurd (Option.some.inj (H.trans (congrArg some HRT.out))) (by decide)
                    · rw [if_neg c37] at H
                      have c37b0 : (t164 == t168) = false := beq_eq_false_iff_ne.mpr c37
                      have c37b1 : (t164 != t168) = true := bne_iff_ne.mpr c37
                      exact absurd (Option.some.inj (H.trans (congrArg some HRT.out))) (by decide)

/-- THE ONE PURE STATEMENT of laws_FnNoiseBoth: yours. -/
def laws_FnNoiseBoth.Pure : Prop := ∀ (l0 : List Int) (l1 : List Int), l0.length ≤ maxLen → l0.length * 1 ≤ 140737488351232 → (∀ x ∈ l0, (Lit.int .u8 x).wf = true) → l1.length ≤ maxLen → l1.length * 1 ≤ 140737488351232 → (∀ x ∈ l1, (Lit.int .u8 x).wf = true) → ∃ k, laws_FnNoiseBoth.f k l0 l1 = some true
theorem laws_FnNoiseBoth.walk (P : laws_FnNoiseBoth.Pure) (a0 : Option Addr) (len0 cap0 : Nat) (z0 : List Int) (a1 : Option Addr) (len1 cap1 : Nat) (z1 : List Int) (w : World) (w0 : (a0 = none ∧ len0 = 0 ∧ cap0 = 0 ∧ z0 = []) ∨ ∃ x, a0 = some x ∧ len0 ≤ cap0 ∧ cap0 ≤ maxLen ∧ z0.length = cap0 ∧ (∀ i, i < z0.length → w.cell? (x.add i) = some (.int .u8 (z0.getD i 0))) ∧ ∀ n ∈ z0, (Lit.int .u8 n).wf = true) (y0 : len0 * 1 ≤ 140737488351232) (w1 : (a1 = none ∧ len1 = 0 ∧ cap1 = 0 ∧ z1 = []) ∨ ∃ x, a1 = some x ∧ len1 ≤ cap1 ∧ cap1 ≤ maxLen ∧ z1.length = cap1 ∧ (∀ i, i < z1.length → w.cell? (x.add i) = some (.int .u8 (z1.getD i 0))) ∧ ∀ n ∈ z1, (Lit.int .u8 n).wf = true) (y1 : len1 * 1 ≤ 140737488351232) :
    Calls Try.prog 9 #[.slice a0 len0 cap0, .slice a1 len1 cap1] w fun e w' => e = .returned (.bool true) ∧ Below w.heap.size w w' := by
  obtain ⟨l0, rfl, hr0, hm0, hw0, hc0⟩ := ReadsInt.ofRowC w0
  obtain ⟨l1, rfl, hr1, hm1, hw1, hc1⟩ := ReadsInt.ofRowC w1
  obtain ⟨k, h⟩ := P l0 l1 hm0 y0 hw0 hm1 y1 hw1
  refine (laws_FnNoiseBoth.calls k _ _ l0 _ _ l1 true w (Kd.C_of_reads (d := (0 : Int)) (h1 := fun _ => rfl) hr0) hc0 (Kd.C_of_reads (d := (0 : Int)) (h1 := fun _ => rfl) hr1) hc1 h rfl).mono ?_
  rintro e w' ⟨rfl, hd⟩
  exact ⟨rfl, hd⟩

end Go.Proofs.Ythmllnigphcpaaa.PFnNoiseBoth
