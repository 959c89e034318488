-- Written by a program of this session over the kit's printer, with contracts proved by hand; Lean checks it.
import Derived.Test.YtdjenclegglmfaaPFnExactHeavyStepx0
import Derived.Test.YtdjenclegglmfaaPFnExactHeavyStepx1
import Derived.Test.YtdjenclegglmfaaPFnExactHeavyStepx3
import Derived.Test.YtdjenclegglmfaaPFnExactHeavyStepx4
namespace Go.Proofs.Ytdjenclegglmfaa.PFnExactHeavyStep
open Go.RowKit Go.Proofs.YtdjenclegglmfaaW.PrintWords Go.Proofs.YtdjenclegglmfaaW.PrintLast Go.Proofs.YtdjenclegglmfaaW.PrintMore
attribute [local go_sem] max2_int min2_int max_two min_two max_three min_three max_four min_four   -- for this text's walks alone
set_option linter.unusedVariables false
set_option linter.unusedSimpArgs false

/-! ### spec_HeavyStep: function 35 -/
mutual
def spec_HeavyStep.j0 : Nat → List ByteArray → List ByteArray → Int → List ByteArray → Bool → Option (List ByteArray)
  | 0, _, _, _, _, _ => none
  | k + 1, x0, x1, x2, x7, x18 => if x18 = true then (some x7) else ((spec_HeavyNext.f k x1).bind fun t152 => (spec_HeavyStep.l0 k x0 x2 x7 t152 0))
def spec_HeavyStep.l0 : Nat → List ByteArray → Int → List ByteArray → List ByteArray → Int → Option (List ByteArray)
  | 0, _, _, _, _, _ => none
  | k + 1, x0, x2, x7, x8, x9 => if x9 < (x8.length : Int) then (if 0 ≤ x9 then ((spec_l41Many.f k x0 (rdOf ByteArray.empty x8 x9)).bind fun t156 => (if t156 ≥ x2 then (if x7.length < 8796093022208 then (spec_HeavyStep.l0 k x0 x2 (x7 ++ [rdOf ByteArray.empty x8 x9]) x8 (wrap64 (x9 + 1))) else (none)) else (spec_HeavyStep.l0 k x0 x2 x7 x8 (wrap64 (x9 + 1))))) else (none)) else (some x7)
end
def spec_HeavyStep.f (k : Nat) (l0 : List ByteArray) (l1 : List ByteArray) (a2 : Int) : Option (List ByteArray) := (some (([] : List ByteArray) : List ByteArray)).bind fun y147 => ((spec_WordsOk.f k l0).bind fun t150 => (if t150 = true then ((spec_l41Heads.f k l1).bind fun t151 => (spec_HeavyStep.j0 k l0 l1 a2 y147 (!t151))) else (spec_HeavyStep.j0 k l0 l1 a2 y147 true)))
theorem spec_HeavyStep.mono_l : ∀ k, (∀ y0 y1 y2 y3 y4, LeO (spec_HeavyStep.j0 k y0 y1 y2 y3 y4) (spec_HeavyStep.j0 (k + 1) y0 y1 y2 y3 y4)) ∧ (∀ y0 y1 y2 y3 y4, LeO (spec_HeavyStep.l0 k y0 y1 y2 y3 y4) (spec_HeavyStep.l0 (k + 1) y0 y1 y2 y3 y4))
  | 0 => ⟨fun _ _ _ _ _ r h => by simp [spec_HeavyStep.j0] at h, fun _ _ _ _ _ r h => by simp [spec_HeavyStep.l0] at h⟩
  | k + 1 => by
    obtain ⟨ih0, ih1⟩ := spec_HeavyStep.mono_l k
    refine ⟨?_, ?_⟩
    · intro y0 y1 y2 y3 y4
      unfold spec_HeavyStep.j0
      repeat' first
      | (with_reducible exact ih0 _ _ _ _ _)
      | (with_reducible exact ih1 _ _ _ _ _)
      | (with_reducible exact spec_HeavyNext.mono _ _)
      | (with_reducible exact spec_WordsOk.mono _ _)
      | (with_reducible exact spec_l41Heads.mono _ _)
      | (with_reducible exact spec_l41Many.mono _ _ _)
      | (with_reducible exact LeO.refl _)
      | (with_reducible exact LeO.none _)
      | (with_reducible refine LeO.ite ?_ ?_)
      | (with_reducible refine LeO.bind ?_ (fun _ => ?_))
      | exact ih0 _ _ _ _ _
      | exact ih1 _ _ _ _ _
      | exact spec_HeavyNext.mono _ _
      | exact spec_WordsOk.mono _ _
      | exact spec_l41Heads.mono _ _
      | exact spec_l41Many.mono _ _ _
      | exact LeO.none _
      | refine LeO.ite ?_ ?_
      | refine LeO.bind ?_ (fun _ => ?_)
    · intro y0 y1 y2 y3 y4
      unfold spec_HeavyStep.l0
      repeat' first
      | (with_reducible exact ih0 _ _ _ _ _)
      | (with_reducible exact ih1 _ _ _ _ _)
      | (with_reducible exact spec_HeavyNext.mono _ _)
      | (with_reducible exact spec_WordsOk.mono _ _)
      | (with_reducible exact spec_l41Heads.mono _ _)
      | (with_reducible exact spec_l41Many.mono _ _ _)
      | (with_reducible exact LeO.refl _)
      | (with_reducible exact LeO.none _)
      | (with_reducible refine LeO.ite ?_ ?_)
      | (with_reducible refine LeO.bind ?_ (fun _ => ?_))
      | exact ih0 _ _ _ _ _
      | exact ih1 _ _ _ _ _
      | exact spec_HeavyNext.mono _ _
      | exact spec_WordsOk.mono _ _
      | exact spec_l41Heads.mono _ _
      | exact spec_l41Many.mono _ _ _
      | exact LeO.none _
      | refine LeO.ite ?_ ?_
      | refine LeO.bind ?_ (fun _ => ?_)
theorem spec_HeavyStep.mono : ∀ a0 a1 a2 k, LeO (spec_HeavyStep.f k a0 a1 a2) (spec_HeavyStep.f (k + 1) a0 a1 a2) := by
  intro a0 a1 a2 k
  obtain ⟨ih0, ih1⟩ := spec_HeavyStep.mono_l k
  unfold spec_HeavyStep.f
  repeat' first
      | (with_reducible exact ih0 _ _ _ _ _)
      | (with_reducible exact ih1 _ _ _ _ _)
      | (with_reducible exact spec_HeavyNext.mono _ _)
      | (with_reducible exact spec_WordsOk.mono _ _)
      | (with_reducible exact spec_l41Heads.mono _ _)
      | (with_reducible exact spec_l41Many.mono _ _ _)
      | (with_reducible exact LeO.refl _)
      | (with_reducible exact LeO.none _)
      | (with_reducible refine LeO.ite ?_ ?_)
      | (with_reducible refine LeO.bind ?_ (fun _ => ?_))
      | exact ih0 _ _ _ _ _
      | exact ih1 _ _ _ _ _
      | exact spec_HeavyNext.mono _ _
      | exact spec_WordsOk.mono _ _
      | exact spec_l41Heads.mono _ _
      | exact spec_l41Many.mono _ _ _
      | exact LeO.none _
      | refine LeO.ite ?_ ?_
      | refine LeO.bind ?_ (fun _ => ?_)
set_option maxHeartbeats 8000000 in
set_option maxRecDepth 100000 in
theorem spec_HeavyStep.calls (k : Nat) (A0 : Option Addr) (c0 : Nat) (l0 : List ByteArray) (A1 : Option Addr) (c1 : Nat) (l1 : List ByteArray) (a2 : Int) (r : List ByteArray) (w : World) (hr0 : Kd.C Kd.string w A0 l0.length l0) (hc0 : l0.length ≤ c0) (hr1 : Kd.C Kd.string w A1 l1.length l1) (hc1 : l1.length ≤ c1) (h : spec_HeavyStep.f k l0 l1 a2 = some r) :
    Calls Try.prog 35 #[.slice A0 l0.length c0, .slice A1 l1.length c1, .int .i64 a2] w fun e w' => ∃ v0_ : Value, e = .returned (v0_) ∧ Kd.R Kd.string 9 w' w.heap.size (fun _ => True) v0_ r ∧ Below w.heap.size w w' := by
  have HR0 := Aside0.mk hr0
  have HC0 := Aside0.mk hc0
  clear hr0 hc0
  have HR1 := Aside0.mk hr1
  have HC1 := Aside0.mk hc1
  clear hr1 hc1
  have HB := Aside0.mk (Below.refl w.heap.size w)
  have H : ((some (([] : List ByteArray) : List ByteArray)).bind fun y147 => ((spec_WordsOk.f k l0).bind fun t150 => (if t150 = true then ((spec_l41Heads.f k l1).bind fun t151 => (spec_HeavyStep.j0 k l0 l1 a2 y147 (!t151))) else (spec_HeavyStep.j0 k l0 l1 a2 y147 true)))) = some r := h
  clear h
  obtain ⟨y147, hy147⟩ : ∃ y_ : List ByteArray, y_ = (([] : List ByteArray)) := ⟨_, rfl⟩
  replace H : ((spec_WordsOk.f k l0).bind fun t150 => (if t150 = true then ((spec_l41Heads.f k l1).bind fun t151 => (spec_HeavyStep.j0 k l0 l1 a2 y147 (!t151))) else (spec_HeavyStep.j0 k l0 l1 a2 y147 true))) = some r := by first | (rw [hy147]; with_reducible exact H) | (have H2_ := (Option.bind_some _ _).symm.trans H; rw [hy147]; with_reducible exact H2_) | (have H2_ := (Option.bind_some _ _).symm.trans H; with_reducible exact H2_) | with_reducible exact H | (rw [hy147]; exact H) | exact H
  have Ny147 := Aside0.mk hy147
  clear hy147
  have HC4 := Aside0.mk H
  clear H
  go_enter Try.func35, Try.ntmps35
  go_upto_region 2 with (first | ((with_reducible refine gate_dst (N := 10) rfl ?_); refine Kd.R_lit Kd.string _ 9 ?hg (N := 10) ?hd (xs := ([] : List ByteArray)) (inner := []) (ok := fun _ => True) (okp := fun _ => True) ?hr ?hp (fun _ hk => hk) trivial (Below.refl _ _) (Nat.le_refl _) (by simp) ?_; (case hd => rfl); (case hg => rfl); (case hr => first | (go_simp; done) | (go_simp; rfl)); (case hp => exact (Reps.none _ _)); intro v148 w5 ho6 hb hg_ hnew_; clear hg_ hnew_; (first | rw [← Ny147.out] at ho6 | (simp only [Int.reduceToNat] at ho6; rw [← Ny147.out] at ho6)); have n0_ := Aside0.mk (Kd.R_lower ho6 (below_size (by repeat (first | (with_reducible first | exact HB.out | apply below_alloc | apply pw_below_drewN | apply below_drew1) | exact HB.out)))); have n1_ := Aside0.mk (below_step (by repeat (first | (with_reducible first | exact HB.out | apply below_alloc | apply pw_below_drewN | apply below_drew1) | exact HB.out)) hb); clear HB; have HO149 := n0_; have HB := n1_; clear n0_ n1_; clear hb ho6))
  (try simp only [Act.put, List.setIfInBounds_toArray, List.set_cons_zero, List.set_cons_succ])
  go_cut [18] (fun v18 wc => ∃ (kq : Nat) (x18_3 : Bool), v18 = .bool x18_3 ∧ Aside0 (spec_HeavyStep.j0 kq l0 l1 a2 y147 x18_3 = some r) ∧ Aside0 (kq ≤ k) ∧ Aside0 (Kd.R Kd.string 9 wc w.heap.size (fun _ => True) v148 y147) ∧ Aside0 (Below w.heap.size w wc))
  case first =>
    have H := HC4.out
    clear HC4
    replace H := Option.bind_eq_some_iff.mp H
    obtain ⟨t150, A70, H⟩ := H
    replace H : (if t150 = true then ((spec_l41Heads.f k l1).bind fun t151 => (spec_HeavyStep.j0 k l0 l1 a2 y147 (!t151))) else (spec_HeavyStep.j0 k l0 l1 a2 y147 true)) = some r := H
    have A7 := Aside0.mk A70
    clear A70
    by_cases c8 : t150 = true
    · subst c8
      have H1 : ((spec_l41Heads.f k l1).bind fun t151 => (spec_HeavyStep.j0 k l0 l1 a2 y147 (!t151))) = some r := by rw [if_pos rfl] at H; exact H
      clear H
      have H := H1
      clear H1
      replace H := Option.bind_eq_some_iff.mp H
      obtain ⟨t151, A90, H⟩ := H
      replace H : (spec_HeavyStep.j0 k l0 l1 a2 y147 (!t151)) = some r := H
      have A9 := Aside0.mk A90
      clear A90
      have H' := Aside0.mk H
      clear H
      go_wp2_with (first | ((with_reducible refine gate_callee (f := 19) rfl ?_); refine goesL_ (some 12) rfl rfl Try.func19 (by kernel_rfl) rfl #[.slice A0 l0.length c0] rfl (by (try simp only [List.map_toArray, List.map_cons, List.map_nil]); first | done | rfl | (simp only [List.length_drop, List.length_take]; rfl)) ?_; (with_reducible refine (spec_WordsOk.calls k _ _ l0 true _ ?side1 ?side2 A7.out).mono ?_); (case side1 => repeat (first | exact (Kd.C_below HR0.out HB.out) | (with_reducible refine Kd.C_alloc ?_ _) | (with_reducible refine Kd.C_drewN ?_ _) | (with_reducible refine Kd.C_drew ?_))); (case side2 => exact HC0.out); rintro e w' ⟨rfl, ⟨nd, rfl⟩⟩; refine ⟨_, rfl, ?_⟩) | (go_at_call 49; (with_reducible refine (spec_l41Heads.calls k _ _ l1 t151 _ ?side1 ?side2 A9.out).mono ?_); (case side1 => repeat (first | exact (Kd.C_below HR1.out (by repeat (first | (with_reducible first | exact HB.out | apply below_alloc | apply pw_below_drewN | apply below_drew1) | exact HB.out))) | (with_reducible refine Kd.C_alloc ?_ _) | (with_reducible refine Kd.C_drewN ?_ _) | (with_reducible refine Kd.C_drew ?_))); (case side2 => exact HC1.out); rintro e w' ⟨rfl, ⟨nd, rfl⟩⟩))
      go_meet
      case rel => exact ⟨_, (!t151), (by first | rfl | (simp; done) | (simp [*]; done)), H', ⟨by first | omega | exact Nat.le_refl _⟩, ⟨by (with_reducible repeat (first | apply Kd.R_alloc | apply Kd.R_drewN | apply Kd.R_drew)); exact HO149.out⟩, ⟨by repeat (first | (with_reducible first | exact HB.out | apply below_alloc | apply pw_below_drewN | apply below_drew1) | exact HB.out)⟩⟩
    · replace c8 := Bool.eq_false_iff.mpr c8
      subst c8
      have H1 : (spec_HeavyStep.j0 k l0 l1 a2 y147 true) = some r := by rw [if_neg (show ¬ (false = true) by decide)] at H; exact H
      clear H
      have H := H1
      clear H1
      have H' := Aside0.mk H
      clear H
      go_wp2_with (first | ((with_reducible refine gate_callee (f := 19) rfl ?_); refine goesL_ (some 12) rfl rfl Try.func19 (by kernel_rfl) rfl #[.slice A0 l0.length c0] rfl (by (try simp only [List.map_toArray, List.map_cons, List.map_nil]); first | done | rfl | (simp only [List.length_drop, List.length_take]; rfl)) ?_; (with_reducible refine (spec_WordsOk.calls k _ _ l0 false _ ?side1 ?side2 A7.out).mono ?_); (case side1 => repeat (first | exact (Kd.C_below HR0.out HB.out) | (with_reducible refine Kd.C_alloc ?_ _) | (with_reducible refine Kd.C_drewN ?_ _) | (with_reducible refine Kd.C_drew ?_))); (case side2 => exact HC0.out); rintro e w' ⟨rfl, ⟨nd, rfl⟩⟩; refine ⟨_, rfl, ?_⟩))
      go_meet
      case rel => exact ⟨_, (true), (by first | rfl | (simp; done) | (simp [*]; done)), H', ⟨by first | omega | exact Nat.le_refl _⟩, ⟨by (with_reducible repeat (first | apply Kd.R_alloc | apply Kd.R_drewN | apply Kd.R_drew)); exact HO149.out⟩, ⟨by repeat (first | (with_reducible first | exact HB.out | apply below_alloc | apply pw_below_drewN | apply below_drew1) | exact HB.out)⟩⟩
  case rest =>
    clear HC4
    try clear c1
    try clear p2
    try clear c3
    try clear c8
    obtain ⟨kq, x18_3, rfl, HA, HJ3, HO_7, HB⟩ := hcut
    cases kq with
    | zero => exact absurd HA.out (by simp [spec_HeavyStep.j0])
    | succ kj3 =>
      have H := HA.out
      clear HA
      simp only [spec_HeavyStep.j0] at H
      by_cases c10 : x18_3 = true
      · subst c10
        have H1 : (some y147) = some r := by rw [if_pos rfl] at H; exact H
        clear H
        have H := H1
        clear H1
        obtain rfl := Option.some.inj H
        go_wp2
        go_ret
        exact ⟨_, by first | rfl | (simp [errW_none, errW_some] <;> rfl) | (simp [*, errW_none, errW_some] <;> rfl), by (with_reducible repeat (first | apply Kd.R_alloc | apply Kd.R_drewN | apply Kd.R_drew)); exact HO_7.out, by repeat (first | (with_reducible first | exact HB.out | apply below_alloc | apply pw_below_drewN | apply below_drew1) | exact HB.out)⟩
      · replace c10 := Bool.eq_false_iff.mpr c10
        subst c10
        have H1 : ((spec_HeavyNext.f kj3 l1).bind fun t152 => (spec_HeavyStep.l0 kj3 l0 a2 y147 t152 0)) = some r := by rw [if_neg (show ¬ (false = true) by decide)] at H; exact H
        clear H
        have H := H1
        clear H1
        replace H := Option.bind_eq_some_iff.mp H
        obtain ⟨t152, A110, H⟩ := H
        replace H : (spec_HeavyStep.l0 kj3 l0 a2 y147 t152 0) = some r := H
        have A11 := Aside0.mk A110
        clear A110
        have H' := Aside0.mk H
        clear H
        go_wp2_with (first | ((with_reducible refine gate_callee (f := 27) rfl ?_); refine goesL_ (some 21) rfl rfl Try.func27 (by kernel_rfl) rfl #[.slice A1 l1.length c1] rfl (by (try simp only [List.map_toArray, List.map_cons, List.map_nil]); first | done | rfl | (simp only [List.length_drop, List.length_take]; rfl)) ?_; (with_reducible refine (spec_HeavyNext.calls kj3 _ _ l1 t152 _ ?side1 ?side2 A11.out).mono ?_); (case side1 => repeat (first | exact (Kd.C_below HR1.out HB.out) | (with_reducible refine Kd.C_alloc ?_ _) | (with_reducible refine Kd.C_drewN ?_ _) | (with_reducible refine Kd.C_drew ?_))); (case side2 => exact HC1.out); rintro e w12 ⟨v153, rfl, ho0, hb⟩; refine ⟨_, rfl, ?_⟩; have n0_ := Aside0.mk (Kd.R_elder' (by (with_reducible repeat (first | apply Kd.R_alloc | apply Kd.R_drewN | apply Kd.R_drew)); exact HO_7.out) (Kd.R_base ho0) hb); have n1_ := Aside0.mk (Kd.R_lower (Kd.R_new' ho0 (Kd.R_lt (by (with_reducible repeat (first | apply Kd.R_alloc | apply Kd.R_drewN | apply Kd.R_drew)); exact HO_7.out))) (below_size (by repeat (first | (with_reducible first | exact HB.out | apply below_alloc | apply pw_below_drewN | apply below_drew1) | exact HB.out)))); have n2_ := Aside0.mk (below_step (by repeat (first | (with_reducible first | exact HB.out | apply below_alloc | apply pw_below_drewN | apply below_drew1) | exact HB.out)) hb); clear HO_7; clear HB; have HO_7 := n0_; have HO154 := n1_; have HB := n2_; clear n0_ n1_ n2_; (try clear hb); (try clear hb2); (try clear hk); (try clear hi); (try clear ho0)))
        go_loopg [7, 9] kj3 (fun kq v7 v9 w' => ∃ (x7_2 : List ByteArray) (x9_2 : Int), v9 = .int .i64 x9_2 ∧ Aside0 (spec_HeavyStep.l0 kq l0 a2 x7_2 t152 x9_2 = some r) ∧ Aside0 (kq ≤ kj3) ∧ Aside0 (Kd.R Kd.string 9 w' w.heap.size (fun k_ => some k_ ≠ (v153 : Value).ownBlock) v7 x7_2) ∧ Aside0 (Kd.R Kd.string 9 w' w.heap.size (fun k_ => some k_ ≠ (v7 : Value).ownBlock) v153 t152) ∧ Aside0 (Below w.heap.size w w'))
        case atStart => exact ⟨(y147), (0), (by first | rfl | (simp; done) | (simp [*]; done)), H', ⟨Nat.le_refl _⟩, ⟨by (with_reducible repeat (first | apply Kd.R_alloc | apply Kd.R_drewN | apply Kd.R_drew)); exact Kd.R_mono HO_7.out (fun _ hk => hk.2)⟩, ⟨by (with_reducible repeat (first | apply Kd.R_alloc | apply Kd.R_drewN | apply Kd.R_drew)); exact Kd.R_mono HO154.out (fun _ hk => hk.2)⟩, ⟨by repeat (first | (with_reducible first | exact HB.out | apply below_alloc | apply pw_below_drewN | apply below_drew1) | exact HB.out)⟩⟩
        case round =>
          clear H'
          try clear c1
          try clear c2
          try clear p2
          try clear c3
          try clear c8
          try clear c10
          try clear p2
          obtain ⟨x7_2, x9_2, rfl, HA, HK2, HO_7, HO_8, HB⟩ := hrel
          cases gk with
          | zero => exact absurd HA.out (by simp [spec_HeavyStep.l0])
          | succ k2 =>
            have H := HA.out
            clear HA
            simp only [spec_HeavyStep.l0] at H
            by_cases c13 : x9_2 < (t152.length : Int)
            · rw [if_pos c13] at H
              have c13b0 : decide (x9_2 < (t152.length : Int)) = true := decide_eq_true c13
              clear c13
              by_cases c14 : 0 ≤ x9_2
              · rw [if_pos c14] at H
                have c14b0 : decide (0 ≤ x9_2) = true := decide_eq_true c14
                clear c14
                replace H := Option.bind_eq_some_iff.mp H
                obtain ⟨t156, A150, H⟩ := H
                replace H : (if t156 ≥ a2 then (if x7_2.length < 8796093022208 then (spec_HeavyStep.l0 k2 l0 a2 (x7_2 ++ [rdOf ByteArray.empty t152 x9_2]) t152 (wrap64 (x9_2 + 1))) else (none)) else (spec_HeavyStep.l0 k2 l0 a2 x7_2 t152 (wrap64 (x9_2 + 1)))) = some r := H
                have A15 := Aside0.mk A150
                clear A150
                by_cases c16 : t156 ≥ a2
                · rw [if_pos c16] at H
                  have c16b0 : decide (a2 ≤ t156) = true := decide_eq_true c16
                  clear c16
                  by_cases c17 : x7_2.length < 8796093022208
                  · rw [if_pos c17] at H
                    have LMc17 := Aside0.mk c17
                    clear c17
                    obtain ⟨y158, hy158⟩ : ∃ y_ : List ByteArray, y_ = (x7_2 ++ [rdOf ByteArray.empty t152 x9_2]) := ⟨_, rfl⟩
                    replace H : (spec_HeavyStep.l0 k2 l0 a2 y158 t152 (wrap64 (x9_2 + 1))) = some r := by first | (rw [hy158]; with_reducible exact H) | (have H2_ := (Option.bind_some _ _).symm.trans H; rw [hy158]; with_reducible exact H2_) | (have H2_ := (Option.bind_some _ _).symm.trans H; with_reducible exact H2_) | with_reducible exact H | (rw [hy158]; exact H) | exact H
                    have Ny158 := Aside0.mk hy158
                    clear hy158
                    have H' := Aside0.mk H
                    clear H
                    obtain ⟨Ao18, co18, eo18⟩ := Kd.R_slice HO_8.out
                    subst eo18
                    have p155 : 0 ≤ (x9_2 : Int) := of_decide_eq_true (by first | (with_reducible assumption) | assumption)
                    have q155 : x9_2 < (t152.length : Int) := of_decide_eq_true (by first | (with_reducible assumption) | assumption)
                    obtain ⟨ad155, e155, hx155_0⟩ := Kd.at_string (Kd.R_reads' HO_8.out).2.2 x9_2 p155 q155
                    cases e155
                    replace p155 := eq_true p155
                    replace q155 := eq_true q155
                    go_wp2_with (first | ((with_reducible refine gate_callee (f := 51) rfl ?_); refine goesL_ (some 33) rfl rfl Try.func51 (by kernel_rfl) rfl #[.slice A0 l0.length c0, .string (rdOf ByteArray.empty t152 x9_2)] rfl (by (try simp only [List.map_toArray, List.map_cons, List.map_nil]); first | done | rfl | (simp only [List.length_drop, List.length_take]; rfl)) ?_; (with_reducible refine (spec_l41Many.calls k2 _ _ l0 (rdOf ByteArray.empty t152 x9_2) t156 _ ?side1 ?side2 A15.out).mono ?_); (case side1 => repeat (first | exact (Kd.C_below HR0.out HB.out) | (with_reducible refine Kd.C_alloc ?_ _) | (with_reducible refine Kd.C_drewN ?_ _) | (with_reducible refine Kd.C_drew ?_))); (case side2 => exact HC0.out); rintro e w' ⟨rfl, ⟨nd, rfl⟩⟩; refine ⟨_, rfl, ?_⟩; have p157 : 0 ≤ (x9_2 : Int) := of_decide_eq_true (by first | (with_reducible assumption) | assumption); have q157 : x9_2 < (t152.length : Int) := of_decide_eq_true (by first | (with_reducible assumption) | assumption); obtain ⟨ad157, e157, hx157_0⟩ := Kd.at_string (Kd.R_reads' HO_8.out).2.2 x9_2 p157 q157; obtain rfl : ad155 = ad157 := (by injection e157); replace p157 := eq_true p157; replace q157 := eq_true q157) | ((with_reducible refine gate_builtin (b := .append) (xs := #[.tmp 36, .tmp 41]) rfl ?_); at_builtin; refine Kd.R_append Kd.string (w0 := w) w.heap.size rfl (.tmp 36) (.tmp 41) 22 9 (.string ⟨#[]⟩) 16 rfl Try.underlying22 info9 rfl (by decide) (by omega) u7 x7_2 (rdOf ByteArray.empty t152 x9_2) [.string (rdOf ByteArray.empty t152 x9_2)] (fun k_ => some k_ ≠ (.slice (some ad155) t152.length co18 : Value).ownBlock) (fun _ => False) rfl rfl ?aP (fun _ hk => hk.elim) ?aF ?aO ?aB ?aS ?aL ?_; (case aP => exact rfl); (case aB => exact (by repeat (first | (with_reducible first | exact HB.out | apply below_alloc | apply pw_below_drewN | apply below_drew1) | exact HB.out))); (case aF => exact (fun k_ hk => Kd.fresh' (Kd.R_lt (by (with_reducible repeat (first | apply Kd.R_alloc | apply Kd.R_drewN | apply Kd.R_drew)); exact HO_8.out)) k_ hk)); (case aO => exact (by (with_reducible repeat (first | apply Kd.R_alloc | apply Kd.R_drewN | apply Kd.R_drew)); exact HO_7.out)); (case aS => exact (below_size (by repeat (first | (with_reducible first | exact HB.out | apply below_alloc | apply pw_below_drewN | apply below_drew1) | exact HB.out)))); (case aL => have := LMc17.out; omega); intro v159 w19 ho hb hg hat; rw [← Ny158.out] at ho; have n0_ := Aside0.mk (Kd.R_after (ok := (fun _ => True)) (by (with_reducible repeat (first | apply Kd.R_alloc | apply Kd.R_drewN | apply Kd.R_drew)); exact Kd.R_mono HO_8.out (fun _ hk => ⟨trivial, hk⟩)) hg hat); have n1_ := Aside0.mk (hb); have n2_ := Aside0.mk (ho); clear HO_8; clear HB; clear HO_7; have HO_8 := n0_; have HB := n1_; have HO160 := n2_; clear n0_ n1_ n2_; clear ho hb hg hat))
                    go_roundg k2
                    case measure => have := HJ3.out; have := HK2.out; omega
                    case rel => exact ⟨(y158), (wrap64 (x9_2 + 1)), (by first | rfl | (simp; done) | (simp [*]; done)), H', ⟨by have := HJ3.out; have := HK2.out; omega⟩, ⟨by (with_reducible repeat (first | apply Kd.R_alloc | apply Kd.R_drewN | apply Kd.R_drew)); exact HO160.out⟩, ⟨by (with_reducible repeat (first | apply Kd.R_alloc | apply Kd.R_drewN | apply Kd.R_drew)); exact Kd.R_mono HO_8.out (fun _ hk => hk.2)⟩, ⟨by repeat (first | (with_reducible first | exact HB.out | apply below_alloc | apply pw_below_drewN | apply below_drew1) | exact HB.out)⟩⟩
                  · rw [if_neg c17] at H
                    exact absurd H (by simp)
                · rw [if_neg c16] at H
                  have c16b0 : decide (a2 ≤ t156) = false := decide_eq_false c16
                  clear c16
                  have H' := Aside0.mk H
                  clear H
                  obtain ⟨Ao20, co20, eo20⟩ := Kd.R_slice HO_8.out
                  subst eo20
                  have p155 : 0 ≤ (x9_2 : Int) := of_decide_eq_true (by first | (with_reducible assumption) | assumption)
                  have q155 : x9_2 < (t152.length : Int) := of_decide_eq_true (by first | (with_reducible assumption) | assumption)
                  obtain ⟨ad155, e155, hx155_0⟩ := Kd.at_string (Kd.R_reads' HO_8.out).2.2 x9_2 p155 q155
                  cases e155
                  replace p155 := eq_true p155
                  replace q155 := eq_true q155
                  go_wp2_with (first | ((with_reducible refine gate_callee (f := 51) rfl ?_); refine goesL_ (some 33) rfl rfl Try.func51 (by kernel_rfl) rfl #[.slice A0 l0.length c0, .string (rdOf ByteArray.empty t152 x9_2)] rfl (by (try simp only [List.map_toArray, List.map_cons, List.map_nil]); first | done | rfl | (simp only [List.length_drop, List.length_take]; rfl)) ?_; (with_reducible refine (spec_l41Many.calls k2 _ _ l0 (rdOf ByteArray.empty t152 x9_2) t156 _ ?side1 ?side2 A15.out).mono ?_); (case side1 => repeat (first | exact (Kd.C_below HR0.out HB.out) | (with_reducible refine Kd.C_alloc ?_ _) | (with_reducible refine Kd.C_drewN ?_ _) | (with_reducible refine Kd.C_drew ?_))); (case side2 => exact HC0.out); rintro e w' ⟨rfl, ⟨nd, rfl⟩⟩; refine ⟨_, rfl, ?_⟩))
                  go_roundg k2
                  case measure => have := HJ3.out; have := HK2.out; omega
                  case rel => exact ⟨(x7_2), (wrap64 (x9_2 + 1)), (by first | rfl | (simp; done) | (simp [*]; done)), H', ⟨by have := HJ3.out; have := HK2.out; omega⟩, ⟨by (with_reducible repeat (first | apply Kd.R_alloc | apply Kd.R_drewN | apply Kd.R_drew)); exact HO_7.out⟩, ⟨by (with_reducible repeat (first | apply Kd.R_alloc | apply Kd.R_drewN | apply Kd.R_drew)); exact HO_8.out⟩, ⟨by repeat (first | (with_reducible first | exact HB.out | apply below_alloc | apply pw_below_drewN | apply below_drew1) | exact HB.out)⟩⟩
              · rw [if_neg c14] at H
                exact absurd H (by simp)
            · rw [if_neg c13] at H
              have c13b0 : decide (x9_2 < (t152.length : Int)) = false := decide_eq_false c13
              clear c13
              obtain rfl := Option.some.inj H
              obtain ⟨Ao21, co21, eo21⟩ := Kd.R_slice HO_8.out
              subst eo21
              go_wp2
              go_ret
              exact ⟨_, by first | rfl | (simp [errW_none, errW_some] <;> rfl) | (simp [*, errW_none, errW_some] <;> rfl), by (with_reducible repeat (first | apply Kd.R_alloc | apply Kd.R_drewN | apply Kd.R_drew)); exact Kd.R_mono HO_7.out (fun _ hk => trivial), by repeat (first | (with_reducible first | exact HB.out | apply below_alloc | apply pw_below_drewN | apply below_drew1) | exact HB.out)⟩

/-! ### laws_FnExactHeavyStep: function 10 -/
theorem laws_toStringS.callsU (k : Nat) (A0 : Option Addr) (c0 : Nat) (l0 : List ByteArray) (r : List ByteArray) (w : World) (hr0 : Kd.C Kd.string w A0 l0.length l0) (hc0 : l0.length ≤ c0) (h : laws_toStringS.f k l0 = some r) :
    Calls Try.prog 20 #[.slice A0 l0.length c0] w fun e w' => ∃ v0_ : Value, e = .returned (v0_) ∧ KdU.R Kd.string 9 w' w.heap.size (fun _ => True) v0_ r ∧ Below w.heap.size w w' := (laws_toStringS.calls k A0 c0 l0 r w hr0 hc0 h).mono (fun e w' ⟨v0_, h1_, h2_, h3_⟩ => ⟨v0_, h1_, KdU.of_R h2_, h3_⟩)
theorem spec_HeavyStep.callsU (k : Nat) (A0 : Option Addr) (c0 : Nat) (l0 : List ByteArray) (A1 : Option Addr) (c1 : Nat) (l1 : List ByteArray) (a2 : Int) (r : List ByteArray) (w : World) (hr0 : Kd.C Kd.string w A0 l0.length l0) (hc0 : l0.length ≤ c0) (hr1 : Kd.C Kd.string w A1 l1.length l1) (hc1 : l1.length ≤ c1) (h : spec_HeavyStep.f k l0 l1 a2 = some r) :
    Calls Try.prog 35 #[.slice A0 l0.length c0, .slice A1 l1.length c1, .int .i64 a2] w fun e w' => ∃ v0_ : Value, e = .returned (v0_) ∧ KdU.R Kd.string 9 w' w.heap.size (fun _ => True) v0_ r ∧ Below w.heap.size w w' := (spec_HeavyStep.calls k A0 c0 l0 A1 c1 l1 a2 r w hr0 hc0 hr1 hc1 h).mono (fun e w' ⟨v0_, h1_, h2_, h3_⟩ => ⟨v0_, h1_, KdU.of_R h2_, h3_⟩)
def laws_FnExactHeavyStep.j0 : Nat → List ByteArray → List ByteArray → Int → List ByteArray → List ByteArray → Bool → Option (Bool)
  | 0, _, _, _, _, _, _ => none
  | k + 1, x0, x1, x2, x8, x11, x67 => if x67 = true then (some false) else ((laws_markStringS.f k x11 1).bind fun bt195 => ((laws_heldStringS.f k bt195.2 1).bind fun t197 => (if t197 < 0 then (some false) else (if t197 = bt195.1 then ((laws_toStringS.f k x0).bind fun t198 => ((laws_toStringS.f k x1).bind fun t201 => ((impl_HeavyStep.f k t198 t201 x2).bind fun t204 => ((laws_eqStringS.f k t204 x8).bind fun t207 => (if t207 = true then ((laws_heldStringS.f k bt195.2 1).bind fun t208 => (if t208 < 0 then (some false) else (if t208 = bt195.1 then (some true) else (some false)))) else (some false)))))) else (some false)))))
def laws_FnExactHeavyStep.f (k : Nat) (l0 : List ByteArray) (l1 : List ByteArray) (a2 : Int) : Option (Bool) := (laws_szStringS.f k l0 1048576).bind fun t161 => (if t161 < 0 then (some true) else ((laws_szStringS.f k l1 t161).bind fun t162 => (if t162 < 0 then (some true) else ((laws_toStringS.f k l0).bind fun t163 => ((laws_toStringS.f k l1).bind fun t166 => ((spec_HeavyStep.f k t163 t166 a2).bind fun t169 => ((laws_toStringS.f k l0).bind fun t172 => ((laws_toStringS.f k l1).bind fun t175 => ((impl_HeavyStep.f k t172 t175 a2).bind fun t178 => ((laws_eqStringS.f k t178 t169).bind fun t181 => (if t181 = true then ((laws_toStringS.f k l0).bind fun t182 => ((laws_eqStringS.f k t172 t182).bind fun t185 => (if t185 = true then ((laws_toStringS.f k l1).bind fun t186 => ((laws_eqStringS.f k t175 t186).bind fun t189 => (if t189 = true then ((laws_markStringS.f k t172 1).bind fun bt190 => ((laws_markStringS.f k t175 bt190.1).bind fun bt192 => (if bt192.1 < 0 then (laws_FnExactHeavyStep.j0 k l0 l1 a2 t169 t178 true) else ((laws_eqStringS.f k t178 t169).bind fun t194 => (laws_FnExactHeavyStep.j0 k l0 l1 a2 t169 t178 (!t194)))))) else (some false)))) else (some false)))) else (some false))))))))))))
theorem laws_FnExactHeavyStep.mono_l : ∀ k, (∀ y0 y1 y2 y3 y4 y5, LeO (laws_FnExactHeavyStep.j0 k y0 y1 y2 y3 y4 y5) (laws_FnExactHeavyStep.j0 (k + 1) y0 y1 y2 y3 y4 y5))
  | 0 => fun _ _ _ _ _ _ r h => by simp [laws_FnExactHeavyStep.j0] at h
  | k + 1 => by
    have ih0 := laws_FnExactHeavyStep.mono_l k
    · intro y0 y1 y2 y3 y4 y5
      unfold laws_FnExactHeavyStep.j0
      repeat' first
      | (with_reducible exact ih0 _ _ _ _ _ _)
      | (with_reducible exact impl_HeavyStep.mono _ _ _ _)
      | (with_reducible exact laws_eqStringS.mono _ _ _)
      | (with_reducible exact laws_heldStringS.mono _ _ _)
      | (with_reducible exact laws_markStringS.mono _ _ _)
      | (with_reducible exact laws_szStringS.mono _ _ _)
      | (with_reducible exact laws_toStringS.mono _ _)
      | (with_reducible exact spec_HeavyStep.mono _ _ _ _)
      | (with_reducible exact LeO.refl _)
      | (with_reducible exact LeO.none _)
      | (with_reducible refine LeO.ite ?_ ?_)
      | (with_reducible refine LeO.bind ?_ (fun _ => ?_))
      | exact ih0 _ _ _ _ _ _
      | exact impl_HeavyStep.mono _ _ _ _
      | exact laws_eqStringS.mono _ _ _
      | exact laws_heldStringS.mono _ _ _
      | exact laws_markStringS.mono _ _ _
      | exact laws_szStringS.mono _ _ _
      | exact laws_toStringS.mono _ _
      | exact spec_HeavyStep.mono _ _ _ _
      | exact LeO.none _
      | refine LeO.ite ?_ ?_
      | refine LeO.bind ?_ (fun _ => ?_)
theorem laws_FnExactHeavyStep.mono : ∀ a0 a1 a2 k, LeO (laws_FnExactHeavyStep.f k a0 a1 a2) (laws_FnExactHeavyStep.f (k + 1) a0 a1 a2) := by
  intro a0 a1 a2 k
  have ih0 := laws_FnExactHeavyStep.mono_l k
  unfold laws_FnExactHeavyStep.f
  repeat' first
      | (with_reducible exact ih0 _ _ _ _ _ _)
      | (with_reducible exact impl_HeavyStep.mono _ _ _ _)
      | (with_reducible exact laws_eqStringS.mono _ _ _)
      | (with_reducible exact laws_heldStringS.mono _ _ _)
      | (with_reducible exact laws_markStringS.mono _ _ _)
      | (with_reducible exact laws_szStringS.mono _ _ _)
      | (with_reducible exact laws_toStringS.mono _ _)
      | (with_reducible exact spec_HeavyStep.mono _ _ _ _)
      | (with_reducible exact LeO.refl _)
      | (with_reducible exact LeO.none _)
      | (with_reducible refine LeO.ite ?_ ?_)
      | (with_reducible refine LeO.bind ?_ (fun _ => ?_))
      | exact ih0 _ _ _ _ _ _
      | exact impl_HeavyStep.mono _ _ _ _
      | exact laws_eqStringS.mono _ _ _
      | exact laws_heldStringS.mono _ _ _
      | exact laws_markStringS.mono _ _ _
      | exact laws_szStringS.mono _ _ _
      | exact laws_toStringS.mono _ _
      | exact spec_HeavyStep.mono _ _ _ _
      | exact LeO.none _
      | refine LeO.ite ?_ ?_
      | refine LeO.bind ?_ (fun _ => ?_)
set_option maxHeartbeats 8000000 in
set_option maxRecDepth 100000 in
theorem laws_FnExactHeavyStep.calls (k : Nat) (A0 : Option Addr) (c0 : Nat) (l0 : List ByteArray) (A1 : Option Addr) (c1 : Nat) (l1 : List ByteArray) (a2 : Int) (r : Bool) (w : World) (hr0 : Kd.C Kd.string w A0 l0.length l0) (hc0 : l0.length ≤ c0) (hr1 : Kd.C Kd.string w A1 l1.length l1) (hc1 : l1.length ≤ c1) (h : laws_FnExactHeavyStep.f k l0 l1 a2 = some r) (hrt : r = true) :
    Calls Try.prog 10 #[.slice A0 l0.length c0, .slice A1 l1.length c1, .int .i64 a2] w fun e w' => e = .returned (.bool r) ∧ Below w.heap.size w w' := by
  have HRT := Aside0.mk hrt
  clear hrt
  have HR0 := Aside0.mk hr0
  have HC0 := Aside0.mk hc0
  clear hr0 hc0
  have HR1 := Aside0.mk hr1
  have HC1 := Aside0.mk hc1
  clear hr1 hc1
  have HB := Aside0.mk (Below.refl w.heap.size w)
  have H : ((laws_szStringS.f k l0 1048576).bind fun t161 => (if t161 < 0 then (some true) else ((laws_szStringS.f k l1 t161).bind fun t162 => (if t162 < 0 then (some true) else ((laws_toStringS.f k l0).bind fun t163 => ((laws_toStringS.f k l1).bind fun t166 => ((spec_HeavyStep.f k t163 t166 a2).bind fun t169 => ((laws_toStringS.f k l0).bind fun t172 => ((laws_toStringS.f k l1).bind fun t175 => ((impl_HeavyStep.f k t172 t175 a2).bind fun t178 => ((laws_eqStringS.f k t178 t169).bind fun t181 => (if t181 = true then ((laws_toStringS.f k l0).bind fun t182 => ((laws_eqStringS.f k t172 t182).bind fun t185 => (if t185 = true then ((laws_toStringS.f k l1).bind fun t186 => ((laws_eqStringS.f k t175 t186).bind fun t189 => (if t189 = true then ((laws_markStringS.f k t172 1).bind fun bt190 => ((laws_markStringS.f k t175 bt190.1).bind fun bt192 => (if bt192.1 < 0 then (laws_FnExactHeavyStep.j0 k l0 l1 a2 t169 t178 true) else ((laws_eqStringS.f k t178 t169).bind fun t194 => (laws_FnExactHeavyStep.j0 k l0 l1 a2 t169 t178 (!t194)))))) else (some false)))) else (some false)))) else (some false))))))))))))) = some r := h
  clear h
  replace H := Option.bind_eq_some_iff.mp H
  obtain ⟨t161, A40, H⟩ := H
  replace H : (if t161 < 0 then (some true) else ((laws_szStringS.f k l1 t161).bind fun t162 => (if t162 < 0 then (some true) else ((laws_toStringS.f k l0).bind fun t163 => ((laws_toStringS.f k l1).bind fun t166 => ((spec_HeavyStep.f k t163 t166 a2).bind fun t169 => ((laws_toStringS.f k l0).bind fun t172 => ((laws_toStringS.f k l1).bind fun t175 => ((impl_HeavyStep.f k t172 t175 a2).bind fun t178 => ((laws_eqStringS.f k t178 t169).bind fun t181 => (if t181 = true then ((laws_toStringS.f k l0).bind fun t182 => ((laws_eqStringS.f k t172 t182).bind fun t185 => (if t185 = true then ((laws_toStringS.f k l1).bind fun t186 => ((laws_eqStringS.f k t175 t186).bind fun t189 => (if t189 = true then ((laws_markStringS.f k t172 1).bind fun bt190 => ((laws_markStringS.f k t175 bt190.1).bind fun bt192 => (if bt192.1 < 0 then (laws_FnExactHeavyStep.j0 k l0 l1 a2 t169 t178 true) else ((laws_eqStringS.f k t178 t169).bind fun t194 => (laws_FnExactHeavyStep.j0 k l0 l1 a2 t169 t178 (!t194)))))) else (some false)))) else (some false)))) else (some false)))))))))))) = some r := H
  have A4 := Aside0.mk A40
  clear A40
  by_cases c5 : t161 < 0
  · rw [if_pos c5] at H
    have c5b0 : decide (t161 < 0) = true := decide_eq_true c5
    clear c5
    obtain rfl := Option.some.inj H
    go_enter Try.func10, Try.ntmps10
    go_wp2_with (first | ((with_reducible refine gate_callee (f := 18) rfl ?_); refine goesL_ (some 18) rfl rfl Try.func18 (by kernel_rfl) rfl #[.slice A0 l0.length c0, .int .i64 1048576] rfl (by (try simp only [List.map_toArray, List.map_cons, List.map_nil]); first | done | rfl | (simp only [List.length_drop, List.length_take]; rfl)) ?_; (with_reducible refine (laws_szStringS.calls k _ _ l0 1048576 t161 _ ?side1 ?side2 A4.out).mono ?_); (case side1 => repeat (first | exact HR0.out | (with_reducible refine Kd.C_alloc ?_ _) | (with_reducible refine Kd.C_drewN ?_ _) | (with_reducible refine Kd.C_drew ?_))); (case side2 => exact HC0.out); rintro e w' ⟨rfl, ⟨nd, rfl⟩⟩; refine ⟨_, rfl, ?_⟩))
    go_ret
    exact ⟨by first | rfl | (simp [errW_none, errW_some] <;> rfl) | (simp [*, errW_none, errW_some] <;> rfl), by repeat (first | (with_reducible first | exact HB.out | apply below_alloc | apply pw_below_drewN | apply below_drew1) | exact HB.out)⟩
  · rw [if_neg c5] at H
    have c5b0 : decide (t161 < 0) = false := decide_eq_false c5
    clear c5
    replace H := Option.bind_eq_some_iff.mp H
    obtain ⟨t162, A60, H⟩ := H
    replace H : (if t162 < 0 then (some true) else ((laws_toStringS.f k l0).bind fun t163 => ((laws_toStringS.f k l1).bind fun t166 => ((spec_HeavyStep.f k t163 t166 a2).bind fun t169 => ((laws_toStringS.f k l0).bind fun t172 => ((laws_toStringS.f k l1).bind fun t175 => ((impl_HeavyStep.f k t172 t175 a2).bind fun t178 => ((laws_eqStringS.f k t178 t169).bind fun t181 => (if t181 = true then ((laws_toStringS.f k l0).bind fun t182 => ((laws_eqStringS.f k t172 t182).bind fun t185 => (if t185 = true then ((laws_toStringS.f k l1).bind fun t186 => ((laws_eqStringS.f k t175 t186).bind fun t189 => (if t189 = true then ((laws_markStringS.f k t172 1).bind fun bt190 => ((laws_markStringS.f k t175 bt190.1).bind fun bt192 => (if bt192.1 < 0 then (laws_FnExactHeavyStep.j0 k l0 l1 a2 t169 t178 true) else ((laws_eqStringS.f k t178 t169).bind fun t194 => (laws_FnExactHeavyStep.j0 k l0 l1 a2 t169 t178 (!t194)))))) else (some false)))) else (some false)))) else (some false)))))))))) = some r := H
    have A6 := Aside0.mk A60
    clear A60
    by_cases c7 : t162 < 0
    · rw [if_pos c7] at H
      have c7b0 : decide (t162 < 0) = true := decide_eq_true c7
      clear c7
      obtain rfl := Option.some.inj H
      go_enter Try.func10, Try.ntmps10
      go_wp2_with (first | ((with_reducible refine gate_callee (f := 18) rfl ?_); refine goesL_ (some 18) rfl rfl Try.func18 (by kernel_rfl) rfl #[.slice A0 l0.length c0, .int .i64 1048576] rfl (by (try simp only [List.map_toArray, List.map_cons, List.map_nil]); first | done | rfl | (simp only [List.length_drop, List.length_take]; rfl)) ?_; (with_reducible refine (laws_szStringS.calls k _ _ l0 1048576 t161 _ ?side1 ?side2 A4.out).mono ?_); (case side1 => repeat (first | exact HR0.out | (with_reducible refine Kd.C_alloc ?_ _) | (with_reducible refine Kd.C_drewN ?_ _) | (with_reducible refine Kd.C_drew ?_))); (case side2 => exact HC0.out); rintro e w' ⟨rfl, ⟨nd, rfl⟩⟩; refine ⟨_, rfl, ?_⟩) | ((with_reducible refine gate_callee (f := 18) rfl ?_); refine goesL_ (some 23) rfl rfl Try.func18 (by kernel_rfl) rfl #[.slice A1 l1.length c1, .int .i64 t161] rfl (by (try simp only [List.map_toArray, List.map_cons, List.map_nil]); first | done | rfl | (simp only [List.length_drop, List.length_take]; rfl)) ?_; (with_reducible refine (laws_szStringS.calls k _ _ l1 t161 t162 _ ?side1 ?side2 A6.out).mono ?_); (case side1 => repeat (first | exact HR1.out | (with_reducible refine Kd.C_alloc ?_ _) | (with_reducible refine Kd.C_drewN ?_ _) | (with_reducible refine Kd.C_drew ?_))); (case side2 => exact HC1.out); rintro e w' ⟨rfl, ⟨nd, rfl⟩⟩; refine ⟨_, rfl, ?_⟩))
      go_ret
      exact ⟨by first | rfl | (simp [errW_none, errW_some] <;> rfl) | (simp [*, errW_none, errW_some] <;> rfl), by repeat (first | (with_reducible first | exact HB.out | apply below_alloc | apply pw_below_drewN | apply below_drew1) | exact HB.out)⟩
    · rw [if_neg c7] at H
      have c7b0 : decide (t162 < 0) = false := decide_eq_false c7
      clear c7
      replace H := Option.bind_eq_some_iff.mp H
      obtain ⟨t163, A80, H⟩ := H
      replace H : ((laws_toStringS.f k l1).bind fun t166 => ((spec_HeavyStep.f k t163 t166 a2).bind fun t169 => ((laws_toStringS.f k l0).bind fun t172 => ((laws_toStringS.f k l1).bind fun t175 => ((impl_HeavyStep.f k t172 t175 a2).bind fun t178 => ((laws_eqStringS.f k t178 t169).bind fun t181 => (if t181 = true then ((laws_toStringS.f k l0).bind fun t182 => ((laws_eqStringS.f k t172 t182).bind fun t185 => (if t185 = true then ((laws_toStringS.f k l1).bind fun t186 => ((laws_eqStringS.f k t175 t186).bind fun t189 => (if t189 = true then ((laws_markStringS.f k t172 1).bind fun bt190 => ((laws_markStringS.f k t175 bt190.1).bind fun bt192 => (if bt192.1 < 0 then (laws_FnExactHeavyStep.j0 k l0 l1 a2 t169 t178 true) else ((laws_eqStringS.f k t178 t169).bind fun t194 => (laws_FnExactHeavyStep.j0 k l0 l1 a2 t169 t178 (!t194)))))) else (some false)))) else (some false)))) else (some false)))))))) = some r := H
      have A8 := Aside0.mk A80
      clear A80
      replace H := Option.bind_eq_some_iff.mp H
      obtain ⟨t166, A90, H⟩ := H
      replace H : ((spec_HeavyStep.f k t163 t166 a2).bind fun t169 => ((laws_toStringS.f k l0).bind fun t172 => ((laws_toStringS.f k l1).bind fun t175 => ((impl_HeavyStep.f k t172 t175 a2).bind fun t178 => ((laws_eqStringS.f k t178 t169).bind fun t181 => (if t181 = true then ((laws_toStringS.f k l0).bind fun t182 => ((laws_eqStringS.f k t172 t182).bind fun t185 => (if t185 = true then ((laws_toStringS.f k l1).bind fun t186 => ((laws_eqStringS.f k t175 t186).bind fun t189 => (if t189 = true then ((laws_markStringS.f k t172 1).bind fun bt190 => ((laws_markStringS.f k t175 bt190.1).bind fun bt192 => (if bt192.1 < 0 then (laws_FnExactHeavyStep.j0 k l0 l1 a2 t169 t178 true) else ((laws_eqStringS.f k t178 t169).bind fun t194 => (laws_FnExactHeavyStep.j0 k l0 l1 a2 t169 t178 (!t194)))))) else (some false)))) else (some false)))) else (some false))))))) = some r := H
      have A9 := Aside0.mk A90
      clear A90
      replace H := Option.bind_eq_some_iff.mp H
      obtain ⟨t169, A100, H⟩ := H
      replace H : ((laws_toStringS.f k l0).bind fun t172 => ((laws_toStringS.f k l1).bind fun t175 => ((impl_HeavyStep.f k t172 t175 a2).bind fun t178 => ((laws_eqStringS.f k t178 t169).bind fun t181 => (if t181 = true then ((laws_toStringS.f k l0).bind fun t182 => ((laws_eqStringS.f k t172 t182).bind fun t185 => (if t185 = true then ((laws_toStringS.f k l1).bind fun t186 => ((laws_eqStringS.f k t175 t186).bind fun t189 => (if t189 = true then ((laws_markStringS.f k t172 1).bind fun bt190 => ((laws_markStringS.f k t175 bt190.1).bind fun bt192 => (if bt192.1 < 0 then (laws_FnExactHeavyStep.j0 k l0 l1 a2 t169 t178 true) else ((laws_eqStringS.f k t178 t169).bind fun t194 => (laws_FnExactHeavyStep.j0 k l0 l1 a2 t169 t178 (!t194)))))) else (some false)))) else (some false)))) else (some false)))))) = some r := H
      have A10 := Aside0.mk A100
      clear A100
      replace H := Option.bind_eq_some_iff.mp H
      obtain ⟨t172, A110, H⟩ := H
      replace H : ((laws_toStringS.f k l1).bind fun t175 => ((impl_HeavyStep.f k t172 t175 a2).bind fun t178 => ((laws_eqStringS.f k t178 t169).bind fun t181 => (if t181 = true then ((laws_toStringS.f k l0).bind fun t182 => ((laws_eqStringS.f k t172 t182).bind fun t185 => (if t185 = true then ((laws_toStringS.f k l1).bind fun t186 => ((laws_eqStringS.f k t175 t186).bind fun t189 => (if t189 = true then ((laws_markStringS.f k t172 1).bind fun bt190 => ((laws_markStringS.f k t175 bt190.1).bind fun bt192 => (if bt192.1 < 0 then (laws_FnExactHeavyStep.j0 k l0 l1 a2 t169 t178 true) else ((laws_eqStringS.f k t178 t169).bind fun t194 => (laws_FnExactHeavyStep.j0 k l0 l1 a2 t169 t178 (!t194)))))) else (some false)))) else (some false)))) else (some false))))) = some r := H
      have A11 := Aside0.mk A110
      clear A110
      replace H := Option.bind_eq_some_iff.mp H
      obtain ⟨t175, A120, H⟩ := H
      replace H : ((impl_HeavyStep.f k t172 t175 a2).bind fun t178 => ((laws_eqStringS.f k t178 t169).bind fun t181 => (if t181 = true then ((laws_toStringS.f k l0).bind fun t182 => ((laws_eqStringS.f k t172 t182).bind fun t185 => (if t185 = true then ((laws_toStringS.f k l1).bind fun t186 => ((laws_eqStringS.f k t175 t186).bind fun t189 => (if t189 = true then ((laws_markStringS.f k t172 1).bind fun bt190 => ((laws_markStringS.f k t175 bt190.1).bind fun bt192 => (if bt192.1 < 0 then (laws_FnExactHeavyStep.j0 k l0 l1 a2 t169 t178 true) else ((laws_eqStringS.f k t178 t169).bind fun t194 => (laws_FnExactHeavyStep.j0 k l0 l1 a2 t169 t178 (!t194)))))) else (some false)))) else (some false)))) else (some false)))) = some r := H
      have A12 := Aside0.mk A120
      clear A120
      replace H := Option.bind_eq_some_iff.mp H
      obtain ⟨t178, A130, H⟩ := H
      replace H : ((laws_eqStringS.f k t178 t169).bind fun t181 => (if t181 = true then ((laws_toStringS.f k l0).bind fun t182 => ((laws_eqStringS.f k t172 t182).bind fun t185 => (if t185 = true then ((laws_toStringS.f k l1).bind fun t186 => ((laws_eqStringS.f k t175 t186).bind fun t189 => (if t189 = true then ((laws_markStringS.f k t172 1).bind fun bt190 => ((laws_markStringS.f k t175 bt190.1).bind fun bt192 => (if bt192.1 < 0 then (laws_FnExactHeavyStep.j0 k l0 l1 a2 t169 t178 true) else ((laws_eqStringS.f k t178 t169).bind fun t194 => (laws_FnExactHeavyStep.j0 k l0 l1 a2 t169 t178 (!t194)))))) else (some false)))) else (some false)))) else (some false))) = some r := H
      have A13 := Aside0.mk A130
      clear A130
      replace H := Option.bind_eq_some_iff.mp H
      obtain ⟨t181, A140, H⟩ := H
      replace H : (if t181 = true then ((laws_toStringS.f k l0).bind fun t182 => ((laws_eqStringS.f k t172 t182).bind fun t185 => (if t185 = true then ((laws_toStringS.f k l1).bind fun t186 => ((laws_eqStringS.f k t175 t186).bind fun t189 => (if t189 = true then ((laws_markStringS.f k t172 1).bind fun bt190 => ((laws_markStringS.f k t175 bt190.1).bind fun bt192 => (if bt192.1 < 0 then (laws_FnExactHeavyStep.j0 k l0 l1 a2 t169 t178 true) else ((laws_eqStringS.f k t178 t169).bind fun t194 => (laws_FnExactHeavyStep.j0 k l0 l1 a2 t169 t178 (!t194)))))) else (some false)))) else (some false)))) else (some false)) = some r := H
      have A14 := Aside0.mk A140
      clear A140
      by_cases c15 : t181 = true
      · subst c15
        have H1 : ((laws_toStringS.f k l0).bind fun t182 => ((laws_eqStringS.f k t172 t182).bind fun t185 => (if t185 = true then ((laws_toStringS.f k l1).bind fun t186 => ((laws_eqStringS.f k t175 t186).bind fun t189 => (if t189 = true then ((laws_markStringS.f k t172 1).bind fun bt190 => ((laws_markStringS.f k t175 bt190.1).bind fun bt192 => (if bt192.1 < 0 then (laws_FnExactHeavyStep.j0 k l0 l1 a2 t169 t178 true) else ((laws_eqStringS.f k t178 t169).bind fun t194 => (laws_FnExactHeavyStep.j0 k l0 l1 a2 t169 t178 (!t194)))))) else (some false)))) else (some false)))) = some r := by rw [if_pos rfl] at H; exact H
        clear H
        have H := H1
        clear H1
        replace H := Option.bind_eq_some_iff.mp H
        obtain ⟨t182, A160, H⟩ := H
        replace H : ((laws_eqStringS.f k t172 t182).bind fun t185 => (if t185 = true then ((laws_toStringS.f k l1).bind fun t186 => ((laws_eqStringS.f k t175 t186).bind fun t189 => (if t189 = true then ((laws_markStringS.f k t172 1).bind fun bt190 => ((laws_markStringS.f k t175 bt190.1).bind fun bt192 => (if bt192.1 < 0 then (laws_FnExactHeavyStep.j0 k l0 l1 a2 t169 t178 true) else ((laws_eqStringS.f k t178 t169).bind fun t194 => (laws_FnExactHeavyStep.j0 k l0 l1 a2 t169 t178 (!t194)))))) else (some false)))) else (some false))) = some r := H
        have A16 := Aside0.mk A160
        clear A160
        replace H := Option.bind_eq_some_iff.mp H
        obtain ⟨t185, A170, H⟩ := H
        replace H : (if t185 = true then ((laws_toStringS.f k l1).bind fun t186 => ((laws_eqStringS.f k t175 t186).bind fun t189 => (if t189 = true then ((laws_markStringS.f k t172 1).bind fun bt190 => ((laws_markStringS.f k t175 bt190.1).bind fun bt192 => (if bt192.1 < 0 then (laws_FnExactHeavyStep.j0 k l0 l1 a2 t169 t178 true) else ((laws_eqStringS.f k t178 t169).bind fun t194 => (laws_FnExactHeavyStep.j0 k l0 l1 a2 t169 t178 (!t194)))))) else (some false)))) else (some false)) = some r := H
        have A17 := Aside0.mk A170
        clear A170
        by_cases c18 : t185 = true
        · subst c18
          have H1 : ((laws_toStringS.f k l1).bind fun t186 => ((laws_eqStringS.f k t175 t186).bind fun t189 => (if t189 = true then ((laws_markStringS.f k t172 1).bind fun bt190 => ((laws_markStringS.f k t175 bt190.1).bind fun bt192 => (if bt192.1 < 0 then (laws_FnExactHeavyStep.j0 k l0 l1 a2 t169 t178 true) else ((laws_eqStringS.f k t178 t169).bind fun t194 => (laws_FnExactHeavyStep.j0 k l0 l1 a2 t169 t178 (!t194)))))) else (some false)))) = some r := by rw [if_pos rfl] at H; exact H
          clear H
          have H := H1
          clear H1
          replace H := Option.bind_eq_some_iff.mp H
          obtain ⟨t186, A190, H⟩ := H
          replace H : ((laws_eqStringS.f k t175 t186).bind fun t189 => (if t189 = true then ((laws_markStringS.f k t172 1).bind fun bt190 => ((laws_markStringS.f k t175 bt190.1).bind fun bt192 => (if bt192.1 < 0 then (laws_FnExactHeavyStep.j0 k l0 l1 a2 t169 t178 true) else ((laws_eqStringS.f k t178 t169).bind fun t194 => (laws_FnExactHeavyStep.j0 k l0 l1 a2 t169 t178 (!t194)))))) else (some false))) = some r := H
          have A19 := Aside0.mk A190
          clear A190
          replace H := Option.bind_eq_some_iff.mp H
          obtain ⟨t189, A200, H⟩ := H
          replace H : (if t189 = true then ((laws_markStringS.f k t172 1).bind fun bt190 => ((laws_markStringS.f k t175 bt190.1).bind fun bt192 => (if bt192.1 < 0 then (laws_FnExactHeavyStep.j0 k l0 l1 a2 t169 t178 true) else ((laws_eqStringS.f k t178 t169).bind fun t194 => (laws_FnExactHeavyStep.j0 k l0 l1 a2 t169 t178 (!t194)))))) else (some false)) = some r := H
          have A20 := Aside0.mk A200
          clear A200
          by_cases c21 : t189 = true
          · subst c21
            have H1 : ((laws_markStringS.f k t172 1).bind fun bt190 => ((laws_markStringS.f k t175 bt190.1).bind fun bt192 => (if bt192.1 < 0 then (laws_FnExactHeavyStep.j0 k l0 l1 a2 t169 t178 true) else ((laws_eqStringS.f k t178 t169).bind fun t194 => (laws_FnExactHeavyStep.j0 k l0 l1 a2 t169 t178 (!t194)))))) = some r := by rw [if_pos rfl] at H; exact H
            clear H
            have H := H1
            clear H1
            replace H := Option.bind_eq_some_iff.mp H
            obtain ⟨⟨t190, t191⟩, A220, H⟩ := H
            replace H : ((laws_markStringS.f k t175 t190).bind fun bt192 => (if bt192.1 < 0 then (laws_FnExactHeavyStep.j0 k l0 l1 a2 t169 t178 true) else ((laws_eqStringS.f k t178 t169).bind fun t194 => (laws_FnExactHeavyStep.j0 k l0 l1 a2 t169 t178 (!t194))))) = some r := H
            have A22 := Aside0.mk A220
            clear A220
            replace H := Option.bind_eq_some_iff.mp H
            obtain ⟨⟨t192, t193⟩, A230, H⟩ := H
            replace H : (if t192 < 0 then (laws_FnExactHeavyStep.j0 k l0 l1 a2 t169 t178 true) else ((laws_eqStringS.f k t178 t169).bind fun t194 => (laws_FnExactHeavyStep.j0 k l0 l1 a2 t169 t178 (!t194)))) = some r := H
            have A23 := Aside0.mk A230
            clear A230
            have HC24 := Aside0.mk H
            clear H
            go_enter Try.func10, Try.ntmps10
            go_upto_region 21 with (first | ((with_reducible refine gate_callee (f := 18) rfl ?_); refine goesL_ (some 18) rfl rfl Try.func18 (by kernel_rfl) rfl #[.slice A0 l0.length c0, .int .i64 1048576] rfl (by (try simp only [List.map_toArray, List.map_cons, List.map_nil]); first | done | rfl | (simp only [List.length_drop, List.length_take]; rfl)) ?_; (with_reducible refine (laws_szStringS.calls k _ _ l0 1048576 t161 _ ?side1 ?side2 A4.out).mono ?_); (case side1 => repeat (first | exact HR0.out | (with_reducible refine Kd.C_alloc ?_ _) | (with_reducible refine Kd.C_drewN ?_ _) | (with_reducible refine Kd.C_drew ?_))); (case side2 => exact HC0.out); rintro e w' ⟨rfl, ⟨nd, rfl⟩⟩; refine ⟨_, rfl, ?_⟩) | ((with_reducible refine gate_callee (f := 18) rfl ?_); refine goesL_ (some 23) rfl rfl Try.func18 (by kernel_rfl) rfl #[.slice A1 l1.length c1, .int .i64 t161] rfl (by (try simp only [List.map_toArray, List.map_cons, List.map_nil]); first | done | rfl | (simp only [List.length_drop, List.length_take]; rfl)) ?_; (with_reducible refine (laws_szStringS.calls k _ _ l1 t161 t162 _ ?side1 ?side2 A6.out).mono ?_); (case side1 => repeat (first | exact HR1.out | (with_reducible refine Kd.C_alloc ?_ _) | (with_reducible refine Kd.C_drewN ?_ _) | (with_reducible refine Kd.C_drew ?_))); (case side2 => exact HC1.out); rintro e w' ⟨rfl, ⟨nd, rfl⟩⟩; refine ⟨_, rfl, ?_⟩) | ((with_reducible refine gate_callee (f := 20) rfl ?_); refine goesL_ (some 27) rfl rfl Try.func20 (by kernel_rfl) rfl #[.slice A0 l0.length c0] rfl (by (try simp only [List.map_toArray, List.map_cons, List.map_nil]); first | done | rfl | (simp only [List.length_drop, List.length_take]; rfl)) ?_; (with_reducible refine (laws_toStringS.callsU k _ _ l0 t163 _ ?side1 ?side2 A8.out).mono ?_); (case side1 => repeat (first | exact HR0.out | (with_reducible refine Kd.C_alloc ?_ _) | (with_reducible refine Kd.C_drewN ?_ _) | (with_reducible refine Kd.C_drew ?_))); (case side2 => exact HC0.out); rintro e w25 ⟨v164, rfl, ho0, hb⟩; refine ⟨_, rfl, ?_⟩; have n0_ := Aside0.mk (KdU.R_lower ho0 (below_size (by repeat (first | (with_reducible first | exact HB.out | apply below_alloc | apply pw_below_drewN | apply below_drew1) | exact HB.out)))); have n1_ := Aside0.mk (below_step (by repeat (first | (with_reducible first | exact HB.out | apply below_alloc | apply pw_below_drewN | apply below_drew1) | exact HB.out)) hb); clear HB; have HO165 := n0_; have HB := n1_; clear n0_ n1_; (try clear hb); (try clear hb2); (try clear hk); (try clear hi); (try clear ho0)) | ((with_reducible refine gate_callee (f := 20) rfl ?_); refine goesL_ (some 29) rfl rfl Try.func20 (by kernel_rfl) rfl #[.slice A1 l1.length c1] rfl (by (try simp only [List.map_toArray, List.map_cons, List.map_nil]); first | done | rfl | (simp only [List.length_drop, List.length_take]; rfl)) ?_; (with_reducible refine (laws_toStringS.callsU k _ _ l1 t166 _ ?side1 ?side2 A9.out).mono ?_); (case side1 => repeat (first | exact (Kd.C_below HR1.out HB.out) | (with_reducible refine Kd.C_alloc ?_ _) | (with_reducible refine Kd.C_drewN ?_ _) | (with_reducible refine Kd.C_drew ?_))); (case side2 => exact HC1.out); rintro e w26 ⟨v167, rfl, ho0, hb⟩; refine ⟨_, rfl, ?_⟩; have n0_ := Aside0.mk (KdU.R_elder' (by (with_reducible repeat (first | apply KdU.R_alloc | apply KdU.R_drewN | apply KdU.R_drew)); exact HO165.out) (KdU.R_base ho0) hb); have n1_ := Aside0.mk (KdU.R_lower (KdU.R_new' ho0 (KdU.R_lt (by (with_reducible repeat (first | apply KdU.R_alloc | apply KdU.R_drewN | apply KdU.R_drew)); exact HO165.out))) (below_size (by repeat (first | (with_reducible first | exact HB.out | apply below_alloc | apply pw_below_drewN | apply below_drew1) | exact HB.out)))); have n2_ := Aside0.mk (below_step (by repeat (first | (with_reducible first | exact HB.out | apply below_alloc | apply pw_below_drewN | apply below_drew1) | exact HB.out)) hb); clear HO165; clear HB; have HO165 := n0_; have HO168 := n1_; have HB := n2_; clear n0_ n1_ n2_; (try clear hb); (try clear hb2); (try clear hk); (try clear hi); (try clear ho0); obtain ⟨Ao27, co27, eo27⟩ := KdU.R_slice HO165.out; subst eo27; obtain ⟨Ao28, co28, eo28⟩ := KdU.R_slice HO168.out; subst eo28) | ((with_reducible refine gate_callee (f := 35) rfl ?_); refine goesL_ (some 31) rfl rfl Try.func35 (by kernel_rfl) rfl #[.slice Ao27 t163.length co27, .slice Ao28 t166.length co28, .int .i64 a2] rfl (by (try simp only [List.map_toArray, List.map_cons, List.map_nil]); first | done | rfl | (simp only [List.length_drop, List.length_take]; rfl)) ?_; (with_reducible refine (spec_HeavyStep.callsU k _ _ t163 _ _ t166 a2 t169 _ ?side1 ?side2 ?side3 ?side4 A10.out).mono ?_); (case side1 => repeat (first | exact (KdU.R_reads' HO165.out).2.2 | (with_reducible refine Kd.C_alloc ?_ _) | (with_reducible refine Kd.C_drewN ?_ _) | (with_reducible refine Kd.C_drew ?_))); (case side2 => exact (KdU.R_reads' HO165.out).2.1); (case side3 => repeat (first | exact (KdU.R_reads' HO168.out).2.2 | (with_reducible refine Kd.C_alloc ?_ _) | (with_reducible refine Kd.C_drewN ?_ _) | (with_reducible refine Kd.C_drew ?_))); (case side4 => exact (KdU.R_reads' HO168.out).2.1); rintro e w29 ⟨v170, rfl, ho0, hb⟩; refine ⟨_, rfl, ?_⟩; have n0_ := Aside0.mk (KdU.R_elder' (by (with_reducible repeat (first | apply KdU.R_alloc | apply KdU.R_drewN | apply KdU.R_drew)); exact HO165.out) (KdU.R_base ho0) hb); have n1_ := Aside0.mk (KdU.R_elder' (by (with_reducible repeat (first | apply KdU.R_alloc | apply KdU.R_drewN | apply KdU.R_drew)); exact HO168.out) (KdU.R_base ho0) hb); have n2_ := Aside0.mk (KdU.R_lower (KdU.R_new' (KdU.R_new' ho0 (KdU.R_lt (by (with_reducible repeat (first | apply KdU.R_alloc | apply KdU.R_drewN | apply KdU.R_drew)); exact HO165.out))) (KdU.R_lt (by (with_reducible repeat (first | apply KdU.R_alloc | apply KdU.R_drewN | apply KdU.R_drew)); exact HO168.out))) (below_size (by repeat (first | (with_reducible first | exact HB.out | apply below_alloc | apply pw_below_drewN | apply below_drew1) | exact HB.out)))); have n3_ := Aside0.mk (below_step (by repeat (first | (with_reducible first | exact HB.out | apply below_alloc | apply pw_below_drewN | apply below_drew1) | exact HB.out)) hb); clear HO165; clear HO168; clear HB; have HO165 := n0_; have HO168 := n1_; have HO171 := n2_; have HB := n3_; clear n0_ n1_ n2_ n3_; (try clear hb); (try clear hb2); (try clear hk); (try clear hi); (try clear ho0)) | ((with_reducible refine gate_callee (f := 20) rfl ?_); refine goesL_ (some 33) rfl rfl Try.func20 (by kernel_rfl) rfl #[.slice A0 l0.length c0] rfl (by (try simp only [List.map_toArray, List.map_cons, List.map_nil]); first | done | rfl | (simp only [List.length_drop, List.length_take]; rfl)) ?_; (with_reducible refine (laws_toStringS.callsU k _ _ l0 t172 _ ?side1 ?side2 A11.out).mono ?_); (case side1 => repeat (first | exact (Kd.C_below HR0.out HB.out) | (with_reducible refine Kd.C_alloc ?_ _) | (with_reducible refine Kd.C_drewN ?_ _) | (with_reducible refine Kd.C_drew ?_))); (case side2 => exact HC0.out); rintro e w30 ⟨v173, rfl, ho0, hb⟩; refine ⟨_, rfl, ?_⟩; have n0_ := Aside0.mk (KdU.R_elder' (by (with_reducible repeat (first | apply KdU.R_alloc | apply KdU.R_drewN | apply KdU.R_drew)); exact HO165.out) (KdU.R_base ho0) hb); have n1_ := Aside0.mk (KdU.R_elder' (by (with_reducible repeat (first | apply KdU.R_alloc | apply KdU.R_drewN | apply KdU.R_drew)); exact HO168.out) (KdU.R_base ho0) hb); have n2_ := Aside0.mk (KdU.R_elder' (by (with_reducible repeat (first | apply KdU.R_alloc | apply KdU.R_drewN | apply KdU.R_drew)); exact HO171.out) (KdU.R_base ho0) hb); have n3_ := Aside0.mk (KdU.R_lower (KdU.R_new' (KdU.R_new' (KdU.R_new' ho0 (KdU.R_lt (by (with_reducible repeat (first | apply KdU.R_alloc | apply KdU.R_drewN | apply KdU.R_drew)); exact HO165.out))) (KdU.R_lt (by (with_reducible repeat (first | apply KdU.R_alloc | apply KdU.R_drewN | apply KdU.R_drew)); exact HO168.out))) (KdU.R_lt (by (with_reducible repeat (first | apply KdU.R_alloc | apply KdU.R_drewN | apply KdU.R_drew)); exact HO171.out))) (below_size (by repeat (first | (with_reducible first | exact HB.out | apply below_alloc | apply pw_below_drewN | apply below_drew1) | exact HB.out)))); have n4_ := Aside0.mk (below_step (by repeat (first | (with_reducible first | exact HB.out | apply below_alloc | apply pw_below_drewN | apply below_drew1) | exact HB.out)) hb); clear HO165; clear HO168; clear HO171; clear HB; have HO165 := n0_; have HO168 := n1_; have HO171 := n2_; have HO174 := n3_; have HB := n4_; clear n0_ n1_ n2_ n3_ n4_; (try clear hb); (try clear hb2); (try clear hk); (try clear hi); (try clear ho0)) | ((with_reducible refine gate_callee (f := 20) rfl ?_); refine goesL_ (some 35) rfl rfl Try.func20 (by kernel_rfl) rfl #[.slice A1 l1.length c1] rfl (by (try simp only [List.map_toArray, List.map_cons, List.map_nil]); first | done | rfl | (simp only [List.length_drop, List.length_take]; rfl)) ?_; (with_reducible refine (laws_toStringS.callsU k _ _ l1 t175 _ ?side1 ?side2 A12.out).mono ?_); (case side1 => repeat (first | exact (Kd.C_below HR1.out HB.out) | (with_reducible refine Kd.C_alloc ?_ _) | (with_reducible refine Kd.C_drewN ?_ _) | (with_reducible refine Kd.C_drew ?_))); (case side2 => exact HC1.out); rintro e w31 ⟨v176, rfl, ho0, hb⟩; refine ⟨_, rfl, ?_⟩; have n0_ := Aside0.mk (KdU.R_elder' (by (with_reducible repeat (first | apply KdU.R_alloc | apply KdU.R_drewN | apply KdU.R_drew)); exact HO165.out) (KdU.R_base ho0) hb); have n1_ := Aside0.mk (KdU.R_elder' (by (with_reducible repeat (first | apply KdU.R_alloc | apply KdU.R_drewN | apply KdU.R_drew)); exact HO168.out) (KdU.R_base ho0) hb); have n2_ := Aside0.mk (KdU.R_elder' (by (with_reducible repeat (first | apply KdU.R_alloc | apply KdU.R_drewN | apply KdU.R_drew)); exact HO171.out) (KdU.R_base ho0) hb); have n3_ := Aside0.mk (KdU.R_elder' (by (with_reducible repeat (first | apply KdU.R_alloc | apply KdU.R_drewN | apply KdU.R_drew)); exact HO174.out) (KdU.R_base ho0) hb); have n4_ := Aside0.mk (KdU.R_lower (KdU.R_new' (KdU.R_new' (KdU.R_new' (KdU.R_new' ho0 (KdU.R_lt (by (with_reducible repeat (first | apply KdU.R_alloc | apply KdU.R_drewN | apply KdU.R_drew)); exact HO165.out))) (KdU.R_lt (by (with_reducible repeat (first | apply KdU.R_alloc | apply KdU.R_drewN | apply KdU.R_drew)); exact HO168.out))) (KdU.R_lt (by (with_reducible repeat (first | apply KdU.R_alloc | apply KdU.R_drewN | apply KdU.R_drew)); exact HO171.out))) (KdU.R_lt (by (with_reducible repeat (first | apply KdU.R_alloc | apply KdU.R_drewN | apply KdU.R_drew)); exact HO174.out))) (below_size (by repeat (first | (with_reducible first | exact HB.out | apply below_alloc | apply pw_below_drewN | apply below_drew1) | exact HB.out)))); have n5_ := Aside0.mk (below_step (by repeat (first | (with_reducible first | exact HB.out | apply below_alloc | apply pw_below_drewN | apply below_drew1) | exact HB.out)) hb); clear HO165; clear HO168; clear HO171; clear HO174; clear HB; have HO165 := n0_; have HO168 := n1_; have HO171 := n2_; have HO174 := n3_; have HO177 := n4_; have HB := n5_; clear n0_ n1_ n2_ n3_ n4_ n5_; (try clear hb); (try clear hb2); (try clear hk); (try clear hi); (try clear ho0); obtain ⟨Ao32, co32, eo32⟩ := KdU.R_slice HO174.out; subst eo32; obtain ⟨Ao33, co33, eo33⟩ := KdU.R_slice HO177.out; subst eo33) | ((with_reducible refine gate_callee (f := 34) rfl ?_); refine goesL_ (some 39) rfl rfl Try.func34 (by kernel_rfl) rfl #[.slice Ao32 t172.length co32, .slice Ao33 t175.length co33, .int .i64 a2] rfl (by (try simp only [List.map_toArray, List.map_cons, List.map_nil]); first | done | rfl | (simp only [List.length_drop, List.length_take]; rfl)) ?_; (with_reducible refine (impl_HeavyStep.calls k _ _ t172 _ _ t175 a2 t178 _ ?side1 ?side2 ?side3 ?side4 A13.out).mono ?_); (case side1 => repeat (first | exact (KdU.R_reads' HO174.out).2.2 | (with_reducible refine Kd.C_alloc ?_ _) | (with_reducible refine Kd.C_drewN ?_ _) | (with_reducible refine Kd.C_drew ?_))); (case side2 => exact (KdU.R_reads' HO174.out).2.1); (case side3 => repeat (first | exact (KdU.R_reads' HO177.out).2.2 | (with_reducible refine Kd.C_alloc ?_ _) | (with_reducible refine Kd.C_drewN ?_ _) | (with_reducible refine Kd.C_drew ?_))); (case side4 => exact (KdU.R_reads' HO177.out).2.1); rintro e w34 ⟨v179, rfl, ho0, hb⟩; refine ⟨_, rfl, ?_⟩; have n0_ := Aside0.mk (KdU.R_elder' (by (with_reducible repeat (first | apply KdU.R_alloc | apply KdU.R_drewN | apply KdU.R_drew)); exact HO165.out) (KdU.R_base ho0) hb); have n1_ := Aside0.mk (KdU.R_elder' (by (with_reducible repeat (first | apply KdU.R_alloc | apply KdU.R_drewN | apply KdU.R_drew)); exact HO168.out) (KdU.R_base ho0) hb); have n2_ := Aside0.mk (KdU.R_elder' (by (with_reducible repeat (first | apply KdU.R_alloc | apply KdU.R_drewN | apply KdU.R_drew)); exact HO171.out) (KdU.R_base ho0) hb); have n3_ := Aside0.mk (KdU.R_elder' (by (with_reducible repeat (first | apply KdU.R_alloc | apply KdU.R_drewN | apply KdU.R_drew)); exact HO174.out) (KdU.R_base ho0) hb); have n4_ := Aside0.mk (KdU.R_elder' (by (with_reducible repeat (first | apply KdU.R_alloc | apply KdU.R_drewN | apply KdU.R_drew)); exact HO177.out) (KdU.R_base ho0) hb); have n5_ := Aside0.mk (KdU.R_lower (KdU.R_new' (KdU.R_new' (KdU.R_new' (KdU.R_new' (KdU.R_new' ho0 (KdU.R_lt (by (with_reducible repeat (first | apply KdU.R_alloc | apply KdU.R_drewN | apply KdU.R_drew)); exact HO165.out))) (KdU.R_lt (by (with_reducible repeat (first | apply KdU.R_alloc | apply KdU.R_drewN | apply KdU.R_drew)); exact HO168.out))) (KdU.R_lt (by (with_reducible repeat (first | apply KdU.R_alloc | apply KdU.R_drewN | apply KdU.R_drew)); exact HO171.out))) (KdU.R_lt (by (with_reducible repeat (first | apply KdU.R_alloc | apply KdU.R_drewN | apply KdU.R_drew)); exact HO174.out))) (KdU.R_lt (by (with_reducible repeat (first | apply KdU.R_alloc | apply KdU.R_drewN | apply KdU.R_drew)); exact HO177.out))) (below_size (by repeat (first | (with_reducible first | exact HB.out | apply below_alloc | apply pw_below_drewN | apply below_drew1) | exact HB.out)))); have n6_ := Aside0.mk (below_step (by repeat (first | (with_reducible first | exact HB.out | apply below_alloc | apply pw_below_drewN | apply below_drew1) | exact HB.out)) hb); clear HO165; clear HO168; clear HO171; clear HO174; clear HO177; clear HB; have HO165 := n0_; have HO168 := n1_; have HO171 := n2_; have HO174 := n3_; have HO177 := n4_; have HO180 := n5_; have HB := n6_; clear n0_ n1_ n2_ n3_ n4_ n5_ n6_; (try clear hb); (try clear hb2); (try clear hk); (try clear hi); (try clear ho0); obtain ⟨Ao35, co35, eo35⟩ := KdU.R_slice HO180.out; subst eo35; obtain ⟨Ao36, co36, eo36⟩ := KdU.R_slice HO171.out; subst eo36) | ((with_reducible refine gate_callee (f := 22) rfl ?_); refine goesL_ (some 42) rfl rfl Try.func22 (by kernel_rfl) rfl #[.slice Ao35 t178.length co35, .slice Ao36 t169.length co36] rfl (by (try simp only [List.map_toArray, List.map_cons, List.map_nil]); first | done | rfl | (simp only [List.length_drop, List.length_take]; rfl)) ?_; (with_reducible refine (laws_eqStringS.calls k _ _ t178 _ _ t169 true _ ?side1 ?side2 ?side3 ?side4 A14.out).mono ?_); (case side1 => repeat (first | exact (KdU.R_reads' HO180.out).2.2 | (with_reducible refine Kd.C_alloc ?_ _) | (with_reducible refine Kd.C_drewN ?_ _) | (with_reducible refine Kd.C_drew ?_))); (case side2 => exact (KdU.R_reads' HO180.out).2.1); (case side3 => repeat (first | exact (KdU.R_reads' HO171.out).2.2 | (with_reducible refine Kd.C_alloc ?_ _) | (with_reducible refine Kd.C_drewN ?_ _) | (with_reducible refine Kd.C_drew ?_))); (case side4 => exact (KdU.R_reads' HO171.out).2.1); rintro e w' ⟨rfl, ⟨nd, rfl⟩⟩; refine ⟨_, rfl, ?_⟩) | ((with_reducible refine gate_callee (f := 20) rfl ?_); refine goesL_ (some 46) rfl rfl Try.func20 (by kernel_rfl) rfl #[.slice A0 l0.length c0] rfl (by (try simp only [List.map_toArray, List.map_cons, List.map_nil]); first | done | rfl | (simp only [List.length_drop, List.length_take]; rfl)) ?_; (with_reducible refine (laws_toStringS.callsU k _ _ l0 t182 _ ?side1 ?side2 A16.out).mono ?_); (case side1 => repeat (first | exact (Kd.C_below HR0.out (by repeat (first | (with_reducible first | exact HB.out | apply below_alloc | apply pw_below_drewN | apply below_drew1) | exact HB.out))) | (with_reducible refine Kd.C_alloc ?_ _) | (with_reducible refine Kd.C_drewN ?_ _) | (with_reducible refine Kd.C_drew ?_))); (case side2 => exact HC0.out); rintro e w37 ⟨v183, rfl, ho0, hb⟩; refine ⟨_, rfl, ?_⟩; have n0_ := Aside0.mk (KdU.R_elder' (by (with_reducible repeat (first | apply KdU.R_alloc | apply KdU.R_drewN | apply KdU.R_drew)); exact HO165.out) (KdU.R_base ho0) hb); have n1_ := Aside0.mk (KdU.R_elder' (by (with_reducible repeat (first | apply KdU.R_alloc | apply KdU.R_drewN | apply KdU.R_drew)); exact HO168.out) (KdU.R_base ho0) hb); have n2_ := Aside0.mk (KdU.R_elder' (by (with_reducible repeat (first | apply KdU.R_alloc | apply KdU.R_drewN | apply KdU.R_drew)); exact HO171.out) (KdU.R_base ho0) hb); have n3_ := Aside0.mk (KdU.R_elder' (by (with_reducible repeat (first | apply KdU.R_alloc | apply KdU.R_drewN | apply KdU.R_drew)); exact HO174.out) (KdU.R_base ho0) hb); have n4_ := Aside0.mk (KdU.R_elder' (by (with_reducible repeat (first | apply KdU.R_alloc | apply KdU.R_drewN | apply KdU.R_drew)); exact HO177.out) (KdU.R_base ho0) hb); have n5_ := Aside0.mk (KdU.R_elder' (by (with_reducible repeat (first | apply KdU.R_alloc | apply KdU.R_drewN | apply KdU.R_drew)); exact HO180.out) (KdU.R_base ho0) hb); have n6_ := Aside0.mk (KdU.R_lower (KdU.R_new' (KdU.R_new' (KdU.R_new' (KdU.R_new' (KdU.R_new' (KdU.R_new' ho0 (KdU.R_lt (by (with_reducible repeat (first | apply KdU.R_alloc | apply KdU.R_drewN | apply KdU.R_drew)); exact HO165.out))) (KdU.R_lt (by (with_reducible repeat (first | apply KdU.R_alloc | apply KdU.R_drewN | apply KdU.R_drew)); exact HO168.out))) (KdU.R_lt (by (with_reducible repeat (first | apply KdU.R_alloc | apply KdU.R_drewN | apply KdU.R_drew)); exact HO171.out))) (KdU.R_lt (by (with_reducible repeat (first | apply KdU.R_alloc | apply KdU.R_drewN | apply KdU.R_drew)); exact HO174.out))) (KdU.R_lt (by (with_reducible repeat (first | apply KdU.R_alloc | apply KdU.R_drewN | apply KdU.R_drew)); exact HO177.out))) (KdU.R_lt (by (with_reducible repeat (first | apply KdU.R_alloc | apply KdU.R_drewN | apply KdU.R_drew)); exact HO180.out))) (below_size (by repeat (first | (with_reducible first | exact HB.out | apply below_alloc | apply pw_below_drewN | apply below_drew1) | exact HB.out)))); have n7_ := Aside0.mk (below_step (by repeat (first | (with_reducible first | exact HB.out | apply below_alloc | apply pw_below_drewN | apply below_drew1) | exact HB.out)) hb); clear HO165; clear HO168; clear HO171; clear HO174; clear HO177; clear HO180; clear HB; have HO165 := n0_; have HO168 := n1_; have HO171 := n2_; have HO174 := n3_; have HO177 := n4_; have HO180 := n5_; have HO184 := n6_; have HB := n7_; clear n0_ n1_ n2_ n3_ n4_ n5_ n6_ n7_; (try clear hb); (try clear hb2); (try clear hk); (try clear hi); (try clear ho0); obtain ⟨Ao38, co38, eo38⟩ := KdU.R_slice HO184.out; subst eo38) | ((with_reducible refine gate_callee (f := 22) rfl ?_); refine goesL_ (some 47) rfl rfl Try.func22 (by kernel_rfl) rfl #[.slice Ao32 t172.length co32, .slice Ao38 t182.length co38] rfl (by (try simp only [List.map_toArray, List.map_cons, List.map_nil]); first | done | rfl | (simp only [List.length_drop, List.length_take]; rfl)) ?_; (with_reducible refine (laws_eqStringS.calls k _ _ t172 _ _ t182 true _ ?side1 ?side2 ?side3 ?side4 A17.out).mono ?_); (case side1 => repeat (first | exact (KdU.R_reads' HO174.out).2.2 | (with_reducible refine Kd.C_alloc ?_ _) | (with_reducible refine Kd.C_drewN ?_ _) | (with_reducible refine Kd.C_drew ?_))); (case side2 => exact (KdU.R_reads' HO174.out).2.1); (case side3 => repeat (first | exact (KdU.R_reads' HO184.out).2.2 | (with_reducible refine Kd.C_alloc ?_ _) | (with_reducible refine Kd.C_drewN ?_ _) | (with_reducible refine Kd.C_drew ?_))); (case side4 => exact (KdU.R_reads' HO184.out).2.1); rintro e w' ⟨rfl, ⟨nd, rfl⟩⟩; refine ⟨_, rfl, ?_⟩) | ((with_reducible refine gate_callee (f := 20) rfl ?_); refine goesL_ (some 51) rfl rfl Try.func20 (by kernel_rfl) rfl #[.slice A1 l1.length c1] rfl (by (try simp only [List.map_toArray, List.map_cons, List.map_nil]); first | done | rfl | (simp only [List.length_drop, List.length_take]; rfl)) ?_; (with_reducible refine (laws_toStringS.callsU k _ _ l1 t186 _ ?side1 ?side2 A19.out).mono ?_); (case side1 => repeat (first | exact (Kd.C_below HR1.out (by repeat (first | (with_reducible first | exact HB.out | apply below_alloc | apply pw_below_drewN | apply below_drew1) | exact HB.out))) | (with_reducible refine Kd.C_alloc ?_ _) | (with_reducible refine Kd.C_drewN ?_ _) | (with_reducible refine Kd.C_drew ?_))); (case side2 => exact HC1.out); rintro e w39 ⟨v187, rfl, ho0, hb⟩; refine ⟨_, rfl, ?_⟩; have n0_ := Aside0.mk (KdU.R_elder' (by (with_reducible repeat (first | apply KdU.R_alloc | apply KdU.R_drewN | apply KdU.R_drew)); exact HO165.out) (KdU.R_base ho0) hb); have n1_ := Aside0.mk (KdU.R_elder' (by (with_reducible repeat (first | apply KdU.R_alloc | apply KdU.R_drewN | apply KdU.R_drew)); exact HO168.out) (KdU.R_base ho0) hb); have n2_ := Aside0.mk (KdU.R_elder' (by (with_reducible repeat (first | apply KdU.R_alloc | apply KdU.R_drewN | apply KdU.R_drew)); exact HO171.out) (KdU.R_base ho0) hb); have n3_ := Aside0.mk (KdU.R_elder' (by (with_reducible repeat (first | apply KdU.R_alloc | apply KdU.R_drewN | apply KdU.R_drew)); exact HO174.out) (KdU.R_base ho0) hb); have n4_ := Aside0.mk (KdU.R_elder' (by (with_reducible repeat (first | apply KdU.R_alloc | apply KdU.R_drewN | apply KdU.R_drew)); exact HO177.out) (KdU.R_base ho0) hb); have n5_ := Aside0.mk (KdU.R_elder' (by (with_reducible repeat (first | apply KdU.R_alloc | apply KdU.R_drewN | apply KdU.R_drew)); exact HO180.out) (KdU.R_base ho0) hb); have n6_ := Aside0.mk (KdU.R_elder' (by (with_reducible repeat (first | apply KdU.R_alloc | apply KdU.R_drewN | apply KdU.R_drew)); exact HO184.out) (KdU.R_base ho0) hb); have n7_ := Aside0.mk (KdU.R_lower (KdU.R_new' (KdU.R_new' (KdU.R_new' (KdU.R_new' (KdU.R_new' (KdU.R_new' (KdU.R_new' ho0 (KdU.R_lt (by (with_reducible repeat (first | apply KdU.R_alloc | apply KdU.R_drewN | apply KdU.R_drew)); exact HO165.out))) (KdU.R_lt (by (with_reducible repeat (first | apply KdU.R_alloc | apply KdU.R_drewN | apply KdU.R_drew)); exact HO168.out))) (KdU.R_lt (by (with_reducible repeat (first | apply KdU.R_alloc | apply KdU.R_drewN | apply KdU.R_drew)); exact HO171.out))) (KdU.R_lt (by (with_reducible repeat (first | apply KdU.R_alloc | apply KdU.R_drewN | apply KdU.R_drew)); exact HO174.out))) (KdU.R_lt (by (with_reducible repeat (first | apply KdU.R_alloc | apply KdU.R_drewN | apply KdU.R_drew)); exact HO177.out))) (KdU.R_lt (by (with_reducible repeat (first | apply KdU.R_alloc | apply KdU.R_drewN | apply KdU.R_drew)); exact HO180.out))) (KdU.R_lt (by (with_reducible repeat (first | apply KdU.R_alloc | apply KdU.R_drewN | apply KdU.R_drew)); exact HO184.out))) (below_size (by repeat (first | (with_reducible first | exact HB.out | apply below_alloc | apply pw_below_drewN | apply below_drew1) | exact HB.out)))); have n8_ := Aside0.mk (below_step (by repeat (first | (with_reducible first | exact HB.out | apply below_alloc | apply pw_below_drewN | apply below_drew1) | exact HB.out)) hb); clear HO165; clear HO168; clear HO171; clear HO174; clear HO177; clear HO180; clear HO184; clear HB; have HO165 := n0_; have HO168 := n1_; have HO171 := n2_; have HO174 := n3_; have HO177 := n4_; have HO180 := n5_; have HO184 := n6_; have HO188 := n7_; have HB := n8_; clear n0_ n1_ n2_ n3_ n4_ n5_ n6_ n7_ n8_; (try clear hb); (try clear hb2); (try clear hk); (try clear hi); (try clear ho0); obtain ⟨Ao40, co40, eo40⟩ := KdU.R_slice HO188.out; subst eo40) | ((with_reducible refine gate_callee (f := 22) rfl ?_); refine goesL_ (some 52) rfl rfl Try.func22 (by kernel_rfl) rfl #[.slice Ao33 t175.length co33, .slice Ao40 t186.length co40] rfl (by (try simp only [List.map_toArray, List.map_cons, List.map_nil]); first | done | rfl | (simp only [List.length_drop, List.length_take]; rfl)) ?_; (with_reducible refine (laws_eqStringS.calls k _ _ t175 _ _ t186 true _ ?side1 ?side2 ?side3 ?side4 A20.out).mono ?_); (case side1 => repeat (first | exact (KdU.R_reads' HO177.out).2.2 | (with_reducible refine Kd.C_alloc ?_ _) | (with_reducible refine Kd.C_drewN ?_ _) | (with_reducible refine Kd.C_drew ?_))); (case side2 => exact (KdU.R_reads' HO177.out).2.1); (case side3 => repeat (first | exact (KdU.R_reads' HO188.out).2.2 | (with_reducible refine Kd.C_alloc ?_ _) | (with_reducible refine Kd.C_drewN ?_ _) | (with_reducible refine Kd.C_drew ?_))); (case side4 => exact (KdU.R_reads' HO188.out).2.1); rintro e w' ⟨rfl, ⟨nd, rfl⟩⟩; refine ⟨_, rfl, ?_⟩) | ((with_reducible refine gate_callee (f := 28) rfl ?_); refine goesL_ (some 56) rfl rfl Try.func28 (by kernel_rfl) rfl #[.slice Ao32 t172.length co32, .int .i64 1] rfl (by (try simp only [List.map_toArray, List.map_cons, List.map_nil]); first | done | rfl | (simp only [List.length_drop, List.length_take]; rfl)) ?_; (with_reducible refine (laws_markStringS.calls k (fun k_ => some k_ = (.slice Ao32 t172.length co32 : Value).ownBlock) (.slice Ao32 t172.length co32) t172 1 t190 t191 w _ ?side1 ?side2 A22.out).mono ?_); (case side1 => repeat (first | (with_reducible first | exact HB.out | apply below_alloc | apply pw_below_drewN | apply below_drew1) | exact HB.out)); (case side2 => exact KdU.R_tight rfl HO174.out); rintro e w41 ⟨rfl, hy0, hb, hkp⟩; refine ⟨_, rfl, ?_⟩; have n0_ := Aside0.mk (KdU.R_mono (ok' := fun k_ => some k_ ≠ (.slice Ao28 t166.length co28 : Value).ownBlock ∧ some k_ ≠ (.slice Ao36 t169.length co36 : Value).ownBlock ∧ some k_ ≠ (.slice Ao32 t172.length co32 : Value).ownBlock ∧ some k_ ≠ (.slice Ao33 t175.length co33 : Value).ownBlock ∧ some k_ ≠ (.slice Ao35 t178.length co35 : Value).ownBlock ∧ some k_ ≠ (.slice Ao38 t182.length co38 : Value).ownBlock ∧ some k_ ≠ (.slice Ao40 t186.length co40 : Value).ownBlock) (KdU.R_keptB (HO165.out) hkp (fun k_ hk_ hs_ => (hk_.1.1.1.1.2) hs_)) (fun k_ hk_ => ⟨hk_.1.1.1.1.1.1.1.2, hk_.1.1.1.1.1.1.2, hk_.1.1.1.1.1.2, hk_.1.1.1.1.2, hk_.1.1.1.2, hk_.1.1.2, hk_.1.2⟩)); have n1_ := Aside0.mk (KdU.R_mono (ok' := fun k_ => some k_ ≠ (.slice Ao27 t163.length co27 : Value).ownBlock ∧ some k_ ≠ (.slice Ao36 t169.length co36 : Value).ownBlock ∧ some k_ ≠ (.slice Ao32 t172.length co32 : Value).ownBlock ∧ some k_ ≠ (.slice Ao33 t175.length co33 : Value).ownBlock ∧ some k_ ≠ (.slice Ao35 t178.length co35 : Value).ownBlock ∧ some k_ ≠ (.slice Ao38 t182.length co38 : Value).ownBlock ∧ some k_ ≠ (.slice Ao40 t186.length co40 : Value).ownBlock) (KdU.R_keptB (HO168.out) hkp (fun k_ hk_ hs_ => (hk_.1.1.1.1.2) hs_)) (fun k_ hk_ => ⟨hk_.1.1.1.1.1.1.1.2, hk_.1.1.1.1.1.1.2, hk_.1.1.1.1.1.2, hk_.1.1.1.1.2, hk_.1.1.1.2, hk_.1.1.2, hk_.1.2⟩)); have n2_ := Aside0.mk (KdU.R_mono (ok' := fun k_ => some k_ ≠ (.slice Ao27 t163.length co27 : Value).ownBlock ∧ some k_ ≠ (.slice Ao28 t166.length co28 : Value).ownBlock ∧ some k_ ≠ (.slice Ao32 t172.length co32 : Value).ownBlock ∧ some k_ ≠ (.slice Ao33 t175.length co33 : Value).ownBlock ∧ some k_ ≠ (.slice Ao35 t178.length co35 : Value).ownBlock ∧ some k_ ≠ (.slice Ao38 t182.length co38 : Value).ownBlock ∧ some k_ ≠ (.slice Ao40 t186.length co40 : Value).ownBlock) (KdU.R_keptB (HO171.out) hkp (fun k_ hk_ hs_ => (hk_.1.1.1.1.2) hs_)) (fun k_ hk_ => ⟨hk_.1.1.1.1.1.1.1.2, hk_.1.1.1.1.1.1.2, hk_.1.1.1.1.1.2, hk_.1.1.1.1.2, hk_.1.1.1.2, hk_.1.1.2, hk_.1.2⟩)); have n3_ := Aside0.mk (KdU.R_reok rfl hy0 (fun k_ e_ => HO174.out.1 k_ e_)); have n4_ := Aside0.mk (KdU.R_mono (ok' := fun k_ => some k_ ≠ (.slice Ao27 t163.length co27 : Value).ownBlock ∧ some k_ ≠ (.slice Ao28 t166.length co28 : Value).ownBlock ∧ some k_ ≠ (.slice Ao36 t169.length co36 : Value).ownBlock ∧ some k_ ≠ (.slice Ao32 t172.length co32 : Value).ownBlock ∧ some k_ ≠ (.slice Ao35 t178.length co35 : Value).ownBlock ∧ some k_ ≠ (.slice Ao38 t182.length co38 : Value).ownBlock ∧ some k_ ≠ (.slice Ao40 t186.length co40 : Value).ownBlock) (KdU.R_keptB (HO177.out) hkp (fun k_ hk_ hs_ => (hk_.1.1.1.2) hs_)) (fun k_ hk_ => ⟨hk_.1.1.1.1.1.1.1.2, hk_.1.1.1.1.1.1.2, hk_.1.1.1.1.1.2, hk_.1.1.1.1.2, hk_.1.1.1.2, hk_.1.1.2, hk_.1.2⟩)); have n5_ := Aside0.mk (KdU.R_mono (ok' := fun k_ => some k_ ≠ (.slice Ao27 t163.length co27 : Value).ownBlock ∧ some k_ ≠ (.slice Ao28 t166.length co28 : Value).ownBlock ∧ some k_ ≠ (.slice Ao36 t169.length co36 : Value).ownBlock ∧ some k_ ≠ (.slice Ao32 t172.length co32 : Value).ownBlock ∧ some k_ ≠ (.slice Ao33 t175.length co33 : Value).ownBlock ∧ some k_ ≠ (.slice Ao38 t182.length co38 : Value).ownBlock ∧ some k_ ≠ (.slice Ao40 t186.length co40 : Value).ownBlock) (KdU.R_keptB (HO180.out) hkp (fun k_ hk_ hs_ => (hk_.1.1.1.2) hs_)) (fun k_ hk_ => ⟨hk_.1.1.1.1.1.1.1.2, hk_.1.1.1.1.1.1.2, hk_.1.1.1.1.1.2, hk_.1.1.1.1.2, hk_.1.1.1.2, hk_.1.1.2, hk_.1.2⟩)); have n6_ := Aside0.mk (KdU.R_mono (ok' := fun k_ => some k_ ≠ (.slice Ao27 t163.length co27 : Value).ownBlock ∧ some k_ ≠ (.slice Ao28 t166.length co28 : Value).ownBlock ∧ some k_ ≠ (.slice Ao36 t169.length co36 : Value).ownBlock ∧ some k_ ≠ (.slice Ao32 t172.length co32 : Value).ownBlock ∧ some k_ ≠ (.slice Ao33 t175.length co33 : Value).ownBlock ∧ some k_ ≠ (.slice Ao35 t178.length co35 : Value).ownBlock ∧ some k_ ≠ (.slice Ao40 t186.length co40 : Value).ownBlock) (KdU.R_keptB (HO184.out) hkp (fun k_ hk_ hs_ => (hk_.1.1.1.2) hs_)) (fun k_ hk_ => ⟨hk_.1.1.1.1.1.1.1.2, hk_.1.1.1.1.1.1.2, hk_.1.1.1.1.1.2, hk_.1.1.1.1.2, hk_.1.1.1.2, hk_.1.1.2, hk_.1.2⟩)); have n7_ := Aside0.mk (KdU.R_mono (ok' := fun k_ => some k_ ≠ (.slice Ao27 t163.length co27 : Value).ownBlock ∧ some k_ ≠ (.slice Ao28 t166.length co28 : Value).ownBlock ∧ some k_ ≠ (.slice Ao36 t169.length co36 : Value).ownBlock ∧ some k_ ≠ (.slice Ao32 t172.length co32 : Value).ownBlock ∧ some k_ ≠ (.slice Ao33 t175.length co33 : Value).ownBlock ∧ some k_ ≠ (.slice Ao35 t178.length co35 : Value).ownBlock ∧ some k_ ≠ (.slice Ao38 t182.length co38 : Value).ownBlock) (KdU.R_keptB (HO188.out) hkp (fun k_ hk_ hs_ => (hk_.1.1.1.2) hs_)) (fun k_ hk_ => ⟨hk_.1.1.1.1.1.1.1.2, hk_.1.1.1.1.1.1.2, hk_.1.1.1.1.1.2, hk_.1.1.1.1.2, hk_.1.1.1.2, hk_.1.1.2, hk_.1.2⟩)); have n8_ := Aside0.mk (hb); clear HO165; clear HO168; clear HO171; clear HO174; clear HO177; clear HO180; clear HO184; clear HO188; clear HB; have HO165 := n0_; have HO168 := n1_; have HO171 := n2_; have HO174 := n3_; have HO177 := n4_; have HO180 := n5_; have HO184 := n6_; have HO188 := n7_; have HB := n8_; clear n0_ n1_ n2_ n3_ n4_ n5_ n6_ n7_ n8_; (try clear hb); (try clear hkp); (try clear hy0)) | ((with_reducible refine gate_callee (f := 28) rfl ?_); refine goesL_ (some 59) rfl rfl Try.func28 (by kernel_rfl) rfl #[.slice Ao33 t175.length co33, .int .i64 t190] rfl (by (try simp only [List.map_toArray, List.map_cons, List.map_nil]); first | done | rfl | (simp only [List.length_drop, List.length_take]; rfl)) ?_; (with_reducible refine (laws_markStringS.calls k (fun k_ => some k_ = (.slice Ao33 t175.length co33 : Value).ownBlock) (.slice Ao33 t175.length co33) t175 t190 t192 t193 w _ ?side1 ?side2 A23.out).mono ?_); (case side1 => repeat (first | (with_reducible first | exact HB.out | apply below_alloc | apply pw_below_drewN | apply below_drew1) | exact HB.out)); (case side2 => exact KdU.R_tight rfl HO177.out); rintro e w42 ⟨rfl, hy0, hb, hkp⟩; refine ⟨_, rfl, ?_⟩; have n0_ := Aside0.mk (KdU.R_mono (ok' := fun k_ => some k_ ≠ (.slice Ao28 t166.length co28 : Value).ownBlock ∧ some k_ ≠ (.slice Ao36 t169.length co36 : Value).ownBlock ∧ some k_ ≠ (.slice Ao32 t172.length co32 : Value).ownBlock ∧ some k_ ≠ (.slice Ao33 t175.length co33 : Value).ownBlock ∧ some k_ ≠ (.slice Ao35 t178.length co35 : Value).ownBlock ∧ some k_ ≠ (.slice Ao38 t182.length co38 : Value).ownBlock ∧ some k_ ≠ (.slice Ao40 t186.length co40 : Value).ownBlock) (KdU.R_keptB (HO165.out) hkp (fun k_ hk_ hs_ => (hk_.2.2.2.1) hs_)) (fun k_ hk_ => ⟨hk_.1.1, hk_.1.2.1, hk_.1.2.2.1, hk_.1.2.2.2.1, hk_.1.2.2.2.2.1, hk_.1.2.2.2.2.2.1, hk_.1.2.2.2.2.2.2⟩)); have n1_ := Aside0.mk (KdU.R_mono (ok' := fun k_ => some k_ ≠ (.slice Ao27 t163.length co27 : Value).ownBlock ∧ some k_ ≠ (.slice Ao36 t169.length co36 : Value).ownBlock ∧ some k_ ≠ (.slice Ao32 t172.length co32 : Value).ownBlock ∧ some k_ ≠ (.slice Ao33 t175.length co33 : Value).ownBlock ∧ some k_ ≠ (.slice Ao35 t178.length co35 : Value).ownBlock ∧ some k_ ≠ (.slice Ao38 t182.length co38 : Value).ownBlock ∧ some k_ ≠ (.slice Ao40 t186.length co40 : Value).ownBlock) (KdU.R_keptB (HO168.out) hkp (fun k_ hk_ hs_ => (hk_.2.2.2.1) hs_)) (fun k_ hk_ => ⟨hk_.1.1, hk_.1.2.1, hk_.1.2.2.1, hk_.1.2.2.2.1, hk_.1.2.2.2.2.1, hk_.1.2.2.2.2.2.1, hk_.1.2.2.2.2.2.2⟩)); have n2_ := Aside0.mk (KdU.R_mono (ok' := fun k_ => some k_ ≠ (.slice Ao27 t163.length co27 : Value).ownBlock ∧ some k_ ≠ (.slice Ao28 t166.length co28 : Value).ownBlock ∧ some k_ ≠ (.slice Ao32 t172.length co32 : Value).ownBlock ∧ some k_ ≠ (.slice Ao33 t175.length co33 : Value).ownBlock ∧ some k_ ≠ (.slice Ao35 t178.length co35 : Value).ownBlock ∧ some k_ ≠ (.slice Ao38 t182.length co38 : Value).ownBlock ∧ some k_ ≠ (.slice Ao40 t186.length co40 : Value).ownBlock) (KdU.R_keptB (HO171.out) hkp (fun k_ hk_ hs_ => (hk_.2.2.2.1) hs_)) (fun k_ hk_ => ⟨hk_.1.1, hk_.1.2.1, hk_.1.2.2.1, hk_.1.2.2.2.1, hk_.1.2.2.2.2.1, hk_.1.2.2.2.2.2.1, hk_.1.2.2.2.2.2.2⟩)); have n3_ := Aside0.mk (KdU.R_mono (ok' := fun k_ => some k_ ≠ (.slice Ao27 t163.length co27 : Value).ownBlock ∧ some k_ ≠ (.slice Ao28 t166.length co28 : Value).ownBlock ∧ some k_ ≠ (.slice Ao36 t169.length co36 : Value).ownBlock ∧ some k_ ≠ (.slice Ao33 t175.length co33 : Value).ownBlock ∧ some k_ ≠ (.slice Ao35 t178.length co35 : Value).ownBlock ∧ some k_ ≠ (.slice Ao38 t182.length co38 : Value).ownBlock ∧ some k_ ≠ (.slice Ao40 t186.length co40 : Value).ownBlock) (KdU.R_keptB (HO174.out) hkp (fun k_ hk_ hs_ => (hk_.1.1.1.2) hs_)) (fun k_ hk_ => ⟨hk_.1.1.1.1.1.1.1.2, hk_.1.1.1.1.1.1.2, hk_.1.1.1.1.1.2, hk_.1.1.1.1.2, hk_.1.1.1.2, hk_.1.1.2, hk_.1.2⟩)); have n4_ := Aside0.mk (KdU.R_reok rfl hy0 (fun k_ e_ => HO177.out.1 k_ e_)); have n5_ := Aside0.mk (KdU.R_mono (ok' := fun k_ => some k_ ≠ (.slice Ao27 t163.length co27 : Value).ownBlock ∧ some k_ ≠ (.slice Ao28 t166.length co28 : Value).ownBlock ∧ some k_ ≠ (.slice Ao36 t169.length co36 : Value).ownBlock ∧ some k_ ≠ (.slice Ao32 t172.length co32 : Value).ownBlock ∧ some k_ ≠ (.slice Ao33 t175.length co33 : Value).ownBlock ∧ some k_ ≠ (.slice Ao38 t182.length co38 : Value).ownBlock ∧ some k_ ≠ (.slice Ao40 t186.length co40 : Value).ownBlock) (KdU.R_keptB (HO180.out) hkp (fun k_ hk_ hs_ => (hk_.2.2.2.2.1) hs_)) (fun k_ hk_ => ⟨hk_.1.1, hk_.1.2.1, hk_.1.2.2.1, hk_.1.2.2.2.1, hk_.1.2.2.2.2.1, hk_.1.2.2.2.2.2.1, hk_.1.2.2.2.2.2.2⟩)); have n6_ := Aside0.mk (KdU.R_mono (ok' := fun k_ => some k_ ≠ (.slice Ao27 t163.length co27 : Value).ownBlock ∧ some k_ ≠ (.slice Ao28 t166.length co28 : Value).ownBlock ∧ some k_ ≠ (.slice Ao36 t169.length co36 : Value).ownBlock ∧ some k_ ≠ (.slice Ao32 t172.length co32 : Value).ownBlock ∧ some k_ ≠ (.slice Ao33 t175.length co33 : Value).ownBlock ∧ some k_ ≠ (.slice Ao35 t178.length co35 : Value).ownBlock ∧ some k_ ≠ (.slice Ao40 t186.length co40 : Value).ownBlock) (KdU.R_keptB (HO184.out) hkp (fun k_ hk_ hs_ => (hk_.2.2.2.2.1) hs_)) (fun k_ hk_ => ⟨hk_.1.1, hk_.1.2.1, hk_.1.2.2.1, hk_.1.2.2.2.1, hk_.1.2.2.2.2.1, hk_.1.2.2.2.2.2.1, hk_.1.2.2.2.2.2.2⟩)); have n7_ := Aside0.mk (KdU.R_mono (ok' := fun k_ => some k_ ≠ (.slice Ao27 t163.length co27 : Value).ownBlock ∧ some k_ ≠ (.slice Ao28 t166.length co28 : Value).ownBlock ∧ some k_ ≠ (.slice Ao36 t169.length co36 : Value).ownBlock ∧ some k_ ≠ (.slice Ao32 t172.length co32 : Value).ownBlock ∧ some k_ ≠ (.slice Ao33 t175.length co33 : Value).ownBlock ∧ some k_ ≠ (.slice Ao35 t178.length co35 : Value).ownBlock ∧ some k_ ≠ (.slice Ao38 t182.length co38 : Value).ownBlock) (KdU.R_keptB (HO188.out) hkp (fun k_ hk_ hs_ => (hk_.2.2.2.2.1) hs_)) (fun k_ hk_ => ⟨hk_.1.1, hk_.1.2.1, hk_.1.2.2.1, hk_.1.2.2.2.1, hk_.1.2.2.2.2.1, hk_.1.2.2.2.2.2.1, hk_.1.2.2.2.2.2.2⟩)); have n8_ := Aside0.mk (hb); clear HO165; clear HO168; clear HO171; clear HO174; clear HO177; clear HO180; clear HO184; clear HO188; clear HB; have HO165 := n0_; have HO168 := n1_; have HO171 := n2_; have HO174 := n3_; have HO177 := n4_; have HO180 := n5_; have HO184 := n6_; have HO188 := n7_; have HB := n8_; clear n0_ n1_ n2_ n3_ n4_ n5_ n6_ n7_ n8_; (try clear hb); (try clear hkp); (try clear hy0)))
            (try simp only [Act.put, List.setIfInBounds_toArray, List.set_cons_zero, List.set_cons_succ])
            go_cut [67] (fun v67 wc => ∃ (kq : Nat) (x67_23 : Bool), v67 = .bool x67_23 ∧ Aside0 (laws_FnExactHeavyStep.j0 kq l0 l1 a2 t169 t178 x67_23 = some r) ∧ Aside0 (kq ≤ k) ∧ Aside0 (KdU.R Kd.string 9 wc w.heap.size (fun k_ => some k_ ≠ ((.slice Ao35 t178.length co35) : Value).ownBlock) (.slice Ao36 t169.length co36) t169) ∧ Aside0 (KdU.R Kd.string 9 wc w.heap.size (fun k_ => some k_ ≠ ((.slice Ao36 t169.length co36) : Value).ownBlock) (.slice Ao35 t178.length co35) t178) ∧ Aside0 (Below w.heap.size w wc))
            case first =>
              have H := HC24.out
              clear HC24
              by_cases c43 : t192 < 0
              · rw [if_pos c43] at H
                have c43b0 : decide (t192 < 0) = true := decide_eq_true c43
                clear c43
                (first | rw [c43b0] | (simp only [i64_w, i32_w]; rw [c43b0]) | skip)
                have H' := Aside0.mk H
                clear H
                go_wp2
                go_meet
                case rel => exact ⟨_, (true), (by first | rfl | (simp; done) | (simp [*]; done)), H', ⟨by first | omega | exact Nat.le_refl _⟩, ⟨by (with_reducible repeat (first | apply KdU.R_alloc | apply KdU.R_drewN | apply KdU.R_drew)); exact KdU.R_mono HO171.out (fun _ hk => hk.2.2.2.2.1)⟩, ⟨by (with_reducible repeat (first | apply KdU.R_alloc | apply KdU.R_drewN | apply KdU.R_drew)); exact KdU.R_mono HO180.out (fun _ hk => hk.2.2.1)⟩, ⟨by repeat (first | (with_reducible first | exact HB.out | apply below_alloc | apply pw_below_drewN | apply below_drew1) | exact HB.out)⟩⟩
              · rw [if_neg c43] at H
                have c43b0 : decide (t192 < 0) = false := decide_eq_false c43
                clear c43
                (first | rw [c43b0] | (simp only [i64_w, i32_w]; rw [c43b0]) | skip)
                replace H := Option.bind_eq_some_iff.mp H
                obtain ⟨t194, A440, H⟩ := H
                replace H : (laws_FnExactHeavyStep.j0 k l0 l1 a2 t169 t178 (!t194)) = some r := H
                have A44 := Aside0.mk A440
                clear A440
                have H' := Aside0.mk H
                clear H
                go_wp2_with (first | (go_at_call 22; (with_reducible refine (laws_eqStringS.calls k _ _ t178 _ _ t169 t194 _ ?side1 ?side2 ?side3 ?side4 A44.out).mono ?_); (case side1 => repeat (first | exact (KdU.R_reads' HO180.out).2.2 | (with_reducible refine Kd.C_alloc ?_ _) | (with_reducible refine Kd.C_drewN ?_ _) | (with_reducible refine Kd.C_drew ?_))); (case side2 => exact (KdU.R_reads' HO180.out).2.1); (case side3 => repeat (first | exact (KdU.R_reads' HO171.out).2.2 | (with_reducible refine Kd.C_alloc ?_ _) | (with_reducible refine Kd.C_drewN ?_ _) | (with_reducible refine Kd.C_drew ?_))); (case side4 => exact (KdU.R_reads' HO171.out).2.1); rintro e w' ⟨rfl, ⟨nd, rfl⟩⟩))
                go_meet
                case rel => exact ⟨_, (!t194), (by first | rfl | (simp; done) | (simp [*]; done)), H', ⟨by first | omega | exact Nat.le_refl _⟩, ⟨by (with_reducible repeat (first | apply KdU.R_alloc | apply KdU.R_drewN | apply KdU.R_drew)); exact KdU.R_mono HO171.out (fun _ hk => hk.2.2.2.2.1)⟩, ⟨by (with_reducible repeat (first | apply KdU.R_alloc | apply KdU.R_drewN | apply KdU.R_drew)); exact KdU.R_mono HO180.out (fun _ hk => hk.2.2.1)⟩, ⟨by repeat (first | (with_reducible first | exact HB.out | apply below_alloc | apply pw_below_drewN | apply below_drew1) | exact HB.out)⟩⟩
            case rest =>
              clear HC24
              try clear c1
              try clear c2
              try clear p2
              try clear c3
              try clear c4
              try clear c5
              try clear c5b0
              try clear c7
              try clear c7b0
              try clear c10
              try clear c15
              try clear c18
              try clear c20
              try clear c21
              try clear c22
              try clear c28
              try clear c34
              try clear c35
              try clear c43
              try clear c43b0
              obtain ⟨kq, x67_23, rfl, HA, HJ23, HO_8, HO_11, HB⟩ := hcut
              cases kq with
              | zero => exact absurd HA.out (by simp [laws_FnExactHeavyStep.j0])
              | succ kj23 =>
                have H := HA.out
                clear HA
                simp only [laws_FnExactHeavyStep.j0] at H
                by_cases c45 : x67_23 = true
                · subst c45
                  have H1 : (some false) = some r := by rw [if_pos rfl] at H; exact H
                  clear H
                  have H := H1
                  clear H1
                  exact absurd (Option.some.inj (H.trans (congrArg some HRT.out))) (by decide)
                · replace c45 := Bool.eq_false_iff.mpr c45
                  subst c45
                  have H1 : ((laws_markStringS.f kj23 t178 1).bind fun bt195 => ((laws_heldStringS.f kj23 bt195.2 1).bind fun t197 => (if t197 < 0 then (some false) else (if t197 = bt195.1 then ((laws_toStringS.f kj23 l0).bind fun t198 => ((laws_toStringS.f kj23 l1).bind fun t201 => ((impl_HeavyStep.f kj23 t198 t201 a2).bind fun t204 => ((laws_eqStringS.f kj23 t204 t169).bind fun t207 => (if t207 = true then ((laws_heldStringS.f kj23 bt195.2 1).bind fun t208 => (if t208 < 0 then (some false) else (if t208 = bt195.1 then (some true) else (some false)))) else (some false)))))) else (some false))))) = some r := by rw [if_neg (show ¬ (false = true) by decide)] at H; exact H
                  clear H
                  have H := H1
                  clear H1
                  replace H := Option.bind_eq_some_iff.mp H
                  obtain ⟨⟨t195, t196⟩, A460, H⟩ := H
                  replace H : ((laws_heldStringS.f kj23 t196 1).bind fun t197 => (if t197 < 0 then (some false) else (if t197 = t195 then ((laws_toStringS.f kj23 l0).bind fun t198 => ((laws_toStringS.f kj23 l1).bind fun t201 => ((impl_HeavyStep.f kj23 t198 t201 a2).bind fun t204 => ((laws_eqStringS.f kj23 t204 t169).bind fun t207 => (if t207 = true then ((laws_heldStringS.f kj23 t196 1).bind fun t208 => (if t208 < 0 then (some false) else (if t208 = t195 then (some true) else (some false)))) else (some false)))))) else (some false)))) = some r := H
                  have A46 := Aside0.mk A460
                  clear A460
                  replace H := Option.bind_eq_some_iff.mp H
                  obtain ⟨t197, A470, H⟩ := H
                  replace H : (if t197 < 0 then (some false) else (if t197 = t195 then ((laws_toStringS.f kj23 l0).bind fun t198 => ((laws_toStringS.f kj23 l1).bind fun t201 => ((impl_HeavyStep.f kj23 t198 t201 a2).bind fun t204 => ((laws_eqStringS.f kj23 t204 t169).bind fun t207 => (if t207 = true then ((laws_heldStringS.f kj23 t196 1).bind fun t208 => (if t208 < 0 then (some false) else (if t208 = t195 then (some true) else (some false)))) else (some false)))))) else (some false))) = some r := H
                  have A47 := Aside0.mk A470
                  clear A470
                  by_cases c48 : t197 < 0
                  · rw [if_pos c48] at H
                    have c48b0 : decide (t197 < 0) = true := decide_eq_true c48
                    clear c48
                    exact absurd (Option.some.inj (H.trans (congrArg some HRT.out))) (by decide)
                  · rw [if_neg c48] at H
                    have c48b0 : decide (t197 < 0) = false := decide_eq_false c48
                    clear c48
                    by_cases c49 : t197 = t195
                    · rw [if_pos c49] at H
                      have c49b0 : (t197 == t195) = true := beq_iff_eq.mpr c49
                      have c49b1 : (t197 != t195) = false := bne_eq_false_iff_eq.mpr c49
                      clear c49
                      replace H := Option.bind_eq_some_iff.mp H
                      obtain ⟨t198, A500, H⟩ := H
                      replace H : ((laws_toStringS.f kj23 l1).bind fun t201 => ((impl_HeavyStep.f kj23 t198 t201 a2).bind fun t204 => ((laws_eqStringS.f kj23 t204 t169).bind fun t207 => (if t207 = true then ((laws_heldStringS.f kj23 t196 1).bind fun t208 => (if t208 < 0 then (some false) else (if t208 = t195 then (some true) else (some false)))) else (some false))))) = some r := H
                      have A50 := Aside0.mk A500
                      clear A500
                      replace H := Option.bind_eq_some_iff.mp H
                      obtain ⟨t201, A510, H⟩ := H
                      replace H : ((impl_HeavyStep.f kj23 t198 t201 a2).bind fun t204 => ((laws_eqStringS.f kj23 t204 t169).bind fun t207 => (if t207 = true then ((laws_heldStringS.f kj23 t196 1).bind fun t208 => (if t208 < 0 then (some false) else (if t208 = t195 then (some true) else (some false)))) else (some false)))) = some r := H
                      have A51 := Aside0.mk A510
                      clear A510
                      replace H := Option.bind_eq_some_iff.mp H
                      obtain ⟨t204, A520, H⟩ := H
                      replace H : ((laws_eqStringS.f kj23 t204 t169).bind fun t207 => (if t207 = true then ((laws_heldStringS.f kj23 t196 1).bind fun t208 => (if t208 < 0 then (some false) else (if t208 = t195 then (some true) else (some false)))) else (some false))) = some r := H
                      have A52 := Aside0.mk A520
                      clear A520
                      replace H := Option.bind_eq_some_iff.mp H
                      obtain ⟨t207, A530, H⟩ := H
                      replace H : (if t207 = true then ((laws_heldStringS.f kj23 t196 1).bind fun t208 => (if t208 < 0 then (some false) else (if t208 = t195 then (some true) else (some false)))) else (some false)) = some r := H
                      have A53 := Aside0.mk A530
                      clear A530
                      by_cases c54 : t207 = true
                      · subst c54
                        have H1 : ((laws_heldStringS.f kj23 t196 1).bind fun t208 => (if t208 < 0 then (some false) else (if t208 = t195 then (some true) else (some false)))) = some r := by rw [if_pos rfl] at H; exact H
                        clear H
                        have H := H1
                        clear H1
                        replace H := Option.bind_eq_some_iff.mp H
                        obtain ⟨t208, A550, H⟩ := H
                        replace H : (if t208 < 0 then (some false) else (if t208 = t195 then (some true) else (some false))) = some r := H
                        have A55 := Aside0.mk A550
                        clear A550
                        by_cases c56 : t208 < 0
                        · rw [if_pos c56] at H
                          have c56b0 : decide (t208 < 0) = true := decide_eq_true c56
                          clear c56
                          exact absurd (Option.some.inj (H.trans (congrArg some HRT.out))) (by decide)
                        · rw [if_neg c56] at H
                          have c56b0 : decide (t208 < 0) = false := decide_eq_false c56
                          clear c56
                          by_cases c57 : t208 = t195
                          · rw [if_pos c57] at H
                            have c57b0 : (t208 == t195) = true := beq_iff_eq.mpr c57
                            have c57b1 : (t208 != t195) = false := bne_eq_false_iff_eq.mpr c57
                            clear c57
                            obtain rfl := Option.some.inj H
                            go_wp2_with (first | ((with_reducible refine gate_callee (f := 28) rfl ?_); refine goesL_ (some 70) rfl rfl Try.func28 (by kernel_rfl) rfl #[.slice Ao35 t178.length co35, .int .i64 1] rfl (by (try simp only [List.map_toArray, List.map_cons, List.map_nil]); first | done | rfl | (simp only [List.length_drop, List.length_take]; rfl)) ?_; (with_reducible refine (laws_markStringS.calls kj23 (fun k_ => some k_ = (.slice Ao35 t178.length co35 : Value).ownBlock) (.slice Ao35 t178.length co35) t178 1 t195 t196 w _ ?side1 ?side2 A46.out).mono ?_); (case side1 => repeat (first | (with_reducible first | exact HB.out | apply below_alloc | apply pw_below_drewN | apply below_drew1) | exact HB.out)); (case side2 => exact KdU.R_tight rfl HO_11.out); rintro e w58 ⟨rfl, hy0, hb, hkp⟩; refine ⟨_, rfl, ?_⟩; have n0_ := Aside0.mk (KdU.R_mono (ok' := fun k_ => some k_ ≠ (.slice Ao35 t178.length co35 : Value).ownBlock) (KdU.R_keptB (HO_8.out) hkp (fun k_ hk_ hs_ => (hk_) hs_)) (fun k_ hk_ => hk_.1)); have n1_ := Aside0.mk (KdU.R_reok rfl hy0 (fun k_ e_ => HO_11.out.1 k_ e_)); have n2_ := Aside0.mk (hb); clear HO_8; clear HO_11; clear HB; have HO_8 := n0_; have HO_11 := n1_; have HB := n2_; clear n0_ n1_ n2_; (try clear hb); (try clear hkp); (try clear hy0)) | ((with_reducible refine gate_callee (f := 29) rfl ?_); refine goesL_ (some 73) rfl rfl Try.func29 (by kernel_rfl) rfl #[.slice Ao35 t196.length co35, .int .i64 1] rfl (by (try simp only [List.map_toArray, List.map_cons, List.map_nil]); first | done | (rw [show t196.length = t178.length from (KdU.R_reads' HO_11.out).1.symm] <;> rfl) | rfl | (simp only [List.length_drop, List.length_take]; rfl)) ?_; (with_reducible refine (laws_heldStringS.calls kj23 _ _ t196 1 t197 _ ?side1 ?side2 A47.out).mono ?_); (case side1 => repeat (first | exact (KdU.R_reads' HO_11.out).2.2 | (with_reducible refine Kd.C_alloc ?_ _) | (with_reducible refine Kd.C_drewN ?_ _) | (with_reducible refine Kd.C_drew ?_))); (case side2 => rw [show t196.length = t178.length from (KdU.R_reads' HO_11.out).1.symm]; exact (KdU.R_reads' HO_11.out).2.1); rintro e w59 ⟨rfl, hb⟩; refine ⟨_, rfl, ?_⟩; have n0_ := Aside0.mk (KdU.R_below (by (with_reducible repeat (first | apply KdU.R_alloc | apply KdU.R_drewN | apply KdU.R_drew)); exact HO_8.out) hb); have n1_ := Aside0.mk (KdU.R_below (by (with_reducible repeat (first | apply KdU.R_alloc | apply KdU.R_drewN | apply KdU.R_drew)); exact HO_11.out) hb); have n2_ := Aside0.mk (below_step (by repeat (first | (with_reducible first | exact HB.out | apply below_alloc | apply pw_below_drewN | apply below_drew1) | exact HB.out)) hb); clear HO_8; clear HO_11; clear HB; have HO_8 := n0_; have HO_11 := n1_; have HB := n2_; clear n0_ n1_ n2_; (try clear hb); (try clear hb2); (try clear hk); (try clear hi)) | ((with_reducible refine gate_callee (f := 20) rfl ?_); refine goesL_ (some 80) rfl rfl Try.func20 (by kernel_rfl) rfl #[.slice A0 l0.length c0] rfl (by (try simp only [List.map_toArray, List.map_cons, List.map_nil]); first | done | rfl | (simp only [List.length_drop, List.length_take]; rfl)) ?_; (with_reducible refine (laws_toStringS.callsU kj23 _ _ l0 t198 _ ?side1 ?side2 A50.out).mono ?_); (case side1 => repeat (first | exact (Kd.C_below HR0.out HB.out) | (with_reducible refine Kd.C_alloc ?_ _) | (with_reducible refine Kd.C_drewN ?_ _) | (with_reducible refine Kd.C_drew ?_))); (case side2 => exact HC0.out); rintro e w60 ⟨v199, rfl, ho0, hb⟩; refine ⟨_, rfl, ?_⟩; have n0_ := Aside0.mk (KdU.R_elder' (by (with_reducible repeat (first | apply KdU.R_alloc | apply KdU.R_drewN | apply KdU.R_drew)); exact HO_8.out) (KdU.R_base ho0) hb); have n1_ := Aside0.mk (KdU.R_elder' (by (with_reducible repeat (first | apply KdU.R_alloc | apply KdU.R_drewN | apply KdU.R_drew)); exact HO_11.out) (KdU.R_base ho0) hb); have n2_ := Aside0.mk (KdU.R_lower (KdU.R_new' (KdU.R_new' ho0 (KdU.R_lt (by (with_reducible repeat (first | apply KdU.R_alloc | apply KdU.R_drewN | apply KdU.R_drew)); exact HO_8.out))) (KdU.R_lt (by (with_reducible repeat (first | apply KdU.R_alloc | apply KdU.R_drewN | apply KdU.R_drew)); exact HO_11.out))) (below_size (by repeat (first | (with_reducible first | exact HB.out | apply below_alloc | apply pw_below_drewN | apply below_drew1) | exact HB.out)))); have n3_ := Aside0.mk (below_step (by repeat (first | (with_reducible first | exact HB.out | apply below_alloc | apply pw_below_drewN | apply below_drew1) | exact HB.out)) hb); clear HO_8; clear HO_11; clear HB; have HO_8 := n0_; have HO_11 := n1_; have HO200 := n2_; have HB := n3_; clear n0_ n1_ n2_ n3_; (try clear hb); (try clear hb2); (try clear hk); (try clear hi); (try clear ho0)) | ((with_reducible refine gate_callee (f := 20) rfl ?_); refine goesL_ (some 82) rfl rfl Try.func20 (by kernel_rfl) rfl #[.slice A1 l1.length c1] rfl (by (try simp only [List.map_toArray, List.map_cons, List.map_nil]); first | done | rfl | (simp only [List.length_drop, List.length_take]; rfl)) ?_; (with_reducible refine (laws_toStringS.callsU kj23 _ _ l1 t201 _ ?side1 ?side2 A51.out).mono ?_); (case side1 => repeat (first | exact (Kd.C_below HR1.out HB.out) | (with_reducible refine Kd.C_alloc ?_ _) | (with_reducible refine Kd.C_drewN ?_ _) | (with_reducible refine Kd.C_drew ?_))); (case side2 => exact HC1.out); rintro e w61 ⟨v202, rfl, ho0, hb⟩; refine ⟨_, rfl, ?_⟩; have n0_ := Aside0.mk (KdU.R_elder' (by (with_reducible repeat (first | apply KdU.R_alloc | apply KdU.R_drewN | apply KdU.R_drew)); exact HO_8.out) (KdU.R_base ho0) hb); have n1_ := Aside0.mk (KdU.R_elder' (by (with_reducible repeat (first | apply KdU.R_alloc | apply KdU.R_drewN | apply KdU.R_drew)); exact HO_11.out) (KdU.R_base ho0) hb); have n2_ := Aside0.mk (KdU.R_elder' (by (with_reducible repeat (first | apply KdU.R_alloc | apply KdU.R_drewN | apply KdU.R_drew)); exact HO200.out) (KdU.R_base ho0) hb); have n3_ := Aside0.mk (KdU.R_lower (KdU.R_new' (KdU.R_new' (KdU.R_new' ho0 (KdU.R_lt (by (with_reducible repeat (first | apply KdU.R_alloc | apply KdU.R_drewN | apply KdU.R_drew)); exact HO_8.out))) (KdU.R_lt (by (with_reducible repeat (first | apply KdU.R_alloc | apply KdU.R_drewN | apply KdU.R_drew)); exact HO_11.out))) (KdU.R_lt (by (with_reducible repeat (first | apply KdU.R_alloc | apply KdU.R_drewN | apply KdU.R_drew)); exact HO200.out))) (below_size (by repeat (first | (with_reducible first | exact HB.out | apply below_alloc | apply pw_below_drewN | apply below_drew1) | exact HB.out)))); have n4_ := Aside0.mk (below_step (by repeat (first | (with_reducible first | exact HB.out | apply below_alloc | apply pw_below_drewN | apply below_drew1) | exact HB.out)) hb); clear HO_8; clear HO_11; clear HO200; clear HB; have HO_8 := n0_; have HO_11 := n1_; have HO200 := n2_; have HO203 := n3_; have HB := n4_; clear n0_ n1_ n2_ n3_ n4_; (try clear hb); (try clear hb2); (try clear hk); (try clear hi); (try clear ho0); obtain ⟨Ao62, co62, eo62⟩ := KdU.R_slice HO200.out; subst eo62; obtain ⟨Ao63, co63, eo63⟩ := KdU.R_slice HO203.out; subst eo63) | ((with_reducible refine gate_callee (f := 34) rfl ?_); refine goesL_ (some 84) rfl rfl Try.func34 (by kernel_rfl) rfl #[.slice Ao62 t198.length co62, .slice Ao63 t201.length co63, .int .i64 a2] rfl (by (try simp only [List.map_toArray, List.map_cons, List.map_nil]); first | done | rfl | (simp only [List.length_drop, List.length_take]; rfl)) ?_; (with_reducible refine (impl_HeavyStep.calls kj23 _ _ t198 _ _ t201 a2 t204 _ ?side1 ?side2 ?side3 ?side4 A52.out).mono ?_); (case side1 => repeat (first | exact (KdU.R_reads' HO200.out).2.2 | (with_reducible refine Kd.C_alloc ?_ _) | (with_reducible refine Kd.C_drewN ?_ _) | (with_reducible refine Kd.C_drew ?_))); (case side2 => exact (KdU.R_reads' HO200.out).2.1); (case side3 => repeat (first | exact (KdU.R_reads' HO203.out).2.2 | (with_reducible refine Kd.C_alloc ?_ _) | (with_reducible refine Kd.C_drewN ?_ _) | (with_reducible refine Kd.C_drew ?_))); (case side4 => exact (KdU.R_reads' HO203.out).2.1); rintro e w64 ⟨v205, rfl, ho0, hb⟩; refine ⟨_, rfl, ?_⟩; have n0_ := Aside0.mk (KdU.R_elder' (by (with_reducible repeat (first | apply KdU.R_alloc | apply KdU.R_drewN | apply KdU.R_drew)); exact HO_8.out) (KdU.R_base ho0) hb); have n1_ := Aside0.mk (KdU.R_elder' (by (with_reducible repeat (first | apply KdU.R_alloc | apply KdU.R_drewN | apply KdU.R_drew)); exact HO_11.out) (KdU.R_base ho0) hb); have n2_ := Aside0.mk (KdU.R_elder' (by (with_reducible repeat (first | apply KdU.R_alloc | apply KdU.R_drewN | apply KdU.R_drew)); exact HO200.out) (KdU.R_base ho0) hb); have n3_ := Aside0.mk (KdU.R_elder' (by (with_reducible repeat (first | apply KdU.R_alloc | apply KdU.R_drewN | apply KdU.R_drew)); exact HO203.out) (KdU.R_base ho0) hb); have n4_ := Aside0.mk (KdU.R_lower (KdU.R_new' (KdU.R_new' (KdU.R_new' (KdU.R_new' ho0 (KdU.R_lt (by (with_reducible repeat (first | apply KdU.R_alloc | apply KdU.R_drewN | apply KdU.R_drew)); exact HO_8.out))) (KdU.R_lt (by (with_reducible repeat (first | apply KdU.R_alloc | apply KdU.R_drewN | apply KdU.R_drew)); exact HO_11.out))) (KdU.R_lt (by (with_reducible repeat (first | apply KdU.R_alloc | apply KdU.R_drewN | apply KdU.R_drew)); exact HO200.out))) (KdU.R_lt (by (with_reducible repeat (first | apply KdU.R_alloc | apply KdU.R_drewN | apply KdU.R_drew)); exact HO203.out))) (below_size (by repeat (first | (with_reducible first | exact HB.out | apply below_alloc | apply pw_below_drewN | apply below_drew1) | exact HB.out)))); have n5_ := Aside0.mk (below_step (by repeat (first | (with_reducible first | exact HB.out | apply below_alloc | apply pw_below_drewN | apply below_drew1) | exact HB.out)) hb); clear HO_8; clear HO_11; clear HO200; clear HO203; clear HB; have HO_8 := n0_; have HO_11 := n1_; have HO200 := n2_; have HO203 := n3_; have HO206 := n4_; have HB := n5_; clear n0_ n1_ n2_ n3_ n4_ n5_; (try clear hb); (try clear hb2); (try clear hk); (try clear hi); (try clear ho0); obtain ⟨Ao65, co65, eo65⟩ := KdU.R_slice HO206.out; subst eo65) | ((with_reducible refine gate_callee (f := 22) rfl ?_); refine goesL_ (some 87) rfl rfl Try.func22 (by kernel_rfl) rfl #[.slice Ao65 t204.length co65, .slice Ao36 t169.length co36] rfl (by (try simp only [List.map_toArray, List.map_cons, List.map_nil]); first | done | rfl | (simp only [List.length_drop, List.length_take]; rfl)) ?_; (with_reducible refine (laws_eqStringS.calls kj23 _ _ t204 _ _ t169 true _ ?side1 ?side2 ?side3 ?side4 A53.out).mono ?_); (case side1 => repeat (first | exact (KdU.R_reads' HO206.out).2.2 | (with_reducible refine Kd.C_alloc ?_ _) | (with_reducible refine Kd.C_drewN ?_ _) | (with_reducible refine Kd.C_drew ?_))); (case side2 => exact (KdU.R_reads' HO206.out).2.1); (case side3 => repeat (first | exact (KdU.R_reads' HO_8.out).2.2 | (with_reducible refine Kd.C_alloc ?_ _) | (with_reducible refine Kd.C_drewN ?_ _) | (with_reducible refine Kd.C_drew ?_))); (case side4 => exact (KdU.R_reads' HO_8.out).2.1); rintro e w' ⟨rfl, ⟨nd, rfl⟩⟩; refine ⟨_, rfl, ?_⟩) | ((with_reducible refine gate_callee (f := 29) rfl ?_); refine goesL_ (some 91) rfl rfl Try.func29 (by kernel_rfl) rfl #[.slice Ao35 t196.length co35, .int .i64 1] rfl (by (try simp only [List.map_toArray, List.map_cons, List.map_nil]); first | done | (rw [show t196.length = t178.length from (KdU.R_reads' HO_11.out).1.symm] <;> rfl) | rfl | (simp only [List.length_drop, List.length_take]; rfl)) ?_; (with_reducible refine (laws_heldStringS.calls kj23 _ _ t196 1 t208 _ ?side1 ?side2 A55.out).mono ?_); (case side1 => repeat (first | exact (KdU.R_reads' HO_11.out).2.2 | (with_reducible refine Kd.C_alloc ?_ _) | (with_reducible refine Kd.C_drewN ?_ _) | (with_reducible refine Kd.C_drew ?_))); (case side2 => rw [show t196.length = t178.length from (KdU.R_reads' HO_11.out).1.symm]; exact (KdU.R_reads' HO_11.out).2.1); rintro e w66 ⟨rfl, hb⟩; refine ⟨_, rfl, ?_⟩; have n0_ := Aside0.mk (KdU.R_below (by (with_reducible repeat (first | apply KdU.R_alloc | apply KdU.R_drewN | apply KdU.R_drew)); exact HO_8.out) hb); have n1_ := Aside0.mk (KdU.R_below (by (with_reducible repeat (first | apply KdU.R_alloc | apply KdU.R_drewN | apply KdU.R_drew)); exact HO_11.out) hb); have n2_ := Aside0.mk (KdU.R_below (by (with_reducible repeat (first | apply KdU.R_alloc | apply KdU.R_drewN | apply KdU.R_drew)); exact HO200.out) hb); have n3_ := Aside0.mk (KdU.R_below (by (with_reducible repeat (first | apply KdU.R_alloc | apply KdU.R_drewN | apply KdU.R_drew)); exact HO203.out) hb); have n4_ := Aside0.mk (KdU.R_below (by (with_reducible repeat (first | apply KdU.R_alloc | apply KdU.R_drewN | apply KdU.R_drew)); exact HO206.out) hb); have n5_ := Aside0.mk (below_step (by repeat (first | (with_reducible first | exact HB.out | apply below_alloc | apply pw_below_drewN | apply below_drew1) | exact HB.out)) hb); clear HO_8; clear HO_11; clear HO200; clear HO203; clear HO206; clear HB; have HO_8 := n0_; have HO_11 := n1_; have HO200 := n2_; have HO203 := n3_; have HO206 := n4_; have HB := n5_; clear n0_ n1_ n2_ n3_ n4_ n5_; (try clear hb); (try clear hb2); (try clear hk); (try clear hi)))
                            go_ret
                            exact ⟨by first | rfl | (simp [errW_none, errW_some] <;> rfl) | (simp [*, errW_none, errW_some] <;> rfl), by repeat (first | (with_reducible first | exact HB.out | apply below_alloc | apply pw_below_drewN | apply below_drew1) | exact HB.out)⟩
                          · rw [if_neg c57] at H
                            have c57b0 : (t208 == t195) = false := beq_eq_false_iff_ne.mpr c57
                            have c57b1 : (t208 != t195) = true := bne_iff_ne.mpr c57
                            exact absurd (Option.some.inj (H.trans (congrArg some HRT.out))) (by decide)
                      · replace c54 := Bool.eq_false_iff.mpr c54
                        subst c54
                        have H1 : (some false) = some r := by rw [if_neg (show ¬ (false = true) by decide)] at H; exact H
                        clear H
                        have H := H1
                        clear H1
                        exact absurd (Option.some.inj (H.trans (congrArg some HRT.out))) (by decide)
                    · rw [if_neg c49] at H
                      have c49b0 : (t197 == t195) = false := beq_eq_false_iff_ne.mpr c49
                      have c49b1 : (t197 != t195) = true := bne_iff_ne.mpr c49
                      exact absurd (Option.some.inj (H.trans (congrArg some HRT.out))) (by decide)
          · replace c21 := Bool.eq_false_iff.mpr c21
            subst c21
            have H1 : (some false) = some r := by rw [if_neg (show ¬ (false = true) by decide)] at H; exact H
            clear H
            have H := H1
            clear H1
            exact absurd (Option.some.inj (H.trans (congrArg some HRT.out))) (by decide)
        · replace c18 := Bool.eq_false_iff.mpr c18
          subst c18
          have H1 : (some false) = some r := by rw [if_neg (show ¬ (false = true) by decide)] at H; exact H
          clear H
          have H := H1
          clear H1
          exact absurd (Option.some.inj (H.trans (congrArg some HRT.out))) (by decide)
      · replace c15 := Bool.eq_false_iff.mpr c15
        subst c15
        have H1 : (some false) = some r := by rw [if_neg (show ¬ (false = true) by decide)] at H; exact H
        clear H
        have H := H1
        clear H1
        exact absurd (Option.some.inj (H.trans (congrArg some HRT.out))) (by decide)

end Go.Proofs.Ytdjenclegglmfaa.PFnExactHeavyStep
