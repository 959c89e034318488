-- Written by a program of this session over the kit's printer, with contracts proved by hand; Lean checks it.
import Derived.Test.YtdjenclegglmfaaPFnExactHeavyAllx0
import Derived.Test.YtdjenclegglmfaaPFnExactHeavyAllx1
import Derived.Test.YtdjenclegglmfaaPFnExactHeavyAllx4
import Derived.Test.YtdjenclegglmfaaPFnExactHeavyAllx5
namespace Go.Proofs.Ytdjenclegglmfaa.PFnExactHeavyAll
open Go.RowKit Go.Proofs.YtdjenclegglmfaaW.PrintWords Go.Proofs.YtdjenclegglmfaaW.PrintLast Go.Proofs.YtdjenclegglmfaaW.PrintMore
attribute [local go_sem] max2_int min2_int max_two min_two max_three min_three max_four min_four   -- for this text's walks alone
set_option linter.unusedVariables false
set_option linter.unusedSimpArgs false

/-! ### spec_HeavyAll: function 38 -/
mutual
def spec_HeavyAll.j0 : Nat → List ByteArray → Int → Bool → Option (List ByteArray)
  | 0, _, _, _ => none
  | k + 1, x0, x1, x13 => if x13 = true then (some (([] : List ByteArray))) else (spec_HeavyAll.l0 k x0 x1 (([(⟨#[]⟩ : ByteArray)] : List ByteArray)) 0)
def spec_HeavyAll.l0 : Nat → List ByteArray → Int → List ByteArray → Int → Option (List ByteArray)
  | 0, _, _, _, _ => none
  | k + 1, x0, x1, x5, x6 => if x6 < 3 then ((spec_HeavyStep.f k x0 x5 x1).bind fun t175 => (spec_HeavyAll.l0 k x0 x1 t175 (wrap64 (x6 + 1)))) else (some x5)
end
def spec_HeavyAll.f (k : Nat) (l0 : List ByteArray) (a1 : Int) : Option (List ByteArray) := (spec_WordsOk.f k l0).bind fun t168 => (if t168 = true then (spec_HeavyAll.j0 k l0 a1 (decide (a1 < 1))) else (spec_HeavyAll.j0 k l0 a1 true))
theorem spec_HeavyAll.mono_l : ∀ k, (∀ y0 y1 y2, LeO (spec_HeavyAll.j0 k y0 y1 y2) (spec_HeavyAll.j0 (k + 1) y0 y1 y2)) ∧ (∀ y0 y1 y2 y3, LeO (spec_HeavyAll.l0 k y0 y1 y2 y3) (spec_HeavyAll.l0 (k + 1) y0 y1 y2 y3))
  | 0 => ⟨fun _ _ _ r h => by simp [spec_HeavyAll.j0] at h, fun _ _ _ _ r h => by simp [spec_HeavyAll.l0] at h⟩
  | k + 1 => by
    obtain ⟨ih0, ih1⟩ := spec_HeavyAll.mono_l k
    refine ⟨?_, ?_⟩
    · intro y0 y1 y2
      unfold spec_HeavyAll.j0
      repeat' first
      | (with_reducible exact ih0 _ _ _)
      | (with_reducible exact ih1 _ _ _ _)
      | (with_reducible exact spec_HeavyStep.mono _ _ _ _)
      | (with_reducible exact spec_WordsOk.mono _ _)
      | (with_reducible exact LeO.refl _)
      | (with_reducible exact LeO.none _)
      | (with_reducible refine LeO.ite ?_ ?_)
      | (with_reducible refine LeO.bind ?_ (fun _ => ?_))
      | exact ih0 _ _ _
      | exact ih1 _ _ _ _
      | exact spec_HeavyStep.mono _ _ _ _
      | exact spec_WordsOk.mono _ _
      | exact LeO.none _
      | refine LeO.ite ?_ ?_
      | refine LeO.bind ?_ (fun _ => ?_)
    · intro y0 y1 y2 y3
      unfold spec_HeavyAll.l0
      repeat' first
      | (with_reducible exact ih0 _ _ _)
      | (with_reducible exact ih1 _ _ _ _)
      | (with_reducible exact spec_HeavyStep.mono _ _ _ _)
      | (with_reducible exact spec_WordsOk.mono _ _)
      | (with_reducible exact LeO.refl _)
      | (with_reducible exact LeO.none _)
      | (with_reducible refine LeO.ite ?_ ?_)
      | (with_reducible refine LeO.bind ?_ (fun _ => ?_))
      | exact ih0 _ _ _
      | exact ih1 _ _ _ _
      | exact spec_HeavyStep.mono _ _ _ _
      | exact spec_WordsOk.mono _ _
      | exact LeO.none _
      | refine LeO.ite ?_ ?_
      | refine LeO.bind ?_ (fun _ => ?_)
theorem spec_HeavyAll.mono : ∀ a0 a1 k, LeO (spec_HeavyAll.f k a0 a1) (spec_HeavyAll.f (k + 1) a0 a1) := by
  intro a0 a1 k
  obtain ⟨ih0, ih1⟩ := spec_HeavyAll.mono_l k
  unfold spec_HeavyAll.f
  repeat' first
      | (with_reducible exact ih0 _ _ _)
      | (with_reducible exact ih1 _ _ _ _)
      | (with_reducible exact spec_HeavyStep.mono _ _ _ _)
      | (with_reducible exact spec_WordsOk.mono _ _)
      | (with_reducible exact LeO.refl _)
      | (with_reducible exact LeO.none _)
      | (with_reducible refine LeO.ite ?_ ?_)
      | (with_reducible refine LeO.bind ?_ (fun _ => ?_))
      | exact ih0 _ _ _
      | exact ih1 _ _ _ _
      | exact spec_HeavyStep.mono _ _ _ _
      | exact spec_WordsOk.mono _ _
      | exact LeO.none _
      | refine LeO.ite ?_ ?_
      | refine LeO.bind ?_ (fun _ => ?_)
set_option maxHeartbeats 8000000 in
set_option maxRecDepth 100000 in
theorem spec_HeavyAll.calls (k : Nat) (A0 : Option Addr) (c0 : Nat) (l0 : List ByteArray) (a1 : Int) (r : List ByteArray) (w : World) (hr0 : Kd.C Kd.string w A0 l0.length l0) (hc0 : l0.length ≤ c0) (h : spec_HeavyAll.f k l0 a1 = some r) :
    Calls Try.prog 38 #[.slice A0 l0.length c0, .int .i64 a1] w fun e w' => ∃ v0_ : Value, e = .returned (v0_) ∧ Kd.R Kd.string 9 w' w.heap.size (fun _ => True) v0_ r ∧ Below w.heap.size w w' := by
  have HR0 := Aside0.mk hr0
  have HC0 := Aside0.mk hc0
  clear hr0 hc0
  have HB := Aside0.mk (Below.refl w.heap.size w)
  have H : ((spec_WordsOk.f k l0).bind fun t168 => (if t168 = true then (spec_HeavyAll.j0 k l0 a1 (decide (a1 < 1))) else (spec_HeavyAll.j0 k l0 a1 true))) = some r := h
  clear h
  have HC3 := Aside0.mk H
  clear H
  go_enter Try.func38, Try.ntmps38
  go_upto_region 1 with (fail)
  go_cut [13] (fun v13 wc => ∃ (kq : Nat) (x13_2 : Bool), v13 = .bool x13_2 ∧ Aside0 (spec_HeavyAll.j0 kq l0 a1 x13_2 = some r) ∧ Aside0 (kq ≤ k) ∧ Aside0 (Below w.heap.size w wc))
  case first =>
    have H := HC3.out
    clear HC3
    replace H := Option.bind_eq_some_iff.mp H
    obtain ⟨t168, A40, H⟩ := H
    replace H : (if t168 = true then (spec_HeavyAll.j0 k l0 a1 (decide (a1 < 1))) else (spec_HeavyAll.j0 k l0 a1 true)) = some r := H
    have A4 := Aside0.mk A40
    clear A40
    by_cases c5 : t168 = true
    · subst c5
      have H1 : (spec_HeavyAll.j0 k l0 a1 (decide (a1 < 1))) = some r := by rw [if_pos rfl] at H; exact H
      clear H
      have H := H1
      clear H1
      have H' := Aside0.mk H
      clear H
      go_wp2_with (first | ((with_reducible refine gate_callee (f := 19) rfl ?_); refine goesL_ (some 8) rfl rfl Try.func19 (by kernel_rfl) rfl #[.slice A0 l0.length c0] rfl (by (try simp only [List.map_toArray, List.map_cons, List.map_nil]); first | done | rfl | (simp only [List.length_drop, List.length_take]; rfl)) ?_; (with_reducible refine (spec_WordsOk.calls k _ _ l0 true _ ?side1 ?side2 A4.out).mono ?_); (case side1 => repeat (first | exact (Kd.C_below HR0.out HB.out) | (with_reducible refine Kd.C_alloc ?_ _) | (with_reducible refine Kd.C_drewN ?_ _) | (with_reducible refine Kd.C_drew ?_))); (case side2 => exact HC0.out); rintro e w' ⟨rfl, ⟨nd, rfl⟩⟩; refine ⟨_, rfl, ?_⟩))
      go_meet
      case rel => exact ⟨_, (decide (a1 < 1)), (by first | rfl | (simp; done) | (simp [*]; done)), H', ⟨by first | omega | exact Nat.le_refl _⟩, ⟨by repeat (first | (with_reducible first | exact HB.out | apply below_alloc | apply pw_below_drewN | apply below_drew1) | exact HB.out)⟩⟩
    · replace c5 := Bool.eq_false_iff.mpr c5
      subst c5
      have H1 : (spec_HeavyAll.j0 k l0 a1 true) = some r := by rw [if_neg (show ¬ (false = true) by decide)] at H; exact H
      clear H
      have H := H1
      clear H1
      have H' := Aside0.mk H
      clear H
      go_wp2_with (first | ((with_reducible refine gate_callee (f := 19) rfl ?_); refine goesL_ (some 8) rfl rfl Try.func19 (by kernel_rfl) rfl #[.slice A0 l0.length c0] rfl (by (try simp only [List.map_toArray, List.map_cons, List.map_nil]); first | done | rfl | (simp only [List.length_drop, List.length_take]; rfl)) ?_; (with_reducible refine (spec_WordsOk.calls k _ _ l0 false _ ?side1 ?side2 A4.out).mono ?_); (case side1 => repeat (first | exact (Kd.C_below HR0.out HB.out) | (with_reducible refine Kd.C_alloc ?_ _) | (with_reducible refine Kd.C_drewN ?_ _) | (with_reducible refine Kd.C_drew ?_))); (case side2 => exact HC0.out); rintro e w' ⟨rfl, ⟨nd, rfl⟩⟩; refine ⟨_, rfl, ?_⟩))
      go_meet
      case rel => exact ⟨_, (true), (by first | rfl | (simp; done) | (simp [*]; done)), H', ⟨by first | omega | exact Nat.le_refl _⟩, ⟨by repeat (first | (with_reducible first | exact HB.out | apply below_alloc | apply pw_below_drewN | apply below_drew1) | exact HB.out)⟩⟩
  case rest =>
    clear HC3
    try clear c1
    try clear p2
    try clear c3
    try clear c5
    obtain ⟨kq, x13_2, rfl, HA, HJ2, HB⟩ := hcut
    cases kq with
    | zero => exact absurd HA.out (by simp [spec_HeavyAll.j0])
    | succ kj2 =>
      have H := HA.out
      clear HA
      simp only [spec_HeavyAll.j0] at H
      by_cases c6 : x13_2 = true
      · subst c6
        have H1 : (some (([] : List ByteArray))) = some r := by rw [if_pos rfl] at H; exact H
        clear H
        have H := H1
        clear H1
        obtain ⟨y169, hy169⟩ : ∃ y_ : List ByteArray, y_ = (([] : List ByteArray)) := ⟨_, rfl⟩
        replace H : (some y169) = some r := by first | (rw [hy169]; with_reducible exact H) | (have H2_ := (Option.bind_some _ _).symm.trans H; rw [hy169]; with_reducible exact H2_) | (have H2_ := (Option.bind_some _ _).symm.trans H; with_reducible exact H2_) | with_reducible exact H | (rw [hy169]; exact H) | exact H
        have Ny169 := Aside0.mk hy169
        clear hy169
        obtain rfl := Option.some.inj H
        go_wp2_with (first | ((with_reducible refine gate_dst (N := 14) rfl ?_); refine Kd.R_lit Kd.string _ 9 ?hg (N := 14) ?hd (xs := ([] : List ByteArray)) (inner := []) (ok := fun _ => True) (okp := fun _ => True) ?hr ?hp (fun _ hk => hk) trivial (Below.refl _ _) (Nat.le_refl _) (by simp) ?_; (case hd => rfl); (case hg => rfl); (case hr => first | (go_simp; done) | (go_simp; rfl)); (case hp => exact (Reps.none _ _)); intro v170 w7 ho8 hb hg_ hnew_; clear hg_ hnew_; (first | rw [← Ny169.out] at ho8 | (simp only [Int.reduceToNat] at ho8; rw [← Ny169.out] at ho8)); have n0_ := Aside0.mk (Kd.R_lower ho8 (below_size (by repeat (first | (with_reducible first | exact HB.out | apply below_alloc | apply pw_below_drewN | apply below_drew1) | exact HB.out)))); have n1_ := Aside0.mk (below_step (by repeat (first | (with_reducible first | exact HB.out | apply below_alloc | apply pw_below_drewN | apply below_drew1) | exact HB.out)) hb); clear HB; have HO171 := n0_; have HB := n1_; clear n0_ n1_; clear hb ho8))
        go_ret
        exact ⟨_, by first | rfl | (simp [errW_none, errW_some] <;> rfl) | (simp [*, errW_none, errW_some] <;> rfl), by (with_reducible repeat (first | apply Kd.R_alloc | apply Kd.R_drewN | apply Kd.R_drew)); exact HO171.out, by repeat (first | (with_reducible first | exact HB.out | apply below_alloc | apply pw_below_drewN | apply below_drew1) | exact HB.out)⟩
      · replace c6 := Bool.eq_false_iff.mpr c6
        subst c6
        have H1 : (spec_HeavyAll.l0 kj2 l0 a1 (([(⟨#[]⟩ : ByteArray)] : List ByteArray)) 0) = some r := by rw [if_neg (show ¬ (false = true) by decide)] at H; exact H
        clear H
        have H := H1
        clear H1
        obtain ⟨y172, hy172⟩ : ∃ y_ : List ByteArray, y_ = (([(⟨#[]⟩ : ByteArray)] : List ByteArray)) := ⟨_, rfl⟩
        replace H : (spec_HeavyAll.l0 kj2 l0 a1 y172 0) = some r := by first | (rw [hy172]; with_reducible exact H) | (have H2_ := (Option.bind_some _ _).symm.trans H; rw [hy172]; with_reducible exact H2_) | (have H2_ := (Option.bind_some _ _).symm.trans H; with_reducible exact H2_) | with_reducible exact H | (rw [hy172]; exact H) | exact H
        have Ny172 := Aside0.mk hy172
        clear hy172
        have H' := Aside0.mk H
        clear H
        go_wp2_with (first | ((with_reducible refine gate_dst (N := 15) rfl ?_); refine Kd.R_lit Kd.string _ 9 ?hg (N := 15) ?hd (xs := ([(⟨#[]⟩ : ByteArray)] : List ByteArray)) (inner := [.string (⟨#[]⟩ : ByteArray)]) (ok := fun _ => True) (okp := fun _ => True) ?hr ?hp (fun _ hk => hk) trivial (Below.refl _ _) (Nat.le_refl _) (by simp) ?_; (case hd => rfl); (case hg => rfl); (case hr => first | (go_simp; done) | (go_simp; rfl)); (case hp => exact (Reps.one (show Kd.M Kd.string _ _ _ (⟨#[]⟩ : ByteArray) [.string (⟨#[]⟩ : ByteArray)] from rfl) (Reps.none _ _))); intro v173 w9 ho10 hb hg_ hnew_; clear hg_ hnew_; (first | rw [← Ny172.out] at ho10 | (simp only [Int.reduceToNat] at ho10; rw [← Ny172.out] at ho10)); have n0_ := Aside0.mk (Kd.R_lower ho10 (below_size (by repeat (first | (with_reducible first | exact HB.out | apply below_alloc | apply pw_below_drewN | apply below_drew1) | exact HB.out)))); have n1_ := Aside0.mk (below_step (by repeat (first | (with_reducible first | exact HB.out | apply below_alloc | apply pw_below_drewN | apply below_drew1) | exact HB.out)) hb); clear HB; have HO174 := n0_; have HB := n1_; clear n0_ n1_; clear hb ho10))
        go_loopg [5, 6] kj2 (fun kq v5 v6 w' => ∃ (x5_2 : List ByteArray) (x6_2 : Int), v6 = .int .i64 x6_2 ∧ Aside0 (spec_HeavyAll.l0 kq l0 a1 x5_2 x6_2 = some r) ∧ Aside0 (kq ≤ kj2) ∧ Aside0 (Kd.R Kd.string 9 w' w.heap.size (fun _ => True) v5 x5_2) ∧ Aside0 (Below w.heap.size w w'))
        case atStart => exact ⟨(y172), (0), (by first | rfl | (simp; done) | (simp [*]; done)), H', ⟨Nat.le_refl _⟩, ⟨by (with_reducible repeat (first | apply Kd.R_alloc | apply Kd.R_drewN | apply Kd.R_drew)); exact HO174.out⟩, ⟨by repeat (first | (with_reducible first | exact HB.out | apply below_alloc | apply pw_below_drewN | apply below_drew1) | exact HB.out)⟩⟩
        case round =>
          clear H'
          try clear c1
          try clear p2
          try clear c3
          try clear c5
          try clear c6
          try clear p2
          obtain ⟨x5_2, x6_2, rfl, HA, HK2, HO_5, HB⟩ := hrel
          cases gk with
          | zero => exact absurd HA.out (by simp [spec_HeavyAll.l0])
          | succ k2 =>
            have H := HA.out
            clear HA
            simp only [spec_HeavyAll.l0] at H
            by_cases c11 : x6_2 < 3
            · rw [if_pos c11] at H
              have c11b0 : decide (x6_2 < 3) = true := decide_eq_true c11
              clear c11
              replace H := Option.bind_eq_some_iff.mp H
              obtain ⟨t175, A120, H⟩ := H
              replace H : (spec_HeavyAll.l0 k2 l0 a1 t175 (wrap64 (x6_2 + 1))) = some r := H
              have A12 := Aside0.mk A120
              clear A120
              have H' := Aside0.mk H
              clear H
              obtain ⟨Ao13, co13, eo13⟩ := Kd.R_slice HO_5.out
              subst eo13
              go_wp2_with (first | ((with_reducible refine gate_callee (f := 35) rfl ?_); refine goesL_ (some 23) rfl rfl Try.func35 (by kernel_rfl) rfl #[.slice A0 l0.length c0, .slice Ao13 x5_2.length co13, .int .i64 a1] rfl (by (try simp only [List.map_toArray, List.map_cons, List.map_nil]); first | done | rfl | (simp only [List.length_drop, List.length_take]; rfl)) ?_; (with_reducible refine (spec_HeavyStep.calls k2 _ _ l0 _ _ x5_2 a1 t175 _ ?side1 ?side2 ?side3 ?side4 A12.out).mono ?_); (case side1 => repeat (first | exact (Kd.C_below HR0.out HB.out) | (with_reducible refine Kd.C_alloc ?_ _) | (with_reducible refine Kd.C_drewN ?_ _) | (with_reducible refine Kd.C_drew ?_))); (case side2 => exact HC0.out); (case side3 => repeat (first | exact (Kd.R_reads' HO_5.out).2.2 | (with_reducible refine Kd.C_alloc ?_ _) | (with_reducible refine Kd.C_drewN ?_ _) | (with_reducible refine Kd.C_drew ?_))); (case side4 => exact (Kd.R_reads' HO_5.out).2.1); rintro e w14 ⟨v176, rfl, ho0, hb⟩; refine ⟨_, rfl, ?_⟩; have n0_ := Aside0.mk (Kd.R_elder' (by (with_reducible repeat (first | apply Kd.R_alloc | apply Kd.R_drewN | apply Kd.R_drew)); exact HO_5.out) (Kd.R_base ho0) hb); have n1_ := Aside0.mk (Kd.R_lower (Kd.R_new' ho0 (Kd.R_lt (by (with_reducible repeat (first | apply Kd.R_alloc | apply Kd.R_drewN | apply Kd.R_drew)); exact HO_5.out))) (below_size (by repeat (first | (with_reducible first | exact HB.out | apply below_alloc | apply pw_below_drewN | apply below_drew1) | exact HB.out)))); have n2_ := Aside0.mk (below_step (by repeat (first | (with_reducible first | exact HB.out | apply below_alloc | apply pw_below_drewN | apply below_drew1) | exact HB.out)) hb); clear HO_5; clear HB; have HO_5 := n0_; have HO177 := n1_; have HB := n2_; clear n0_ n1_ n2_; (try clear hb); (try clear hb2); (try clear hk); (try clear hi); (try clear ho0)))
              go_roundg k2
              case measure => have := HJ2.out; have := HK2.out; omega
              case rel => exact ⟨(t175), (wrap64 (x6_2 + 1)), (by first | rfl | (simp; done) | (simp [*]; done)), H', ⟨by have := HJ2.out; have := HK2.out; omega⟩, ⟨by (with_reducible repeat (first | apply Kd.R_alloc | apply Kd.R_drewN | apply Kd.R_drew)); exact Kd.R_mono HO177.out (fun _ hk => trivial)⟩, ⟨by repeat (first | (with_reducible first | exact HB.out | apply below_alloc | apply pw_below_drewN | apply below_drew1) | exact HB.out)⟩⟩
            · rw [if_neg c11] at H
              have c11b0 : decide (x6_2 < 3) = false := decide_eq_false c11
              clear c11
              obtain rfl := Option.some.inj H
              go_wp2
              go_ret
              exact ⟨_, by first | rfl | (simp [errW_none, errW_some] <;> rfl) | (simp [*, errW_none, errW_some] <;> rfl), by (with_reducible repeat (first | apply Kd.R_alloc | apply Kd.R_drewN | apply Kd.R_drew)); exact HO_5.out, by repeat (first | (with_reducible first | exact HB.out | apply below_alloc | apply pw_below_drewN | apply below_drew1) | exact HB.out)⟩

/-! ### laws_FnExactHeavyAll: function 16 -/
theorem laws_toStringS.callsU (k : Nat) (A0 : Option Addr) (c0 : Nat) (l0 : List ByteArray) (r : List ByteArray) (w : World) (hr0 : Kd.C Kd.string w A0 l0.length l0) (hc0 : l0.length ≤ c0) (h : laws_toStringS.f k l0 = some r) :
    Calls Try.prog 20 #[.slice A0 l0.length c0] w fun e w' => ∃ v0_ : Value, e = .returned (v0_) ∧ KdU.R Kd.string 9 w' w.heap.size (fun _ => True) v0_ r ∧ Below w.heap.size w w' := (laws_toStringS.calls k A0 c0 l0 r w hr0 hc0 h).mono (fun e w' ⟨v0_, h1_, h2_, h3_⟩ => ⟨v0_, h1_, KdU.of_R h2_, h3_⟩)
theorem spec_HeavyAll.callsU (k : Nat) (A0 : Option Addr) (c0 : Nat) (l0 : List ByteArray) (a1 : Int) (r : List ByteArray) (w : World) (hr0 : Kd.C Kd.string w A0 l0.length l0) (hc0 : l0.length ≤ c0) (h : spec_HeavyAll.f k l0 a1 = some r) :
    Calls Try.prog 38 #[.slice A0 l0.length c0, .int .i64 a1] w fun e w' => ∃ v0_ : Value, e = .returned (v0_) ∧ KdU.R Kd.string 9 w' w.heap.size (fun _ => True) v0_ r ∧ Below w.heap.size w w' := (spec_HeavyAll.calls k A0 c0 l0 a1 r w hr0 hc0 h).mono (fun e w' ⟨v0_, h1_, h2_, h3_⟩ => ⟨v0_, h1_, KdU.of_R h2_, h3_⟩)
def laws_FnExactHeavyAll.j0 : Nat → List ByteArray → Int → List ByteArray → List ByteArray → Bool → Option (Bool)
  | 0, _, _, _, _, _ => none
  | k + 1, x0, x1, x6, x8, x46 => if x46 = true then (some false) else ((laws_markStringS.f k x8 1).bind fun bt199 => ((laws_heldStringS.f k bt199.2 1).bind fun t201 => (if t201 < 0 then (some false) else (if t201 = bt199.1 then ((laws_toStringS.f k x0).bind fun t202 => ((impl_HeavyAll.f k t202 x1).bind fun t205 => ((laws_eqStringS.f k t205 x6).bind fun t208 => (if t208 = true then ((laws_heldStringS.f k bt199.2 1).bind fun t209 => (if t209 < 0 then (some false) else (if t209 = bt199.1 then (some true) else (some false)))) else (some false))))) else (some false)))))
def laws_FnExactHeavyAll.f (k : Nat) (l0 : List ByteArray) (a1 : Int) : Option (Bool) := (laws_szStringS.f k l0 1048576).bind fun t178 => (if t178 < 0 then (some true) else ((laws_toStringS.f k l0).bind fun t179 => ((spec_HeavyAll.f k t179 a1).bind fun t182 => ((laws_toStringS.f k l0).bind fun t185 => ((impl_HeavyAll.f k t185 a1).bind fun t188 => ((laws_eqStringS.f k t188 t182).bind fun t191 => (if t191 = true then ((laws_toStringS.f k l0).bind fun t192 => ((laws_eqStringS.f k t185 t192).bind fun t195 => (if t195 = true then ((laws_markStringS.f k t185 1).bind fun bt196 => (if bt196.1 < 0 then (laws_FnExactHeavyAll.j0 k l0 a1 t182 t188 true) else ((laws_eqStringS.f k t188 t182).bind fun t198 => (laws_FnExactHeavyAll.j0 k l0 a1 t182 t188 (!t198))))) else (some false)))) else (some false))))))))
theorem laws_FnExactHeavyAll.mono_l : ∀ k, (∀ y0 y1 y2 y3 y4, LeO (laws_FnExactHeavyAll.j0 k y0 y1 y2 y3 y4) (laws_FnExactHeavyAll.j0 (k + 1) y0 y1 y2 y3 y4))
  | 0 => fun _ _ _ _ _ r h => by simp [laws_FnExactHeavyAll.j0] at h
  | k + 1 => by
    have ih0 := laws_FnExactHeavyAll.mono_l k
    · intro y0 y1 y2 y3 y4
      unfold laws_FnExactHeavyAll.j0
      repeat' first
      | (with_reducible exact ih0 _ _ _ _ _)
      | (with_reducible exact impl_HeavyAll.mono _ _ _)
      | (with_reducible exact laws_eqStringS.mono _ _ _)
      | (with_reducible exact laws_heldStringS.mono _ _ _)
      | (with_reducible exact laws_markStringS.mono _ _ _)
      | (with_reducible exact laws_szStringS.mono _ _ _)
      | (with_reducible exact laws_toStringS.mono _ _)
      | (with_reducible exact spec_HeavyAll.mono _ _ _)
      | (with_reducible exact LeO.refl _)
      | (with_reducible exact LeO.none _)
      | (with_reducible refine LeO.ite ?_ ?_)
      | (with_reducible refine LeO.bind ?_ (fun _ => ?_))
      | exact ih0 _ _ _ _ _
      | exact impl_HeavyAll.mono _ _ _
      | exact laws_eqStringS.mono _ _ _
      | exact laws_heldStringS.mono _ _ _
      | exact laws_markStringS.mono _ _ _
      | exact laws_szStringS.mono _ _ _
      | exact laws_toStringS.mono _ _
      | exact spec_HeavyAll.mono _ _ _
      | exact LeO.none _
      | refine LeO.ite ?_ ?_
      | refine LeO.bind ?_ (fun _ => ?_)
theorem laws_FnExactHeavyAll.mono : ∀ a0 a1 k, LeO (laws_FnExactHeavyAll.f k a0 a1) (laws_FnExactHeavyAll.f (k + 1) a0 a1) := by
  intro a0 a1 k
  have ih0 := laws_FnExactHeavyAll.mono_l k
  unfold laws_FnExactHeavyAll.f
  repeat' first
      | (with_reducible exact ih0 _ _ _ _ _)
      | (with_reducible exact impl_HeavyAll.mono _ _ _)
      | (with_reducible exact laws_eqStringS.mono _ _ _)
      | (with_reducible exact laws_heldStringS.mono _ _ _)
      | (with_reducible exact laws_markStringS.mono _ _ _)
      | (with_reducible exact laws_szStringS.mono _ _ _)
      | (with_reducible exact laws_toStringS.mono _ _)
      | (with_reducible exact spec_HeavyAll.mono _ _ _)
      | (with_reducible exact LeO.refl _)
      | (with_reducible exact LeO.none _)
      | (with_reducible refine LeO.ite ?_ ?_)
      | (with_reducible refine LeO.bind ?_ (fun _ => ?_))
      | exact ih0 _ _ _ _ _
      | exact impl_HeavyAll.mono _ _ _
      | exact laws_eqStringS.mono _ _ _
      | exact laws_heldStringS.mono _ _ _
      | exact laws_markStringS.mono _ _ _
      | exact laws_szStringS.mono _ _ _
      | exact laws_toStringS.mono _ _
      | exact spec_HeavyAll.mono _ _ _
      | exact LeO.none _
      | refine LeO.ite ?_ ?_
      | refine LeO.bind ?_ (fun _ => ?_)
set_option maxHeartbeats 8000000 in
set_option maxRecDepth 100000 in
theorem laws_FnExactHeavyAll.calls (k : Nat) (A0 : Option Addr) (c0 : Nat) (l0 : List ByteArray) (a1 : Int) (r : Bool) (w : World) (hr0 : Kd.C Kd.string w A0 l0.length l0) (hc0 : l0.length ≤ c0) (h : laws_FnExactHeavyAll.f k l0 a1 = some r) (hrt : r = true) :
    Calls Try.prog 16 #[.slice A0 l0.length c0, .int .i64 a1] w fun e w' => e = .returned (.bool r) ∧ Below w.heap.size w w' := by
  have HRT := Aside0.mk hrt
  clear hrt
  have HR0 := Aside0.mk hr0
  have HC0 := Aside0.mk hc0
  clear hr0 hc0
  have HB := Aside0.mk (Below.refl w.heap.size w)
  have H : ((laws_szStringS.f k l0 1048576).bind fun t178 => (if t178 < 0 then (some true) else ((laws_toStringS.f k l0).bind fun t179 => ((spec_HeavyAll.f k t179 a1).bind fun t182 => ((laws_toStringS.f k l0).bind fun t185 => ((impl_HeavyAll.f k t185 a1).bind fun t188 => ((laws_eqStringS.f k t188 t182).bind fun t191 => (if t191 = true then ((laws_toStringS.f k l0).bind fun t192 => ((laws_eqStringS.f k t185 t192).bind fun t195 => (if t195 = true then ((laws_markStringS.f k t185 1).bind fun bt196 => (if bt196.1 < 0 then (laws_FnExactHeavyAll.j0 k l0 a1 t182 t188 true) else ((laws_eqStringS.f k t188 t182).bind fun t198 => (laws_FnExactHeavyAll.j0 k l0 a1 t182 t188 (!t198))))) else (some false)))) else (some false))))))))) = some r := h
  clear h
  replace H := Option.bind_eq_some_iff.mp H
  obtain ⟨t178, A30, H⟩ := H
  replace H : (if t178 < 0 then (some true) else ((laws_toStringS.f k l0).bind fun t179 => ((spec_HeavyAll.f k t179 a1).bind fun t182 => ((laws_toStringS.f k l0).bind fun t185 => ((impl_HeavyAll.f k t185 a1).bind fun t188 => ((laws_eqStringS.f k t188 t182).bind fun t191 => (if t191 = true then ((laws_toStringS.f k l0).bind fun t192 => ((laws_eqStringS.f k t185 t192).bind fun t195 => (if t195 = true then ((laws_markStringS.f k t185 1).bind fun bt196 => (if bt196.1 < 0 then (laws_FnExactHeavyAll.j0 k l0 a1 t182 t188 true) else ((laws_eqStringS.f k t188 t182).bind fun t198 => (laws_FnExactHeavyAll.j0 k l0 a1 t182 t188 (!t198))))) else (some false)))) else (some false)))))))) = some r := H
  have A3 := Aside0.mk A30
  clear A30
  by_cases c4 : t178 < 0
  · rw [if_pos c4] at H
    have c4b0 : decide (t178 < 0) = true := decide_eq_true c4
    clear c4
    obtain rfl := Option.some.inj H
    go_enter Try.func16, Try.ntmps16
    go_wp2_with (first | ((with_reducible refine gate_callee (f := 18) rfl ?_); refine goesL_ (some 15) rfl rfl Try.func18 (by kernel_rfl) rfl #[.slice A0 l0.length c0, .int .i64 1048576] rfl (by (try simp only [List.map_toArray, List.map_cons, List.map_nil]); first | done | rfl | (simp only [List.length_drop, List.length_take]; rfl)) ?_; (with_reducible refine (laws_szStringS.calls k _ _ l0 1048576 t178 _ ?side1 ?side2 A3.out).mono ?_); (case side1 => repeat (first | exact HR0.out | (with_reducible refine Kd.C_alloc ?_ _) | (with_reducible refine Kd.C_drewN ?_ _) | (with_reducible refine Kd.C_drew ?_))); (case side2 => exact HC0.out); rintro e w' ⟨rfl, ⟨nd, rfl⟩⟩; refine ⟨_, rfl, ?_⟩))
    go_ret
    exact ⟨by first | rfl | (simp [errW_none, errW_some] <;> rfl) | (simp [*, errW_none, errW_some] <;> rfl), by repeat (first | (with_reducible first | exact HB.out | apply below_alloc | apply pw_below_drewN | apply below_drew1) | exact HB.out)⟩
  · rw [if_neg c4] at H
    have c4b0 : decide (t178 < 0) = false := decide_eq_false c4
    clear c4
    replace H := Option.bind_eq_some_iff.mp H
    obtain ⟨t179, A50, H⟩ := H
    replace H : ((spec_HeavyAll.f k t179 a1).bind fun t182 => ((laws_toStringS.f k l0).bind fun t185 => ((impl_HeavyAll.f k t185 a1).bind fun t188 => ((laws_eqStringS.f k t188 t182).bind fun t191 => (if t191 = true then ((laws_toStringS.f k l0).bind fun t192 => ((laws_eqStringS.f k t185 t192).bind fun t195 => (if t195 = true then ((laws_markStringS.f k t185 1).bind fun bt196 => (if bt196.1 < 0 then (laws_FnExactHeavyAll.j0 k l0 a1 t182 t188 true) else ((laws_eqStringS.f k t188 t182).bind fun t198 => (laws_FnExactHeavyAll.j0 k l0 a1 t182 t188 (!t198))))) else (some false)))) else (some false)))))) = some r := H
    have A5 := Aside0.mk A50
    clear A50
    replace H := Option.bind_eq_some_iff.mp H
    obtain ⟨t182, A60, H⟩ := H
    replace H : ((laws_toStringS.f k l0).bind fun t185 => ((impl_HeavyAll.f k t185 a1).bind fun t188 => ((laws_eqStringS.f k t188 t182).bind fun t191 => (if t191 = true then ((laws_toStringS.f k l0).bind fun t192 => ((laws_eqStringS.f k t185 t192).bind fun t195 => (if t195 = true then ((laws_markStringS.f k t185 1).bind fun bt196 => (if bt196.1 < 0 then (laws_FnExactHeavyAll.j0 k l0 a1 t182 t188 true) else ((laws_eqStringS.f k t188 t182).bind fun t198 => (laws_FnExactHeavyAll.j0 k l0 a1 t182 t188 (!t198))))) else (some false)))) else (some false))))) = some r := H
    have A6 := Aside0.mk A60
    clear A60
    replace H := Option.bind_eq_some_iff.mp H
    obtain ⟨t185, A70, H⟩ := H
    replace H : ((impl_HeavyAll.f k t185 a1).bind fun t188 => ((laws_eqStringS.f k t188 t182).bind fun t191 => (if t191 = true then ((laws_toStringS.f k l0).bind fun t192 => ((laws_eqStringS.f k t185 t192).bind fun t195 => (if t195 = true then ((laws_markStringS.f k t185 1).bind fun bt196 => (if bt196.1 < 0 then (laws_FnExactHeavyAll.j0 k l0 a1 t182 t188 true) else ((laws_eqStringS.f k t188 t182).bind fun t198 => (laws_FnExactHeavyAll.j0 k l0 a1 t182 t188 (!t198))))) else (some false)))) else (some false)))) = some r := H
    have A7 := Aside0.mk A70
    clear A70
    replace H := Option.bind_eq_some_iff.mp H
    obtain ⟨t188, A80, H⟩ := H
    replace H : ((laws_eqStringS.f k t188 t182).bind fun t191 => (if t191 = true then ((laws_toStringS.f k l0).bind fun t192 => ((laws_eqStringS.f k t185 t192).bind fun t195 => (if t195 = true then ((laws_markStringS.f k t185 1).bind fun bt196 => (if bt196.1 < 0 then (laws_FnExactHeavyAll.j0 k l0 a1 t182 t188 true) else ((laws_eqStringS.f k t188 t182).bind fun t198 => (laws_FnExactHeavyAll.j0 k l0 a1 t182 t188 (!t198))))) else (some false)))) else (some false))) = some r := H
    have A8 := Aside0.mk A80
    clear A80
    replace H := Option.bind_eq_some_iff.mp H
    obtain ⟨t191, A90, H⟩ := H
    replace H : (if t191 = true then ((laws_toStringS.f k l0).bind fun t192 => ((laws_eqStringS.f k t185 t192).bind fun t195 => (if t195 = true then ((laws_markStringS.f k t185 1).bind fun bt196 => (if bt196.1 < 0 then (laws_FnExactHeavyAll.j0 k l0 a1 t182 t188 true) else ((laws_eqStringS.f k t188 t182).bind fun t198 => (laws_FnExactHeavyAll.j0 k l0 a1 t182 t188 (!t198))))) else (some false)))) else (some false)) = some r := H
    have A9 := Aside0.mk A90
    clear A90
    by_cases c10 : t191 = true
    · subst c10
      have H1 : ((laws_toStringS.f k l0).bind fun t192 => ((laws_eqStringS.f k t185 t192).bind fun t195 => (if t195 = true then ((laws_markStringS.f k t185 1).bind fun bt196 => (if bt196.1 < 0 then (laws_FnExactHeavyAll.j0 k l0 a1 t182 t188 true) else ((laws_eqStringS.f k t188 t182).bind fun t198 => (laws_FnExactHeavyAll.j0 k l0 a1 t182 t188 (!t198))))) else (some false)))) = some r := by rw [if_pos rfl] at H; exact H
      clear H
      have H := H1
      clear H1
      replace H := Option.bind_eq_some_iff.mp H
      obtain ⟨t192, A110, H⟩ := H
      replace H : ((laws_eqStringS.f k t185 t192).bind fun t195 => (if t195 = true then ((laws_markStringS.f k t185 1).bind fun bt196 => (if bt196.1 < 0 then (laws_FnExactHeavyAll.j0 k l0 a1 t182 t188 true) else ((laws_eqStringS.f k t188 t182).bind fun t198 => (laws_FnExactHeavyAll.j0 k l0 a1 t182 t188 (!t198))))) else (some false))) = some r := H
      have A11 := Aside0.mk A110
      clear A110
      replace H := Option.bind_eq_some_iff.mp H
      obtain ⟨t195, A120, H⟩ := H
      replace H : (if t195 = true then ((laws_markStringS.f k t185 1).bind fun bt196 => (if bt196.1 < 0 then (laws_FnExactHeavyAll.j0 k l0 a1 t182 t188 true) else ((laws_eqStringS.f k t188 t182).bind fun t198 => (laws_FnExactHeavyAll.j0 k l0 a1 t182 t188 (!t198))))) else (some false)) = some r := H
      have A12 := Aside0.mk A120
      clear A120
      by_cases c13 : t195 = true
      · subst c13
        have H1 : ((laws_markStringS.f k t185 1).bind fun bt196 => (if bt196.1 < 0 then (laws_FnExactHeavyAll.j0 k l0 a1 t182 t188 true) else ((laws_eqStringS.f k t188 t182).bind fun t198 => (laws_FnExactHeavyAll.j0 k l0 a1 t182 t188 (!t198))))) = some r := by rw [if_pos rfl] at H; exact H
        clear H
        have H := H1
        clear H1
        replace H := Option.bind_eq_some_iff.mp H
        obtain ⟨⟨t196, t197⟩, A140, H⟩ := H
        replace H : (if t196 < 0 then (laws_FnExactHeavyAll.j0 k l0 a1 t182 t188 true) else ((laws_eqStringS.f k t188 t182).bind fun t198 => (laws_FnExactHeavyAll.j0 k l0 a1 t182 t188 (!t198)))) = some r := H
        have A14 := Aside0.mk A140
        clear A140
        have HC15 := Aside0.mk H
        clear H
        go_enter Try.func16, Try.ntmps16
        go_upto_region 14 with (first | ((with_reducible refine gate_callee (f := 18) rfl ?_); refine goesL_ (some 15) rfl rfl Try.func18 (by kernel_rfl) rfl #[.slice A0 l0.length c0, .int .i64 1048576] rfl (by (try simp only [List.map_toArray, List.map_cons, List.map_nil]); first | done | rfl | (simp only [List.length_drop, List.length_take]; rfl)) ?_; (with_reducible refine (laws_szStringS.calls k _ _ l0 1048576 t178 _ ?side1 ?side2 A3.out).mono ?_); (case side1 => repeat (first | exact HR0.out | (with_reducible refine Kd.C_alloc ?_ _) | (with_reducible refine Kd.C_drewN ?_ _) | (with_reducible refine Kd.C_drew ?_))); (case side2 => exact HC0.out); rintro e w' ⟨rfl, ⟨nd, rfl⟩⟩; refine ⟨_, rfl, ?_⟩) | ((with_reducible refine gate_callee (f := 20) rfl ?_); refine goesL_ (some 19) rfl rfl Try.func20 (by kernel_rfl) rfl #[.slice A0 l0.length c0] rfl (by (try simp only [List.map_toArray, List.map_cons, List.map_nil]); first | done | rfl | (simp only [List.length_drop, List.length_take]; rfl)) ?_; (with_reducible refine (laws_toStringS.callsU k _ _ l0 t179 _ ?side1 ?side2 A5.out).mono ?_); (case side1 => repeat (first | exact HR0.out | (with_reducible refine Kd.C_alloc ?_ _) | (with_reducible refine Kd.C_drewN ?_ _) | (with_reducible refine Kd.C_drew ?_))); (case side2 => exact HC0.out); rintro e w16 ⟨v180, rfl, ho0, hb⟩; refine ⟨_, rfl, ?_⟩; have n0_ := Aside0.mk (KdU.R_lower ho0 (below_size (by repeat (first | (with_reducible first | exact HB.out | apply below_alloc | apply pw_below_drewN | apply below_drew1) | exact HB.out)))); have n1_ := Aside0.mk (below_step (by repeat (first | (with_reducible first | exact HB.out | apply below_alloc | apply pw_below_drewN | apply below_drew1) | exact HB.out)) hb); clear HB; have HO181 := n0_; have HB := n1_; clear n0_ n1_; (try clear hb); (try clear hb2); (try clear hk); (try clear hi); (try clear ho0); obtain ⟨Ao17, co17, eo17⟩ := KdU.R_slice HO181.out; subst eo17) | ((with_reducible refine gate_callee (f := 38) rfl ?_); refine goesL_ (some 21) rfl rfl Try.func38 (by kernel_rfl) rfl #[.slice Ao17 t179.length co17, .int .i64 a1] rfl (by (try simp only [List.map_toArray, List.map_cons, List.map_nil]); first | done | rfl | (simp only [List.length_drop, List.length_take]; rfl)) ?_; (with_reducible refine (spec_HeavyAll.callsU k _ _ t179 a1 t182 _ ?side1 ?side2 A6.out).mono ?_); (case side1 => repeat (first | exact (KdU.R_reads' HO181.out).2.2 | (with_reducible refine Kd.C_alloc ?_ _) | (with_reducible refine Kd.C_drewN ?_ _) | (with_reducible refine Kd.C_drew ?_))); (case side2 => exact (KdU.R_reads' HO181.out).2.1); rintro e w18 ⟨v183, rfl, ho0, hb⟩; refine ⟨_, rfl, ?_⟩; have n0_ := Aside0.mk (KdU.R_elder' (by (with_reducible repeat (first | apply KdU.R_alloc | apply KdU.R_drewN | apply KdU.R_drew)); exact HO181.out) (KdU.R_base ho0) hb); have n1_ := Aside0.mk (KdU.R_lower (KdU.R_new' ho0 (KdU.R_lt (by (with_reducible repeat (first | apply KdU.R_alloc | apply KdU.R_drewN | apply KdU.R_drew)); exact HO181.out))) (below_size (by repeat (first | (with_reducible first | exact HB.out | apply below_alloc | apply pw_below_drewN | apply below_drew1) | exact HB.out)))); have n2_ := Aside0.mk (below_step (by repeat (first | (with_reducible first | exact HB.out | apply below_alloc | apply pw_below_drewN | apply below_drew1) | exact HB.out)) hb); clear HO181; clear HB; have HO181 := n0_; have HO184 := n1_; have HB := n2_; clear n0_ n1_ n2_; (try clear hb); (try clear hb2); (try clear hk); (try clear hi); (try clear ho0)) | ((with_reducible refine gate_callee (f := 20) rfl ?_); refine goesL_ (some 23) rfl rfl Try.func20 (by kernel_rfl) rfl #[.slice A0 l0.length c0] rfl (by (try simp only [List.map_toArray, List.map_cons, List.map_nil]); first | done | rfl | (simp only [List.length_drop, List.length_take]; rfl)) ?_; (with_reducible refine (laws_toStringS.callsU k _ _ l0 t185 _ ?side1 ?side2 A7.out).mono ?_); (case side1 => repeat (first | exact (Kd.C_below HR0.out HB.out) | (with_reducible refine Kd.C_alloc ?_ _) | (with_reducible refine Kd.C_drewN ?_ _) | (with_reducible refine Kd.C_drew ?_))); (case side2 => exact HC0.out); rintro e w19 ⟨v186, rfl, ho0, hb⟩; refine ⟨_, rfl, ?_⟩; have n0_ := Aside0.mk (KdU.R_elder' (by (with_reducible repeat (first | apply KdU.R_alloc | apply KdU.R_drewN | apply KdU.R_drew)); exact HO181.out) (KdU.R_base ho0) hb); have n1_ := Aside0.mk (KdU.R_elder' (by (with_reducible repeat (first | apply KdU.R_alloc | apply KdU.R_drewN | apply KdU.R_drew)); exact HO184.out) (KdU.R_base ho0) hb); have n2_ := Aside0.mk (KdU.R_lower (KdU.R_new' (KdU.R_new' ho0 (KdU.R_lt (by (with_reducible repeat (first | apply KdU.R_alloc | apply KdU.R_drewN | apply KdU.R_drew)); exact HO181.out))) (KdU.R_lt (by (with_reducible repeat (first | apply KdU.R_alloc | apply KdU.R_drewN | apply KdU.R_drew)); exact HO184.out))) (below_size (by repeat (first | (with_reducible first | exact HB.out | apply below_alloc | apply pw_below_drewN | apply below_drew1) | exact HB.out)))); have n3_ := Aside0.mk (below_step (by repeat (first | (with_reducible first | exact HB.out | apply below_alloc | apply pw_below_drewN | apply below_drew1) | exact HB.out)) hb); clear HO181; clear HO184; clear HB; have HO181 := n0_; have HO184 := n1_; have HO187 := n2_; have HB := n3_; clear n0_ n1_ n2_ n3_; (try clear hb); (try clear hb2); (try clear hk); (try clear hi); (try clear ho0); obtain ⟨Ao20, co20, eo20⟩ := KdU.R_slice HO187.out; subst eo20) | ((with_reducible refine gate_callee (f := 37) rfl ?_); refine goesL_ (some 26) rfl rfl Try.func37 (by kernel_rfl) rfl #[.slice Ao20 t185.length co20, .int .i64 a1] rfl (by (try simp only [List.map_toArray, List.map_cons, List.map_nil]); first | done | rfl | (simp only [List.length_drop, List.length_take]; rfl)) ?_; (with_reducible refine (impl_HeavyAll.calls k _ _ t185 a1 t188 _ ?side1 ?side2 A8.out).mono ?_); (case side1 => repeat (first | exact (KdU.R_reads' HO187.out).2.2 | (with_reducible refine Kd.C_alloc ?_ _) | (with_reducible refine Kd.C_drewN ?_ _) | (with_reducible refine Kd.C_drew ?_))); (case side2 => exact (KdU.R_reads' HO187.out).2.1); rintro e w21 ⟨v189, rfl, ho0, hb⟩; refine ⟨_, rfl, ?_⟩; have n0_ := Aside0.mk (KdU.R_elder' (by (with_reducible repeat (first | apply KdU.R_alloc | apply KdU.R_drewN | apply KdU.R_drew)); exact HO181.out) (KdU.R_base ho0) hb); have n1_ := Aside0.mk (KdU.R_elder' (by (with_reducible repeat (first | apply KdU.R_alloc | apply KdU.R_drewN | apply KdU.R_drew)); exact HO184.out) (KdU.R_base ho0) hb); have n2_ := Aside0.mk (KdU.R_elder' (by (with_reducible repeat (first | apply KdU.R_alloc | apply KdU.R_drewN | apply KdU.R_drew)); exact HO187.out) (KdU.R_base ho0) hb); have n3_ := Aside0.mk (KdU.R_lower (KdU.R_new' (KdU.R_new' (KdU.R_new' ho0 (KdU.R_lt (by (with_reducible repeat (first | apply KdU.R_alloc | apply KdU.R_drewN | apply KdU.R_drew)); exact HO181.out))) (KdU.R_lt (by (with_reducible repeat (first | apply KdU.R_alloc | apply KdU.R_drewN | apply KdU.R_drew)); exact HO184.out))) (KdU.R_lt (by (with_reducible repeat (first | apply KdU.R_alloc | apply KdU.R_drewN | apply KdU.R_drew)); exact HO187.out))) (below_size (by repeat (first | (with_reducible first | exact HB.out | apply below_alloc | apply pw_below_drewN | apply below_drew1) | exact HB.out)))); have n4_ := Aside0.mk (below_step (by repeat (first | (with_reducible first | exact HB.out | apply below_alloc | apply pw_below_drewN | apply below_drew1) | exact HB.out)) hb); clear HO181; clear HO184; clear HO187; clear HB; have HO181 := n0_; have HO184 := n1_; have HO187 := n2_; have HO190 := n3_; have HB := n4_; clear n0_ n1_ n2_ n3_ n4_; (try clear hb); (try clear hb2); (try clear hk); (try clear hi); (try clear ho0); obtain ⟨Ao22, co22, eo22⟩ := KdU.R_slice HO190.out; subst eo22; obtain ⟨Ao23, co23, eo23⟩ := KdU.R_slice HO184.out; subst eo23) | ((with_reducible refine gate_callee (f := 22) rfl ?_); refine goesL_ (some 29) rfl rfl Try.func22 (by kernel_rfl) rfl #[.slice Ao22 t188.length co22, .slice Ao23 t182.length co23] rfl (by (try simp only [List.map_toArray, List.map_cons, List.map_nil]); first | done | rfl | (simp only [List.length_drop, List.length_take]; rfl)) ?_; (with_reducible refine (laws_eqStringS.calls k _ _ t188 _ _ t182 true _ ?side1 ?side2 ?side3 ?side4 A9.out).mono ?_); (case side1 => repeat (first | exact (KdU.R_reads' HO190.out).2.2 | (with_reducible refine Kd.C_alloc ?_ _) | (with_reducible refine Kd.C_drewN ?_ _) | (with_reducible refine Kd.C_drew ?_))); (case side2 => exact (KdU.R_reads' HO190.out).2.1); (case side3 => repeat (first | exact (KdU.R_reads' HO184.out).2.2 | (with_reducible refine Kd.C_alloc ?_ _) | (with_reducible refine Kd.C_drewN ?_ _) | (with_reducible refine Kd.C_drew ?_))); (case side4 => exact (KdU.R_reads' HO184.out).2.1); rintro e w' ⟨rfl, ⟨nd, rfl⟩⟩; refine ⟨_, rfl, ?_⟩) | ((with_reducible refine gate_callee (f := 20) rfl ?_); refine goesL_ (some 33) rfl rfl Try.func20 (by kernel_rfl) rfl #[.slice A0 l0.length c0] rfl (by (try simp only [List.map_toArray, List.map_cons, List.map_nil]); first | done | rfl | (simp only [List.length_drop, List.length_take]; rfl)) ?_; (with_reducible refine (laws_toStringS.callsU k _ _ l0 t192 _ ?side1 ?side2 A11.out).mono ?_); (case side1 => repeat (first | exact (Kd.C_below HR0.out (by repeat (first | (with_reducible first | exact HB.out | apply below_alloc | apply pw_below_drewN | apply below_drew1) | exact HB.out))) | (with_reducible refine Kd.C_alloc ?_ _) | (with_reducible refine Kd.C_drewN ?_ _) | (with_reducible refine Kd.C_drew ?_))); (case side2 => exact HC0.out); rintro e w24 ⟨v193, rfl, ho0, hb⟩; refine ⟨_, rfl, ?_⟩; have n0_ := Aside0.mk (KdU.R_elder' (by (with_reducible repeat (first | apply KdU.R_alloc | apply KdU.R_drewN | apply KdU.R_drew)); exact HO181.out) (KdU.R_base ho0) hb); have n1_ := Aside0.mk (KdU.R_elder' (by (with_reducible repeat (first | apply KdU.R_alloc | apply KdU.R_drewN | apply KdU.R_drew)); exact HO184.out) (KdU.R_base ho0) hb); have n2_ := Aside0.mk (KdU.R_elder' (by (with_reducible repeat (first | apply KdU.R_alloc | apply KdU.R_drewN | apply KdU.R_drew)); exact HO187.out) (KdU.R_base ho0) hb); have n3_ := Aside0.mk (KdU.R_elder' (by (with_reducible repeat (first | apply KdU.R_alloc | apply KdU.R_drewN | apply KdU.R_drew)); exact HO190.out) (KdU.R_base ho0) hb); have n4_ := Aside0.mk (KdU.R_lower (KdU.R_new' (KdU.R_new' (KdU.R_new' (KdU.R_new' ho0 (KdU.R_lt (by (with_reducible repeat (first | apply KdU.R_alloc | apply KdU.R_drewN | apply KdU.R_drew)); exact HO181.out))) (KdU.R_lt (by (with_reducible repeat (first | apply KdU.R_alloc | apply KdU.R_drewN | apply KdU.R_drew)); exact HO184.out))) (KdU.R_lt (by (with_reducible repeat (first | apply KdU.R_alloc | apply KdU.R_drewN | apply KdU.R_drew)); exact HO187.out))) (KdU.R_lt (by (with_reducible repeat (first | apply KdU.R_alloc | apply KdU.R_drewN | apply KdU.R_drew)); exact HO190.out))) (below_size (by repeat (first | (with_reducible first | exact HB.out | apply below_alloc | apply pw_below_drewN | apply below_drew1) | exact HB.out)))); have n5_ := Aside0.mk (below_step (by repeat (first | (with_reducible first | exact HB.out | apply below_alloc | apply pw_below_drewN | apply below_drew1) | exact HB.out)) hb); clear HO181; clear HO184; clear HO187; clear HO190; clear HB; have HO181 := n0_; have HO184 := n1_; have HO187 := n2_; have HO190 := n3_; have HO194 := n4_; have HB := n5_; clear n0_ n1_ n2_ n3_ n4_ n5_; (try clear hb); (try clear hb2); (try clear hk); (try clear hi); (try clear ho0); obtain ⟨Ao25, co25, eo25⟩ := KdU.R_slice HO194.out; subst eo25) | ((with_reducible refine gate_callee (f := 22) rfl ?_); refine goesL_ (some 34) rfl rfl Try.func22 (by kernel_rfl) rfl #[.slice Ao20 t185.length co20, .slice Ao25 t192.length co25] rfl (by (try simp only [List.map_toArray, List.map_cons, List.map_nil]); first | done | rfl | (simp only [List.length_drop, List.length_take]; rfl)) ?_; (with_reducible refine (laws_eqStringS.calls k _ _ t185 _ _ t192 true _ ?side1 ?side2 ?side3 ?side4 A12.out).mono ?_); (case side1 => repeat (first | exact (KdU.R_reads' HO187.out).2.2 | (with_reducible refine Kd.C_alloc ?_ _) | (with_reducible refine Kd.C_drewN ?_ _) | (with_reducible refine Kd.C_drew ?_))); (case side2 => exact (KdU.R_reads' HO187.out).2.1); (case side3 => repeat (first | exact (KdU.R_reads' HO194.out).2.2 | (with_reducible refine Kd.C_alloc ?_ _) | (with_reducible refine Kd.C_drewN ?_ _) | (with_reducible refine Kd.C_drew ?_))); (case side4 => exact (KdU.R_reads' HO194.out).2.1); rintro e w' ⟨rfl, ⟨nd, rfl⟩⟩; refine ⟨_, rfl, ?_⟩) | ((with_reducible refine gate_callee (f := 28) rfl ?_); refine goesL_ (some 38) rfl rfl Try.func28 (by kernel_rfl) rfl #[.slice Ao20 t185.length co20, .int .i64 1] rfl (by (try simp only [List.map_toArray, List.map_cons, List.map_nil]); first | done | rfl | (simp only [List.length_drop, List.length_take]; rfl)) ?_; (with_reducible refine (laws_markStringS.calls k (fun k_ => some k_ = (.slice Ao20 t185.length co20 : Value).ownBlock) (.slice Ao20 t185.length co20) t185 1 t196 t197 w _ ?side1 ?side2 A14.out).mono ?_); (case side1 => repeat (first | (with_reducible first | exact HB.out | apply below_alloc | apply pw_below_drewN | apply below_drew1) | exact HB.out)); (case side2 => exact KdU.R_tight rfl HO187.out); rintro e w26 ⟨rfl, hy0, hb, hkp⟩; refine ⟨_, rfl, ?_⟩; have n0_ := Aside0.mk (KdU.R_mono (ok' := fun k_ => some k_ ≠ (.slice Ao23 t182.length co23 : Value).ownBlock ∧ some k_ ≠ (.slice Ao20 t185.length co20 : Value).ownBlock ∧ some k_ ≠ (.slice Ao22 t188.length co22 : Value).ownBlock ∧ some k_ ≠ (.slice Ao25 t192.length co25 : Value).ownBlock) (KdU.R_keptB (HO181.out) hkp (fun k_ hk_ hs_ => (hk_.1.1.2) hs_)) (fun k_ hk_ => ⟨hk_.1.1.1.1.2, hk_.1.1.1.2, hk_.1.1.2, hk_.1.2⟩)); have n1_ := Aside0.mk (KdU.R_mono (ok' := fun k_ => some k_ ≠ (.slice Ao17 t179.length co17 : Value).ownBlock ∧ some k_ ≠ (.slice Ao20 t185.length co20 : Value).ownBlock ∧ some k_ ≠ (.slice Ao22 t188.length co22 : Value).ownBlock ∧ some k_ ≠ (.slice Ao25 t192.length co25 : Value).ownBlock) (KdU.R_keptB (HO184.out) hkp (fun k_ hk_ hs_ => (hk_.1.1.2) hs_)) (fun k_ hk_ => ⟨hk_.1.1.1.1.2, hk_.1.1.1.2, hk_.1.1.2, hk_.1.2⟩)); have n2_ := Aside0.mk (KdU.R_reok rfl hy0 (fun k_ e_ => HO187.out.1 k_ e_)); have n3_ := Aside0.mk (KdU.R_mono (ok' := fun k_ => some k_ ≠ (.slice Ao17 t179.length co17 : Value).ownBlock ∧ some k_ ≠ (.slice Ao23 t182.length co23 : Value).ownBlock ∧ some k_ ≠ (.slice Ao20 t185.length co20 : Value).ownBlock ∧ some k_ ≠ (.slice Ao25 t192.length co25 : Value).ownBlock) (KdU.R_keptB (HO190.out) hkp (fun k_ hk_ hs_ => (hk_.1.2) hs_)) (fun k_ hk_ => ⟨hk_.1.1.1.1.2, hk_.1.1.1.2, hk_.1.1.2, hk_.1.2⟩)); have n4_ := Aside0.mk (KdU.R_mono (ok' := fun k_ => some k_ ≠ (.slice Ao17 t179.length co17 : Value).ownBlock ∧ some k_ ≠ (.slice Ao23 t182.length co23 : Value).ownBlock ∧ some k_ ≠ (.slice Ao20 t185.length co20 : Value).ownBlock ∧ some k_ ≠ (.slice Ao22 t188.length co22 : Value).ownBlock) (KdU.R_keptB (HO194.out) hkp (fun k_ hk_ hs_ => (hk_.1.2) hs_)) (fun k_ hk_ => ⟨hk_.1.1.1.1.2, hk_.1.1.1.2, hk_.1.1.2, hk_.1.2⟩)); have n5_ := Aside0.mk (hb); clear HO181; clear HO184; clear HO187; clear HO190; clear HO194; clear HB; have HO181 := n0_; have HO184 := n1_; have HO187 := n2_; have HO190 := n3_; have HO194 := n4_; have HB := n5_; clear n0_ n1_ n2_ n3_ n4_ n5_; (try clear hb); (try clear hkp); (try clear hy0)))
        (try simp only [Act.put, List.setIfInBounds_toArray, List.set_cons_zero, List.set_cons_succ])
        go_cut [46] (fun v46 wc => ∃ (kq : Nat) (x46_14 : Bool), v46 = .bool x46_14 ∧ Aside0 (laws_FnExactHeavyAll.j0 kq l0 a1 t182 t188 x46_14 = some r) ∧ Aside0 (kq ≤ k) ∧ Aside0 (KdU.R Kd.string 9 wc w.heap.size (fun k_ => some k_ ≠ ((.slice Ao22 t188.length co22) : Value).ownBlock) (.slice Ao23 t182.length co23) t182) ∧ Aside0 (KdU.R Kd.string 9 wc w.heap.size (fun k_ => some k_ ≠ ((.slice Ao23 t182.length co23) : Value).ownBlock) (.slice Ao22 t188.length co22) t188) ∧ Aside0 (Below w.heap.size w wc))
        case first =>
          have H := HC15.out
          clear HC15
          by_cases c27 : t196 < 0
          · rw [if_pos c27] at H
            have c27b0 : decide (t196 < 0) = true := decide_eq_true c27
            clear c27
            (first | rw [c27b0] | (simp only [i64_w, i32_w]; rw [c27b0]) | skip)
            have H' := Aside0.mk H
            clear H
            go_wp2
            go_meet
            case rel => exact ⟨_, (true), (by first | rfl | (simp; done) | (simp [*]; done)), H', ⟨by first | omega | exact Nat.le_refl _⟩, ⟨by (with_reducible repeat (first | apply KdU.R_alloc | apply KdU.R_drewN | apply KdU.R_drew)); exact KdU.R_mono HO184.out (fun _ hk => hk.2.2.1)⟩, ⟨by (with_reducible repeat (first | apply KdU.R_alloc | apply KdU.R_drewN | apply KdU.R_drew)); exact KdU.R_mono HO190.out (fun _ hk => hk.2.1)⟩, ⟨by repeat (first | (with_reducible first | exact HB.out | apply below_alloc | apply pw_below_drewN | apply below_drew1) | exact HB.out)⟩⟩
          · rw [if_neg c27] at H
            have c27b0 : decide (t196 < 0) = false := decide_eq_false c27
            clear c27
            (first | rw [c27b0] | (simp only [i64_w, i32_w]; rw [c27b0]) | skip)
            replace H := Option.bind_eq_some_iff.mp H
            obtain ⟨t198, A280, H⟩ := H
            replace H : (laws_FnExactHeavyAll.j0 k l0 a1 t182 t188 (!t198)) = some r := H
            have A28 := Aside0.mk A280
            clear A280
            have H' := Aside0.mk H
            clear H
            go_wp2_with (first | (go_at_call 22; (with_reducible refine (laws_eqStringS.calls k _ _ t188 _ _ t182 t198 _ ?side1 ?side2 ?side3 ?side4 A28.out).mono ?_); (case side1 => repeat (first | exact (KdU.R_reads' HO190.out).2.2 | (with_reducible refine Kd.C_alloc ?_ _) | (with_reducible refine Kd.C_drewN ?_ _) | (with_reducible refine Kd.C_drew ?_))); (case side2 => exact (KdU.R_reads' HO190.out).2.1); (case side3 => repeat (first | exact (KdU.R_reads' HO184.out).2.2 | (with_reducible refine Kd.C_alloc ?_ _) | (with_reducible refine Kd.C_drewN ?_ _) | (with_reducible refine Kd.C_drew ?_))); (case side4 => exact (KdU.R_reads' HO184.out).2.1); rintro e w' ⟨rfl, ⟨nd, rfl⟩⟩))
            go_meet
            case rel => exact ⟨_, (!t198), (by first | rfl | (simp; done) | (simp [*]; done)), H', ⟨by first | omega | exact Nat.le_refl _⟩, ⟨by (with_reducible repeat (first | apply KdU.R_alloc | apply KdU.R_drewN | apply KdU.R_drew)); exact KdU.R_mono HO184.out (fun _ hk => hk.2.2.1)⟩, ⟨by (with_reducible repeat (first | apply KdU.R_alloc | apply KdU.R_drewN | apply KdU.R_drew)); exact KdU.R_mono HO190.out (fun _ hk => hk.2.1)⟩, ⟨by repeat (first | (with_reducible first | exact HB.out | apply below_alloc | apply pw_below_drewN | apply below_drew1) | exact HB.out)⟩⟩
        case rest =>
          clear HC15
          try clear c1
          try clear c2
          try clear p2
          try clear c3
          try clear c4
          try clear c4b0
          try clear c10
          try clear c13
          try clear c16
          try clear c18
          try clear c20
          try clear c22
          try clear c27
          try clear c27b0
          try clear c28
          obtain ⟨kq, x46_14, rfl, HA, HJ14, HO_6, HO_8, HB⟩ := hcut
          cases kq with
          | zero => exact absurd HA.out (by simp [laws_FnExactHeavyAll.j0])
          | succ kj14 =>
            have H := HA.out
            clear HA
            simp only [laws_FnExactHeavyAll.j0] at H
            by_cases c29 : x46_14 = true
            · subst c29
              have H1 : (some false) = some r := by rw [if_pos rfl] at H; exact H
              clear H
              have H := H1
              clear H1
              exact absurd (Option.some.inj (H.trans (congrArg some HRT.out))) (by decide)
            · replace c29 := Bool.eq_false_iff.mpr c29
              subst c29
              have H1 : ((laws_markStringS.f kj14 t188 1).bind fun bt199 => ((laws_heldStringS.f kj14 bt199.2 1).bind fun t201 => (if t201 < 0 then (some false) else (if t201 = bt199.1 then ((laws_toStringS.f kj14 l0).bind fun t202 => ((impl_HeavyAll.f kj14 t202 a1).bind fun t205 => ((laws_eqStringS.f kj14 t205 t182).bind fun t208 => (if t208 = true then ((laws_heldStringS.f kj14 bt199.2 1).bind fun t209 => (if t209 < 0 then (some false) else (if t209 = bt199.1 then (some true) else (some false)))) else (some false))))) else (some false))))) = some r := by rw [if_neg (show ¬ (false = true) by decide)] at H; exact H
              clear H
              have H := H1
              clear H1
              replace H := Option.bind_eq_some_iff.mp H
              obtain ⟨⟨t199, t200⟩, A300, H⟩ := H
              replace H : ((laws_heldStringS.f kj14 t200 1).bind fun t201 => (if t201 < 0 then (some false) else (if t201 = t199 then ((laws_toStringS.f kj14 l0).bind fun t202 => ((impl_HeavyAll.f kj14 t202 a1).bind fun t205 => ((laws_eqStringS.f kj14 t205 t182).bind fun t208 => (if t208 = true then ((laws_heldStringS.f kj14 t200 1).bind fun t209 => (if t209 < 0 then (some false) else (if t209 = t199 then (some true) else (some false)))) else (some false))))) else (some false)))) = some r := H
              have A30 := Aside0.mk A300
              clear A300
              replace H := Option.bind_eq_some_iff.mp H
              obtain ⟨t201, A310, H⟩ := H
              replace H : (if t201 < 0 then (some false) else (if t201 = t199 then ((laws_toStringS.f kj14 l0).bind fun t202 => ((impl_HeavyAll.f kj14 t202 a1).bind fun t205 => ((laws_eqStringS.f kj14 t205 t182).bind fun t208 => (if t208 = true then ((laws_heldStringS.f kj14 t200 1).bind fun t209 => (if t209 < 0 then (some false) else (if t209 = t199 then (some true) else (some false)))) else (some false))))) else (some false))) = some r := H
              have A31 := Aside0.mk A310
              clear A310
              by_cases c32 : t201 < 0
              · rw [if_pos c32] at H
                have c32b0 : decide (t201 < 0) = true := decide_eq_true c32
                clear c32
                exact absurd (Option.some.inj (H.trans (congrArg some HRT.out))) (by decide)
              · rw [if_neg c32] at H
                have c32b0 : decide (t201 < 0) = false := decide_eq_false c32
                clear c32
                by_cases c33 : t201 = t199
                · rw [if_pos c33] at H
                  have c33b0 : (t201 == t199) = true := beq_iff_eq.mpr c33
                  have c33b1 : (t201 != t199) = false := bne_eq_false_iff_eq.mpr c33
                  clear c33
                  replace H := Option.bind_eq_some_iff.mp H
                  obtain ⟨t202, A340, H⟩ := H
                  replace H : ((impl_HeavyAll.f kj14 t202 a1).bind fun t205 => ((laws_eqStringS.f kj14 t205 t182).bind fun t208 => (if t208 = true then ((laws_heldStringS.f kj14 t200 1).bind fun t209 => (if t209 < 0 then (some false) else (if t209 = t199 then (some true) else (some false)))) else (some false)))) = some r := H
                  have A34 := Aside0.mk A340
                  clear A340
                  replace H := Option.bind_eq_some_iff.mp H
                  obtain ⟨t205, A350, H⟩ := H
                  replace H : ((laws_eqStringS.f kj14 t205 t182).bind fun t208 => (if t208 = true then ((laws_heldStringS.f kj14 t200 1).bind fun t209 => (if t209 < 0 then (some false) else (if t209 = t199 then (some true) else (some false)))) else (some false))) = some r := H
                  have A35 := Aside0.mk A350
                  clear A350
                  replace H := Option.bind_eq_some_iff.mp H
                  obtain ⟨t208, A360, H⟩ := H
                  replace H : (if t208 = true then ((laws_heldStringS.f kj14 t200 1).bind fun t209 => (if t209 < 0 then (some false) else (if t209 = t199 then (some true) else (some false)))) else (some false)) = some r := H
                  have A36 := Aside0.mk A360
                  clear A360
                  by_cases c37 : t208 = true
                  · subst c37
                    have H1 : ((laws_heldStringS.f kj14 t200 1).bind fun t209 => (if t209 < 0 then (some false) else (if t209 = t199 then (some true) else (some false)))) = some r := by rw [if_pos rfl] at H; exact H
                    clear H
                    have H := H1
                    clear H1
                    replace H := Option.bind_eq_some_iff.mp H
                    obtain ⟨t209, A380, H⟩ := H
                    replace H : (if t209 < 0 then (some false) else (if t209 = t199 then (some true) else (some false))) = some r := H
                    have A38 := Aside0.mk A380
                    clear A380
                    by_cases c39 : t209 < 0
                    · rw [if_pos c39] at H
                      have c39b0 : decide (t209 < 0) = true := decide_eq_true c39
                      clear c39
                      exact absurd (Option.some.inj (H.trans (congrArg some HRT.out))) (by decide)
                    · rw [if_neg c39] at H
                      have c39b0 : decide (t209 < 0) = false := decide_eq_false c39
                      clear c39
                      by_cases c40 : t209 = t199
                      · rw [if_pos c40] at H
                        have c40b0 : (t209 == t199) = true := beq_iff_eq.mpr c40
                        have c40b1 : (t209 != t199) = false := bne_eq_false_iff_eq.mpr c40
                        clear c40
                        obtain rfl := Option.some.inj H
                        go_wp2_with (first | ((with_reducible refine gate_callee (f := 28) rfl ?_); refine goesL_ (some 49) rfl rfl Try.func28 (by kernel_rfl) rfl #[.slice Ao22 t188.length co22, .int .i64 1] rfl (by (try simp only [List.map_toArray, List.map_cons, List.map_nil]); first | done | rfl | (simp only [List.length_drop, List.length_take]; rfl)) ?_; (with_reducible refine (laws_markStringS.calls kj14 (fun k_ => some k_ = (.slice Ao22 t188.length co22 : Value).ownBlock) (.slice Ao22 t188.length co22) t188 1 t199 t200 w _ ?side1 ?side2 A30.out).mono ?_); (case side1 => repeat (first | (with_reducible first | exact HB.out | apply below_alloc | apply pw_below_drewN | apply below_drew1) | exact HB.out)); (case side2 => exact KdU.R_tight rfl HO_8.out); rintro e w41 ⟨rfl, hy0, hb, hkp⟩; refine ⟨_, rfl, ?_⟩; have n0_ := Aside0.mk (KdU.R_mono (ok' := fun k_ => some k_ ≠ (.slice Ao22 t188.length co22 : Value).ownBlock) (KdU.R_keptB (HO_6.out) hkp (fun k_ hk_ hs_ => (hk_) hs_)) (fun k_ hk_ => hk_.1)); have n1_ := Aside0.mk (KdU.R_reok rfl hy0 (fun k_ e_ => HO_8.out.1 k_ e_)); have n2_ := Aside0.mk (hb); clear HO_6; clear HO_8; clear HB; have HO_6 := n0_; have HO_8 := n1_; have HB := n2_; clear n0_ n1_ n2_; (try clear hb); (try clear hkp); (try clear hy0)) | ((with_reducible refine gate_callee (f := 29) rfl ?_); refine goesL_ (some 52) rfl rfl Try.func29 (by kernel_rfl) rfl #[.slice Ao22 t200.length co22, .int .i64 1] rfl (by (try simp only [List.map_toArray, List.map_cons, List.map_nil]); first | done | (rw [show t200.length = t188.length from (KdU.R_reads' HO_8.out).1.symm] <;> rfl) | rfl | (simp only [List.length_drop, List.length_take]; rfl)) ?_; (with_reducible refine (laws_heldStringS.calls kj14 _ _ t200 1 t201 _ ?side1 ?side2 A31.out).mono ?_); (case side1 => repeat (first | exact (KdU.R_reads' HO_8.out).2.2 | (with_reducible refine Kd.C_alloc ?_ _) | (with_reducible refine Kd.C_drewN ?_ _) | (with_reducible refine Kd.C_drew ?_))); (case side2 => rw [show t200.length = t188.length from (KdU.R_reads' HO_8.out).1.symm]; exact (KdU.R_reads' HO_8.out).2.1); rintro e w42 ⟨rfl, hb⟩; refine ⟨_, rfl, ?_⟩; have n0_ := Aside0.mk (KdU.R_below (by (with_reducible repeat (first | apply KdU.R_alloc | apply KdU.R_drewN | apply KdU.R_drew)); exact HO_6.out) hb); have n1_ := Aside0.mk (KdU.R_below (by (with_reducible repeat (first | apply KdU.R_alloc | apply KdU.R_drewN | apply KdU.R_drew)); exact HO_8.out) hb); have n2_ := Aside0.mk (below_step (by repeat (first | (with_reducible first | exact HB.out | apply below_alloc | apply pw_below_drewN | apply below_drew1) | exact HB.out)) hb); clear HO_6; clear HO_8; clear HB; have HO_6 := n0_; have HO_8 := n1_; have HB := n2_; clear n0_ n1_ n2_; (try clear hb); (try clear hb2); (try clear hk); (try clear hi)) | ((with_reducible refine gate_callee (f := 20) rfl ?_); refine goesL_ (some 59) rfl rfl Try.func20 (by kernel_rfl) rfl #[.slice A0 l0.length c0] rfl (by (try simp only [List.map_toArray, List.map_cons, List.map_nil]); first | done | rfl | (simp only [List.length_drop, List.length_take]; rfl)) ?_; (with_reducible refine (laws_toStringS.callsU kj14 _ _ l0 t202 _ ?side1 ?side2 A34.out).mono ?_); (case side1 => repeat (first | exact (Kd.C_below HR0.out HB.out) | (with_reducible refine Kd.C_alloc ?_ _) | (with_reducible refine Kd.C_drewN ?_ _) | (with_reducible refine Kd.C_drew ?_))); (case side2 => exact HC0.out); rintro e w43 ⟨v203, rfl, ho0, hb⟩; refine ⟨_, rfl, ?_⟩; have n0_ := Aside0.mk (KdU.R_elder' (by (with_reducible repeat (first | apply KdU.R_alloc | apply KdU.R_drewN | apply KdU.R_drew)); exact HO_6.out) (KdU.R_base ho0) hb); have n1_ := Aside0.mk (KdU.R_elder' (by (with_reducible repeat (first | apply KdU.R_alloc | apply KdU.R_drewN | apply KdU.R_drew)); exact HO_8.out) (KdU.R_base ho0) hb); have n2_ := Aside0.mk (KdU.R_lower (KdU.R_new' (KdU.R_new' ho0 (KdU.R_lt (by (with_reducible repeat (first | apply KdU.R_alloc | apply KdU.R_drewN | apply KdU.R_drew)); exact HO_6.out))) (KdU.R_lt (by (with_reducible repeat (first | apply KdU.R_alloc | apply KdU.R_drewN | apply KdU.R_drew)); exact HO_8.out))) (below_size (by repeat (first | (with_reducible first | exact HB.out | apply below_alloc | apply pw_below_drewN | apply below_drew1) | exact HB.out)))); have n3_ := Aside0.mk (below_step (by repeat (first | (with_reducible first | exact HB.out | apply below_alloc | apply pw_below_drewN | apply below_drew1) | exact HB.out)) hb); clear HO_6; clear HO_8; clear HB; have HO_6 := n0_; have HO_8 := n1_; have HO204 := n2_; have HB := n3_; clear n0_ n1_ n2_ n3_; (try clear hb); (try clear hb2); (try clear hk); (try clear hi); (try clear ho0); obtain ⟨Ao44, co44, eo44⟩ := KdU.R_slice HO204.out; subst eo44) | ((with_reducible refine gate_callee (f := 37) rfl ?_); refine goesL_ (some 61) rfl rfl Try.func37 (by kernel_rfl) rfl #[.slice Ao44 t202.length co44, .int .i64 a1] rfl (by (try simp only [List.map_toArray, List.map_cons, List.map_nil]); first | done | rfl | (simp only [List.length_drop, List.length_take]; rfl)) ?_; (with_reducible refine (impl_HeavyAll.calls kj14 _ _ t202 a1 t205 _ ?side1 ?side2 A35.out).mono ?_); (case side1 => repeat (first | exact (KdU.R_reads' HO204.out).2.2 | (with_reducible refine Kd.C_alloc ?_ _) | (with_reducible refine Kd.C_drewN ?_ _) | (with_reducible refine Kd.C_drew ?_))); (case side2 => exact (KdU.R_reads' HO204.out).2.1); rintro e w45 ⟨v206, rfl, ho0, hb⟩; refine ⟨_, rfl, ?_⟩; have n0_ := Aside0.mk (KdU.R_elder' (by (with_reducible repeat (first | apply KdU.R_alloc | apply KdU.R_drewN | apply KdU.R_drew)); exact HO_6.out) (KdU.R_base ho0) hb); have n1_ := Aside0.mk (KdU.R_elder' (by (with_reducible repeat (first | apply KdU.R_alloc | apply KdU.R_drewN | apply KdU.R_drew)); exact HO_8.out) (KdU.R_base ho0) hb); have n2_ := Aside0.mk (KdU.R_elder' (by (with_reducible repeat (first | apply KdU.R_alloc | apply KdU.R_drewN | apply KdU.R_drew)); exact HO204.out) (KdU.R_base ho0) hb); have n3_ := Aside0.mk (KdU.R_lower (KdU.R_new' (KdU.R_new' (KdU.R_new' ho0 (KdU.R_lt (by (with_reducible repeat (first | apply KdU.R_alloc | apply KdU.R_drewN | apply KdU.R_drew)); exact HO_6.out))) (KdU.R_lt (by (with_reducible repeat (first | apply KdU.R_alloc | apply KdU.R_drewN | apply KdU.R_drew)); exact HO_8.out))) (KdU.R_lt (by (with_reducible repeat (first | apply KdU.R_alloc | apply KdU.R_drewN | apply KdU.R_drew)); exact HO204.out))) (below_size (by repeat (first | (with_reducible first | exact HB.out | apply below_alloc | apply pw_below_drewN | apply below_drew1) | exact HB.out)))); have n4_ := Aside0.mk (below_step (by repeat (first | (with_reducible first | exact HB.out | apply below_alloc | apply pw_below_drewN | apply below_drew1) | exact HB.out)) hb); clear HO_6; clear HO_8; clear HO204; clear HB; have HO_6 := n0_; have HO_8 := n1_; have HO204 := n2_; have HO207 := n3_; have HB := n4_; clear n0_ n1_ n2_ n3_ n4_; (try clear hb); (try clear hb2); (try clear hk); (try clear hi); (try clear ho0); obtain ⟨Ao46, co46, eo46⟩ := KdU.R_slice HO207.out; subst eo46) | ((with_reducible refine gate_callee (f := 22) rfl ?_); refine goesL_ (some 64) rfl rfl Try.func22 (by kernel_rfl) rfl #[.slice Ao46 t205.length co46, .slice Ao23 t182.length co23] rfl (by (try simp only [List.map_toArray, List.map_cons, List.map_nil]); first | done | rfl | (simp only [List.length_drop, List.length_take]; rfl)) ?_; (with_reducible refine (laws_eqStringS.calls kj14 _ _ t205 _ _ t182 true _ ?side1 ?side2 ?side3 ?side4 A36.out).mono ?_); (case side1 => repeat (first | exact (KdU.R_reads' HO207.out).2.2 | (with_reducible refine Kd.C_alloc ?_ _) | (with_reducible refine Kd.C_drewN ?_ _) | (with_reducible refine Kd.C_drew ?_))); (case side2 => exact (KdU.R_reads' HO207.out).2.1); (case side3 => repeat (first | exact (KdU.R_reads' HO_6.out).2.2 | (with_reducible refine Kd.C_alloc ?_ _) | (with_reducible refine Kd.C_drewN ?_ _) | (with_reducible refine Kd.C_drew ?_))); (case side4 => exact (KdU.R_reads' HO_6.out).2.1); rintro e w' ⟨rfl, ⟨nd, rfl⟩⟩; refine ⟨_, rfl, ?_⟩) | ((with_reducible refine gate_callee (f := 29) rfl ?_); refine goesL_ (some 68) rfl rfl Try.func29 (by kernel_rfl) rfl #[.slice Ao22 t200.length co22, .int .i64 1] rfl (by (try simp only [List.map_toArray, List.map_cons, List.map_nil]); first | done | (rw [show t200.length = t188.length from (KdU.R_reads' HO_8.out).1.symm] <;> rfl) | rfl | (simp only [List.length_drop, List.length_take]; rfl)) ?_; (with_reducible refine (laws_heldStringS.calls kj14 _ _ t200 1 t209 _ ?side1 ?side2 A38.out).mono ?_); (case side1 => repeat (first | exact (KdU.R_reads' HO_8.out).2.2 | (with_reducible refine Kd.C_alloc ?_ _) | (with_reducible refine Kd.C_drewN ?_ _) | (with_reducible refine Kd.C_drew ?_))); (case side2 => rw [show t200.length = t188.length from (KdU.R_reads' HO_8.out).1.symm]; exact (KdU.R_reads' HO_8.out).2.1); rintro e w47 ⟨rfl, hb⟩; refine ⟨_, rfl, ?_⟩; have n0_ := Aside0.mk (KdU.R_below (by (with_reducible repeat (first | apply KdU.R_alloc | apply KdU.R_drewN | apply KdU.R_drew)); exact HO_6.out) hb); have n1_ := Aside0.mk (KdU.R_below (by (with_reducible repeat (first | apply KdU.R_alloc | apply KdU.R_drewN | apply KdU.R_drew)); exact HO_8.out) hb); have n2_ := Aside0.mk (KdU.R_below (by (with_reducible repeat (first | apply KdU.R_alloc | apply KdU.R_drewN | apply KdU.R_drew)); exact HO204.out) hb); have n3_ := Aside0.mk (KdU.R_below (by (with_reducible repeat (first | apply KdU.R_alloc | apply KdU.R_drewN | apply KdU.R_drew)); exact HO207.out) hb); have n4_ := Aside0.mk (below_step (by repeat (first | (with_reducible first | exact HB.out | apply below_alloc | apply pw_below_drewN | apply below_drew1) | exact HB.out)) hb); clear HO_6; clear HO_8; clear HO204; clear HO207; clear HB; have HO_6 := n0_; have HO_8 := n1_; have HO204 := n2_; have HO207 := n3_; have HB := n4_; clear n0_ n1_ n2_ n3_ n4_; (try clear hb); (try clear hb2); (try clear hk); (try clear hi)))
                        go_ret
                        exact ⟨by first | rfl | (simp [errW_none, errW_some] <;> rfl) | (simp [*, errW_none, errW_some] <;> rfl), by repeat (first | (with_reducible first | exact HB.out | apply below_alloc | apply pw_below_drewN | apply below_drew1) | exact HB.out)⟩
                      · rw [if_neg c40] at H
                        have c40b0 : (t209 == t199) = false := beq_eq_false_iff_ne.mpr c40
                        have c40b1 : (t209 != t199) = true := bne_iff_ne.mpr c40
                        exact absurd (Option.some.inj (H.trans (congrArg some HRT.out))) (by decide)
                  · replace c37 := Bool.eq_false_iff.mpr c37
                    subst c37
                    have H1 : (some false) = some r := by rw [if_neg (show ¬ (false = true) by decide)] at H; exact H
                    clear H
                    have H := H1
                    clear H1
                    exact absurd (Option.some.inj (H.trans (congrArg some HRT.out))) (by decide)
                · rw [if_neg c33] at H
                  have c33b0 : (t201 == t199) = false := beq_eq_false_iff_ne.mpr c33
                  have c33b1 : (t201 != t199) = true := bne_iff_ne.mpr c33
                  exact absurd (Option.some.inj (H.trans (congrArg some HRT.out))) (by decide)
      · replace c13 := Bool.eq_false_iff.mpr c13
        subst c13
        have H1 : (some false) = some r := by rw [if_neg (show ¬ (false = true) by decide)] at H; exact H
        clear H
        have H := H1
        clear H1
        exact absurd (Option.some.inj (H.trans (congrArg some HRT.out))) (by decide)
    · replace c10 := Bool.eq_false_iff.mpr c10
      subst c10
      have H1 : (some false) = some r := by rw [if_neg (show ¬ (false = true) by decide)] at H; exact H
      clear H
      have H := H1
      clear H1
      exact absurd (Option.some.inj (H.trans (congrArg some HRT.out))) (by decide)

end Go.Proofs.Ytdjenclegglmfaa.PFnExactHeavyAll
