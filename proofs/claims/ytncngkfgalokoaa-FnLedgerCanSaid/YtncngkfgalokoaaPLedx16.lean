-- Written by a program of this session over the kit's printer, with contracts proved by hand; Lean checks it.
import Derived.Test.YtncngkfgalokoaaPLedx0
import Derived.Test.YtncngkfgalokoaaPLedx3
import Derived.Test.YtncngkfgalokoaaPLedx4
import Derived.Test.YtncngkfgalokoaaPLedx5
import Derived.Test.YtncngkfgalokoaaPLedx11
import Derived.Test.YtncngkfgalokoaaPLedx15
-- half its indentation
namespace Go.Proofs.Ytncngkfgalokoaa.PLed
open Go.RowKit Go.Proofs.YtncngkfgalokoaaW.PrintWords Go.Proofs.YtncngkfgalokoaaW.PrintLast Go.Proofs.YtncngkfgalokoaaW.PrintMore
attribute [local go_sem] max2_int min2_int max_two min_two max_three min_three max_four min_four   -- for this text's walks alone
set_option linter.unusedVariables false
set_option linter.unusedSimpArgs false

open List (setIfInBounds_toArray set_cons_zero set_cons_succ)
/-! ### laws_FnLedgerCan: function 11 -/
mutual
def laws_FnLedgerCan.j0 : Nat → List Int → List Int → Bool → Option (Bool)
 | 0, _, _, _ => none
 | k + 1, x0, x1, x21 => if x21 = true then (some true) else ((spec_DrawLedgerCan.f k x0).bind fun bt493 => ((impl_LedgerCan.f k bt493.1 bt493.2.1 bt493.2.2.1 bt493.2.2.2.1 bt493.2.2.2.2).bind fun t502 => ((spec_LedgerCan.f k bt493.1 bt493.2.1 bt493.2.2.1 bt493.2.2.2.1 bt493.2.2.2.2).bind fun t503 => (if (t502 != t503) = true then (laws_FnLedgerCan.j1 k x1 t502 true bt493.1 bt493.2.1 bt493.2.2.1 bt493.2.2.2.1 bt493.2.2.2.2) else ((spec_LedgerOk.f k bt493.1 bt493.2.1 bt493.2.2.1).bind fun t504 => (laws_FnLedgerCan.j1 k x1 t502 (!t504) bt493.1 bt493.2.1 bt493.2.2.1 bt493.2.2.2.1 bt493.2.2.2.2))))))
def laws_FnLedgerCan.j1 : Nat → List Int → Bool → Bool → Int → Int → List (S29) → Int → Int → Option (Bool)
 | 0, _, _, _, _, _, _, _, _ => none
 | k + 1, x1, x7, x39, x501000, x501001, x501002, x502000, x502001 => if x39 = true then ((spec_LedgerCan.f k x501000 x501001 x501002 x502000 x502001).bind fun t505 => (some (x7 == t505))) else ((impl_FracOf.f k (1 + ((x1.length : Int) % 5)) (1 + ((x1.length : Int) % 7))).bind fun bt506 => ((impl_LedgerSum.f k x501000 x501001 x501002).bind fun bt510 => ((impl_FracSum.f k bt510.1 bt510.2.1 bt506.1 bt506.2.1).bind fun bt514 => (if x7 = true then (if bt506.2.2 = true then (if bt514.2.2 = true then ((impl_FracCmp.f k bt506.1 bt506.2.1 x502000 x502001).bind fun t518 => (if t518 ≤ 0 then ((impl_LedgerCan.f k x501000 x501001 x501002 bt506.1 bt506.2.1).bind fun t519 => (if t519 = true then ((impl_LedgerCan.f k x501000 x501001 x501002 0 1).bind fun t520 => (some (t520 == (decide ((x501002.length : Int) < 8))))) else (some false))) else ((impl_LedgerCan.f k x501000 x501001 x501002 0 1).bind fun t521 => (some (t521 == (decide ((x501002.length : Int) < 8))))))) else ((impl_LedgerCan.f k x501000 x501001 x501002 0 1).bind fun t522 => (some (t522 == (decide ((x501002.length : Int) < 8)))))) else ((impl_LedgerCan.f k x501000 x501001 x501002 0 1).bind fun t523 => (some (t523 == (decide ((x501002.length : Int) < 8)))))) else ((impl_LedgerCan.f k x501000 x501001 x501002 0 1).bind fun t524 => (some (t524 == (decide ((x501002.length : Int) < 8)))))))))
end
def laws_FnLedgerCan.f (k : Nat) (l0 : List Int) (l1 : List Int) : Option (Bool) := if (l0.length : Int) > 1048576 then (laws_FnLedgerCan.j0 k l0 l1 true) else (laws_FnLedgerCan.j0 k l0 l1 (decide ((l1.length : Int) > 1048576)))
theorem laws_FnLedgerCan.mono_l : ∀ k, (∀ y0 y1 y2, LeO (laws_FnLedgerCan.j0 k y0 y1 y2) (laws_FnLedgerCan.j0 (k + 1) y0 y1 y2)) ∧ (∀ y0 y1 y2 y3 y4 y5 y6 y7, LeO (laws_FnLedgerCan.j1 k y0 y1 y2 y3 y4 y5 y6 y7) (laws_FnLedgerCan.j1 (k + 1) y0 y1 y2 y3 y4 y5 y6 y7))
 | 0 => ⟨fun _ _ _ r h => by simp [laws_FnLedgerCan.j0] at h, fun _ _ _ _ _ _ _ _ r h => by simp [laws_FnLedgerCan.j1] at h⟩
 | k + 1 => by
  obtain ⟨ih0, ih1⟩ := laws_FnLedgerCan.mono_l k
  refine ⟨?_, ?_⟩
  ·intro y0 y1 y2
   unfold laws_FnLedgerCan.j0
   repeat' first
   | (with_reducible exact ih0 _ _ _)
   | (with_reducible exact ih1 _ _ _ _ _ _ _ _)
   | (with_reducible exact impl_FracCmp.mono _ _ _ _ _)
   | (with_reducible exact impl_FracOf.mono _ _ _)
   | (with_reducible exact impl_FracSum.mono _ _ _ _ _)
   | (with_reducible exact impl_LedgerCan.mono _ _ _ _ _ _)
   | (with_reducible exact impl_LedgerSum.mono _ _ _ _)
   | (with_reducible exact spec_DrawLedgerCan.mono _ _)
   | (with_reducible exact spec_LedgerCan.mono _ _ _ _ _ _)
   | (with_reducible exact spec_LedgerOk.mono _ _ _ _)
   | (with_reducible exact LeO.refl _)
   | (with_reducible exact LeO.none _)
   | (with_reducible refine LeO.ite ?_ ?_)
   | (with_reducible refine LeO.bind ?_ (fun _ => ?_))
   | exact ih0 _ _ _
   | exact ih1 _ _ _ _ _ _ _ _
   | exact impl_FracCmp.mono _ _ _ _ _
   | exact impl_FracOf.mono _ _ _
   | exact impl_FracSum.mono _ _ _ _ _
   | exact impl_LedgerCan.mono _ _ _ _ _ _
   | exact impl_LedgerSum.mono _ _ _ _
   | exact spec_DrawLedgerCan.mono _ _
   | exact spec_LedgerCan.mono _ _ _ _ _ _
   | exact spec_LedgerOk.mono _ _ _ _
   | exact LeO.none _
   | refine LeO.ite ?_ ?_
   | refine LeO.bind ?_ (fun _ => ?_)
  ·intro y0 y1 y2 y3 y4 y5 y6 y7
   unfold laws_FnLedgerCan.j1
   repeat' first
   | (with_reducible exact ih0 _ _ _)
   | (with_reducible exact ih1 _ _ _ _ _ _ _ _)
   | (with_reducible exact impl_FracCmp.mono _ _ _ _ _)
   | (with_reducible exact impl_FracOf.mono _ _ _)
   | (with_reducible exact impl_FracSum.mono _ _ _ _ _)
   | (with_reducible exact impl_LedgerCan.mono _ _ _ _ _ _)
   | (with_reducible exact impl_LedgerSum.mono _ _ _ _)
   | (with_reducible exact spec_DrawLedgerCan.mono _ _)
   | (with_reducible exact spec_LedgerCan.mono _ _ _ _ _ _)
   | (with_reducible exact spec_LedgerOk.mono _ _ _ _)
   | (with_reducible exact LeO.refl _)
   | (with_reducible exact LeO.none _)
   | (with_reducible refine LeO.ite ?_ ?_)
   | (with_reducible refine LeO.bind ?_ (fun _ => ?_))
   | exact ih0 _ _ _
   | exact ih1 _ _ _ _ _ _ _ _
   | exact impl_FracCmp.mono _ _ _ _ _
   | exact impl_FracOf.mono _ _ _
   | exact impl_FracSum.mono _ _ _ _ _
   | exact impl_LedgerCan.mono _ _ _ _ _ _
   | exact impl_LedgerSum.mono _ _ _ _
   | exact spec_DrawLedgerCan.mono _ _
   | exact spec_LedgerCan.mono _ _ _ _ _ _
   | exact spec_LedgerOk.mono _ _ _ _
   | exact LeO.none _
   | refine LeO.ite ?_ ?_
   | refine LeO.bind ?_ (fun _ => ?_)
theorem laws_FnLedgerCan.mono : ∀ a0 a1 k, LeO (laws_FnLedgerCan.f k a0 a1) (laws_FnLedgerCan.f (k + 1) a0 a1) := by
 intro a0 a1 k
 obtain ⟨ih0, ih1⟩ := laws_FnLedgerCan.mono_l k
 unfold laws_FnLedgerCan.f
 repeat' first
   | (with_reducible exact ih0 _ _ _)
   | (with_reducible exact ih1 _ _ _ _ _ _ _ _)
   | (with_reducible exact impl_FracCmp.mono _ _ _ _ _)
   | (with_reducible exact impl_FracOf.mono _ _ _)
   | (with_reducible exact impl_FracSum.mono _ _ _ _ _)
   | (with_reducible exact impl_LedgerCan.mono _ _ _ _ _ _)
   | (with_reducible exact impl_LedgerSum.mono _ _ _ _)
   | (with_reducible exact spec_DrawLedgerCan.mono _ _)
   | (with_reducible exact spec_LedgerCan.mono _ _ _ _ _ _)
   | (with_reducible exact spec_LedgerOk.mono _ _ _ _)
   | (with_reducible exact LeO.refl _)
   | (with_reducible exact LeO.none _)
   | (with_reducible refine LeO.ite ?_ ?_)
   | (with_reducible refine LeO.bind ?_ (fun _ => ?_))
   | exact ih0 _ _ _
   | exact ih1 _ _ _ _ _ _ _ _
   | exact impl_FracCmp.mono _ _ _ _ _
   | exact impl_FracOf.mono _ _ _
   | exact impl_FracSum.mono _ _ _ _ _
   | exact impl_LedgerCan.mono _ _ _ _ _ _
   | exact impl_LedgerSum.mono _ _ _ _
   | exact spec_DrawLedgerCan.mono _ _
   | exact spec_LedgerCan.mono _ _ _ _ _ _
   | exact spec_LedgerOk.mono _ _ _ _
   | exact LeO.none _
   | refine LeO.ite ?_ ?_
   | refine LeO.bind ?_ (fun _ => ?_)
def laws_FnLedgerCan.T12 : Bool × List (List Nat × List Nat) := (true, [([], []), ([], []), ([0, 1], [0, 1]), ([], []), ([3], [3]), ([4], [4]), ([5], [5]), ([2, 6], [2, 6]), ([7, 2, 0, 1, 2, 3, 4, 5, 6, 7], [7])])
def laws_FnLedgerCan.B12 : List Nat := [0, 0, 3, 0, 8, 24, 56, 127, 255]
theorem laws_FnLedgerCan.tab12 : rtab .any (opsOf Try.f11 12) = laws_FnLedgerCan.T12 := by kernel_rfl
theorem laws_FnLedgerCan.bits12 : waitsOk laws_FnLedgerCan.T12.2 laws_FnLedgerCan.B12 = true := by kernel_rfl
set_option maxHeartbeats 8000000 in
set_option maxRecDepth 100000 in
theorem laws_FnLedgerCan.calls (k : Nat) (A0 : Option Addr) (c0 : Nat) (l0 : List Int) (A1 : Option Addr) (c1 : Nat) (l1 : List Int) (r : Bool) (w : World) (hr0 : Kd.C (Kd.int .u8) w A0 l0.length l0) (hc0 : l0.length ≤ c0) (hr1 : Kd.C (Kd.int .u8) w A1 l1.length l1) (hc1 : l1.length ≤ c1) (h : laws_FnLedgerCan.f k l0 l1 = some r) (hrt : r = true) :
  Calls Try.prog 11 #[.slice A0 l0.length c0, .slice A1 l1.length c1] w fun e w' => e = .returned (.bool r) ∧ Below w.heap.size w w' := by
 have HRT := Aside0.mk hrt
 clear hrt
 have hu32 := Try.underlying32
 have hu29 := Try.underlying29
 have HR0 := Aside0.mk hr0
 have HC0 := Aside0.mk hc0
 clear hr0 hc0
 have HR1 := Aside0.mk hr1
 have HC1 := Aside0.mk hc1
 clear hr1 hc1
 have HB := yM (Below.refl w.heap.size w)
 have H : (if (l0.length : Int) > 1048576 then (laws_FnLedgerCan.j0 k l0 l1 true) else (laws_FnLedgerCan.j0 k l0 l1 (decide ((l1.length : Int) > 1048576)))) = some r := h
 clear h
 have HC3 := Aside0.mk H
 clear H
 go_enter Try.func11, Try.ntmps11
 go_upto_region 1 with (fail)
 go_cut [21] (fun v21 wc => ∃ (kq : Nat) (x21_2 : Bool), v21 = .bool x21_2 ∧ Aside0 (laws_FnLedgerCan.j0 kq l0 l1 x21_2 = some r) ∧ Aside0 (kq ≤ k) ∧ Aside0 (Below w.heap.size w wc))
 case first =>
  have H := HC3.out
  clear HC3
  by_cases c4 : (l0.length : Int) > 1048576
  ·rw [if_pos c4] at H
   have c4b0 : decide (1048576 < (l0.length : Int)) = true := decide_eq_true c4
   have c4b1 : decide (1048576 < l0.length) = true := decide_eq_true (by omega)
   clear c4
   (first | rw [c4b0] | (simp only [i64_w, i32_w]; rw [c4b0]) | skip)
   have H' := Aside0.mk H
   clear H
   go_wp2
   go_meet
   case rel => exact ⟨_, (true), (by first | rfl | (simp; done) | (simp [*]; done)), H', ⟨by first | omega | exact Nat.le_refl _⟩, ⟨by repeat (first | (with_reducible first | exact HB.out | apply below_alloc | apply yP | apply below_drew1) | exact HB.out)⟩⟩
  ·rw [if_neg c4] at H
   have c4b0 : decide (1048576 < (l0.length : Int)) = false := decide_eq_false c4
   have c4b1 : decide (1048576 < l0.length) = false := decide_eq_false (by omega)
   clear c4
   (first | rw [c4b0] | (simp only [i64_w, i32_w]; rw [c4b0]) | skip)
   have H' := Aside0.mk H
   clear H
   go_wp2
   go_meet
   case rel => exact ⟨_, (decide ((l1.length : Int) > 1048576)), (by first | rfl | (simp; done) | (simp [*]; done)), H', ⟨by first | omega | exact Nat.le_refl _⟩, ⟨by repeat (first | (with_reducible first | exact HB.out | apply below_alloc | apply yP | apply below_drew1) | exact HB.out)⟩⟩
 case rest =>
  clear HC3
  try clear c1
  try clear p2
  try clear c4
  try clear c4b0
  try clear c4b1
  obtain ⟨kq, x21_2, rfl, HA, HJ2, HB⟩ := hcut
  cases kq with
  | zero => exact absurd HA.out (by simp [laws_FnLedgerCan.j0])
  | succ kj2 =>
   have H := HA.out
   clear HA
   simp only [laws_FnLedgerCan.j0] at H
   by_cases c5 : x21_2 = true
   ·subst c5
    have H1 : (some true) = some r := by rw [if_pos rfl] at H; exact H
    clear H
    have H := H1
    clear H1
    obtain rfl := Option.some.inj H
    go_wp2
    go_ret
    exact ⟨by first | rfl | (simp [errW_none, errW_some] <;> rfl) | (simp [*, errW_none, errW_some] <;> rfl), by repeat (first | (with_reducible first | exact HB.out | apply below_alloc | apply yP | apply below_drew1) | exact HB.out)⟩
   ·replace c5 := Bool.eq_false_iff.mpr c5
    subst c5
    have H1 : ((spec_DrawLedgerCan.f kj2 l0).bind fun bt493 => ((impl_LedgerCan.f kj2 bt493.1 bt493.2.1 bt493.2.2.1 bt493.2.2.2.1 bt493.2.2.2.2).bind fun t502 => ((spec_LedgerCan.f kj2 bt493.1 bt493.2.1 bt493.2.2.1 bt493.2.2.2.1 bt493.2.2.2.2).bind fun t503 => (if (t502 != t503) = true then (laws_FnLedgerCan.j1 kj2 l1 t502 true bt493.1 bt493.2.1 bt493.2.2.1 bt493.2.2.2.1 bt493.2.2.2.2) else ((spec_LedgerOk.f kj2 bt493.1 bt493.2.1 bt493.2.2.1).bind fun t504 => (laws_FnLedgerCan.j1 kj2 l1 t502 (!t504) bt493.1 bt493.2.1 bt493.2.2.1 bt493.2.2.2.1 bt493.2.2.2.2)))))) = some r := by rw [if_neg (show ¬ (false = true) by decide)] at H; exact H
    clear H
    have H := H1
    clear H1
    replace H := Option.bind_eq_some_iff.mp H
    obtain ⟨⟨t493, t494, t495, t498, t499⟩, A60, H⟩ := H
    replace H : ((impl_LedgerCan.f kj2 t493 t494 t495 t498 t499).bind fun t502 => ((spec_LedgerCan.f kj2 t493 t494 t495 t498 t499).bind fun t503 => (if (t502 != t503) = true then (laws_FnLedgerCan.j1 kj2 l1 t502 true t493 t494 t495 t498 t499) else ((spec_LedgerOk.f kj2 t493 t494 t495).bind fun t504 => (laws_FnLedgerCan.j1 kj2 l1 t502 (!t504) t493 t494 t495 t498 t499))))) = some r := H
    have A6 := Aside0.mk A60
    clear A60
    replace H := Option.bind_eq_some_iff.mp H
    obtain ⟨t502, A70, H⟩ := H
    replace H : ((spec_LedgerCan.f kj2 t493 t494 t495 t498 t499).bind fun t503 => (if (t502 != t503) = true then (laws_FnLedgerCan.j1 kj2 l1 t502 true t493 t494 t495 t498 t499) else ((spec_LedgerOk.f kj2 t493 t494 t495).bind fun t504 => (laws_FnLedgerCan.j1 kj2 l1 t502 (!t504) t493 t494 t495 t498 t499)))) = some r := H
    have A7 := Aside0.mk A70
    clear A70
    have HC8 := Aside0.mk H
    clear H
    go_upto_region 5 with (first | ((with_reducible refine gate_callee (f := 34) rfl ?_); refine goesL_ (some 24) rfl rfl Try.func34 (by kernel_rfl) rfl #[.slice A0 l0.length c0] rfl (by (try simp only [List.map_toArray, List.map_cons, List.map_nil]); first | done | rfl | (simp only [List.length_drop, List.length_take]; rfl)) ?_; (with_reducible refine (spec_DrawLedgerCan.calls kj2 _ _ l0 t493 t494 t495 t498 t499 _ ?side1 ?side2 A6.out).mono ?_); (case side1 => repeat (first | exact (Kd.C_below HR0.out HB.out) | (with_reducible refine Kd.C_alloc ?_ _) | (with_reducible refine Kd.C_drewN ?_ _) | (with_reducible refine Kd.C_drew ?_))); (case side2 => exact HC0.out); rintro e w9 ⟨v496, rfl, ho0, hb⟩; refine ⟨_, rfl, ?_⟩; have n0_ := yM (Kd.R_lower ho0 (below_size (by repeat (first | (with_reducible first | exact HB.out | apply below_alloc | apply yP | apply below_drew1) | exact HB.out)))); have n1_ := yM (below_step (by repeat (first | (with_reducible first | exact HB.out | apply below_alloc | apply yP | apply below_drew1) | exact HB.out)) hb); clear HB; have HO497 := n0_; have HB := n1_; clear n0_ n1_; (try clear hb); (try clear hb2); (try clear hk); (try clear hi); (try clear ho0)) | ((with_reducible refine gate_dst (N := 5) rfl ?_); (try (refine gate_guard (by rfl) ?_; dsimp only)); refine box_event ?hg (N := 5) ?hd (cs := #[.int .i64 0, .int .i64 0, .slice none 0 0]) (t := 32) ?hr ?_; (case hd => rfl); (case hg => rfl); (case hr => first | (go_simp; done) | (go_simp; rfl)); intro gb500 hg w10 hbox hb; have n0_ := yM (Kd.R_below (by (with_reducible repeat (first | apply Kd.R_alloc | apply Kd.R_drewN | apply Kd.R_drew)); exact HO497.out) hb); have n1_ := yM (below_step (by repeat (first | (with_reducible first | exact HB.out | apply below_alloc | apply yP | apply below_drew1) | exact HB.out)) hb); have n2_ := yM (hbox); have n3_ := yM ((by rw [hg]; exact (below_size (by repeat (first | (with_reducible first | exact HB.out | apply below_alloc | apply yP | apply below_drew1) | exact HB.out))) : w.heap.size ≤ gb500)); have n4_ := yM ((by rw [hg]; exact (below_size (by repeat (first | (with_reducible first | exact HB.out | apply below_alloc | apply yP | apply below_drew1) | exact HB.out))) : w.heap.size ≤ gb500)); clear HO497; clear HB; have HO497 := n0_; have HB := n1_; have BK500 := n2_; have GW500 := n3_; have GE500 := n4_; clear n0_ n1_ n2_ n3_ n4_; clear hb hbox hg) | ((with_reducible refine gate_dst (N := 6) rfl ?_); (try (refine gate_guard (by rfl) ?_; dsimp only)); refine box_event ?hg (N := 6) ?hd (cs := #[.int .i64 0, .int .i64 0]) (t := 29) ?hr ?_; (case hd => rfl); (case hg => rfl); (case hr => first | (go_simp; done) | (go_simp; rfl)); intro gb501 hg w11 hbox hb; have n0_ := yM (Kd.R_below (Kd.R_elderB (by (with_reducible repeat (first | apply Kd.R_alloc | apply Kd.R_drewN | apply Kd.R_drew)); exact HO497.out) gb501 (Nat.le_of_eq hg.symm)) hb); have n1_ := yM (blk_below (g := gb500) (o := .cells #[.int .i64 0, .int .i64 0, .slice none 0 0] 32 (0, 0)) (by (with_reducible repeat (first | refine yN ?_ _ | refine yD ?_ | refine yA ?_ _)); exact BK500.out) hb); have n2_ := yM (below_step (by repeat (first | (with_reducible first | exact HB.out | apply below_alloc | apply yP | apply below_drew1 | refine yS ?_ GE500.out) | exact HB.out)) hb); have n3_ := yM (hbox); have n4_ := yM ((by rw [hg]; exact (below_size (by repeat (first | (with_reducible first | exact HB.out | apply below_alloc | apply yP | apply below_drew1 | refine yS ?_ GE500.out) | exact HB.out))) : w.heap.size ≤ gb501)); have n5_ := yM ((by rw [hg]; exact (below_size (by repeat (first | (with_reducible first | exact HB.out | apply below_alloc | apply yP | apply below_drew1 | refine yS ?_ GE500.out) | exact HB.out))) : w.heap.size ≤ gb501)); have n6_ := yM ((by rw [hg]; exact Nat.ne_of_lt (blk_lt (g := gb500) (o := .cells #[.int .i64 0, .int .i64 0, .slice none 0 0] 32 (0, 0)) (by (with_reducible repeat (first | refine yN ?_ _ | refine yD ?_ | refine yA ?_ _)); exact BK500.out)) : gb500 ≠ gb501)); have n7_ := yM ((by rw [hg]; exact Nat.ne_of_gt (blk_lt (g := gb500) (o := .cells #[.int .i64 0, .int .i64 0, .slice none 0 0] 32 (0, 0)) (by (with_reducible repeat (first | refine yN ?_ _ | refine yD ?_ | refine yA ?_ _)); exact BK500.out)) : gb501 ≠ gb500)); clear HO497; clear BK500; clear HB; have HO497 := n0_; have BK500 := n1_; have HB := n2_; have BK501 := n3_; have GW501 := n4_; have GE501 := n5_; have NB500_501 := n6_; have NB501_500 := n7_; clear n0_ n1_ n2_ n3_ n4_ n5_ n6_ n7_; clear hb hbox hg; have hnb12 := NB500_501.out; have hnc12 := NB501_500.out; have hcz13_0 : w11.cell? ⟨gb500, 0, none⟩ = some (.int .i64 0) := (blk_cell BK500.out 0).trans rfl; have hcz13_1 : w11.cell? ⟨gb500, 1, none⟩ = some (.int .i64 0) := (blk_cell BK500.out 1).trans rfl; have hcz13_2 : w11.cell? ⟨gb500, 2, none⟩ = some (.slice none 0 0) := (blk_cell BK500.out 2).trans rfl; have hfz13_0 := blk_frozen BK500.out 0; have hfz13_1 := blk_frozen BK500.out 1; have hfz13_2 := blk_frozen BK500.out 2; obtain ⟨Ao14, co14, eo14⟩ := Kd.R_slice HO497.out; subst eo14; have hcz15_0 : w11.cell? ⟨gb501, 0, none⟩ = some (.int .i64 0) := (blk_cell BK501.out 0).trans rfl; have hcz15_1 : w11.cell? ⟨gb501, 1, none⟩ = some (.int .i64 0) := (blk_cell BK501.out 1).trans rfl; have hfz15_0 := blk_frozen BK501.out 0; have hfz15_1 := blk_frozen BK501.out 1) | ((with_reducible refine gate_callee (f := 33) rfl ?_); refine goesL_ (some 29) rfl rfl Try.func33 (by kernel_rfl) rfl #[.agg #[.int .i64 t493, .int .i64 t494, .slice Ao14 t495.length co14], .agg #[.int .i64 t498, .int .i64 t499]] rfl (by (try simp only [List.map_toArray, List.map_cons, List.map_nil]); first | done | rfl | (simp only [List.length_drop, List.length_take]; rfl)) ?_; (with_reducible refine (impl_LedgerCan.calls kj2 t493 t494 _ _ t495 t498 t499 t502 _ ?side1 ?side2 A7.out).mono ?_); (case side1 => refine (Kd.R_reads' (e := 29) (base := w.heap.size) (ok := fun k_ => (True ∧ k_ ≠ gb501)) (n := t495.length) (c := co14) ?_).2.2; exact (by (with_reducible repeat (first | apply Kd.R_alloc | apply Kd.R_drewN | apply Kd.R_drew)); exact (Kd.R_mono (Kd.R_mono (Kd.R_far (p := ⟨gb501, 1, none⟩) (Kd.R_far (p := ⟨gb501, 0, none⟩) (Kd.R_far (p := ⟨gb500, 2, none⟩) (Kd.R_far (p := ⟨gb500, 1, none⟩) (Kd.R_far (p := ⟨gb500, 0, none⟩) (Kd.R_mono (Kd.R_types HO497.out BK500.out (by decide)) (fun k_ hk => (⟨hk, hk.1.2⟩ : _ ∧ k_ ≠ gb501))) (fun _ hk => hk.1.2) (.int .i64 t493)) (fun _ hk => hk.1.2) (.int .i64 t494)) (fun _ hk => hk.1.2) (.slice Ao14 t495.length co14)) (fun _ hk => hk.2) (.int .i64 t498)) (fun _ hk => hk.2) (.int .i64 t499)) (fun _ h_ => h_.1)) (fun _ h_ => h_.1)))); (case side2 => exact (Kd.R_reads' HO497.out).2.1); rintro e w16 ⟨rfl, hb⟩; refine ⟨_, rfl, ?_⟩; have n0_ := yM (Kd.R_below (by (with_reducible repeat (first | apply Kd.R_alloc | apply Kd.R_drewN | apply Kd.R_drew)); exact (Kd.R_mono (Kd.R_mono (Kd.R_far (p := ⟨gb501, 1, none⟩) (Kd.R_far (p := ⟨gb501, 0, none⟩) (Kd.R_far (p := ⟨gb500, 2, none⟩) (Kd.R_far (p := ⟨gb500, 1, none⟩) (Kd.R_far (p := ⟨gb500, 0, none⟩) (Kd.R_mono (Kd.R_types HO497.out BK500.out (by decide)) (fun k_ hk => (⟨hk, hk.1.2⟩ : _ ∧ k_ ≠ gb501))) (fun _ hk => hk.1.2) (.int .i64 t493)) (fun _ hk => hk.1.2) (.int .i64 t494)) (fun _ hk => hk.1.2) (.slice Ao14 t495.length co14)) (fun _ hk => hk.2) (.int .i64 t498)) (fun _ hk => hk.2) (.int .i64 t499)) (fun _ h_ => h_.1)) (fun _ h_ => h_.1))) hb); have n1_ := yM (blk_below (g := gb500) (o := .cells #[.int .i64 t493, .int .i64 t494, .slice Ao14 t495.length co14] 32 (0, 0)) (by (with_reducible repeat (first | refine yN ?_ _ | refine yD ?_ | refine yA ?_ _)); refine blk_far ?_ NB500_501.out _; (with_reducible repeat (first | refine yN ?_ _ | refine yD ?_ | refine yA ?_ _)); refine blk_far ?_ NB500_501.out _; (with_reducible repeat (first | refine yN ?_ _ | refine yD ?_ | refine yA ?_ _)); refine blk_put (cs := #[.int .i64 t493, .int .i64 t494, .slice none 0 0]) ?_ 2 _ rfl; (with_reducible repeat (first | refine yN ?_ _ | refine yD ?_ | refine yA ?_ _)); refine blk_put (cs := #[.int .i64 t493, .int .i64 0, .slice none 0 0]) ?_ 1 _ rfl; (with_reducible repeat (first | refine yN ?_ _ | refine yD ?_ | refine yA ?_ _)); refine blk_put (cs := #[.int .i64 0, .int .i64 0, .slice none 0 0]) ?_ 0 _ rfl; (with_reducible repeat (first | refine yN ?_ _ | refine yD ?_ | refine yA ?_ _)); exact BK500.out) hb); have n2_ := yM (blk_below (g := gb501) (o := .cells #[.int .i64 t498, .int .i64 t499] 29 (0, 0)) (by (with_reducible repeat (first | refine yN ?_ _ | refine yD ?_ | refine yA ?_ _)); refine blk_put (cs := #[.int .i64 t498, .int .i64 0]) ?_ 1 _ rfl; (with_reducible repeat (first | refine yN ?_ _ | refine yD ?_ | refine yA ?_ _)); refine blk_put (cs := #[.int .i64 0, .int .i64 0]) ?_ 0 _ rfl; (with_reducible repeat (first | refine yN ?_ _ | refine yD ?_ | refine yA ?_ _)); refine blk_far ?_ NB501_500.out _; (with_reducible repeat (first | refine yN ?_ _ | refine yD ?_ | refine yA ?_ _)); refine blk_far ?_ NB501_500.out _; (with_reducible repeat (first | refine yN ?_ _ | refine yD ?_ | refine yA ?_ _)); refine blk_far ?_ NB501_500.out _; (with_reducible repeat (first | refine yN ?_ _ | refine yD ?_ | refine yA ?_ _)); exact BK501.out) hb); have n3_ := yM (below_step (by repeat (first | (with_reducible first | exact HB.out | apply below_alloc | apply yP | apply below_drew1 | refine yS ?_ GE500.out | refine yS ?_ GE501.out) | exact HB.out)) hb); clear HO497; clear BK500; clear BK501; clear HB; have HO497 := n0_; have BK500 := n1_; have BK501 := n2_; have HB := n3_; clear n0_ n1_ n2_ n3_; (try clear hb); (try clear hb2); (try clear hk); (try clear hi)))
    (try simp only [Act.put, setIfInBounds_toArray, set_cons_zero, set_cons_succ])
    go_cut [39] (fun v39 wc => ∃ (kq : Nat) (x39_7 : Bool), v39 = .bool x39_7 ∧ Aside0 (laws_FnLedgerCan.j1 kq l1 t502 x39_7 t493 t494 t495 t498 t499 = some r) ∧ Aside0 (kq ≤ kj2) ∧ Aside0 (Kd.R k29 29 wc w.heap.size (fun k_ => k_ ≠ gb501) (.slice Ao14 t495.length co14) t495) ∧ Aside0 (wc.heap[gb500]? = some (.cells #[.int .i64 t493, .int .i64 t494, (.slice Ao14 t495.length co14)] 32 (0, 0))) ∧ Aside0 (wc.heap[gb501]? = some (.cells #[.int .i64 t498, .int .i64 t499] 29 (0, 0))) ∧ Aside0 (Below w.heap.size w wc))
    case first =>
     have H := HC8.out
     clear HC8
     replace H := Option.bind_eq_some_iff.mp H
     obtain ⟨t503, A170, H⟩ := H
     replace H : (if (t502 != t503) = true then (laws_FnLedgerCan.j1 kj2 l1 t502 true t493 t494 t495 t498 t499) else ((spec_LedgerOk.f kj2 t493 t494 t495).bind fun t504 => (laws_FnLedgerCan.j1 kj2 l1 t502 (!t504) t493 t494 t495 t498 t499))) = some r := H
     have A17 := Aside0.mk A170
     clear A170
     by_cases c18 : (t502 != t503) = true
     ·rw [if_pos c18] at H
      have c18b0 : (t502 != t503) = true := c18
      (try (have c18b1 : decide (t502 = t503) = false := by simpa using c18))
      (try (have c18b2 : (t502 == t503) = false := by simpa using c18))
      (try (have c18b3 : ¬ (t502 = t503) := by simpa using c18))
      clear c18
      (first | rw [c18b0] | (simp only [i64_w, i32_w]; rw [c18b0]) | skip)
      have H' := Aside0.mk H
      clear H
      have hnb19 := NB500_501.out
      have hnc19 := NB501_500.out
      have hcz20_0 : w16.cell? ⟨gb500, 0, none⟩ = some (.int .i64 t493) := (blk_cell BK500.out 0).trans rfl
      have hcz20_1 : w16.cell? ⟨gb500, 1, none⟩ = some (.int .i64 t494) := (blk_cell BK500.out 1).trans rfl
      have hcz20_2 : w16.cell? ⟨gb500, 2, none⟩ = some (.slice Ao14 t495.length co14) := (blk_cell BK500.out 2).trans rfl
      have hfz20_0 := blk_frozen BK500.out 0
      have hfz20_1 := blk_frozen BK500.out 1
      have hfz20_2 := blk_frozen BK500.out 2
      have hcz21_0 : w16.cell? ⟨gb501, 0, none⟩ = some (.int .i64 t498) := (blk_cell BK501.out 0).trans rfl
      have hcz21_1 : w16.cell? ⟨gb501, 1, none⟩ = some (.int .i64 t499) := (blk_cell BK501.out 1).trans rfl
      have hfz21_0 := blk_frozen BK501.out 0
      have hfz21_1 := blk_frozen BK501.out 1
      go_wp2_with (first | ((with_reducible refine gate_callee (f := 31) rfl ?_); refine goesL_ (some 33) rfl rfl Try.func31 (by kernel_rfl) rfl #[.agg #[.int .i64 t493, .int .i64 t494, .slice Ao14 t495.length co14], .agg #[.int .i64 t498, .int .i64 t499]] rfl (by (try simp only [List.map_toArray, List.map_cons, List.map_nil]); first | done | rfl | (simp only [List.length_drop, List.length_take]; rfl)) ?_; (with_reducible refine (spec_LedgerCan.calls kj2 t493 t494 _ _ t495 t498 t499 t503 _ ?side1 ?side2 A17.out).mono ?_); (case side1 => repeat (first | exact (Kd.R_reads' HO497.out).2.2 | (with_reducible refine Kd.C_alloc ?_ _) | (with_reducible refine Kd.C_drewN ?_ _) | (with_reducible refine Kd.C_drew ?_))); (case side2 => exact (Kd.R_reads' HO497.out).2.1); rintro e w22 ⟨rfl, hb⟩; refine ⟨_, rfl, ?_⟩; have n0_ := yM (Kd.R_below (by (with_reducible repeat (first | apply Kd.R_alloc | apply Kd.R_drewN | apply Kd.R_drew)); exact HO497.out) hb); have n1_ := yM (blk_below (g := gb500) (o := .cells #[.int .i64 t493, .int .i64 t494, .slice Ao14 t495.length co14] 32 (0, 0)) (by (with_reducible repeat (first | refine yN ?_ _ | refine yD ?_ | refine yA ?_ _)); exact BK500.out) hb); have n2_ := yM (blk_below (g := gb501) (o := .cells #[.int .i64 t498, .int .i64 t499] 29 (0, 0)) (by (with_reducible repeat (first | refine yN ?_ _ | refine yD ?_ | refine yA ?_ _)); exact BK501.out) hb); have n3_ := yM (below_step (by repeat (first | (with_reducible first | exact HB.out | apply below_alloc | apply yP | apply below_drew1 | refine yS ?_ GE500.out | refine yS ?_ GE501.out) | exact HB.out)) hb); clear HO497; clear BK500; clear BK501; clear HB; have HO497 := n0_; have BK500 := n1_; have BK501 := n2_; have HB := n3_; clear n0_ n1_ n2_ n3_; (try clear hb); (try clear hb2); (try clear hk); (try clear hi)))
      go_meet
      case rel => exact ⟨_, (true), (by first | rfl | (simp; done) | (simp [*]; done)), H', ⟨by have := HJ2.out; first | omega | exact Nat.le_refl _⟩, ⟨by (with_reducible repeat (first | apply Kd.R_alloc | apply Kd.R_drewN | apply Kd.R_drew)); exact Kd.R_mono HO497.out (fun _ hk => hk.2)⟩, ⟨by (with_reducible repeat (first | refine yN ?_ _ | refine yD ?_ | refine yA ?_ _)); exact BK500.out⟩, ⟨by (with_reducible repeat (first | refine yN ?_ _ | refine yD ?_ | refine yA ?_ _)); exact BK501.out⟩, ⟨by repeat (first | (with_reducible first | exact HB.out | apply below_alloc | apply yP | apply below_drew1 | refine yS ?_ GE500.out | refine yS ?_ GE501.out) | exact HB.out)⟩⟩
     ·rw [if_neg c18] at H
      have c18b0 : (t502 != t503) = false := by simpa using c18
      (try (have c18b1 : decide (t502 = t503) = true := by simpa using c18))
      (try (have c18b2 : (t502 == t503) = true := by simpa using c18))
      clear c18
      (first | rw [c18b0] | (simp only [i64_w, i32_w]; rw [c18b0]) | skip)
      replace H := Option.bind_eq_some_iff.mp H
      obtain ⟨t504, A230, H⟩ := H
      replace H : (laws_FnLedgerCan.j1 kj2 l1 t502 (!t504) t493 t494 t495 t498 t499) = some r := H
      have A23 := Aside0.mk A230
      clear A230
      have H' := Aside0.mk H
      clear H
      have hnb24 := NB500_501.out
      have hnc24 := NB501_500.out
      have hcz25_0 : w16.cell? ⟨gb500, 0, none⟩ = some (.int .i64 t493) := (blk_cell BK500.out 0).trans rfl
      have hcz25_1 : w16.cell? ⟨gb500, 1, none⟩ = some (.int .i64 t494) := (blk_cell BK500.out 1).trans rfl
      have hcz25_2 : w16.cell? ⟨gb500, 2, none⟩ = some (.slice Ao14 t495.length co14) := (blk_cell BK500.out 2).trans rfl
      have hfz25_0 := blk_frozen BK500.out 0
      have hfz25_1 := blk_frozen BK500.out 1
      have hfz25_2 := blk_frozen BK500.out 2
      have hcz26_0 : w16.cell? ⟨gb501, 0, none⟩ = some (.int .i64 t498) := (blk_cell BK501.out 0).trans rfl
      have hcz26_1 : w16.cell? ⟨gb501, 1, none⟩ = some (.int .i64 t499) := (blk_cell BK501.out 1).trans rfl
      have hfz26_0 := blk_frozen BK501.out 0
      have hfz26_1 := blk_frozen BK501.out 1
      go_wp2_with (first | ((with_reducible refine gate_callee (f := 31) rfl ?_); refine goesL_ (some 33) rfl rfl Try.func31 (by kernel_rfl) rfl #[.agg #[.int .i64 t493, .int .i64 t494, .slice Ao14 t495.length co14], .agg #[.int .i64 t498, .int .i64 t499]] rfl (by (try simp only [List.map_toArray, List.map_cons, List.map_nil]); first | done | rfl | (simp only [List.length_drop, List.length_take]; rfl)) ?_; (with_reducible refine (spec_LedgerCan.calls kj2 t493 t494 _ _ t495 t498 t499 t503 _ ?side1 ?side2 A17.out).mono ?_); (case side1 => repeat (first | exact (Kd.R_reads' HO497.out).2.2 | (with_reducible refine Kd.C_alloc ?_ _) | (with_reducible refine Kd.C_drewN ?_ _) | (with_reducible refine Kd.C_drew ?_))); (case side2 => exact (Kd.R_reads' HO497.out).2.1); rintro e w27 ⟨rfl, hb⟩; refine ⟨_, rfl, ?_⟩; have n0_ := yM (Kd.R_below (by (with_reducible repeat (first | apply Kd.R_alloc | apply Kd.R_drewN | apply Kd.R_drew)); exact HO497.out) hb); have n1_ := yM (blk_below (g := gb500) (o := .cells #[.int .i64 t493, .int .i64 t494, .slice Ao14 t495.length co14] 32 (0, 0)) (by (with_reducible repeat (first | refine yN ?_ _ | refine yD ?_ | refine yA ?_ _)); exact BK500.out) hb); have n2_ := yM (blk_below (g := gb501) (o := .cells #[.int .i64 t498, .int .i64 t499] 29 (0, 0)) (by (with_reducible repeat (first | refine yN ?_ _ | refine yD ?_ | refine yA ?_ _)); exact BK501.out) hb); have n3_ := yM (below_step (by repeat (first | (with_reducible first | exact HB.out | apply below_alloc | apply yP | apply below_drew1 | refine yS ?_ GE500.out | refine yS ?_ GE501.out) | exact HB.out)) hb); clear HO497; clear BK500; clear BK501; clear HB; have HO497 := n0_; have BK500 := n1_; have BK501 := n2_; have HB := n3_; clear n0_ n1_ n2_ n3_; (try clear hb); (try clear hb2); (try clear hk); (try clear hi); have hcz28_0 : w27.cell? ⟨gb500, 0, none⟩ = some (.int .i64 t493) := (blk_cell BK500.out 0).trans rfl; have hcz28_1 : w27.cell? ⟨gb500, 1, none⟩ = some (.int .i64 t494) := (blk_cell BK500.out 1).trans rfl; have hcz28_2 : w27.cell? ⟨gb500, 2, none⟩ = some (.slice Ao14 t495.length co14) := (blk_cell BK500.out 2).trans rfl; have hfz28_0 := blk_frozen BK500.out 0; have hfz28_1 := blk_frozen BK500.out 1; have hfz28_2 := blk_frozen BK500.out 2) | (go_at_call 15; (with_reducible refine (spec_LedgerOk.calls kj2 t493 t494 _ _ t495 t504 _ ?side1 ?side2 A23.out).mono ?_); (case side1 => repeat (first | exact (Kd.R_reads' HO497.out).2.2 | (with_reducible refine Kd.C_alloc ?_ _) | (with_reducible refine Kd.C_drewN ?_ _) | (with_reducible refine Kd.C_drew ?_))); (case side2 => exact (Kd.R_reads' HO497.out).2.1); rintro e w29 ⟨rfl, hb⟩; have n0_ := yM (Kd.R_below (by (with_reducible repeat (first | apply Kd.R_alloc | apply Kd.R_drewN | apply Kd.R_drew)); exact HO497.out) hb); have n1_ := yM (blk_below (g := gb500) (o := .cells #[.int .i64 t493, .int .i64 t494, .slice Ao14 t495.length co14] 32 (0, 0)) (by (with_reducible repeat (first | refine yN ?_ _ | refine yD ?_ | refine yA ?_ _)); exact BK500.out) hb); have n2_ := yM (blk_below (g := gb501) (o := .cells #[.int .i64 t498, .int .i64 t499] 29 (0, 0)) (by (with_reducible repeat (first | refine yN ?_ _ | refine yD ?_ | refine yA ?_ _)); exact BK501.out) hb); have n3_ := yM (below_step (by repeat (first | (with_reducible first | exact HB.out | apply below_alloc | apply yP | apply below_drew1 | refine yS ?_ GE500.out | refine yS ?_ GE501.out) | exact HB.out)) hb); clear HO497; clear BK500; clear BK501; clear HB; have HO497 := n0_; have BK500 := n1_; have BK501 := n2_; have HB := n3_; clear n0_ n1_ n2_ n3_; (try clear hb); (try clear hb2); (try clear hk); (try clear hi)))
      go_meet
      case rel => exact ⟨_, (!t504), (by first | rfl | (simp; done) | (simp [*]; done)), H', ⟨by have := HJ2.out; first | omega | exact Nat.le_refl _⟩, ⟨by (with_reducible repeat (first | apply Kd.R_alloc | apply Kd.R_drewN | apply Kd.R_drew)); exact Kd.R_mono HO497.out (fun _ hk => hk.2)⟩, ⟨by (with_reducible repeat (first | refine yN ?_ _ | refine yD ?_ | refine yA ?_ _)); exact BK500.out⟩, ⟨by (with_reducible repeat (first | refine yN ?_ _ | refine yD ?_ | refine yA ?_ _)); exact BK501.out⟩, ⟨by repeat (first | (with_reducible first | exact HB.out | apply below_alloc | apply yP | apply below_drew1 | refine yS ?_ GE500.out | refine yS ?_ GE501.out) | exact HB.out)⟩⟩
    case rest =>
     clear HC8
     try clear c1
     try clear c2
     try clear p2
     try clear c3
     try clear c4
     try clear c4b0
     try clear c4b1
     try clear c5
     try clear c11
     try clear c12
     try clear c18
     try clear c18b0
     try clear c18b1
     try clear c18b2
     try clear c19
     try clear c24
     try clear hcz13_0
     try clear hcz13_1
     try clear hcz13_2
     try clear hcz15_0
     try clear hcz15_1
     try clear hcz20_0
     try clear hcz20_1
     try clear hcz20_2
     try clear hcz21_0
     try clear hcz21_1
     try clear hcz25_0
     try clear hcz25_1
     try clear hcz25_2
     try clear hcz26_0
     try clear hcz26_1
     try clear hcz28_0
     try clear hcz28_1
     try clear hcz28_2
     try clear hfz13_0
     try clear hfz13_1
     try clear hfz13_2
     try clear hfz15_0
     try clear hfz15_1
     try clear hfz20_0
     try clear hfz20_1
     try clear hfz20_2
     try clear hfz21_0
     try clear hfz21_1
     try clear hfz25_0
     try clear hfz25_1
     try clear hfz25_2
     try clear hfz26_0
     try clear hfz26_1
     try clear hfz28_0
     try clear hfz28_1
     try clear hfz28_2
     try clear p2
     obtain ⟨kq, x39_7, rfl, HA, HJ7, HO_501002, BK500, BK501, HB⟩ := hcut
     cases kq with
     | zero => exact absurd HA.out (by simp [laws_FnLedgerCan.j1])
     | succ kj7 =>
      have H := HA.out
      clear HA
      simp only [laws_FnLedgerCan.j1] at H
      by_cases c30 : x39_7 = true
      ·subst c30
       have H1 : ((spec_LedgerCan.f kj7 t493 t494 t495 t498 t499).bind fun t505 => (some (t502 == t505))) = some r := by rw [if_pos rfl] at H; exact H
       clear H
       have H := H1
       clear H1
       replace H := Option.bind_eq_some_iff.mp H
       obtain ⟨t505, A310, H⟩ := H
       replace H : (some (t502 == t505)) = some r := H
       have A31 := Aside0.mk A310
       clear A310
       obtain rfl := Option.some.inj H
       have hnb32 := NB500_501.out
       have hnc32 := NB501_500.out
       have hcz33_0 : wc.cell? ⟨gb500, 0, none⟩ = some (.int .i64 t493) := (blk_cell BK500.out 0).trans rfl
       have hcz33_1 : wc.cell? ⟨gb500, 1, none⟩ = some (.int .i64 t494) := (blk_cell BK500.out 1).trans rfl
       have hcz33_2 : wc.cell? ⟨gb500, 2, none⟩ = some (.slice Ao14 t495.length co14) := (blk_cell BK500.out 2).trans rfl
       have hfz33_0 := blk_frozen BK500.out 0
       have hfz33_1 := blk_frozen BK500.out 1
       have hfz33_2 := blk_frozen BK500.out 2
       have hcz34_0 : wc.cell? ⟨gb501, 0, none⟩ = some (.int .i64 t498) := (blk_cell BK501.out 0).trans rfl
       have hcz34_1 : wc.cell? ⟨gb501, 1, none⟩ = some (.int .i64 t499) := (blk_cell BK501.out 1).trans rfl
       have hfz34_0 := blk_frozen BK501.out 0
       have hfz34_1 := blk_frozen BK501.out 1
       go_wp2_with (first | ((with_reducible refine gate_callee (f := 31) rfl ?_); refine goesL_ (some 43) rfl rfl Try.func31 (by kernel_rfl) rfl #[.agg #[.int .i64 t493, .int .i64 t494, .slice Ao14 t495.length co14], .agg #[.int .i64 t498, .int .i64 t499]] rfl (by (try simp only [List.map_toArray, List.map_cons, List.map_nil]); first | done | rfl | (simp only [List.length_drop, List.length_take]; rfl)) ?_; (with_reducible refine (spec_LedgerCan.calls kj7 t493 t494 _ _ t495 t498 t499 t505 _ ?side1 ?side2 A31.out).mono ?_); (case side1 => repeat (first | exact (Kd.R_reads' HO_501002.out).2.2 | (with_reducible refine Kd.C_alloc ?_ _) | (with_reducible refine Kd.C_drewN ?_ _) | (with_reducible refine Kd.C_drew ?_))); (case side2 => exact (Kd.R_reads' HO_501002.out).2.1); rintro e w35 ⟨rfl, hb⟩; refine ⟨_, rfl, ?_⟩; have n0_ := yM (Kd.R_below (by (with_reducible repeat (first | apply Kd.R_alloc | apply Kd.R_drewN | apply Kd.R_drew)); exact HO_501002.out) hb); have n1_ := yM (blk_below (g := gb500) (o := .cells #[.int .i64 t493, .int .i64 t494, .slice Ao14 t495.length co14] 32 (0, 0)) (by (with_reducible repeat (first | refine yN ?_ _ | refine yD ?_ | refine yA ?_ _)); exact BK500.out) hb); have n2_ := yM (blk_below (g := gb501) (o := .cells #[.int .i64 t498, .int .i64 t499] 29 (0, 0)) (by (with_reducible repeat (first | refine yN ?_ _ | refine yD ?_ | refine yA ?_ _)); exact BK501.out) hb); have n3_ := yM (below_step (by repeat (first | (with_reducible first | exact HB.out | apply below_alloc | apply yP | apply below_drew1 | refine yS ?_ GE500.out | refine yS ?_ GE501.out) | exact HB.out)) hb); clear HO_501002; clear BK500; clear BK501; clear HB; have HO_501002 := n0_; have BK500 := n1_; have BK501 := n2_; have HB := n3_; clear n0_ n1_ n2_ n3_; (try clear hb); (try clear hb2); (try clear hk); (try clear hi)))
       go_ret
       exact ⟨by first | rfl | (simp [errW_none, errW_some] <;> rfl) | (simp [*, errW_none, errW_some] <;> rfl), by repeat (first | (with_reducible first | exact HB.out | apply below_alloc | apply yP | apply below_drew1 | refine yS ?_ GE500.out | refine yS ?_ GE501.out) | exact HB.out)⟩
      ·replace c30 := Bool.eq_false_iff.mpr c30
       subst c30
       have H1 : ((impl_FracOf.f kj7 (1 + ((l1.length : Int) % 5)) (1 + ((l1.length : Int) % 7))).bind fun bt506 => ((impl_LedgerSum.f kj7 t493 t494 t495).bind fun bt510 => ((impl_FracSum.f kj7 bt510.1 bt510.2.1 bt506.1 bt506.2.1).bind fun bt514 => (if t502 = true then (if bt506.2.2 = true then (if bt514.2.2 = true then ((impl_FracCmp.f kj7 bt506.1 bt506.2.1 t498 t499).bind fun t518 => (if t518 ≤ 0 then ((impl_LedgerCan.f kj7 t493 t494 t495 bt506.1 bt506.2.1).bind fun t519 => (if t519 = true then ((impl_LedgerCan.f kj7 t493 t494 t495 0 1).bind fun t520 => (some (t520 == (decide ((t495.length : Int) < 8))))) else (some false))) else ((impl_LedgerCan.f kj7 t493 t494 t495 0 1).bind fun t521 => (some (t521 == (decide ((t495.length : Int) < 8))))))) else ((impl_LedgerCan.f kj7 t493 t494 t495 0 1).bind fun t522 => (some (t522 == (decide ((t495.length : Int) < 8)))))) else ((impl_LedgerCan.f kj7 t493 t494 t495 0 1).bind fun t523 => (some (t523 == (decide ((t495.length : Int) < 8)))))) else ((impl_LedgerCan.f kj7 t493 t494 t495 0 1).bind fun t524 => (some (t524 == (decide ((t495.length : Int) < 8))))))))) = some r := by rw [if_neg (show ¬ (false = true) by decide)] at H; exact H
       clear H
       have H := H1
       clear H1
       replace H := Option.bind_eq_some_iff.mp H
       obtain ⟨⟨t506, t507, t508⟩, A360, H⟩ := H
       replace H : ((impl_LedgerSum.f kj7 t493 t494 t495).bind fun bt510 => ((impl_FracSum.f kj7 bt510.1 bt510.2.1 t506 t507).bind fun bt514 => (if t502 = true then (if t508 = true then (if bt514.2.2 = true then ((impl_FracCmp.f kj7 t506 t507 t498 t499).bind fun t518 => (if t518 ≤ 0 then ((impl_LedgerCan.f kj7 t493 t494 t495 t506 t507).bind fun t519 => (if t519 = true then ((impl_LedgerCan.f kj7 t493 t494 t495 0 1).bind fun t520 => (some (t520 == (decide ((t495.length : Int) < 8))))) else (some false))) else ((impl_LedgerCan.f kj7 t493 t494 t495 0 1).bind fun t521 => (some (t521 == (decide ((t495.length : Int) < 8))))))) else ((impl_LedgerCan.f kj7 t493 t494 t495 0 1).bind fun t522 => (some (t522 == (decide ((t495.length : Int) < 8)))))) else ((impl_LedgerCan.f kj7 t493 t494 t495 0 1).bind fun t523 => (some (t523 == (decide ((t495.length : Int) < 8)))))) else ((impl_LedgerCan.f kj7 t493 t494 t495 0 1).bind fun t524 => (some (t524 == (decide ((t495.length : Int) < 8)))))))) = some r := H
       have A36 := Aside0.mk A360
       clear A360
       replace H := Option.bind_eq_some_iff.mp H
       obtain ⟨⟨t510, t511, t512⟩, A370, H⟩ := H
       replace H : ((impl_FracSum.f kj7 t510 t511 t506 t507).bind fun bt514 => (if t502 = true then (if t508 = true then (if bt514.2.2 = true then ((impl_FracCmp.f kj7 t506 t507 t498 t499).bind fun t518 => (if t518 ≤ 0 then ((impl_LedgerCan.f kj7 t493 t494 t495 t506 t507).bind fun t519 => (if t519 = true then ((impl_LedgerCan.f kj7 t493 t494 t495 0 1).bind fun t520 => (some (t520 == (decide ((t495.length : Int) < 8))))) else (some false))) else ((impl_LedgerCan.f kj7 t493 t494 t495 0 1).bind fun t521 => (some (t521 == (decide ((t495.length : Int) < 8))))))) else ((impl_LedgerCan.f kj7 t493 t494 t495 0 1).bind fun t522 => (some (t522 == (decide ((t495.length : Int) < 8)))))) else ((impl_LedgerCan.f kj7 t493 t494 t495 0 1).bind fun t523 => (some (t523 == (decide ((t495.length : Int) < 8)))))) else ((impl_LedgerCan.f kj7 t493 t494 t495 0 1).bind fun t524 => (some (t524 == (decide ((t495.length : Int) < 8))))))) = some r := H
       have A37 := Aside0.mk A370
       clear A370
       replace H := Option.bind_eq_some_iff.mp H
       obtain ⟨⟨t514, t515, t516⟩, A380, H⟩ := H
       replace H : (if t502 = true then (if t508 = true then (if t516 = true then ((impl_FracCmp.f kj7 t506 t507 t498 t499).bind fun t518 => (if t518 ≤ 0 then ((impl_LedgerCan.f kj7 t493 t494 t495 t506 t507).bind fun t519 => (if t519 = true then ((impl_LedgerCan.f kj7 t493 t494 t495 0 1).bind fun t520 => (some (t520 == (decide ((t495.length : Int) < 8))))) else (some false))) else ((impl_LedgerCan.f kj7 t493 t494 t495 0 1).bind fun t521 => (some (t521 == (decide ((t495.length : Int) < 8))))))) else ((impl_LedgerCan.f kj7 t493 t494 t495 0 1).bind fun t522 => (some (t522 == (decide ((t495.length : Int) < 8)))))) else ((impl_LedgerCan.f kj7 t493 t494 t495 0 1).bind fun t523 => (some (t523 == (decide ((t495.length : Int) < 8)))))) else ((impl_LedgerCan.f kj7 t493 t494 t495 0 1).bind fun t524 => (some (t524 == (decide ((t495.length : Int) < 8)))))) = some r := H
       have A38 := Aside0.mk A380
       clear A380
       by_cases c39 : t502 = true
       ·subst c39
        have H1 : (if t508 = true then (if t516 = true then ((impl_FracCmp.f kj7 t506 t507 t498 t499).bind fun t518 => (if t518 ≤ 0 then ((impl_LedgerCan.f kj7 t493 t494 t495 t506 t507).bind fun t519 => (if t519 = true then ((impl_LedgerCan.f kj7 t493 t494 t495 0 1).bind fun t520 => (some (t520 == (decide ((t495.length : Int) < 8))))) else (some false))) else ((impl_LedgerCan.f kj7 t493 t494 t495 0 1).bind fun t521 => (some (t521 == (decide ((t495.length : Int) < 8))))))) else ((impl_LedgerCan.f kj7 t493 t494 t495 0 1).bind fun t522 => (some (t522 == (decide ((t495.length : Int) < 8)))))) else ((impl_LedgerCan.f kj7 t493 t494 t495 0 1).bind fun t523 => (some (t523 == (decide ((t495.length : Int) < 8)))))) = some r := by rw [if_pos rfl] at H; exact H
        clear H
        have H := H1
        clear H1
        by_cases c40 : t508 = true
        ·subst c40
         have H1 : (if t516 = true then ((impl_FracCmp.f kj7 t506 t507 t498 t499).bind fun t518 => (if t518 ≤ 0 then ((impl_LedgerCan.f kj7 t493 t494 t495 t506 t507).bind fun t519 => (if t519 = true then ((impl_LedgerCan.f kj7 t493 t494 t495 0 1).bind fun t520 => (some (t520 == (decide ((t495.length : Int) < 8))))) else (some false))) else ((impl_LedgerCan.f kj7 t493 t494 t495 0 1).bind fun t521 => (some (t521 == (decide ((t495.length : Int) < 8))))))) else ((impl_LedgerCan.f kj7 t493 t494 t495 0 1).bind fun t522 => (some (t522 == (decide ((t495.length : Int) < 8)))))) = some r := by rw [if_pos rfl] at H; exact H
         clear H
         have H := H1
         clear H1
         by_cases c41 : t516 = true
         ·subst c41
          have H1 : ((impl_FracCmp.f kj7 t506 t507 t498 t499).bind fun t518 => (if t518 ≤ 0 then ((impl_LedgerCan.f kj7 t493 t494 t495 t506 t507).bind fun t519 => (if t519 = true then ((impl_LedgerCan.f kj7 t493 t494 t495 0 1).bind fun t520 => (some (t520 == (decide ((t495.length : Int) < 8))))) else (some false))) else ((impl_LedgerCan.f kj7 t493 t494 t495 0 1).bind fun t521 => (some (t521 == (decide ((t495.length : Int) < 8))))))) = some r := by rw [if_pos rfl] at H; exact H
          clear H
          have H := H1
          clear H1
          replace H := Option.bind_eq_some_iff.mp H
          obtain ⟨t518, A420, H⟩ := H
          replace H : (if t518 ≤ 0 then ((impl_LedgerCan.f kj7 t493 t494 t495 t506 t507).bind fun t519 => (if t519 = true then ((impl_LedgerCan.f kj7 t493 t494 t495 0 1).bind fun t520 => (some (t520 == (decide ((t495.length : Int) < 8))))) else (some false))) else ((impl_LedgerCan.f kj7 t493 t494 t495 0 1).bind fun t521 => (some (t521 == (decide ((t495.length : Int) < 8)))))) = some r := H
          have A42 := Aside0.mk A420
          clear A420
          by_cases c43 : t518 ≤ 0
          ·rw [if_pos c43] at H
           have c43b0 : decide (t518 ≤ 0) = true := decide_eq_true c43
           clear c43
           replace H := Option.bind_eq_some_iff.mp H
           obtain ⟨t519, A440, H⟩ := H
           replace H : (if t519 = true then ((impl_LedgerCan.f kj7 t493 t494 t495 0 1).bind fun t520 => (some (t520 == (decide ((t495.length : Int) < 8))))) else (some false)) = some r := H
           have A44 := Aside0.mk A440
           clear A440
           by_cases c45 : t519 = true
           ·subst c45
            have H1 : ((impl_LedgerCan.f kj7 t493 t494 t495 0 1).bind fun t520 => (some (t520 == (decide ((t495.length : Int) < 8))))) = some r := by rw [if_pos rfl] at H; exact H
            clear H
            have H := H1
            clear H1
            replace H := Option.bind_eq_some_iff.mp H
            obtain ⟨t520, A460, H⟩ := H
            replace H : (some (t520 == (decide ((t495.length : Int) < 8)))) = some r := H
            have A46 := Aside0.mk A460
            clear A460
            obtain rfl := Option.some.inj H
            try go_wp2_with (first | ((with_reducible refine gate_callee (f := 35) rfl ?_); refine goesL_ (some 54) rfl rfl Try.func35 (by kernel_rfl) rfl #[.int .i64 (1 + ((l1.length : Int) % 5)), .int .i64 (1 + ((l1.length : Int) % 7))] rfl (by (try simp only [List.map_toArray, List.map_cons, List.map_nil]); first | done | rfl | (simp only [List.length_drop, List.length_take]; rfl)) ?_; (with_reducible refine (impl_FracOf.calls kj7 (1 + ((l1.length : Int) % 5)) (1 + ((l1.length : Int) % 7)) t506 t507 true _ A36.out).mono ?_); rintro e w47 ⟨rfl, hb⟩; refine ⟨_, rfl, ?_⟩; have n0_ := yM (Kd.R_below (by (with_reducible repeat (first | apply Kd.R_alloc | apply Kd.R_drewN | apply Kd.R_drew)); exact HO_501002.out) hb); have n1_ := yM (blk_below (g := gb500) (o := .cells #[.int .i64 t493, .int .i64 t494, .slice Ao14 t495.length co14] 32 (0, 0)) (by (with_reducible repeat (first | refine yN ?_ _ | refine yD ?_ | refine yA ?_ _)); exact BK500.out) hb); have n2_ := yM (blk_below (g := gb501) (o := .cells #[.int .i64 t498, .int .i64 t499] 29 (0, 0)) (by (with_reducible repeat (first | refine yN ?_ _ | refine yD ?_ | refine yA ?_ _)); exact BK501.out) hb); have n3_ := yM (below_step (by repeat (first | (with_reducible first | exact HB.out | apply below_alloc | apply yP | apply below_drew1 | refine yS ?_ GE500.out | refine yS ?_ GE501.out) | exact HB.out)) hb); clear HO_501002; clear BK500; clear BK501; clear HB; have HO_501002 := n0_; have BK500 := n1_; have BK501 := n2_; have HB := n3_; clear n0_ n1_ n2_ n3_; (try clear hb); (try clear hb2); (try clear hk); (try clear hi)) | ((with_reducible refine gate_dst (N := 8) rfl ?_); (try (refine gate_guard (by rfl) ?_; dsimp only)); refine box_event ?hg (N := 8) ?hd (cs := #[.int .i64 0, .int .i64 0]) (t := 29) ?hr ?_; (case hd => rfl); (case hg => rfl); (case hr => first | (go_simp; done) | (go_simp; rfl)); intro gb509 hg w48 hbox hb; have n0_ := yM (Kd.R_below (Kd.R_elderB (by (with_reducible repeat (first | apply Kd.R_alloc | apply Kd.R_drewN | apply Kd.R_drew)); exact HO_501002.out) gb509 (Nat.le_of_eq hg.symm)) hb); have n1_ := yM (blk_below (g := gb500) (o := .cells #[.int .i64 t493, .int .i64 t494, .slice Ao14 t495.length co14] 32 (0, 0)) (by (with_reducible repeat (first | refine yN ?_ _ | refine yD ?_ | refine yA ?_ _)); exact BK500.out) hb); have n2_ := yM (blk_below (g := gb501) (o := .cells #[.int .i64 t498, .int .i64 t499] 29 (0, 0)) (by (with_reducible repeat (first | refine yN ?_ _ | refine yD ?_ | refine yA ?_ _)); exact BK501.out) hb); have n3_ := yM (below_step (by repeat (first | (with_reducible first | exact HB.out | apply below_alloc | apply yP | apply below_drew1 | refine yS ?_ GE500.out | refine yS ?_ GE501.out) | exact HB.out)) hb); have n4_ := yM (hbox); have n5_ := yM ((by rw [hg]; exact (below_size (by repeat (first | (with_reducible first | exact HB.out | apply below_alloc | apply yP | apply below_drew1 | refine yS ?_ GE500.out | refine yS ?_ GE501.out) | exact HB.out))) : w.heap.size ≤ gb509)); have n6_ := yM ((by rw [hg]; exact (below_size (by repeat (first | (with_reducible first | exact HB.out | apply below_alloc | apply yP | apply below_drew1 | refine yS ?_ GE500.out | refine yS ?_ GE501.out) | exact HB.out))) : w.heap.size ≤ gb509)); have n7_ := yM ((by rw [hg]; exact Nat.ne_of_lt (blk_lt (g := gb500) (o := .cells #[.int .i64 t493, .int .i64 t494, .slice Ao14 t495.length co14] 32 (0, 0)) (by (with_reducible repeat (first | refine yN ?_ _ | refine yD ?_ | refine yA ?_ _)); exact BK500.out)) : gb500 ≠ gb509)); have n8_ := yM ((by rw [hg]; exact Nat.ne_of_gt (blk_lt (g := gb500) (o := .cells #[.int .i64 t493, .int .i64 t494, .slice Ao14 t495.length co14] 32 (0, 0)) (by (with_reducible repeat (first | refine yN ?_ _ | refine yD ?_ | refine yA ?_ _)); exact BK500.out)) : gb509 ≠ gb500)); have n9_ := yM ((by rw [hg]; exact Nat.ne_of_lt (blk_lt (g := gb501) (o := .cells #[.int .i64 t498, .int .i64 t499] 29 (0, 0)) (by (with_reducible repeat (first | refine yN ?_ _ | refine yD ?_ | refine yA ?_ _)); exact BK501.out)) : gb501 ≠ gb509)); have n10_ := yM ((by rw [hg]; exact Nat.ne_of_gt (blk_lt (g := gb501) (o := .cells #[.int .i64 t498, .int .i64 t499] 29 (0, 0)) (by (with_reducible repeat (first | refine yN ?_ _ | refine yD ?_ | refine yA ?_ _)); exact BK501.out)) : gb509 ≠ gb501)); clear HO_501002; clear BK500; clear BK501; clear HB; have HO_501002 := n0_; have BK500 := n1_; have BK501 := n2_; have HB := n3_; have BK509 := n4_; have GW509 := n5_; have GE509 := n6_; have NB500_509 := n7_; have NB509_500 := n8_; have NB501_509 := n9_; have NB509_501 := n10_; clear n0_ n1_ n2_ n3_ n4_ n5_ n6_ n7_ n8_ n9_ n10_; clear hb hbox hg; have hnb49 := NB509_500.out; have hnc49 := NB500_509.out; have hnb50 := NB509_501.out; have hnc50 := NB501_509.out; have hcz51_0 : w48.cell? ⟨gb509, 0, none⟩ = some (.int .i64 0) := (blk_cell BK509.out 0).trans rfl; have hcz51_1 : w48.cell? ⟨gb509, 1, none⟩ = some (.int .i64 0) := (blk_cell BK509.out 1).trans rfl; have hfz51_0 := blk_frozen BK509.out 0; have hfz51_1 := blk_frozen BK509.out 1; have hnb52 := NB500_501.out; have hnc52 := NB501_500.out; have hcz53_0 : w48.cell? ⟨gb500, 0, none⟩ = some (.int .i64 t493) := (blk_cell BK500.out 0).trans rfl; have hcz53_1 : w48.cell? ⟨gb500, 1, none⟩ = some (.int .i64 t494) := (blk_cell BK500.out 1).trans rfl; have hcz53_2 : w48.cell? ⟨gb500, 2, none⟩ = some (.slice Ao14 t495.length co14) := (blk_cell BK500.out 2).trans rfl; have hfz53_0 := blk_frozen BK500.out 0; have hfz53_1 := blk_frozen BK500.out 1; have hfz53_2 := blk_frozen BK500.out 2) | ((with_reducible refine gate_callee (f := 20) rfl ?_); refine goesL_ (some 59) rfl rfl Try.func20 (by kernel_rfl) rfl #[.agg #[.int .i64 t493, .int .i64 t494, .slice Ao14 t495.length co14]] rfl (by (try simp only [List.map_toArray, List.map_cons, List.map_nil]); first | done | rfl | (simp only [List.length_drop, List.length_take]; rfl)) ?_; (with_reducible refine (impl_LedgerSum.calls kj7 t493 t494 _ _ t495 t510 t511 t512 _ ?side1 ?side2 A37.out).mono ?_); (case side1 => refine (Kd.R_reads' (e := 29) (base := w.heap.size) (ok := fun k_ => (k_ ≠ gb501 ∧ k_ ≠ gb509)) (n := t495.length) (c := co14) ?_).2.2; exact (by (with_reducible repeat (first | apply Kd.R_alloc | apply Kd.R_drewN | apply Kd.R_drew)); exact (Kd.R_mono (Kd.R_far (p := ⟨gb509, 1, none⟩) (Kd.R_far (p := ⟨gb509, 0, none⟩) (Kd.R_mono HO_501002.out (fun k_ hk => (⟨hk, hk.2⟩ : _ ∧ k_ ≠ gb509))) (fun _ hk => hk.2) (.int .i64 t506)) (fun _ hk => hk.2) (.int .i64 t507)) (fun _ h_ => h_.1)))); (case side2 => exact (Kd.R_reads' HO_501002.out).2.1); rintro e w54 ⟨rfl, hb⟩; refine ⟨_, rfl, ?_⟩; have n0_ := yM (Kd.R_below (by (with_reducible repeat (first | apply Kd.R_alloc | apply Kd.R_drewN | apply Kd.R_drew)); exact (Kd.R_mono (Kd.R_far (p := ⟨gb509, 1, none⟩) (Kd.R_far (p := ⟨gb509, 0, none⟩) (Kd.R_mono HO_501002.out (fun k_ hk => (⟨hk, hk.2⟩ : _ ∧ k_ ≠ gb509))) (fun _ hk => hk.2) (.int .i64 t506)) (fun _ hk => hk.2) (.int .i64 t507)) (fun _ h_ => h_.1))) hb); have n1_ := yM (blk_below (g := gb500) (o := .cells #[.int .i64 t493, .int .i64 t494, .slice Ao14 t495.length co14] 32 (0, 0)) (by (with_reducible repeat (first | refine yN ?_ _ | refine yD ?_ | refine yA ?_ _)); refine blk_far ?_ NB500_509.out _; (with_reducible repeat (first | refine yN ?_ _ | refine yD ?_ | refine yA ?_ _)); refine blk_far ?_ NB500_509.out _; (with_reducible repeat (first | refine yN ?_ _ | refine yD ?_ | refine yA ?_ _)); exact BK500.out) hb); have n2_ := yM (blk_below (g := gb501) (o := .cells #[.int .i64 t498, .int .i64 t499] 29 (0, 0)) (by (with_reducible repeat (first | refine yN ?_ _ | refine yD ?_ | refine yA ?_ _)); refine blk_far ?_ NB501_509.out _; (with_reducible repeat (first | refine yN ?_ _ | refine yD ?_ | refine yA ?_ _)); refine blk_far ?_ NB501_509.out _; (with_reducible repeat (first | refine yN ?_ _ | refine yD ?_ | refine yA ?_ _)); exact BK501.out) hb); have n3_ := yM (blk_below (g := gb509) (o := .cells #[.int .i64 t506, .int .i64 t507] 29 (0, 0)) (by (with_reducible repeat (first | refine yN ?_ _ | refine yD ?_ | refine yA ?_ _)); refine blk_put (cs := #[.int .i64 t506, .int .i64 0]) ?_ 1 _ rfl; (with_reducible repeat (first | refine yN ?_ _ | refine yD ?_ | refine yA ?_ _)); refine blk_put (cs := #[.int .i64 0, .int .i64 0]) ?_ 0 _ rfl; (with_reducible repeat (first | refine yN ?_ _ | refine yD ?_ | refine yA ?_ _)); exact BK509.out) hb); have n4_ := yM (below_step (by repeat (first | (with_reducible first | exact HB.out | apply below_alloc | apply yP | apply below_drew1 | refine yS ?_ GE500.out | refine yS ?_ GE501.out | refine yS ?_ GE509.out) | exact HB.out)) hb); clear HO_501002; clear BK500; clear BK501; clear BK509; clear HB; have HO_501002 := n0_; have BK500 := n1_; have BK501 := n2_; have BK509 := n3_; have HB := n4_; clear n0_ n1_ n2_ n3_ n4_; (try clear hb); (try clear hb2); (try clear hk); (try clear hi)) | ((with_reducible refine gate_dst (N := 10) rfl ?_); (try (refine gate_guard (by rfl) ?_; dsimp only)); refine box_event ?hg (N := 10) ?hd (cs := #[.int .i64 0, .int .i64 0]) (t := 29) ?hr ?_; (case hd => rfl); (case hg => rfl); (case hr => first | (go_simp; done) | (go_simp; rfl)); intro gb513 hg w55 hbox hb; have n0_ := yM (Kd.R_below (Kd.R_elderB (by (with_reducible repeat (first | apply Kd.R_alloc | apply Kd.R_drewN | apply Kd.R_drew)); exact HO_501002.out) gb513 (Nat.le_of_eq hg.symm)) hb); have n1_ := yM (blk_below (g := gb500) (o := .cells #[.int .i64 t493, .int .i64 t494, .slice Ao14 t495.length co14] 32 (0, 0)) (by (with_reducible repeat (first | refine yN ?_ _ | refine yD ?_ | refine yA ?_ _)); exact BK500.out) hb); have n2_ := yM (blk_below (g := gb501) (o := .cells #[.int .i64 t498, .int .i64 t499] 29 (0, 0)) (by (with_reducible repeat (first | refine yN ?_ _ | refine yD ?_ | refine yA ?_ _)); exact BK501.out) hb); have n3_ := yM (blk_below (g := gb509) (o := .cells #[.int .i64 t506, .int .i64 t507] 29 (0, 0)) (by (with_reducible repeat (first | refine yN ?_ _ | refine yD ?_ | refine yA ?_ _)); exact BK509.out) hb); have n4_ := yM (below_step (by repeat (first | (with_reducible first | exact HB.out | apply below_alloc | apply yP | apply below_drew1 | refine yS ?_ GE500.out | refine yS ?_ GE501.out | refine yS ?_ GE509.out) | exact HB.out)) hb); have n5_ := yM (hbox); have n6_ := yM ((by rw [hg]; exact (below_size (by repeat (first | (with_reducible first | exact HB.out | apply below_alloc | apply yP | apply below_drew1 | refine yS ?_ GE500.out | refine yS ?_ GE501.out | refine yS ?_ GE509.out) | exact HB.out))) : w.heap.size ≤ gb513)); have n7_ := yM ((by rw [hg]; exact (below_size (by repeat (first | (with_reducible first | exact HB.out | apply below_alloc | apply yP | apply below_drew1 | refine yS ?_ GE500.out | refine yS ?_ GE501.out | refine yS ?_ GE509.out) | exact HB.out))) : w.heap.size ≤ gb513)); have n8_ := yM ((by rw [hg]; exact Nat.ne_of_lt (blk_lt (g := gb500) (o := .cells #[.int .i64 t493, .int .i64 t494, .slice Ao14 t495.length co14] 32 (0, 0)) (by (with_reducible repeat (first | refine yN ?_ _ | refine yD ?_ | refine yA ?_ _)); exact BK500.out)) : gb500 ≠ gb513)); have n9_ := yM ((by rw [hg]; exact Nat.ne_of_gt (blk_lt (g := gb500) (o := .cells #[.int .i64 t493, .int .i64 t494, .slice Ao14 t495.length co14] 32 (0, 0)) (by (with_reducible repeat (first | refine yN ?_ _ | refine yD ?_ | refine yA ?_ _)); exact BK500.out)) : gb513 ≠ gb500)); have n10_ := yM ((by rw [hg]; exact Nat.ne_of_lt (blk_lt (g := gb501) (o := .cells #[.int .i64 t498, .int .i64 t499] 29 (0, 0)) (by (with_reducible repeat (first | refine yN ?_ _ | refine yD ?_ | refine yA ?_ _)); exact BK501.out)) : gb501 ≠ gb513)); have n11_ := yM ((by rw [hg]; exact Nat.ne_of_gt (blk_lt (g := gb501) (o := .cells #[.int .i64 t498, .int .i64 t499] 29 (0, 0)) (by (with_reducible repeat (first | refine yN ?_ _ | refine yD ?_ | refine yA ?_ _)); exact BK501.out)) : gb513 ≠ gb501)); have n12_ := yM ((by rw [hg]; exact Nat.ne_of_lt (blk_lt (g := gb509) (o := .cells #[.int .i64 t506, .int .i64 t507] 29 (0, 0)) (by (with_reducible repeat (first | refine yN ?_ _ | refine yD ?_ | refine yA ?_ _)); exact BK509.out)) : gb509 ≠ gb513)); have n13_ := yM ((by rw [hg]; exact Nat.ne_of_gt (blk_lt (g := gb509) (o := .cells #[.int .i64 t506, .int .i64 t507] 29 (0, 0)) (by (with_reducible repeat (first | refine yN ?_ _ | refine yD ?_ | refine yA ?_ _)); exact BK509.out)) : gb513 ≠ gb509)); clear HO_501002; clear BK500; clear BK501; clear BK509; clear HB; have HO_501002 := n0_; have BK500 := n1_; have BK501 := n2_; have BK509 := n3_; have HB := n4_; have BK513 := n5_; have GW513 := n6_; have GE513 := n7_; have NB500_513 := n8_; have NB513_500 := n9_; have NB501_513 := n10_; have NB513_501 := n11_; have NB509_513 := n12_; have NB513_509 := n13_; clear n0_ n1_ n2_ n3_ n4_ n5_ n6_ n7_ n8_ n9_ n10_ n11_ n12_ n13_; clear hb hbox hg; have hnb56 := NB513_500.out; have hnc56 := NB500_513.out; have hnb57 := NB513_501.out; have hnc57 := NB501_513.out; have hnb58 := NB513_509.out; have hnc58 := NB509_513.out; have hcz59_0 : w55.cell? ⟨gb513, 0, none⟩ = some (.int .i64 0) := (blk_cell BK513.out 0).trans rfl; have hcz59_1 : w55.cell? ⟨gb513, 1, none⟩ = some (.int .i64 0) := (blk_cell BK513.out 1).trans rfl; have hfz59_0 := blk_frozen BK513.out 0; have hfz59_1 := blk_frozen BK513.out 1; have hcz60_0 : w55.cell? ⟨gb509, 0, none⟩ = some (.int .i64 t506) := (blk_cell BK509.out 0).trans rfl; have hcz60_1 : w55.cell? ⟨gb509, 1, none⟩ = some (.int .i64 t507) := (blk_cell BK509.out 1).trans rfl; have hfz60_0 := blk_frozen BK509.out 0; have hfz60_1 := blk_frozen BK509.out 1) | ((with_reducible refine gate_callee (f := 24) rfl ?_); refine goesL_ (some 65) rfl rfl Try.func24 (by kernel_rfl) rfl #[.agg #[.int .i64 t510, .int .i64 t511], .agg #[.int .i64 t506, .int .i64 t507]] rfl (by (try simp only [List.map_toArray, List.map_cons, List.map_nil]); first | done | rfl | (simp only [List.length_drop, List.length_take]; rfl)) ?_; (with_reducible refine (impl_FracSum.calls kj7 t510 t511 t506 t507 t514 t515 true _ A38.out).mono ?_); rintro e w61 ⟨rfl, hb⟩; refine ⟨_, rfl, ?_⟩; have n0_ := yM (Kd.R_below (by (with_reducible repeat (first | apply Kd.R_alloc | apply Kd.R_drewN | apply Kd.R_drew)); exact (Kd.R_mono (Kd.R_far (p := ⟨gb513, 1, none⟩) (Kd.R_far (p := ⟨gb513, 0, none⟩) (Kd.R_mono HO_501002.out (fun k_ hk => (⟨hk, hk.2⟩ : _ ∧ k_ ≠ gb513))) (fun _ hk => hk.2) (.int .i64 t510)) (fun _ hk => hk.2) (.int .i64 t511)) (fun _ h_ => h_.1))) hb); have n1_ := yM (blk_below (g := gb500) (o := .cells #[.int .i64 t493, .int .i64 t494, .slice Ao14 t495.length co14] 32 (0, 0)) (by (with_reducible repeat (first | refine yN ?_ _ | refine yD ?_ | refine yA ?_ _)); refine blk_far ?_ NB500_513.out _; (with_reducible repeat (first | refine yN ?_ _ | refine yD ?_ | refine yA ?_ _)); refine blk_far ?_ NB500_513.out _; (with_reducible repeat (first | refine yN ?_ _ | refine yD ?_ | refine yA ?_ _)); exact BK500.out) hb); have n2_ := yM (blk_below (g := gb501) (o := .cells #[.int .i64 t498, .int .i64 t499] 29 (0, 0)) (by (with_reducible repeat (first | refine yN ?_ _ | refine yD ?_ | refine yA ?_ _)); refine blk_far ?_ NB501_513.out _; (with_reducible repeat (first | refine yN ?_ _ | refine yD ?_ | refine yA ?_ _)); refine blk_far ?_ NB501_513.out _; (with_reducible repeat (first | refine yN ?_ _ | refine yD ?_ | refine yA ?_ _)); exact BK501.out) hb); have n3_ := yM (blk_below (g := gb509) (o := .cells #[.int .i64 t506, .int .i64 t507] 29 (0, 0)) (by (with_reducible repeat (first | refine yN ?_ _ | refine yD ?_ | refine yA ?_ _)); refine blk_far ?_ NB509_513.out _; (with_reducible repeat (first | refine yN ?_ _ | refine yD ?_ | refine yA ?_ _)); refine blk_far ?_ NB509_513.out _; (with_reducible repeat (first | refine yN ?_ _ | refine yD ?_ | refine yA ?_ _)); exact BK509.out) hb); have n4_ := yM (blk_below (g := gb513) (o := .cells #[.int .i64 t510, .int .i64 t511] 29 (0, 0)) (by (with_reducible repeat (first | refine yN ?_ _ | refine yD ?_ | refine yA ?_ _)); refine blk_put (cs := #[.int .i64 t510, .int .i64 0]) ?_ 1 _ rfl; (with_reducible repeat (first | refine yN ?_ _ | refine yD ?_ | refine yA ?_ _)); refine blk_put (cs := #[.int .i64 0, .int .i64 0]) ?_ 0 _ rfl; (with_reducible repeat (first | refine yN ?_ _ | refine yD ?_ | refine yA ?_ _)); exact BK513.out) hb); have n5_ := yM (below_step (by repeat (first | (with_reducible first | exact HB.out | apply below_alloc | apply yP | apply below_drew1 | refine yS ?_ GE500.out | refine yS ?_ GE501.out | refine yS ?_ GE509.out | refine yS ?_ GE513.out) | exact HB.out)) hb); clear HO_501002; clear BK500; clear BK501; clear BK509; clear BK513; clear HB; have HO_501002 := n0_; have BK500 := n1_; have BK501 := n2_; have BK509 := n3_; have BK513 := n4_; have HB := n5_; clear n0_ n1_ n2_ n3_ n4_ n5_; (try clear hb); (try clear hb2); (try clear hk); (try clear hi)) | ((with_reducible refine gate_dst (N := 12) rfl ?_); (try (refine gate_guard (by rfl) ?_; dsimp only)); refine box_event ?hg (N := 12) ?hd (cs := #[.int .i64 0, .int .i64 0]) (t := 29) ?hr ?_; (case hd => rfl); (case hg => rfl); (case hr => first | (go_simp; done) | (go_simp; rfl)); intro gb517 hg w62 hbox hb; have n0_ := yM (Kd.R_below (Kd.R_elderB (by (with_reducible repeat (first | apply Kd.R_alloc | apply Kd.R_drewN | apply Kd.R_drew)); exact HO_501002.out) gb517 (Nat.le_of_eq hg.symm)) hb); have n1_ := yM (blk_below (g := gb500) (o := .cells #[.int .i64 t493, .int .i64 t494, .slice Ao14 t495.length co14] 32 (0, 0)) (by (with_reducible repeat (first | refine yN ?_ _ | refine yD ?_ | refine yA ?_ _)); exact BK500.out) hb); have n2_ := yM (blk_below (g := gb501) (o := .cells #[.int .i64 t498, .int .i64 t499] 29 (0, 0)) (by (with_reducible repeat (first | refine yN ?_ _ | refine yD ?_ | refine yA ?_ _)); exact BK501.out) hb); have n3_ := yM (blk_below (g := gb509) (o := .cells #[.int .i64 t506, .int .i64 t507] 29 (0, 0)) (by (with_reducible repeat (first | refine yN ?_ _ | refine yD ?_ | refine yA ?_ _)); exact BK509.out) hb); have n4_ := yM (blk_below (g := gb513) (o := .cells #[.int .i64 t510, .int .i64 t511] 29 (0, 0)) (by (with_reducible repeat (first | refine yN ?_ _ | refine yD ?_ | refine yA ?_ _)); exact BK513.out) hb); have n5_ := yM (below_step (by repeat (first | (with_reducible first | exact HB.out | apply below_alloc | apply yP | apply below_drew1 | refine yS ?_ GE500.out | refine yS ?_ GE501.out | refine yS ?_ GE509.out | refine yS ?_ GE513.out) | exact HB.out)) hb); have n6_ := yM (hbox); have n7_ := yM ((by rw [hg]; exact (below_size (by repeat (first | (with_reducible first | exact HB.out | apply below_alloc | apply yP | apply below_drew1 | refine yS ?_ GE500.out | refine yS ?_ GE501.out | refine yS ?_ GE509.out | refine yS ?_ GE513.out) | exact HB.out))) : w.heap.size ≤ gb517)); have n8_ := yM ((by rw [hg]; exact (below_size (by repeat (first | (with_reducible first | exact HB.out | apply below_alloc | apply yP | apply below_drew1 | refine yS ?_ GE500.out | refine yS ?_ GE501.out | refine yS ?_ GE509.out | refine yS ?_ GE513.out) | exact HB.out))) : w.heap.size ≤ gb517)); have n9_ := yM ((by rw [hg]; exact Nat.ne_of_lt (blk_lt (g := gb500) (o := .cells #[.int .i64 t493, .int .i64 t494, .slice Ao14 t495.length co14] 32 (0, 0)) (by (with_reducible repeat (first | refine yN ?_ _ | refine yD ?_ | refine yA ?_ _)); exact BK500.out)) : gb500 ≠ gb517)); have n10_ := yM ((by rw [hg]; exact Nat.ne_of_gt (blk_lt (g := gb500) (o := .cells #[.int .i64 t493, .int .i64 t494, .slice Ao14 t495.length co14] 32 (0, 0)) (by (with_reducible repeat (first | refine yN ?_ _ | refine yD ?_ | refine yA ?_ _)); exact BK500.out)) : gb517 ≠ gb500)); have n11_ := yM ((by rw [hg]; exact Nat.ne_of_lt (blk_lt (g := gb501) (o := .cells #[.int .i64 t498, .int .i64 t499] 29 (0, 0)) (by (with_reducible repeat (first | refine yN ?_ _ | refine yD ?_ | refine yA ?_ _)); exact BK501.out)) : gb501 ≠ gb517)); have n12_ := yM ((by rw [hg]; exact Nat.ne_of_gt (blk_lt (g := gb501) (o := .cells #[.int .i64 t498, .int .i64 t499] 29 (0, 0)) (by (with_reducible repeat (first | refine yN ?_ _ | refine yD ?_ | refine yA ?_ _)); exact BK501.out)) : gb517 ≠ gb501)); have n13_ := yM ((by rw [hg]; exact Nat.ne_of_lt (blk_lt (g := gb509) (o := .cells #[.int .i64 t506, .int .i64 t507] 29 (0, 0)) (by (with_reducible repeat (first | refine yN ?_ _ | refine yD ?_ | refine yA ?_ _)); exact BK509.out)) : gb509 ≠ gb517)); have n14_ := yM ((by rw [hg]; exact Nat.ne_of_gt (blk_lt (g := gb509) (o := .cells #[.int .i64 t506, .int .i64 t507] 29 (0, 0)) (by (with_reducible repeat (first | refine yN ?_ _ | refine yD ?_ | refine yA ?_ _)); exact BK509.out)) : gb517 ≠ gb509)); have n15_ := yM ((by rw [hg]; exact Nat.ne_of_lt (blk_lt (g := gb513) (o := .cells #[.int .i64 t510, .int .i64 t511] 29 (0, 0)) (by (with_reducible repeat (first | refine yN ?_ _ | refine yD ?_ | refine yA ?_ _)); exact BK513.out)) : gb513 ≠ gb517)); have n16_ := yM ((by rw [hg]; exact Nat.ne_of_gt (blk_lt (g := gb513) (o := .cells #[.int .i64 t510, .int .i64 t511] 29 (0, 0)) (by (with_reducible repeat (first | refine yN ?_ _ | refine yD ?_ | refine yA ?_ _)); exact BK513.out)) : gb517 ≠ gb513)); clear HO_501002; clear BK500; clear BK501; clear BK509; clear BK513; clear HB; have HO_501002 := n0_; have BK500 := n1_; have BK501 := n2_; have BK509 := n3_; have BK513 := n4_; have HB := n5_; have BK517 := n6_; have GW517 := n7_; have GE517 := n8_; have NB500_517 := n9_; have NB517_500 := n10_; have NB501_517 := n11_; have NB517_501 := n12_; have NB509_517 := n13_; have NB517_509 := n14_; have NB513_517 := n15_; have NB517_513 := n16_; clear n0_ n1_ n2_ n3_ n4_ n5_ n6_ n7_ n8_ n9_ n10_ n11_ n12_ n13_ n14_ n15_ n16_; clear hb hbox hg; have hnb63 := NB517_500.out; have hnc63 := NB500_517.out; have hnb64 := NB517_501.out; have hnc64 := NB501_517.out; have hnb65 := NB517_509.out; have hnc65 := NB509_517.out; have hnb66 := NB517_513.out; have hnc66 := NB513_517.out; have hcz67_0 : w62.cell? ⟨gb517, 0, none⟩ = some (.int .i64 0) := (blk_cell BK517.out 0).trans rfl; have hcz67_1 : w62.cell? ⟨gb517, 1, none⟩ = some (.int .i64 0) := (blk_cell BK517.out 1).trans rfl; have hfz67_0 := blk_frozen BK517.out 0; have hfz67_1 := blk_frozen BK517.out 1; have hcz68_0 : w62.cell? ⟨gb509, 0, none⟩ = some (.int .i64 t506) := (blk_cell BK509.out 0).trans rfl; have hcz68_1 : w62.cell? ⟨gb509, 1, none⟩ = some (.int .i64 t507) := (blk_cell BK509.out 1).trans rfl; have hfz68_0 := blk_frozen BK509.out 0; have hfz68_1 := blk_frozen BK509.out 1; have hcz69_0 : w62.cell? ⟨gb501, 0, none⟩ = some (.int .i64 t498) := (blk_cell BK501.out 0).trans rfl; have hcz69_1 : w62.cell? ⟨gb501, 1, none⟩ = some (.int .i64 t499) := (blk_cell BK501.out 1).trans rfl; have hfz69_0 := blk_frozen BK501.out 0; have hfz69_1 := blk_frozen BK501.out 1) | (go_at_call 25; (with_reducible refine (impl_FracCmp.calls kj7 t506 t507 t498 t499 t518 _ A42.out).mono ?_); rintro e w70 ⟨rfl, hb⟩; have n0_ := yM (Kd.R_below (by (with_reducible repeat (first | apply Kd.R_alloc | apply Kd.R_drewN | apply Kd.R_drew)); exact (Kd.R_mono (Kd.R_far (p := ⟨gb517, 1, none⟩) (Kd.R_far (p := ⟨gb517, 0, none⟩) (Kd.R_mono HO_501002.out (fun k_ hk => (⟨hk, hk.2⟩ : _ ∧ k_ ≠ gb517))) (fun _ hk => hk.2) (.int .i64 t514)) (fun _ hk => hk.2) (.int .i64 t515)) (fun _ h_ => h_.1))) hb); have n1_ := yM (blk_below (g := gb500) (o := .cells #[.int .i64 t493, .int .i64 t494, .slice Ao14 t495.length co14] 32 (0, 0)) (by (with_reducible repeat (first | refine yN ?_ _ | refine yD ?_ | refine yA ?_ _)); refine blk_far ?_ NB500_517.out _; (with_reducible repeat (first | refine yN ?_ _ | refine yD ?_ | refine yA ?_ _)); refine blk_far ?_ NB500_517.out _; (with_reducible repeat (first | refine yN ?_ _ | refine yD ?_ | refine yA ?_ _)); exact BK500.out) hb); have n2_ := yM (blk_below (g := gb501) (o := .cells #[.int .i64 t498, .int .i64 t499] 29 (0, 0)) (by (with_reducible repeat (first | refine yN ?_ _ | refine yD ?_ | refine yA ?_ _)); refine blk_far ?_ NB501_517.out _; (with_reducible repeat (first | refine yN ?_ _ | refine yD ?_ | refine yA ?_ _)); refine blk_far ?_ NB501_517.out _; (with_reducible repeat (first | refine yN ?_ _ | refine yD ?_ | refine yA ?_ _)); exact BK501.out) hb); have n3_ := yM (blk_below (g := gb509) (o := .cells #[.int .i64 t506, .int .i64 t507] 29 (0, 0)) (by (with_reducible repeat (first | refine yN ?_ _ | refine yD ?_ | refine yA ?_ _)); refine blk_far ?_ NB509_517.out _; (with_reducible repeat (first | refine yN ?_ _ | refine yD ?_ | refine yA ?_ _)); refine blk_far ?_ NB509_517.out _; (with_reducible repeat (first | refine yN ?_ _ | refine yD ?_ | refine yA ?_ _)); exact BK509.out) hb); have n4_ := yM (blk_below (g := gb513) (o := .cells #[.int .i64 t510, .int .i64 t511] 29 (0, 0)) (by (with_reducible repeat (first | refine yN ?_ _ | refine yD ?_ | refine yA ?_ _)); refine blk_far ?_ NB513_517.out _; (with_reducible repeat (first | refine yN ?_ _ | refine yD ?_ | refine yA ?_ _)); refine blk_far ?_ NB513_517.out _; (with_reducible repeat (first | refine yN ?_ _ | refine yD ?_ | refine yA ?_ _)); exact BK513.out) hb); have n5_ := yM (blk_below (g := gb517) (o := .cells #[.int .i64 t514, .int .i64 t515] 29 (0, 0)) (by (with_reducible repeat (first | refine yN ?_ _ | refine yD ?_ | refine yA ?_ _)); refine blk_put (cs := #[.int .i64 t514, .int .i64 0]) ?_ 1 _ rfl; (with_reducible repeat (first | refine yN ?_ _ | refine yD ?_ | refine yA ?_ _)); refine blk_put (cs := #[.int .i64 0, .int .i64 0]) ?_ 0 _ rfl; (with_reducible repeat (first | refine yN ?_ _ | refine yD ?_ | refine yA ?_ _)); exact BK517.out) hb); have n6_ := yM (below_step (by repeat (first | (with_reducible first | exact HB.out | apply below_alloc | apply yP | apply below_drew1 | refine yS ?_ GE500.out | refine yS ?_ GE501.out | refine yS ?_ GE509.out | refine yS ?_ GE513.out | refine yS ?_ GE517.out) | exact HB.out)) hb); clear HO_501002; clear BK500; clear BK501; clear BK509; clear BK513; clear BK517; clear HB; have HO_501002 := n0_; have BK500 := n1_; have BK501 := n2_; have BK509 := n3_; have BK513 := n4_; have BK517 := n5_; have HB := n6_; clear n0_ n1_ n2_ n3_ n4_ n5_ n6_; (try clear hb); (try clear hb2); (try clear hk); (try clear hi); have hcz71_0 : w70.cell? ⟨gb500, 0, none⟩ = some (.int .i64 t493) := (blk_cell BK500.out 0).trans rfl; have hcz71_1 : w70.cell? ⟨gb500, 1, none⟩ = some (.int .i64 t494) := (blk_cell BK500.out 1).trans rfl; have hcz71_2 : w70.cell? ⟨gb500, 2, none⟩ = some (.slice Ao14 t495.length co14) := (blk_cell BK500.out 2).trans rfl; have hfz71_0 := blk_frozen BK500.out 0; have hfz71_1 := blk_frozen BK500.out 1; have hfz71_2 := blk_frozen BK500.out 2; have hcz72_0 : w70.cell? ⟨gb509, 0, none⟩ = some (.int .i64 t506) := (blk_cell BK509.out 0).trans rfl; have hcz72_1 : w70.cell? ⟨gb509, 1, none⟩ = some (.int .i64 t507) := (blk_cell BK509.out 1).trans rfl; have hfz72_0 := blk_frozen BK509.out 0; have hfz72_1 := blk_frozen BK509.out 1) | (go_at_call 33; (with_reducible refine (impl_LedgerCan.calls kj7 t493 t494 _ _ t495 t506 t507 true _ ?side1 ?side2 A44.out).mono ?_); (case side1 => repeat (first | exact (Kd.R_reads' HO_501002.out).2.2 | (with_reducible refine Kd.C_alloc ?_ _) | (with_reducible refine Kd.C_drewN ?_ _) | (with_reducible refine Kd.C_drew ?_))); (case side2 => exact (Kd.R_reads' HO_501002.out).2.1); rintro e w73 ⟨rfl, hb⟩; have n0_ := yM (Kd.R_below (by (with_reducible repeat (first | apply Kd.R_alloc | apply Kd.R_drewN | apply Kd.R_drew)); exact HO_501002.out) hb); have n1_ := yM (blk_below (g := gb500) (o := .cells #[.int .i64 t493, .int .i64 t494, .slice Ao14 t495.length co14] 32 (0, 0)) (by (with_reducible repeat (first | refine yN ?_ _ | refine yD ?_ | refine yA ?_ _)); exact BK500.out) hb); have n2_ := yM (blk_below (g := gb501) (o := .cells #[.int .i64 t498, .int .i64 t499] 29 (0, 0)) (by (with_reducible repeat (first | refine yN ?_ _ | refine yD ?_ | refine yA ?_ _)); exact BK501.out) hb); have n3_ := yM (blk_below (g := gb509) (o := .cells #[.int .i64 t506, .int .i64 t507] 29 (0, 0)) (by (with_reducible repeat (first | refine yN ?_ _ | refine yD ?_ | refine yA ?_ _)); exact BK509.out) hb); have n4_ := yM (blk_below (g := gb513) (o := .cells #[.int .i64 t510, .int .i64 t511] 29 (0, 0)) (by (with_reducible repeat (first | refine yN ?_ _ | refine yD ?_ | refine yA ?_ _)); exact BK513.out) hb); have n5_ := yM (blk_below (g := gb517) (o := .cells #[.int .i64 t514, .int .i64 t515] 29 (0, 0)) (by (with_reducible repeat (first | refine yN ?_ _ | refine yD ?_ | refine yA ?_ _)); exact BK517.out) hb); have n6_ := yM (below_step (by repeat (first | (with_reducible first | exact HB.out | apply below_alloc | apply yP | apply below_drew1 | refine yS ?_ GE500.out | refine yS ?_ GE501.out | refine yS ?_ GE509.out | refine yS ?_ GE513.out | refine yS ?_ GE517.out) | exact HB.out)) hb); clear HO_501002; clear BK500; clear BK501; clear BK509; clear BK513; clear BK517; clear HB; have HO_501002 := n0_; have BK500 := n1_; have BK501 := n2_; have BK509 := n3_; have BK513 := n4_; have BK517 := n5_; have HB := n6_; clear n0_ n1_ n2_ n3_ n4_ n5_ n6_; (try clear hb); (try clear hb2); (try clear hk); (try clear hi)))
            have n0_ := yM (Kd.R_drew HO_501002.out)
            have n1_ := yM (yD BK500.out)
            have n2_ := yM (yD BK501.out)
            have n3_ := yM (yD BK509.out)
            have n4_ := yM (yD BK513.out)
            have n5_ := yM (yD BK517.out)
            have n6_ := yM (below_drew1 HB.out)
            clear HO_501002
            clear BK500
            clear BK501
            clear BK509
            clear BK513
            clear BK517
            clear HB
            have HO_501002 := n0_
            have BK500 := n1_
            have BK501 := n2_
            have BK509 := n3_
            have BK513 := n4_
            have BK517 := n5_
            have HB := n6_
            clear n0_ n1_ n2_ n3_ n4_ n5_ n6_
            refine start_ (n := 9) (S := fun w' => w'.cell? ⟨gb500, 0, none⟩ = some (.int .i64 t493) ∧ w'.cell? ⟨gb500, 1, none⟩ = some (.int .i64 t494) ∧ w'.cell? ⟨gb500, 2, none⟩ = some (.slice Ao14 t495.length co14)) (ds := []) #[false, false, false, false, false, false, false, false, false] (by kernel_rfl) rfl rfl ⟨(blk_cell BK500.out 0).trans rfl, (blk_cell BK500.out 1).trans rfl, (blk_cell BK500.out 2).trans rfl⟩ (fun hHeld => ?_); refine with_tabW laws_FnLedgerCan.tab12 laws_FnLedgerCan.bits12 (fun HT_ HW_ => ?_)
            generalize w73.drew = w74 at HO_501002 BK500 BK501 BK509 BK513 BK517 HB hHeld ⊢
            refine pure_ (i := 1) (N := some 88) (v := ?_) (a' := ?_) #[false, true, false, false, false, false, false, false, false] rfl rfl (any_of HT_.out (by kernel_rfl)) (fun _ _ _ h => h) (Or.inl ⟨by rfl, ?_⟩) ?_ ?_
            rotate_left
            ·intro w'
             go_simp
             with_reducible rfl
            rotate_left
            ·simp only [Act.put, setIfInBounds_toArray, set_cons_zero, set_cons_succ, i64_w, i32_w]
             rfl
            refine pure_ (i := 3) (N := some 90) (v := ?_) (a' := ?_) #[false, true, false, true, false, false, false, false, false] rfl rfl (any_of HT_.out (by kernel_rfl)) (fun _ _ _ h => h) (Or.inl ⟨by rfl, ?_⟩) ?_ ?_
            rotate_left
            ·intro w'
             go_simp
             with_reducible rfl
            rotate_left
            ·simp only [Act.put, setIfInBounds_toArray, set_cons_zero, set_cons_succ, i64_w, i32_w]
             rfl
            refine take_ (i := 0) (N := some 87) (v := ?_) (a' := ?_) #[true, true, false, true, false, false, false, false, false] rfl rfl (take_ofW HT_.out HW_.out (by kernel_rfl)) (fun _ _ _ h => h) (Or.inl ⟨by rfl, ?_⟩) hHeld ?_ ?_
            rotate_left
            ·rintro w' ⟨s0, s1, s2⟩
             go_simp
             with_reducible rfl
            rotate_left
            ·simp only [Act.put, setIfInBounds_toArray, set_cons_zero, set_cons_succ, i64_w, i32_w]
             rfl
            refine take_ (i := 4) (N := some 91) (v := ?_) (a' := ?_) #[true, true, false, true, true, false, false, false, false] rfl rfl (take_ofW HT_.out HW_.out (by kernel_rfl)) (fun _ _ _ h => h) (Or.inl ⟨by rfl, ?_⟩) hHeld ?_ ?_
            rotate_left
            ·rintro w' ⟨s0, s1, s2⟩
             go_simp
             with_reducible rfl
            rotate_left
            ·simp only [Act.put, setIfInBounds_toArray, set_cons_zero, set_cons_succ, i64_w, i32_w]
             rfl
            refine pure_ (i := 5) (N := some 92) (v := ?_) (a' := ?_) #[true, true, false, true, true, true, false, false, false] rfl rfl (any_of HT_.out (by kernel_rfl)) (fun _ _ _ h => h) (Or.inl ⟨by rfl, ?_⟩) ?_ ?_
            rotate_left
            ·intro w'
             go_simp
             with_reducible rfl
            rotate_left
            ·simp only [Act.put, setIfInBounds_toArray, set_cons_zero, set_cons_succ, i64_w, i32_w]
             rfl
            refine pure_ (i := 6) (N := some 93) (v := ?_) (a' := ?_) #[true, true, false, true, true, true, true, false, false] rfl rfl (any_of HT_.out (by kernel_rfl)) (fun _ _ _ h => h) (Or.inl ⟨by rfl, ?_⟩) ?_ ?_
            rotate_left
            ·intro w'
             go_simp
             with_reducible rfl
            rotate_left
            ·simp only [Act.put, setIfInBounds_toArray, set_cons_zero, set_cons_succ, i64_w, i32_w]
             rfl
            refine one_ (i := 2) (N := some 89) #[true, true, true, true, true, true, true, false, false] rfl rfl (one_of HT_.out (by kernel_rfl)) (by decide) (fun K hK => ?_)
            refine goes_ Try.func33 (by kernel_rfl) rfl #[.agg #[.int .i64 t493, .int .i64 t494, .slice Ao14 t495.length co14], .agg #[.int .i64 0, .int .i64 1]] (by rfl) rfl rfl (by (try simp only [List.map_toArray, List.map_cons, List.map_nil]); first | done | rfl | (simp only [List.length_drop, List.length_take]; rfl)) ?_
            with_reducible refine (impl_LedgerCan.calls kj7 t493 t494 _ _ t495 0 1 t520 _ ?side1 ?side2 A46.out).mono ?_
            (case side1 => repeat (first | exact (Kd.R_reads' HO_501002.out).2.2 | (with_reducible refine Kd.C_alloc ?_ _) | (with_reducible refine Kd.C_drewN ?_ _) | (with_reducible refine Kd.C_drew ?_)))
            (case side2 => exact (Kd.R_reads' HO_501002.out).2.1)
            rintro e w75 ⟨rfl, hb⟩
            refine ⟨_, rfl, ?_⟩
            have n0_ := yM (Kd.R_below (by (with_reducible repeat (first | apply Kd.R_alloc | apply Kd.R_drewN | apply Kd.R_drew)); exact HO_501002.out) hb)
            have n1_ := yM (blk_below (g := gb500) (o := .cells #[.int .i64 t493, .int .i64 t494, .slice Ao14 t495.length co14] 32 (0, 0)) (by (with_reducible repeat (first | refine yN ?_ _ | refine yD ?_ | refine yA ?_ _)); exact BK500.out) hb)
            have n2_ := yM (blk_below (g := gb501) (o := .cells #[.int .i64 t498, .int .i64 t499] 29 (0, 0)) (by (with_reducible repeat (first | refine yN ?_ _ | refine yD ?_ | refine yA ?_ _)); exact BK501.out) hb)
            have n3_ := yM (blk_below (g := gb509) (o := .cells #[.int .i64 t506, .int .i64 t507] 29 (0, 0)) (by (with_reducible repeat (first | refine yN ?_ _ | refine yD ?_ | refine yA ?_ _)); exact BK509.out) hb)
            have n4_ := yM (blk_below (g := gb513) (o := .cells #[.int .i64 t510, .int .i64 t511] 29 (0, 0)) (by (with_reducible repeat (first | refine yN ?_ _ | refine yD ?_ | refine yA ?_ _)); exact BK513.out) hb)
            have n5_ := yM (blk_below (g := gb517) (o := .cells #[.int .i64 t514, .int .i64 t515] 29 (0, 0)) (by (with_reducible repeat (first | refine yN ?_ _ | refine yD ?_ | refine yA ?_ _)); exact BK517.out) hb)
            have n6_ := yM (below_step (by repeat (first | (with_reducible first | exact HB.out | apply below_alloc | apply yP | apply below_drew1 | refine yS ?_ GE500.out | refine yS ?_ GE501.out | refine yS ?_ GE509.out | refine yS ?_ GE513.out | refine yS ?_ GE517.out) | exact HB.out)) hb)
            clear HO_501002
            clear BK500
            clear BK501
            clear BK509
            clear BK513
            clear BK517
            clear HB
            have HO_501002 := n0_
            have BK500 := n1_
            have BK501 := n2_
            have BK509 := n3_
            have BK513 := n4_
            have BK517 := n5_
            have HB := n6_
            clear n0_ n1_ n2_ n3_ n4_ n5_ n6_
            (try clear hb)
            (try clear hb2)
            (try clear hk)
            (try clear hi)
            refine hK.out _ _ ⟨(blk_cell BK500.out 0).trans rfl, (blk_cell BK500.out 1).trans rfl, (blk_cell BK500.out 2).trans rfl⟩ (fun hHeld => ?_)
            clear hK K
            refine norm_ (a' := ?_) ?_ ?_
            rotate_left
            ·show Act.put _ (some 89) _ = _
             simp only [Act.put, setIfInBounds_toArray, set_cons_zero, set_cons_succ, i64_w, i32_w]
             rfl
            refine pure_ (i := 7) (N := some 94) (v := ?_) (a' := ?_) #[true, true, true, true, true, true, true, true, false] rfl rfl (any_of HT_.out (by kernel_rfl)) (fun _ _ _ h => h) (Or.inl ⟨by rfl, ?_⟩) ?_ ?_
            rotate_left
            ·intro w'
             go_simp
             with_reducible rfl
            rotate_left
            ·simp only [Act.put, setIfInBounds_toArray, set_cons_zero, set_cons_succ, i64_w, i32_w]
             rfl
            refine pure_ (i := 8) (N := some 4) (v := ?_) (a' := ?_) #[true, true, true, true, true, true, true, true, true] rfl rfl (any_of HT_.out (by kernel_rfl)) (fun _ _ _ h => h) (Or.inl ⟨by rfl, ?_⟩) ?_ ?_
            rotate_left
            ·intro w'
             go_simp
             with_reducible rfl
            rotate_left
            ·simp only [Act.put, setIfInBounds_toArray, set_cons_zero, set_cons_succ, i64_w, i32_w]
             rfl
            refine done_ (done_of HT_.out (by kernel_rfl)) ?_
            try go_wp2
            go_ret
            exact ⟨by first | rfl | (simp [errW_none, errW_some] <;> rfl) | (simp [*, errW_none, errW_some] <;> rfl), by repeat (first | (with_reducible first | exact HB.out | apply below_alloc | apply yP | apply below_drew1 | refine yS ?_ GE500.out | refine yS ?_ GE501.out | refine yS ?_ GE509.out | refine yS ?_ GE513.out | refine yS ?_ GE517.out) | exact HB.out)⟩
           ·replace c45 := Bool.eq_false_iff.mpr c45
            subst c45
            have H1 : (some false) = some r := by rw [if_neg (show ¬ (false = true) by decide)] at H; exact H
            clear H
            have H := H1
            clear H1
            exact absurd (Option.some.inj (H.trans (congrArg some HRT.out))) (by decide)
          ·rw [if_neg c43] at H
           have c43b0 : decide (t518 ≤ 0) = false := decide_eq_false c43
           clear c43
           replace H := Option.bind_eq_some_iff.mp H
           obtain ⟨t521, A760, H⟩ := H
           replace H : (some (t521 == (decide ((t495.length : Int) < 8)))) = some r := H
           have A76 := Aside0.mk A760
           clear A760
           obtain rfl := Option.some.inj H
           try go_wp2_with (first | ((with_reducible refine gate_callee (f := 35) rfl ?_); refine goesL_ (some 54) rfl rfl Try.func35 (by kernel_rfl) rfl #[.int .i64 (1 + ((l1.length : Int) % 5)), .int .i64 (1 + ((l1.length : Int) % 7))] rfl (by (try simp only [List.map_toArray, List.map_cons, List.map_nil]); first | done | rfl | (simp only [List.length_drop, List.length_take]; rfl)) ?_; (with_reducible refine (impl_FracOf.calls kj7 (1 + ((l1.length : Int) % 5)) (1 + ((l1.length : Int) % 7)) t506 t507 true _ A36.out).mono ?_); rintro e w77 ⟨rfl, hb⟩; refine ⟨_, rfl, ?_⟩; have n0_ := yM (Kd.R_below (by (with_reducible repeat (first | apply Kd.R_alloc | apply Kd.R_drewN | apply Kd.R_drew)); exact HO_501002.out) hb); have n1_ := yM (blk_below (g := gb500) (o := .cells #[.int .i64 t493, .int .i64 t494, .slice Ao14 t495.length co14] 32 (0, 0)) (by (with_reducible repeat (first | refine yN ?_ _ | refine yD ?_ | refine yA ?_ _)); exact BK500.out) hb); have n2_ := yM (blk_below (g := gb501) (o := .cells #[.int .i64 t498, .int .i64 t499] 29 (0, 0)) (by (with_reducible repeat (first | refine yN ?_ _ | refine yD ?_ | refine yA ?_ _)); exact BK501.out) hb); have n3_ := yM (below_step (by repeat (first | (with_reducible first | exact HB.out | apply below_alloc | apply yP | apply below_drew1 | refine yS ?_ GE500.out | refine yS ?_ GE501.out) | exact HB.out)) hb); clear HO_501002; clear BK500; clear BK501; clear HB; have HO_501002 := n0_; have BK500 := n1_; have BK501 := n2_; have HB := n3_; clear n0_ n1_ n2_ n3_; (try clear hb); (try clear hb2); (try clear hk); (try clear hi)) | ((with_reducible refine gate_dst (N := 8) rfl ?_); (try (refine gate_guard (by rfl) ?_; dsimp only)); refine box_event ?hg (N := 8) ?hd (cs := #[.int .i64 0, .int .i64 0]) (t := 29) ?hr ?_; (case hd => rfl); (case hg => rfl); (case hr => first | (go_simp; done) | (go_simp; rfl)); intro gb509 hg w78 hbox hb; have n0_ := yM (Kd.R_below (Kd.R_elderB (by (with_reducible repeat (first | apply Kd.R_alloc | apply Kd.R_drewN | apply Kd.R_drew)); exact HO_501002.out) gb509 (Nat.le_of_eq hg.symm)) hb); have n1_ := yM (blk_below (g := gb500) (o := .cells #[.int .i64 t493, .int .i64 t494, .slice Ao14 t495.length co14] 32 (0, 0)) (by (with_reducible repeat (first | refine yN ?_ _ | refine yD ?_ | refine yA ?_ _)); exact BK500.out) hb); have n2_ := yM (blk_below (g := gb501) (o := .cells #[.int .i64 t498, .int .i64 t499] 29 (0, 0)) (by (with_reducible repeat (first | refine yN ?_ _ | refine yD ?_ | refine yA ?_ _)); exact BK501.out) hb); have n3_ := yM (below_step (by repeat (first | (with_reducible first | exact HB.out | apply below_alloc | apply yP | apply below_drew1 | refine yS ?_ GE500.out | refine yS ?_ GE501.out) | exact HB.out)) hb); have n4_ := yM (hbox); have n5_ := yM ((by rw [hg]; exact (below_size (by repeat (first | (with_reducible first | exact HB.out | apply below_alloc | apply yP | apply below_drew1 | refine yS ?_ GE500.out | refine yS ?_ GE501.out) | exact HB.out))) : w.heap.size ≤ gb509)); have n6_ := yM ((by rw [hg]; exact (below_size (by repeat (first | (with_reducible first | exact HB.out | apply below_alloc | apply yP | apply below_drew1 | refine yS ?_ GE500.out | refine yS ?_ GE501.out) | exact HB.out))) : w.heap.size ≤ gb509)); have n7_ := yM ((by rw [hg]; exact Nat.ne_of_lt (blk_lt (g := gb500) (o := .cells #[.int .i64 t493, .int .i64 t494, .slice Ao14 t495.length co14] 32 (0, 0)) (by (with_reducible repeat (first | refine yN ?_ _ | refine yD ?_ | refine yA ?_ _)); exact BK500.out)) : gb500 ≠ gb509)); have n8_ := yM ((by rw [hg]; exact Nat.ne_of_gt (blk_lt (g := gb500) (o := .cells #[.int .i64 t493, .int .i64 t494, .slice Ao14 t495.length co14] 32 (0, 0)) (by (with_reducible repeat (first | refine yN ?_ _ | refine yD ?_ | refine yA ?_ _)); exact BK500.out)) : gb509 ≠ gb500)); have n9_ := yM ((by rw [hg]; exact Nat.ne_of_lt (blk_lt (g := gb501) (o := .cells #[.int .i64 t498, .int .i64 t499] 29 (0, 0)) (by (with_reducible repeat (first | refine yN ?_ _ | refine yD ?_ | refine yA ?_ _)); exact BK501.out)) : gb501 ≠ gb509)); have n10_ := yM ((by rw [hg]; exact Nat.ne_of_gt (blk_lt (g := gb501) (o := .cells #[.int .i64 t498, .int .i64 t499] 29 (0, 0)) (by (with_reducible repeat (first | refine yN ?_ _ | refine yD ?_ | refine yA ?_ _)); exact BK501.out)) : gb509 ≠ gb501)); clear HO_501002; clear BK500; clear BK501; clear HB; have HO_501002 := n0_; have BK500 := n1_; have BK501 := n2_; have HB := n3_; have BK509 := n4_; have GW509 := n5_; have GE509 := n6_; have NB500_509 := n7_; have NB509_500 := n8_; have NB501_509 := n9_; have NB509_501 := n10_; clear n0_ n1_ n2_ n3_ n4_ n5_ n6_ n7_ n8_ n9_ n10_; clear hb hbox hg; have hnb79 := NB509_500.out; have hnc79 := NB500_509.out; have hnb80 := NB509_501.out; have hnc80 := NB501_509.out; have hcz81_0 : w78.cell? ⟨gb509, 0, none⟩ = some (.int .i64 0) := (blk_cell BK509.out 0).trans rfl; have hcz81_1 : w78.cell? ⟨gb509, 1, none⟩ = some (.int .i64 0) := (blk_cell BK509.out 1).trans rfl; have hfz81_0 := blk_frozen BK509.out 0; have hfz81_1 := blk_frozen BK509.out 1; have hnb82 := NB500_501.out; have hnc82 := NB501_500.out; have hcz83_0 : w78.cell? ⟨gb500, 0, none⟩ = some (.int .i64 t493) := (blk_cell BK500.out 0).trans rfl; have hcz83_1 : w78.cell? ⟨gb500, 1, none⟩ = some (.int .i64 t494) := (blk_cell BK500.out 1).trans rfl; have hcz83_2 : w78.cell? ⟨gb500, 2, none⟩ = some (.slice Ao14 t495.length co14) := (blk_cell BK500.out 2).trans rfl; have hfz83_0 := blk_frozen BK500.out 0; have hfz83_1 := blk_frozen BK500.out 1; have hfz83_2 := blk_frozen BK500.out 2) | ((with_reducible refine gate_callee (f := 20) rfl ?_); refine goesL_ (some 59) rfl rfl Try.func20 (by kernel_rfl) rfl #[.agg #[.int .i64 t493, .int .i64 t494, .slice Ao14 t495.length co14]] rfl (by (try simp only [List.map_toArray, List.map_cons, List.map_nil]); first | done | rfl | (simp only [List.length_drop, List.length_take]; rfl)) ?_; (with_reducible refine (impl_LedgerSum.calls kj7 t493 t494 _ _ t495 t510 t511 t512 _ ?side1 ?side2 A37.out).mono ?_); (case side1 => refine (Kd.R_reads' (e := 29) (base := w.heap.size) (ok := fun k_ => (k_ ≠ gb501 ∧ k_ ≠ gb509)) (n := t495.length) (c := co14) ?_).2.2; exact (by (with_reducible repeat (first | apply Kd.R_alloc | apply Kd.R_drewN | apply Kd.R_drew)); exact (Kd.R_mono (Kd.R_far (p := ⟨gb509, 1, none⟩) (Kd.R_far (p := ⟨gb509, 0, none⟩) (Kd.R_mono HO_501002.out (fun k_ hk => (⟨hk, hk.2⟩ : _ ∧ k_ ≠ gb509))) (fun _ hk => hk.2) (.int .i64 t506)) (fun _ hk => hk.2) (.int .i64 t507)) (fun _ h_ => h_.1)))); (case side2 => exact (Kd.R_reads' HO_501002.out).2.1); rintro e w84 ⟨rfl, hb⟩; refine ⟨_, rfl, ?_⟩; have n0_ := yM (Kd.R_below (by (with_reducible repeat (first | apply Kd.R_alloc | apply Kd.R_drewN | apply Kd.R_drew)); exact (Kd.R_mono (Kd.R_far (p := ⟨gb509, 1, none⟩) (Kd.R_far (p := ⟨gb509, 0, none⟩) (Kd.R_mono HO_501002.out (fun k_ hk => (⟨hk, hk.2⟩ : _ ∧ k_ ≠ gb509))) (fun _ hk => hk.2) (.int .i64 t506)) (fun _ hk => hk.2) (.int .i64 t507)) (fun _ h_ => h_.1))) hb); have n1_ := yM (blk_below (g := gb500) (o := .cells #[.int .i64 t493, .int .i64 t494, .slice Ao14 t495.length co14] 32 (0, 0)) (by (with_reducible repeat (first | refine yN ?_ _ | refine yD ?_ | refine yA ?_ _)); refine blk_far ?_ NB500_509.out _; (with_reducible repeat (first | refine yN ?_ _ | refine yD ?_ | refine yA ?_ _)); refine blk_far ?_ NB500_509.out _; (with_reducible repeat (first | refine yN ?_ _ | refine yD ?_ | refine yA ?_ _)); exact BK500.out) hb); have n2_ := yM (blk_below (g := gb501) (o := .cells #[.int .i64 t498, .int .i64 t499] 29 (0, 0)) (by (with_reducible repeat (first | refine yN ?_ _ | refine yD ?_ | refine yA ?_ _)); refine blk_far ?_ NB501_509.out _; (with_reducible repeat (first | refine yN ?_ _ | refine yD ?_ | refine yA ?_ _)); refine blk_far ?_ NB501_509.out _; (with_reducible repeat (first | refine yN ?_ _ | refine yD ?_ | refine yA ?_ _)); exact BK501.out) hb); have n3_ := yM (blk_below (g := gb509) (o := .cells #[.int .i64 t506, .int .i64 t507] 29 (0, 0)) (by (with_reducible repeat (first | refine yN ?_ _ | refine yD ?_ | refine yA ?_ _)); refine blk_put (cs := #[.int .i64 t506, .int .i64 0]) ?_ 1 _ rfl; (with_reducible repeat (first | refine yN ?_ _ | refine yD ?_ | refine yA ?_ _)); refine blk_put (cs := #[.int .i64 0, .int .i64 0]) ?_ 0 _ rfl; (with_reducible repeat (first | refine yN ?_ _ | refine yD ?_ | refine yA ?_ _)); exact BK509.out) hb); have n4_ := yM (below_step (by repeat (first | (with_reducible first | exact HB.out | apply below_alloc | apply yP | apply below_drew1 | refine yS ?_ GE500.out | refine yS ?_ GE501.out | refine yS ?_ GE509.out) | exact HB.out)) hb); clear HO_501002; clear BK500; clear BK501; clear BK509; clear HB; have HO_501002 := n0_; have BK500 := n1_; have BK501 := n2_; have BK509 := n3_; have HB := n4_; clear n0_ n1_ n2_ n3_ n4_; (try clear hb); (try clear hb2); (try clear hk); (try clear hi)) | ((with_reducible refine gate_dst (N := 10) rfl ?_); (try (refine gate_guard (by rfl) ?_; dsimp only)); refine box_event ?hg (N := 10) ?hd (cs := #[.int .i64 0, .int .i64 0]) (t := 29) ?hr ?_; (case hd => rfl); (case hg => rfl); (case hr => first | (go_simp; done) | (go_simp; rfl)); intro gb513 hg w85 hbox hb; have n0_ := yM (Kd.R_below (Kd.R_elderB (by (with_reducible repeat (first | apply Kd.R_alloc | apply Kd.R_drewN | apply Kd.R_drew)); exact HO_501002.out) gb513 (Nat.le_of_eq hg.symm)) hb); have n1_ := yM (blk_below (g := gb500) (o := .cells #[.int .i64 t493, .int .i64 t494, .slice Ao14 t495.length co14] 32 (0, 0)) (by (with_reducible repeat (first | refine yN ?_ _ | refine yD ?_ | refine yA ?_ _)); exact BK500.out) hb); have n2_ := yM (blk_below (g := gb501) (o := .cells #[.int .i64 t498, .int .i64 t499] 29 (0, 0)) (by (with_reducible repeat (first | refine yN ?_ _ | refine yD ?_ | refine yA ?_ _)); exact BK501.out) hb); have n3_ := yM (blk_below (g := gb509) (o := .cells #[.int .i64 t506, .int .i64 t507] 29 (0, 0)) (by (with_reducible repeat (first | refine yN ?_ _ | refine yD ?_ | refine yA ?_ _)); exact BK509.out) hb); have n4_ := yM (below_step (by repeat (first | (with_reducible first | exact HB.out | apply below_alloc | apply yP | apply below_drew1 | refine yS ?_ GE500.out | refine yS ?_ GE501.out | refine yS ?_ GE509.out) | exact HB.out)) hb); have n5_ := yM (hbox); have n6_ := yM ((by rw [hg]; exact (below_size (by repeat (first | (with_reducible first | exact HB.out | apply below_alloc | apply yP | apply below_drew1 | refine yS ?_ GE500.out | refine yS ?_ GE501.out | refine yS ?_ GE509.out) | exact HB.out))) : w.heap.size ≤ gb513)); have n7_ := yM ((by rw [hg]; exact (below_size (by repeat (first | (with_reducible first | exact HB.out | apply below_alloc | apply yP | apply below_drew1 | refine yS ?_ GE500.out | refine yS ?_ GE501.out | refine yS ?_ GE509.out) | exact HB.out))) : w.heap.size ≤ gb513)); have n8_ := yM ((by rw [hg]; exact Nat.ne_of_lt (blk_lt (g := gb500) (o := .cells #[.int .i64 t493, .int .i64 t494, .slice Ao14 t495.length co14] 32 (0, 0)) (by (with_reducible repeat (first | refine yN ?_ _ | refine yD ?_ | refine yA ?_ _)); exact BK500.out)) : gb500 ≠ gb513)); have n9_ := yM ((by rw [hg]; exact Nat.ne_of_gt (blk_lt (g := gb500) (o := .cells #[.int .i64 t493, .int .i64 t494, .slice Ao14 t495.length co14] 32 (0, 0)) (by (with_reducible repeat (first | refine yN ?_ _ | refine yD ?_ | refine yA ?_ _)); exact BK500.out)) : gb513 ≠ gb500)); have n10_ := yM ((by rw [hg]; exact Nat.ne_of_lt (blk_lt (g := gb501) (o := .cells #[.int .i64 t498, .int .i64 t499] 29 (0, 0)) (by (with_reducible repeat (first | refine yN ?_ _ | refine yD ?_ | refine yA ?_ _)); exact BK501.out)) : gb501 ≠ gb513)); have n11_ := yM ((by rw [hg]; exact Nat.ne_of_gt (blk_lt (g := gb501) (o := .cells #[.int .i64 t498, .int .i64 t499] 29 (0, 0)) (by (with_reducible repeat (first | refine yN ?_ _ | refine yD ?_ | refine yA ?_ _)); exact BK501.out)) : gb513 ≠ gb501)); have n12_ := yM ((by rw [hg]; exact Nat.ne_of_lt (blk_lt (g := gb509) (o := .cells #[.int .i64 t506, .int .i64 t507] 29 (0, 0)) (by (with_reducible repeat (first | refine yN ?_ _ | refine yD ?_ | refine yA ?_ _)); exact BK509.out)) : gb509 ≠ gb513)); have n13_ := yM ((by rw [hg]; exact Nat.ne_of_gt (blk_lt (g := gb509) (o := .cells #[.int .i64 t506, .int .i64 t507] 29 (0, 0)) (by (with_reducible repeat (first | refine yN ?_ _ | refine yD ?_ | refine yA ?_ _)); exact BK509.out)) : gb513 ≠ gb509)); clear HO_501002; clear BK500; clear BK501; clear BK509; clear HB; have HO_501002 := n0_; have BK500 := n1_; have BK501 := n2_; have BK509 := n3_; have HB := n4_; have BK513 := n5_; have GW513 := n6_; have GE513 := n7_; have NB500_513 := n8_; have NB513_500 := n9_; have NB501_513 := n10_; have NB513_501 := n11_; have NB509_513 := n12_; have NB513_509 := n13_; clear n0_ n1_ n2_ n3_ n4_ n5_ n6_ n7_ n8_ n9_ n10_ n11_ n12_ n13_; clear hb hbox hg; have hnb86 := NB513_500.out; have hnc86 := NB500_513.out; have hnb87 := NB513_501.out; have hnc87 := NB501_513.out; have hnb88 := NB513_509.out; have hnc88 := NB509_513.out; have hcz89_0 : w85.cell? ⟨gb513, 0, none⟩ = some (.int .i64 0) := (blk_cell BK513.out 0).trans rfl; have hcz89_1 : w85.cell? ⟨gb513, 1, none⟩ = some (.int .i64 0) := (blk_cell BK513.out 1).trans rfl; have hfz89_0 := blk_frozen BK513.out 0; have hfz89_1 := blk_frozen BK513.out 1; have hcz90_0 : w85.cell? ⟨gb509, 0, none⟩ = some (.int .i64 t506) := (blk_cell BK509.out 0).trans rfl; have hcz90_1 : w85.cell? ⟨gb509, 1, none⟩ = some (.int .i64 t507) := (blk_cell BK509.out 1).trans rfl; have hfz90_0 := blk_frozen BK509.out 0; have hfz90_1 := blk_frozen BK509.out 1) | ((with_reducible refine gate_callee (f := 24) rfl ?_); refine goesL_ (some 65) rfl rfl Try.func24 (by kernel_rfl) rfl #[.agg #[.int .i64 t510, .int .i64 t511], .agg #[.int .i64 t506, .int .i64 t507]] rfl (by (try simp only [List.map_toArray, List.map_cons, List.map_nil]); first | done | rfl | (simp only [List.length_drop, List.length_take]; rfl)) ?_; (with_reducible refine (impl_FracSum.calls kj7 t510 t511 t506 t507 t514 t515 true _ A38.out).mono ?_); rintro e w91 ⟨rfl, hb⟩; refine ⟨_, rfl, ?_⟩; have n0_ := yM (Kd.R_below (by (with_reducible repeat (first | apply Kd.R_alloc | apply Kd.R_drewN | apply Kd.R_drew)); exact (Kd.R_mono (Kd.R_far (p := ⟨gb513, 1, none⟩) (Kd.R_far (p := ⟨gb513, 0, none⟩) (Kd.R_mono HO_501002.out (fun k_ hk => (⟨hk, hk.2⟩ : _ ∧ k_ ≠ gb513))) (fun _ hk => hk.2) (.int .i64 t510)) (fun _ hk => hk.2) (.int .i64 t511)) (fun _ h_ => h_.1))) hb); have n1_ := yM (blk_below (g := gb500) (o := .cells #[.int .i64 t493, .int .i64 t494, .slice Ao14 t495.length co14] 32 (0, 0)) (by (with_reducible repeat (first | refine yN ?_ _ | refine yD ?_ | refine yA ?_ _)); refine blk_far ?_ NB500_513.out _; (with_reducible repeat (first | refine yN ?_ _ | refine yD ?_ | refine yA ?_ _)); refine blk_far ?_ NB500_513.out _; (with_reducible repeat (first | refine yN ?_ _ | refine yD ?_ | refine yA ?_ _)); exact BK500.out) hb); have n2_ := yM (blk_below (g := gb501) (o := .cells #[.int .i64 t498, .int .i64 t499] 29 (0, 0)) (by (with_reducible repeat (first | refine yN ?_ _ | refine yD ?_ | refine yA ?_ _)); refine blk_far ?_ NB501_513.out _; (with_reducible repeat (first | refine yN ?_ _ | refine yD ?_ | refine yA ?_ _)); refine blk_far ?_ NB501_513.out _; (with_reducible repeat (first | refine yN ?_ _ | refine yD ?_ | refine yA ?_ _)); exact BK501.out) hb); have n3_ := yM (blk_below (g := gb509) (o := .cells #[.int .i64 t506, .int .i64 t507] 29 (0, 0)) (by (with_reducible repeat (first | refine yN ?_ _ | refine yD ?_ | refine yA ?_ _)); refine blk_far ?_ NB509_513.out _; (with_reducible repeat (first | refine yN ?_ _ | refine yD ?_ | refine yA ?_ _)); refine blk_far ?_ NB509_513.out _; (with_reducible repeat (first | refine yN ?_ _ | refine yD ?_ | refine yA ?_ _)); exact BK509.out) hb); have n4_ := yM (blk_below (g := gb513) (o := .cells #[.int .i64 t510, .int .i64 t511] 29 (0, 0)) (by (with_reducible repeat (first | refine yN ?_ _ | refine yD ?_ | refine yA ?_ _)); refine blk_put (cs := #[.int .i64 t510, .int .i64 0]) ?_ 1 _ rfl; (with_reducible repeat (first | refine yN ?_ _ | refine yD ?_ | refine yA ?_ _)); refine blk_put (cs := #[.int .i64 0, .int .i64 0]) ?_ 0 _ rfl; (with_reducible repeat (first | refine yN ?_ _ | refine yD ?_ | refine yA ?_ _)); exact BK513.out) hb); have n5_ := yM (below_step (by repeat (first | (with_reducible first | exact HB.out | apply below_alloc | apply yP | apply below_drew1 | refine yS ?_ GE500.out | refine yS ?_ GE501.out | refine yS ?_ GE509.out | refine yS ?_ GE513.out) | exact HB.out)) hb); clear HO_501002; clear BK500; clear BK501; clear BK509; clear BK513; clear HB; have HO_501002 := n0_; have BK500 := n1_; have BK501 := n2_; have BK509 := n3_; have BK513 := n4_; have HB := n5_; clear n0_ n1_ n2_ n3_ n4_ n5_; (try clear hb); (try clear hb2); (try clear hk); (try clear hi)) | ((with_reducible refine gate_dst (N := 12) rfl ?_); (try (refine gate_guard (by rfl) ?_; dsimp only)); refine box_event ?hg (N := 12) ?hd (cs := #[.int .i64 0, .int .i64 0]) (t := 29) ?hr ?_; (case hd => rfl); (case hg => rfl); (case hr => first | (go_simp; done) | (go_simp; rfl)); intro gb517 hg w92 hbox hb; have n0_ := yM (Kd.R_below (Kd.R_elderB (by (with_reducible repeat (first | apply Kd.R_alloc | apply Kd.R_drewN | apply Kd.R_drew)); exact HO_501002.out) gb517 (Nat.le_of_eq hg.symm)) hb); have n1_ := yM (blk_below (g := gb500) (o := .cells #[.int .i64 t493, .int .i64 t494, .slice Ao14 t495.length co14] 32 (0, 0)) (by (with_reducible repeat (first | refine yN ?_ _ | refine yD ?_ | refine yA ?_ _)); exact BK500.out) hb); have n2_ := yM (blk_below (g := gb501) (o := .cells #[.int .i64 t498, .int .i64 t499] 29 (0, 0)) (by (with_reducible repeat (first | refine yN ?_ _ | refine yD ?_ | refine yA ?_ _)); exact BK501.out) hb); have n3_ := yM (blk_below (g := gb509) (o := .cells #[.int .i64 t506, .int .i64 t507] 29 (0, 0)) (by (with_reducible repeat (first | refine yN ?_ _ | refine yD ?_ | refine yA ?_ _)); exact BK509.out) hb); have n4_ := yM (blk_below (g := gb513) (o := .cells #[.int .i64 t510, .int .i64 t511] 29 (0, 0)) (by (with_reducible repeat (first | refine yN ?_ _ | refine yD ?_ | refine yA ?_ _)); exact BK513.out) hb); have n5_ := yM (below_step (by repeat (first | (with_reducible first | exact HB.out | apply below_alloc | apply yP | apply below_drew1 | refine yS ?_ GE500.out | refine yS ?_ GE501.out | refine yS ?_ GE509.out | refine yS ?_ GE513.out) | exact HB.out)) hb); have n6_ := yM (hbox); have n7_ := yM ((by rw [hg]; exact (below_size (by repeat (first | (with_reducible first | exact HB.out | apply below_alloc | apply yP | apply below_drew1 | refine yS ?_ GE500.out | refine yS ?_ GE501.out | refine yS ?_ GE509.out | refine yS ?_ GE513.out) | exact HB.out))) : w.heap.size ≤ gb517)); have n8_ := yM ((by rw [hg]; exact (below_size (by repeat (first | (with_reducible first | exact HB.out | apply below_alloc | apply yP | apply below_drew1 | refine yS ?_ GE500.out | refine yS ?_ GE501.out | refine yS ?_ GE509.out | refine yS ?_ GE513.out) | exact HB.out))) : w.heap.size ≤ gb517)); have n9_ := yM ((by rw [hg]; exact Nat.ne_of_lt (blk_lt (g := gb500) (o := .cells #[.int .i64 t493, .int .i64 t494, .slice Ao14 t495.length co14] 32 (0, 0)) (by (with_reducible repeat (first | refine yN ?_ _ | refine yD ?_ | refine yA ?_ _)); exact BK500.out)) : gb500 ≠ gb517)); have n10_ := yM ((by rw [hg]; exact Nat.ne_of_gt (blk_lt (g := gb500) (o := .cells #[.int .i64 t493, .int .i64 t494, .slice Ao14 t495.length co14] 32 (0, 0)) (by (with_reducible repeat (first | refine yN ?_ _ | refine yD ?_ | refine yA ?_ _)); exact BK500.out)) : gb517 ≠ gb500)); have n11_ := yM ((by rw [hg]; exact Nat.ne_of_lt (blk_lt (g := gb501) (o := .cells #[.int .i64 t498, .int .i64 t499] 29 (0, 0)) (by (with_reducible repeat (first | refine yN ?_ _ | refine yD ?_ | refine yA ?_ _)); exact BK501.out)) : gb501 ≠ gb517)); have n12_ := yM ((by rw [hg]; exact Nat.ne_of_gt (blk_lt (g := gb501) (o := .cells #[.int .i64 t498, .int .i64 t499] 29 (0, 0)) (by (with_reducible repeat (first | refine yN ?_ _ | refine yD ?_ | refine yA ?_ _)); exact BK501.out)) : gb517 ≠ gb501)); have n13_ := yM ((by rw [hg]; exact Nat.ne_of_lt (blk_lt (g := gb509) (o := .cells #[.int .i64 t506, .int .i64 t507] 29 (0, 0)) (by (with_reducible repeat (first | refine yN ?_ _ | refine yD ?_ | refine yA ?_ _)); exact BK509.out)) : gb509 ≠ gb517)); have n14_ := yM ((by rw [hg]; exact Nat.ne_of_gt (blk_lt (g := gb509) (o := .cells #[.int .i64 t506, .int .i64 t507] 29 (0, 0)) (by (with_reducible repeat (first | refine yN ?_ _ | refine yD ?_ | refine yA ?_ _)); exact BK509.out)) : gb517 ≠ gb509)); have n15_ := yM ((by rw [hg]; exact Nat.ne_of_lt (blk_lt (g := gb513) (o := .cells #[.int .i64 t510, .int .i64 t511] 29 (0, 0)) (by (with_reducible repeat (first | refine yN ?_ _ | refine yD ?_ | refine yA ?_ _)); exact BK513.out)) : gb513 ≠ gb517)); have n16_ := yM ((by rw [hg]; exact Nat.ne_of_gt (blk_lt (g := gb513) (o := .cells #[.int .i64 t510, .int .i64 t511] 29 (0, 0)) (by (with_reducible repeat (first | refine yN ?_ _ | refine yD ?_ | refine yA ?_ _)); exact BK513.out)) : gb517 ≠ gb513)); clear HO_501002; clear BK500; clear BK501; clear BK509; clear BK513; clear HB; have HO_501002 := n0_; have BK500 := n1_; have BK501 := n2_; have BK509 := n3_; have BK513 := n4_; have HB := n5_; have BK517 := n6_; have GW517 := n7_; have GE517 := n8_; have NB500_517 := n9_; have NB517_500 := n10_; have NB501_517 := n11_; have NB517_501 := n12_; have NB509_517 := n13_; have NB517_509 := n14_; have NB513_517 := n15_; have NB517_513 := n16_; clear n0_ n1_ n2_ n3_ n4_ n5_ n6_ n7_ n8_ n9_ n10_ n11_ n12_ n13_ n14_ n15_ n16_; clear hb hbox hg; have hnb93 := NB517_500.out; have hnc93 := NB500_517.out; have hnb94 := NB517_501.out; have hnc94 := NB501_517.out; have hnb95 := NB517_509.out; have hnc95 := NB509_517.out; have hnb96 := NB517_513.out; have hnc96 := NB513_517.out; have hcz97_0 : w92.cell? ⟨gb517, 0, none⟩ = some (.int .i64 0) := (blk_cell BK517.out 0).trans rfl; have hcz97_1 : w92.cell? ⟨gb517, 1, none⟩ = some (.int .i64 0) := (blk_cell BK517.out 1).trans rfl; have hfz97_0 := blk_frozen BK517.out 0; have hfz97_1 := blk_frozen BK517.out 1; have hcz98_0 : w92.cell? ⟨gb509, 0, none⟩ = some (.int .i64 t506) := (blk_cell BK509.out 0).trans rfl; have hcz98_1 : w92.cell? ⟨gb509, 1, none⟩ = some (.int .i64 t507) := (blk_cell BK509.out 1).trans rfl; have hfz98_0 := blk_frozen BK509.out 0; have hfz98_1 := blk_frozen BK509.out 1; have hcz99_0 : w92.cell? ⟨gb501, 0, none⟩ = some (.int .i64 t498) := (blk_cell BK501.out 0).trans rfl; have hcz99_1 : w92.cell? ⟨gb501, 1, none⟩ = some (.int .i64 t499) := (blk_cell BK501.out 1).trans rfl; have hfz99_0 := blk_frozen BK501.out 0; have hfz99_1 := blk_frozen BK501.out 1) | (go_at_call 25; (with_reducible refine (impl_FracCmp.calls kj7 t506 t507 t498 t499 t518 _ A42.out).mono ?_); rintro e w100 ⟨rfl, hb⟩; have n0_ := yM (Kd.R_below (by (with_reducible repeat (first | apply Kd.R_alloc | apply Kd.R_drewN | apply Kd.R_drew)); exact (Kd.R_mono (Kd.R_far (p := ⟨gb517, 1, none⟩) (Kd.R_far (p := ⟨gb517, 0, none⟩) (Kd.R_mono HO_501002.out (fun k_ hk => (⟨hk, hk.2⟩ : _ ∧ k_ ≠ gb517))) (fun _ hk => hk.2) (.int .i64 t514)) (fun _ hk => hk.2) (.int .i64 t515)) (fun _ h_ => h_.1))) hb); have n1_ := yM (blk_below (g := gb500) (o := .cells #[.int .i64 t493, .int .i64 t494, .slice Ao14 t495.length co14] 32 (0, 0)) (by (with_reducible repeat (first | refine yN ?_ _ | refine yD ?_ | refine yA ?_ _)); refine blk_far ?_ NB500_517.out _; (with_reducible repeat (first | refine yN ?_ _ | refine yD ?_ | refine yA ?_ _)); refine blk_far ?_ NB500_517.out _; (with_reducible repeat (first | refine yN ?_ _ | refine yD ?_ | refine yA ?_ _)); exact BK500.out) hb); have n2_ := yM (blk_below (g := gb501) (o := .cells #[.int .i64 t498, .int .i64 t499] 29 (0, 0)) (by (with_reducible repeat (first | refine yN ?_ _ | refine yD ?_ | refine yA ?_ _)); refine blk_far ?_ NB501_517.out _; (with_reducible repeat (first | refine yN ?_ _ | refine yD ?_ | refine yA ?_ _)); refine blk_far ?_ NB501_517.out _; (with_reducible repeat (first | refine yN ?_ _ | refine yD ?_ | refine yA ?_ _)); exact BK501.out) hb); have n3_ := yM (blk_below (g := gb509) (o := .cells #[.int .i64 t506, .int .i64 t507] 29 (0, 0)) (by (with_reducible repeat (first | refine yN ?_ _ | refine yD ?_ | refine yA ?_ _)); refine blk_far ?_ NB509_517.out _; (with_reducible repeat (first | refine yN ?_ _ | refine yD ?_ | refine yA ?_ _)); refine blk_far ?_ NB509_517.out _; (with_reducible repeat (first | refine yN ?_ _ | refine yD ?_ | refine yA ?_ _)); exact BK509.out) hb); have n4_ := yM (blk_below (g := gb513) (o := .cells #[.int .i64 t510, .int .i64 t511] 29 (0, 0)) (by (with_reducible repeat (first | refine yN ?_ _ | refine yD ?_ | refine yA ?_ _)); refine blk_far ?_ NB513_517.out _; (with_reducible repeat (first | refine yN ?_ _ | refine yD ?_ | refine yA ?_ _)); refine blk_far ?_ NB513_517.out _; (with_reducible repeat (first | refine yN ?_ _ | refine yD ?_ | refine yA ?_ _)); exact BK513.out) hb); have n5_ := yM (blk_below (g := gb517) (o := .cells #[.int .i64 t514, .int .i64 t515] 29 (0, 0)) (by (with_reducible repeat (first | refine yN ?_ _ | refine yD ?_ | refine yA ?_ _)); refine blk_put (cs := #[.int .i64 t514, .int .i64 0]) ?_ 1 _ rfl; (with_reducible repeat (first | refine yN ?_ _ | refine yD ?_ | refine yA ?_ _)); refine blk_put (cs := #[.int .i64 0, .int .i64 0]) ?_ 0 _ rfl; (with_reducible repeat (first | refine yN ?_ _ | refine yD ?_ | refine yA ?_ _)); exact BK517.out) hb); have n6_ := yM (below_step (by repeat (first | (with_reducible first | exact HB.out | apply below_alloc | apply yP | apply below_drew1 | refine yS ?_ GE500.out | refine yS ?_ GE501.out | refine yS ?_ GE509.out | refine yS ?_ GE513.out | refine yS ?_ GE517.out) | exact HB.out)) hb); clear HO_501002; clear BK500; clear BK501; clear BK509; clear BK513; clear BK517; clear HB; have HO_501002 := n0_; have BK500 := n1_; have BK501 := n2_; have BK509 := n3_; have BK513 := n4_; have BK517 := n5_; have HB := n6_; clear n0_ n1_ n2_ n3_ n4_ n5_ n6_; (try clear hb); (try clear hb2); (try clear hk); (try clear hi)))
           have n0_ := yM (Kd.R_drew HO_501002.out)
           have n1_ := yM (yD BK500.out)
           have n2_ := yM (yD BK501.out)
           have n3_ := yM (yD BK509.out)
           have n4_ := yM (yD BK513.out)
           have n5_ := yM (yD BK517.out)
           have n6_ := yM (below_drew1 HB.out)
           clear HO_501002
           clear BK500
           clear BK501
           clear BK509
           clear BK513
           clear BK517
           clear HB
           have HO_501002 := n0_
           have BK500 := n1_
           have BK501 := n2_
           have BK509 := n3_
           have BK513 := n4_
           have BK517 := n5_
           have HB := n6_
           clear n0_ n1_ n2_ n3_ n4_ n5_ n6_
           refine start_ (n := 9) (S := fun w' => w'.cell? ⟨gb500, 0, none⟩ = some (.int .i64 t493) ∧ w'.cell? ⟨gb500, 1, none⟩ = some (.int .i64 t494) ∧ w'.cell? ⟨gb500, 2, none⟩ = some (.slice Ao14 t495.length co14)) (ds := []) #[false, false, false, false, false, false, false, false, false] (by kernel_rfl) rfl rfl ⟨(blk_cell BK500.out 0).trans rfl, (blk_cell BK500.out 1).trans rfl, (blk_cell BK500.out 2).trans rfl⟩ (fun hHeld => ?_); refine with_tabW laws_FnLedgerCan.tab12 laws_FnLedgerCan.bits12 (fun HT_ HW_ => ?_)
           generalize w100.drew = w101 at HO_501002 BK500 BK501 BK509 BK513 BK517 HB hHeld ⊢
           refine pure_ (i := 1) (N := some 88) (v := ?_) (a' := ?_) #[false, true, false, false, false, false, false, false, false] rfl rfl (any_of HT_.out (by kernel_rfl)) (fun _ _ _ h => h) (Or.inl ⟨by rfl, ?_⟩) ?_ ?_
           rotate_left
           ·intro w'
            go_simp
            with_reducible rfl
           rotate_left
           ·simp only [Act.put, setIfInBounds_toArray, set_cons_zero, set_cons_succ, i64_w, i32_w]
            rfl
           refine pure_ (i := 3) (N := some 90) (v := ?_) (a' := ?_) #[false, true, false, true, false, false, false, false, false] rfl rfl (any_of HT_.out (by kernel_rfl)) (fun _ _ _ h => h) (Or.inl ⟨by rfl, ?_⟩) ?_ ?_
           rotate_left
           ·intro w'
            go_simp
            with_reducible rfl
           rotate_left
           ·simp only [Act.put, setIfInBounds_toArray, set_cons_zero, set_cons_succ, i64_w, i32_w]
            rfl
           refine take_ (i := 0) (N := some 87) (v := ?_) (a' := ?_) #[true, true, false, true, false, false, false, false, false] rfl rfl (take_ofW HT_.out HW_.out (by kernel_rfl)) (fun _ _ _ h => h) (Or.inl ⟨by rfl, ?_⟩) hHeld ?_ ?_
           rotate_left
           ·rintro w' ⟨s0, s1, s2⟩
            go_simp
            with_reducible rfl
           rotate_left
           ·simp only [Act.put, setIfInBounds_toArray, set_cons_zero, set_cons_succ, i64_w, i32_w]
            rfl
           refine take_ (i := 4) (N := some 91) (v := ?_) (a' := ?_) #[true, true, false, true, true, false, false, false, false] rfl rfl (take_ofW HT_.out HW_.out (by kernel_rfl)) (fun _ _ _ h => h) (Or.inl ⟨by rfl, ?_⟩) hHeld ?_ ?_
           rotate_left
           ·rintro w' ⟨s0, s1, s2⟩
            go_simp
            with_reducible rfl
           rotate_left
           ·simp only [Act.put, setIfInBounds_toArray, set_cons_zero, set_cons_succ, i64_w, i32_w]
            rfl
           refine pure_ (i := 5) (N := some 92) (v := ?_) (a' := ?_) #[true, true, false, true, true, true, false, false, false] rfl rfl (any_of HT_.out (by kernel_rfl)) (fun _ _ _ h => h) (Or.inl ⟨by rfl, ?_⟩) ?_ ?_
           rotate_left
           ·intro w'
            go_simp
            with_reducible rfl
           rotate_left
           ·simp only [Act.put, setIfInBounds_toArray, set_cons_zero, set_cons_succ, i64_w, i32_w]
            rfl
           refine pure_ (i := 6) (N := some 93) (v := ?_) (a' := ?_) #[true, true, false, true, true, true, true, false, false] rfl rfl (any_of HT_.out (by kernel_rfl)) (fun _ _ _ h => h) (Or.inl ⟨by rfl, ?_⟩) ?_ ?_
           rotate_left
           ·intro w'
            go_simp
            with_reducible rfl
           rotate_left
           ·simp only [Act.put, setIfInBounds_toArray, set_cons_zero, set_cons_succ, i64_w, i32_w]
            rfl
           refine one_ (i := 2) (N := some 89) #[true, true, true, true, true, true, true, false, false] rfl rfl (one_of HT_.out (by kernel_rfl)) (by decide) (fun K hK => ?_)
           refine goes_ Try.func33 (by kernel_rfl) rfl #[.agg #[.int .i64 t493, .int .i64 t494, .slice Ao14 t495.length co14], .agg #[.int .i64 0, .int .i64 1]] (by rfl) rfl rfl (by (try simp only [List.map_toArray, List.map_cons, List.map_nil]); first | done | rfl | (simp only [List.length_drop, List.length_take]; rfl)) ?_
           with_reducible refine (impl_LedgerCan.calls kj7 t493 t494 _ _ t495 0 1 t521 _ ?side1 ?side2 A76.out).mono ?_
           (case side1 => repeat (first | exact (Kd.R_reads' HO_501002.out).2.2 | (with_reducible refine Kd.C_alloc ?_ _) | (with_reducible refine Kd.C_drewN ?_ _) | (with_reducible refine Kd.C_drew ?_)))
           (case side2 => exact (Kd.R_reads' HO_501002.out).2.1)
           rintro e w102 ⟨rfl, hb⟩
           refine ⟨_, rfl, ?_⟩
           have n0_ := yM (Kd.R_below (by (with_reducible repeat (first | apply Kd.R_alloc | apply Kd.R_drewN | apply Kd.R_drew)); exact HO_501002.out) hb)
           have n1_ := yM (blk_below (g := gb500) (o := .cells #[.int .i64 t493, .int .i64 t494, .slice Ao14 t495.length co14] 32 (0, 0)) (by (with_reducible repeat (first | refine yN ?_ _ | refine yD ?_ | refine yA ?_ _)); exact BK500.out) hb)
           have n2_ := yM (blk_below (g := gb501) (o := .cells #[.int .i64 t498, .int .i64 t499] 29 (0, 0)) (by (with_reducible repeat (first | refine yN ?_ _ | refine yD ?_ | refine yA ?_ _)); exact BK501.out) hb)
           have n3_ := yM (blk_below (g := gb509) (o := .cells #[.int .i64 t506, .int .i64 t507] 29 (0, 0)) (by (with_reducible repeat (first | refine yN ?_ _ | refine yD ?_ | refine yA ?_ _)); exact BK509.out) hb)
           have n4_ := yM (blk_below (g := gb513) (o := .cells #[.int .i64 t510, .int .i64 t511] 29 (0, 0)) (by (with_reducible repeat (first | refine yN ?_ _ | refine yD ?_ | refine yA ?_ _)); exact BK513.out) hb)
           have n5_ := yM (blk_below (g := gb517) (o := .cells #[.int .i64 t514, .int .i64 t515] 29 (0, 0)) (by (with_reducible repeat (first | refine yN ?_ _ | refine yD ?_ | refine yA ?_ _)); exact BK517.out) hb)
           have n6_ := yM (below_step (by repeat (first | (with_reducible first | exact HB.out | apply below_alloc | apply yP | apply below_drew1 | refine yS ?_ GE500.out | refine yS ?_ GE501.out | refine yS ?_ GE509.out | refine yS ?_ GE513.out | refine yS ?_ GE517.out) | exact HB.out)) hb)
           clear HO_501002
           clear BK500
           clear BK501
           clear BK509
           clear BK513
           clear BK517
           clear HB
           have HO_501002 := n0_
           have BK500 := n1_
           have BK501 := n2_
           have BK509 := n3_
           have BK513 := n4_
           have BK517 := n5_
           have HB := n6_
           clear n0_ n1_ n2_ n3_ n4_ n5_ n6_
           (try clear hb)
           (try clear hb2)
           (try clear hk)
           (try clear hi)
           refine hK.out _ _ ⟨(blk_cell BK500.out 0).trans rfl, (blk_cell BK500.out 1).trans rfl, (blk_cell BK500.out 2).trans rfl⟩ (fun hHeld => ?_)
           clear hK K
           refine norm_ (a' := ?_) ?_ ?_
           rotate_left
           ·show Act.put _ (some 89) _ = _
            simp only [Act.put, setIfInBounds_toArray, set_cons_zero, set_cons_succ, i64_w, i32_w]
            rfl
           refine pure_ (i := 7) (N := some 94) (v := ?_) (a' := ?_) #[true, true, true, true, true, true, true, true, false] rfl rfl (any_of HT_.out (by kernel_rfl)) (fun _ _ _ h => h) (Or.inl ⟨by rfl, ?_⟩) ?_ ?_
           rotate_left
           ·intro w'
            go_simp
            with_reducible rfl
           rotate_left
           ·simp only [Act.put, setIfInBounds_toArray, set_cons_zero, set_cons_succ, i64_w, i32_w]
            rfl
           refine pure_ (i := 8) (N := some 4) (v := ?_) (a' := ?_) #[true, true, true, true, true, true, true, true, true] rfl rfl (any_of HT_.out (by kernel_rfl)) (fun _ _ _ h => h) (Or.inl ⟨by rfl, ?_⟩) ?_ ?_
           rotate_left
           ·intro w'
            go_simp
            with_reducible rfl
           rotate_left
           ·simp only [Act.put, setIfInBounds_toArray, set_cons_zero, set_cons_succ, i64_w, i32_w]
            rfl
           refine done_ (done_of HT_.out (by kernel_rfl)) ?_
           try go_wp2
           go_ret
           exact ⟨by first | rfl | (simp [errW_none, errW_some] <;> rfl) | (simp [*, errW_none, errW_some] <;> rfl), by repeat (first | (with_reducible first | exact HB.out | apply below_alloc | apply yP | apply below_drew1 | refine yS ?_ GE500.out | refine yS ?_ GE501.out | refine yS ?_ GE509.out | refine yS ?_ GE513.out | refine yS ?_ GE517.out) | exact HB.out)⟩
         ·replace c41 := Bool.eq_false_iff.mpr c41
          subst c41
          have H1 : ((impl_LedgerCan.f kj7 t493 t494 t495 0 1).bind fun t522 => (some (t522 == (decide ((t495.length : Int) < 8))))) = some r := by rw [if_neg (show ¬ (false = true) by decide)] at H; exact H
          clear H
          have H := H1
          clear H1
          replace H := Option.bind_eq_some_iff.mp H
          obtain ⟨t522, A1030, H⟩ := H
          replace H : (some (t522 == (decide ((t495.length : Int) < 8)))) = some r := H
          have A103 := Aside0.mk A1030
          clear A1030
          obtain rfl := Option.some.inj H
          try go_wp2_with (first | ((with_reducible refine gate_callee (f := 35) rfl ?_); refine goesL_ (some 54) rfl rfl Try.func35 (by kernel_rfl) rfl #[.int .i64 (1 + ((l1.length : Int) % 5)), .int .i64 (1 + ((l1.length : Int) % 7))] rfl (by (try simp only [List.map_toArray, List.map_cons, List.map_nil]); first | done | rfl | (simp only [List.length_drop, List.length_take]; rfl)) ?_; (with_reducible refine (impl_FracOf.calls kj7 (1 + ((l1.length : Int) % 5)) (1 + ((l1.length : Int) % 7)) t506 t507 true _ A36.out).mono ?_); rintro e w104 ⟨rfl, hb⟩; refine ⟨_, rfl, ?_⟩; have n0_ := yM (Kd.R_below (by (with_reducible repeat (first | apply Kd.R_alloc | apply Kd.R_drewN | apply Kd.R_drew)); exact HO_501002.out) hb); have n1_ := yM (blk_below (g := gb500) (o := .cells #[.int .i64 t493, .int .i64 t494, .slice Ao14 t495.length co14] 32 (0, 0)) (by (with_reducible repeat (first | refine yN ?_ _ | refine yD ?_ | refine yA ?_ _)); exact BK500.out) hb); have n2_ := yM (blk_below (g := gb501) (o := .cells #[.int .i64 t498, .int .i64 t499] 29 (0, 0)) (by (with_reducible repeat (first | refine yN ?_ _ | refine yD ?_ | refine yA ?_ _)); exact BK501.out) hb); have n3_ := yM (below_step (by repeat (first | (with_reducible first | exact HB.out | apply below_alloc | apply yP | apply below_drew1 | refine yS ?_ GE500.out | refine yS ?_ GE501.out) | exact HB.out)) hb); clear HO_501002; clear BK500; clear BK501; clear HB; have HO_501002 := n0_; have BK500 := n1_; have BK501 := n2_; have HB := n3_; clear n0_ n1_ n2_ n3_; (try clear hb); (try clear hb2); (try clear hk); (try clear hi)) | ((with_reducible refine gate_dst (N := 8) rfl ?_); (try (refine gate_guard (by rfl) ?_; dsimp only)); refine box_event ?hg (N := 8) ?hd (cs := #[.int .i64 0, .int .i64 0]) (t := 29) ?hr ?_; (case hd => rfl); (case hg => rfl); (case hr => first | (go_simp; done) | (go_simp; rfl)); intro gb509 hg w105 hbox hb; have n0_ := yM (Kd.R_below (Kd.R_elderB (by (with_reducible repeat (first | apply Kd.R_alloc | apply Kd.R_drewN | apply Kd.R_drew)); exact HO_501002.out) gb509 (Nat.le_of_eq hg.symm)) hb); have n1_ := yM (blk_below (g := gb500) (o := .cells #[.int .i64 t493, .int .i64 t494, .slice Ao14 t495.length co14] 32 (0, 0)) (by (with_reducible repeat (first | refine yN ?_ _ | refine yD ?_ | refine yA ?_ _)); exact BK500.out) hb); have n2_ := yM (blk_below (g := gb501) (o := .cells #[.int .i64 t498, .int .i64 t499] 29 (0, 0)) (by (with_reducible repeat (first | refine yN ?_ _ | refine yD ?_ | refine yA ?_ _)); exact BK501.out) hb); have n3_ := yM (below_step (by repeat (first | (with_reducible first | exact HB.out | apply below_alloc | apply yP | apply below_drew1 | refine yS ?_ GE500.out | refine yS ?_ GE501.out) | exact HB.out)) hb); have n4_ := yM (hbox); have n5_ := yM ((by rw [hg]; exact (below_size (by repeat (first | (with_reducible first | exact HB.out | apply below_alloc | apply yP | apply below_drew1 | refine yS ?_ GE500.out | refine yS ?_ GE501.out) | exact HB.out))) : w.heap.size ≤ gb509)); have n6_ := yM ((by rw [hg]; exact (below_size (by repeat (first | (with_reducible first | exact HB.out | apply below_alloc | apply yP | apply below_drew1 | refine yS ?_ GE500.out | refine yS ?_ GE501.out) | exact HB.out))) : w.heap.size ≤ gb509)); have n7_ := yM ((by rw [hg]; exact Nat.ne_of_lt (blk_lt (g := gb500) (o := .cells #[.int .i64 t493, .int .i64 t494, .slice Ao14 t495.length co14] 32 (0, 0)) (by (with_reducible repeat (first | refine yN ?_ _ | refine yD ?_ | refine yA ?_ _)); exact BK500.out)) : gb500 ≠ gb509)); have n8_ := yM ((by rw [hg]; exact Nat.ne_of_gt (blk_lt (g := gb500) (o := .cells #[.int .i64 t493, .int .i64 t494, .slice Ao14 t495.length co14] 32 (0, 0)) (by (with_reducible repeat (first | refine yN ?_ _ | refine yD ?_ | refine yA ?_ _)); exact BK500.out)) : gb509 ≠ gb500)); have n9_ := yM ((by rw [hg]; exact Nat.ne_of_lt (blk_lt (g := gb501) (o := .cells #[.int .i64 t498, .int .i64 t499] 29 (0, 0)) (by (with_reducible repeat (first | refine yN ?_ _ | refine yD ?_ | refine yA ?_ _)); exact BK501.out)) : gb501 ≠ gb509)); have n10_ := yM ((by rw [hg]; exact Nat.ne_of_gt (blk_lt (g := gb501) (o := .cells #[.int .i64 t498, .int .i64 t499] 29 (0, 0)) (by (with_reducible repeat (first | refine yN ?_ _ | refine yD ?_ | refine yA ?_ _)); exact BK501.out)) : gb509 ≠ gb501)); clear HO_501002; clear BK500; clear BK501; clear HB; have HO_501002 := n0_; have BK500 := n1_; have BK501 := n2_; have HB := n3_; have BK509 := n4_; have GW509 := n5_; have GE509 := n6_; have NB500_509 := n7_; have NB509_500 := n8_; have NB501_509 := n9_; have NB509_501 := n10_; clear n0_ n1_ n2_ n3_ n4_ n5_ n6_ n7_ n8_ n9_ n10_; clear hb hbox hg; have hnb106 := NB509_500.out; have hnc106 := NB500_509.out; have hnb107 := NB509_501.out; have hnc107 := NB501_509.out; have hcz108_0 : w105.cell? ⟨gb509, 0, none⟩ = some (.int .i64 0) := (blk_cell BK509.out 0).trans rfl; have hcz108_1 : w105.cell? ⟨gb509, 1, none⟩ = some (.int .i64 0) := (blk_cell BK509.out 1).trans rfl; have hfz108_0 := blk_frozen BK509.out 0; have hfz108_1 := blk_frozen BK509.out 1; have hnb109 := NB500_501.out; have hnc109 := NB501_500.out; have hcz110_0 : w105.cell? ⟨gb500, 0, none⟩ = some (.int .i64 t493) := (blk_cell BK500.out 0).trans rfl; have hcz110_1 : w105.cell? ⟨gb500, 1, none⟩ = some (.int .i64 t494) := (blk_cell BK500.out 1).trans rfl; have hcz110_2 : w105.cell? ⟨gb500, 2, none⟩ = some (.slice Ao14 t495.length co14) := (blk_cell BK500.out 2).trans rfl; have hfz110_0 := blk_frozen BK500.out 0; have hfz110_1 := blk_frozen BK500.out 1; have hfz110_2 := blk_frozen BK500.out 2) | ((with_reducible refine gate_callee (f := 20) rfl ?_); refine goesL_ (some 59) rfl rfl Try.func20 (by kernel_rfl) rfl #[.agg #[.int .i64 t493, .int .i64 t494, .slice Ao14 t495.length co14]] rfl (by (try simp only [List.map_toArray, List.map_cons, List.map_nil]); first | done | rfl | (simp only [List.length_drop, List.length_take]; rfl)) ?_; (with_reducible refine (impl_LedgerSum.calls kj7 t493 t494 _ _ t495 t510 t511 t512 _ ?side1 ?side2 A37.out).mono ?_); (case side1 => refine (Kd.R_reads' (e := 29) (base := w.heap.size) (ok := fun k_ => (k_ ≠ gb501 ∧ k_ ≠ gb509)) (n := t495.length) (c := co14) ?_).2.2; exact (by (with_reducible repeat (first | apply Kd.R_alloc | apply Kd.R_drewN | apply Kd.R_drew)); exact (Kd.R_mono (Kd.R_far (p := ⟨gb509, 1, none⟩) (Kd.R_far (p := ⟨gb509, 0, none⟩) (Kd.R_mono HO_501002.out (fun k_ hk => (⟨hk, hk.2⟩ : _ ∧ k_ ≠ gb509))) (fun _ hk => hk.2) (.int .i64 t506)) (fun _ hk => hk.2) (.int .i64 t507)) (fun _ h_ => h_.1)))); (case side2 => exact (Kd.R_reads' HO_501002.out).2.1); rintro e w111 ⟨rfl, hb⟩; refine ⟨_, rfl, ?_⟩; have n0_ := yM (Kd.R_below (by (with_reducible repeat (first | apply Kd.R_alloc | apply Kd.R_drewN | apply Kd.R_drew)); exact (Kd.R_mono (Kd.R_far (p := ⟨gb509, 1, none⟩) (Kd.R_far (p := ⟨gb509, 0, none⟩) (Kd.R_mono HO_501002.out (fun k_ hk => (⟨hk, hk.2⟩ : _ ∧ k_ ≠ gb509))) (fun _ hk => hk.2) (.int .i64 t506)) (fun _ hk => hk.2) (.int .i64 t507)) (fun _ h_ => h_.1))) hb); have n1_ := yM (blk_below (g := gb500) (o := .cells #[.int .i64 t493, .int .i64 t494, .slice Ao14 t495.length co14] 32 (0, 0)) (by (with_reducible repeat (first | refine yN ?_ _ | refine yD ?_ | refine yA ?_ _)); refine blk_far ?_ NB500_509.out _; (with_reducible repeat (first | refine yN ?_ _ | refine yD ?_ | refine yA ?_ _)); refine blk_far ?_ NB500_509.out _; (with_reducible repeat (first | refine yN ?_ _ | refine yD ?_ | refine yA ?_ _)); exact BK500.out) hb); have n2_ := yM (blk_below (g := gb501) (o := .cells #[.int .i64 t498, .int .i64 t499] 29 (0, 0)) (by (with_reducible repeat (first | refine yN ?_ _ | refine yD ?_ | refine yA ?_ _)); refine blk_far ?_ NB501_509.out _; (with_reducible repeat (first | refine yN ?_ _ | refine yD ?_ | refine yA ?_ _)); refine blk_far ?_ NB501_509.out _; (with_reducible repeat (first | refine yN ?_ _ | refine yD ?_ | refine yA ?_ _)); exact BK501.out) hb); have n3_ := yM (blk_below (g := gb509) (o := .cells #[.int .i64 t506, .int .i64 t507] 29 (0, 0)) (by (with_reducible repeat (first | refine yN ?_ _ | refine yD ?_ | refine yA ?_ _)); refine blk_put (cs := #[.int .i64 t506, .int .i64 0]) ?_ 1 _ rfl; (with_reducible repeat (first | refine yN ?_ _ | refine yD ?_ | refine yA ?_ _)); refine blk_put (cs := #[.int .i64 0, .int .i64 0]) ?_ 0 _ rfl; (with_reducible repeat (first | refine yN ?_ _ | refine yD ?_ | refine yA ?_ _)); exact BK509.out) hb); have n4_ := yM (below_step (by repeat (first | (with_reducible first | exact HB.out | apply below_alloc | apply yP | apply below_drew1 | refine yS ?_ GE500.out | refine yS ?_ GE501.out | refine yS ?_ GE509.out) | exact HB.out)) hb); clear HO_501002; clear BK500; clear BK501; clear BK509; clear HB; have HO_501002 := n0_; have BK500 := n1_; have BK501 := n2_; have BK509 := n3_; have HB := n4_; clear n0_ n1_ n2_ n3_ n4_; (try clear hb); (try clear hb2); (try clear hk); (try clear hi)) | ((with_reducible refine gate_dst (N := 10) rfl ?_); (try (refine gate_guard (by rfl) ?_; dsimp only)); refine box_event ?hg (N := 10) ?hd (cs := #[.int .i64 0, .int .i64 0]) (t := 29) ?hr ?_; (case hd => rfl); (case hg => rfl); (case hr => first | (go_simp; done) | (go_simp; rfl)); intro gb513 hg w112 hbox hb; have n0_ := yM (Kd.R_below (Kd.R_elderB (by (with_reducible repeat (first | apply Kd.R_alloc | apply Kd.R_drewN | apply Kd.R_drew)); exact HO_501002.out) gb513 (Nat.le_of_eq hg.symm)) hb); have n1_ := yM (blk_below (g := gb500) (o := .cells #[.int .i64 t493, .int .i64 t494, .slice Ao14 t495.length co14] 32 (0, 0)) (by (with_reducible repeat (first | refine yN ?_ _ | refine yD ?_ | refine yA ?_ _)); exact BK500.out) hb); have n2_ := yM (blk_below (g := gb501) (o := .cells #[.int .i64 t498, .int .i64 t499] 29 (0, 0)) (by (with_reducible repeat (first | refine yN ?_ _ | refine yD ?_ | refine yA ?_ _)); exact BK501.out) hb); have n3_ := yM (blk_below (g := gb509) (o := .cells #[.int .i64 t506, .int .i64 t507] 29 (0, 0)) (by (with_reducible repeat (first | refine yN ?_ _ | refine yD ?_ | refine yA ?_ _)); exact BK509.out) hb); have n4_ := yM (below_step (by repeat (first | (with_reducible first | exact HB.out | apply below_alloc | apply yP | apply below_drew1 | refine yS ?_ GE500.out | refine yS ?_ GE501.out | refine yS ?_ GE509.out) | exact HB.out)) hb); have n5_ := yM (hbox); have n6_ := yM ((by rw [hg]; exact (below_size (by repeat (first | (with_reducible first | exact HB.out | apply below_alloc | apply yP | apply below_drew1 | refine yS ?_ GE500.out | refine yS ?_ GE501.out | refine yS ?_ GE509.out) | exact HB.out))) : w.heap.size ≤ gb513)); have n7_ := yM ((by rw [hg]; exact (below_size (by repeat (first | (with_reducible first | exact HB.out | apply below_alloc | apply yP | apply below_drew1 | refine yS ?_ GE500.out | refine yS ?_ GE501.out | refine yS ?_ GE509.out) | exact HB.out))) : w.heap.size ≤ gb513)); have n8_ := yM ((by rw [hg]; exact Nat.ne_of_lt (blk_lt (g := gb500) (o := .cells #[.int .i64 t493, .int .i64 t494, .slice Ao14 t495.length co14] 32 (0, 0)) (by (with_reducible repeat (first | refine yN ?_ _ | refine yD ?_ | refine yA ?_ _)); exact BK500.out)) : gb500 ≠ gb513)); have n9_ := yM ((by rw [hg]; exact Nat.ne_of_gt (blk_lt (g := gb500) (o := .cells #[.int .i64 t493, .int .i64 t494, .slice Ao14 t495.length co14] 32 (0, 0)) (by (with_reducible repeat (first | refine yN ?_ _ | refine yD ?_ | refine yA ?_ _)); exact BK500.out)) : gb513 ≠ gb500)); have n10_ := yM ((by rw [hg]; exact Nat.ne_of_lt (blk_lt (g := gb501) (o := .cells #[.int .i64 t498, .int .i64 t499] 29 (0, 0)) (by (with_reducible repeat (first | refine yN ?_ _ | refine yD ?_ | refine yA ?_ _)); exact BK501.out)) : gb501 ≠ gb513)); have n11_ := yM ((by rw [hg]; exact Nat.ne_of_gt (blk_lt (g := gb501) (o := .cells #[.int .i64 t498, .int .i64 t499] 29 (0, 0)) (by (with_reducible repeat (first | refine yN ?_ _ | refine yD ?_ | refine yA ?_ _)); exact BK501.out)) : gb513 ≠ gb501)); have n12_ := yM ((by rw [hg]; exact Nat.ne_of_lt (blk_lt (g := gb509) (o := .cells #[.int .i64 t506, .int .i64 t507] 29 (0, 0)) (by (with_reducible repeat (first | refine yN ?_ _ | refine yD ?_ | refine yA ?_ _)); exact BK509.out)) : gb509 ≠ gb513)); have n13_ := yM ((by rw [hg]; exact Nat.ne_of_gt (blk_lt (g := gb509) (o := .cells #[.int .i64 t506, .int .i64 t507] 29 (0, 0)) (by (with_reducible repeat (first | refine yN ?_ _ | refine yD ?_ | refine yA ?_ _)); exact BK509.out)) : gb513 ≠ gb509)); clear HO_501002; clear BK500; clear BK501; clear BK509; clear HB; have HO_501002 := n0_; have BK500 := n1_; have BK501 := n2_; have BK509 := n3_; have HB := n4_; have BK513 := n5_; have GW513 := n6_; have GE513 := n7_; have NB500_513 := n8_; have NB513_500 := n9_; have NB501_513 := n10_; have NB513_501 := n11_; have NB509_513 := n12_; have NB513_509 := n13_; clear n0_ n1_ n2_ n3_ n4_ n5_ n6_ n7_ n8_ n9_ n10_ n11_ n12_ n13_; clear hb hbox hg; have hnb113 := NB513_500.out; have hnc113 := NB500_513.out; have hnb114 := NB513_501.out; have hnc114 := NB501_513.out; have hnb115 := NB513_509.out; have hnc115 := NB509_513.out; have hcz116_0 : w112.cell? ⟨gb513, 0, none⟩ = some (.int .i64 0) := (blk_cell BK513.out 0).trans rfl; have hcz116_1 : w112.cell? ⟨gb513, 1, none⟩ = some (.int .i64 0) := (blk_cell BK513.out 1).trans rfl; have hfz116_0 := blk_frozen BK513.out 0; have hfz116_1 := blk_frozen BK513.out 1; have hcz117_0 : w112.cell? ⟨gb509, 0, none⟩ = some (.int .i64 t506) := (blk_cell BK509.out 0).trans rfl; have hcz117_1 : w112.cell? ⟨gb509, 1, none⟩ = some (.int .i64 t507) := (blk_cell BK509.out 1).trans rfl; have hfz117_0 := blk_frozen BK509.out 0; have hfz117_1 := blk_frozen BK509.out 1) | ((with_reducible refine gate_callee (f := 24) rfl ?_); refine goesL_ (some 65) rfl rfl Try.func24 (by kernel_rfl) rfl #[.agg #[.int .i64 t510, .int .i64 t511], .agg #[.int .i64 t506, .int .i64 t507]] rfl (by (try simp only [List.map_toArray, List.map_cons, List.map_nil]); first | done | rfl | (simp only [List.length_drop, List.length_take]; rfl)) ?_; (with_reducible refine (impl_FracSum.calls kj7 t510 t511 t506 t507 t514 t515 false _ A38.out).mono ?_); rintro e w118 ⟨rfl, hb⟩; refine ⟨_, rfl, ?_⟩; have n0_ := yM (Kd.R_below (by (with_reducible repeat (first | apply Kd.R_alloc | apply Kd.R_drewN | apply Kd.R_drew)); exact (Kd.R_mono (Kd.R_far (p := ⟨gb513, 1, none⟩) (Kd.R_far (p := ⟨gb513, 0, none⟩) (Kd.R_mono HO_501002.out (fun k_ hk => (⟨hk, hk.2⟩ : _ ∧ k_ ≠ gb513))) (fun _ hk => hk.2) (.int .i64 t510)) (fun _ hk => hk.2) (.int .i64 t511)) (fun _ h_ => h_.1))) hb); have n1_ := yM (blk_below (g := gb500) (o := .cells #[.int .i64 t493, .int .i64 t494, .slice Ao14 t495.length co14] 32 (0, 0)) (by (with_reducible repeat (first | refine yN ?_ _ | refine yD ?_ | refine yA ?_ _)); refine blk_far ?_ NB500_513.out _; (with_reducible repeat (first | refine yN ?_ _ | refine yD ?_ | refine yA ?_ _)); refine blk_far ?_ NB500_513.out _; (with_reducible repeat (first | refine yN ?_ _ | refine yD ?_ | refine yA ?_ _)); exact BK500.out) hb); have n2_ := yM (blk_below (g := gb501) (o := .cells #[.int .i64 t498, .int .i64 t499] 29 (0, 0)) (by (with_reducible repeat (first | refine yN ?_ _ | refine yD ?_ | refine yA ?_ _)); refine blk_far ?_ NB501_513.out _; (with_reducible repeat (first | refine yN ?_ _ | refine yD ?_ | refine yA ?_ _)); refine blk_far ?_ NB501_513.out _; (with_reducible repeat (first | refine yN ?_ _ | refine yD ?_ | refine yA ?_ _)); exact BK501.out) hb); have n3_ := yM (blk_below (g := gb509) (o := .cells #[.int .i64 t506, .int .i64 t507] 29 (0, 0)) (by (with_reducible repeat (first | refine yN ?_ _ | refine yD ?_ | refine yA ?_ _)); refine blk_far ?_ NB509_513.out _; (with_reducible repeat (first | refine yN ?_ _ | refine yD ?_ | refine yA ?_ _)); refine blk_far ?_ NB509_513.out _; (with_reducible repeat (first | refine yN ?_ _ | refine yD ?_ | refine yA ?_ _)); exact BK509.out) hb); have n4_ := yM (blk_below (g := gb513) (o := .cells #[.int .i64 t510, .int .i64 t511] 29 (0, 0)) (by (with_reducible repeat (first | refine yN ?_ _ | refine yD ?_ | refine yA ?_ _)); refine blk_put (cs := #[.int .i64 t510, .int .i64 0]) ?_ 1 _ rfl; (with_reducible repeat (first | refine yN ?_ _ | refine yD ?_ | refine yA ?_ _)); refine blk_put (cs := #[.int .i64 0, .int .i64 0]) ?_ 0 _ rfl; (with_reducible repeat (first | refine yN ?_ _ | refine yD ?_ | refine yA ?_ _)); exact BK513.out) hb); have n5_ := yM (below_step (by repeat (first | (with_reducible first | exact HB.out | apply below_alloc | apply yP | apply below_drew1 | refine yS ?_ GE500.out | refine yS ?_ GE501.out | refine yS ?_ GE509.out | refine yS ?_ GE513.out) | exact HB.out)) hb); clear HO_501002; clear BK500; clear BK501; clear BK509; clear BK513; clear HB; have HO_501002 := n0_; have BK500 := n1_; have BK501 := n2_; have BK509 := n3_; have BK513 := n4_; have HB := n5_; clear n0_ n1_ n2_ n3_ n4_ n5_; (try clear hb); (try clear hb2); (try clear hk); (try clear hi)) | ((with_reducible refine gate_dst (N := 12) rfl ?_); (try (refine gate_guard (by rfl) ?_; dsimp only)); refine box_event ?hg (N := 12) ?hd (cs := #[.int .i64 0, .int .i64 0]) (t := 29) ?hr ?_; (case hd => rfl); (case hg => rfl); (case hr => first | (go_simp; done) | (go_simp; rfl)); intro gb517 hg w119 hbox hb; have n0_ := yM (Kd.R_below (Kd.R_elderB (by (with_reducible repeat (first | apply Kd.R_alloc | apply Kd.R_drewN | apply Kd.R_drew)); exact HO_501002.out) gb517 (Nat.le_of_eq hg.symm)) hb); have n1_ := yM (blk_below (g := gb500) (o := .cells #[.int .i64 t493, .int .i64 t494, .slice Ao14 t495.length co14] 32 (0, 0)) (by (with_reducible repeat (first | refine yN ?_ _ | refine yD ?_ | refine yA ?_ _)); exact BK500.out) hb); have n2_ := yM (blk_below (g := gb501) (o := .cells #[.int .i64 t498, .int .i64 t499] 29 (0, 0)) (by (with_reducible repeat (first | refine yN ?_ _ | refine yD ?_ | refine yA ?_ _)); exact BK501.out) hb); have n3_ := yM (blk_below (g := gb509) (o := .cells #[.int .i64 t506, .int .i64 t507] 29 (0, 0)) (by (with_reducible repeat (first | refine yN ?_ _ | refine yD ?_ | refine yA ?_ _)); exact BK509.out) hb); have n4_ := yM (blk_below (g := gb513) (o := .cells #[.int .i64 t510, .int .i64 t511] 29 (0, 0)) (by (with_reducible repeat (first | refine yN ?_ _ | refine yD ?_ | refine yA ?_ _)); exact BK513.out) hb); have n5_ := yM (below_step (by repeat (first | (with_reducible first | exact HB.out | apply below_alloc | apply yP | apply below_drew1 | refine yS ?_ GE500.out | refine yS ?_ GE501.out | refine yS ?_ GE509.out | refine yS ?_ GE513.out) | exact HB.out)) hb); have n6_ := yM (hbox); have n7_ := yM ((by rw [hg]; exact (below_size (by repeat (first | (with_reducible first | exact HB.out | apply below_alloc | apply yP | apply below_drew1 | refine yS ?_ GE500.out | refine yS ?_ GE501.out | refine yS ?_ GE509.out | refine yS ?_ GE513.out) | exact HB.out))) : w.heap.size ≤ gb517)); have n8_ := yM ((by rw [hg]; exact (below_size (by repeat (first | (with_reducible first | exact HB.out | apply below_alloc | apply yP | apply below_drew1 | refine yS ?_ GE500.out | refine yS ?_ GE501.out | refine yS ?_ GE509.out | refine yS ?_ GE513.out) | exact HB.out))) : w.heap.size ≤ gb517)); have n9_ := yM ((by rw [hg]; exact Nat.ne_of_lt (blk_lt (g := gb500) (o := .cells #[.int .i64 t493, .int .i64 t494, .slice Ao14 t495.length co14] 32 (0, 0)) (by (with_reducible repeat (first | refine yN ?_ _ | refine yD ?_ | refine yA ?_ _)); exact BK500.out)) : gb500 ≠ gb517)); have n10_ := yM ((by rw [hg]; exact Nat.ne_of_gt (blk_lt (g := gb500) (o := .cells #[.int .i64 t493, .int .i64 t494, .slice Ao14 t495.length co14] 32 (0, 0)) (by (with_reducible repeat (first | refine yN ?_ _ | refine yD ?_ | refine yA ?_ _)); exact BK500.out)) : gb517 ≠ gb500)); have n11_ := yM ((by rw [hg]; exact Nat.ne_of_lt (blk_lt (g := gb501) (o := .cells #[.int .i64 t498, .int .i64 t499] 29 (0, 0)) (by (with_reducible repeat (first | refine yN ?_ _ | refine yD ?_ | refine yA ?_ _)); exact BK501.out)) : gb501 ≠ gb517)); have n12_ := yM ((by rw [hg]; exact Nat.ne_of_gt (blk_lt (g := gb501) (o := .cells #[.int .i64 t498, .int .i64 t499] 29 (0, 0)) (by (with_reducible repeat (first | refine yN ?_ _ | refine yD ?_ | refine yA ?_ _)); exact BK501.out)) : gb517 ≠ gb501)); have n13_ := yM ((by rw [hg]; exact Nat.ne_of_lt (blk_lt (g := gb509) (o := .cells #[.int .i64 t506, .int .i64 t507] 29 (0, 0)) (by (with_reducible repeat (first | refine yN ?_ _ | refine yD ?_ | refine yA ?_ _)); exact BK509.out)) : gb509 ≠ gb517)); have n14_ := yM ((by rw [hg]; exact Nat.ne_of_gt (blk_lt (g := gb509) (o := .cells #[.int .i64 t506, .int .i64 t507] 29 (0, 0)) (by (with_reducible repeat (first | refine yN ?_ _ | refine yD ?_ | refine yA ?_ _)); exact BK509.out)) : gb517 ≠ gb509)); have n15_ := yM ((by rw [hg]; exact Nat.ne_of_lt (blk_lt (g := gb513) (o := .cells #[.int .i64 t510, .int .i64 t511] 29 (0, 0)) (by (with_reducible repeat (first | refine yN ?_ _ | refine yD ?_ | refine yA ?_ _)); exact BK513.out)) : gb513 ≠ gb517)); have n16_ := yM ((by rw [hg]; exact Nat.ne_of_gt (blk_lt (g := gb513) (o := .cells #[.int .i64 t510, .int .i64 t511] 29 (0, 0)) (by (with_reducible repeat (first | refine yN ?_ _ | refine yD ?_ | refine yA ?_ _)); exact BK513.out)) : gb517 ≠ gb513)); clear HO_501002; clear BK500; clear BK501; clear BK509; clear BK513; clear HB; have HO_501002 := n0_; have BK500 := n1_; have BK501 := n2_; have BK509 := n3_; have BK513 := n4_; have HB := n5_; have BK517 := n6_; have GW517 := n7_; have GE517 := n8_; have NB500_517 := n9_; have NB517_500 := n10_; have NB501_517 := n11_; have NB517_501 := n12_; have NB509_517 := n13_; have NB517_509 := n14_; have NB513_517 := n15_; have NB517_513 := n16_; clear n0_ n1_ n2_ n3_ n4_ n5_ n6_ n7_ n8_ n9_ n10_ n11_ n12_ n13_ n14_ n15_ n16_; clear hb hbox hg; have hnb120 := NB517_500.out; have hnc120 := NB500_517.out; have hnb121 := NB517_501.out; have hnc121 := NB501_517.out; have hnb122 := NB517_509.out; have hnc122 := NB509_517.out; have hnb123 := NB517_513.out; have hnc123 := NB513_517.out; have hcz124_0 : w119.cell? ⟨gb517, 0, none⟩ = some (.int .i64 0) := (blk_cell BK517.out 0).trans rfl; have hcz124_1 : w119.cell? ⟨gb517, 1, none⟩ = some (.int .i64 0) := (blk_cell BK517.out 1).trans rfl; have hfz124_0 := blk_frozen BK517.out 0; have hfz124_1 := blk_frozen BK517.out 1))
          have n0_ : Aside0 (Kd.R k29 29 ((w119.setCell ⟨gb517, 0, none⟩ (.int .i64 t514)).setCell ⟨gb517, 1, none⟩ (.int .i64 t515)) w.heap.size (fun k_ => k_ ≠ gb501 ∧ k_ ≠ gb509 ∧ k_ ≠ gb513 ∧ k_ ≠ gb517) (.slice Ao14 t495.length co14) t495) := ⟨by (with_reducible repeat (first | apply Kd.R_alloc | apply Kd.R_drewN | apply Kd.R_drew)); exact Kd.R_mono (Kd.R_far (p := ⟨gb517, 1, none⟩) (Kd.R_far (p := ⟨gb517, 0, none⟩) (Kd.R_mono HO_501002.out (fun k_ hk => (⟨hk, hk.2⟩ : _ ∧ k_ ≠ gb517))) (fun _ hk => hk.2) (.int .i64 t514)) (fun _ hk => hk.2) (.int .i64 t515)) (fun _ hk => ⟨hk.1.1.1.1, ⟨hk.1.1.1.2, ⟨hk.1.1.2, hk.1.2⟩⟩⟩)⟩
          have n1_ : Aside0 (((w119.setCell ⟨gb517, 0, none⟩ (.int .i64 t514)).setCell ⟨gb517, 1, none⟩ (.int .i64 t515)).heap[gb500]? = some (.cells #[.int .i64 t493, .int .i64 t494, .slice Ao14 t495.length co14] 32 (0, 0))) := ⟨by (with_reducible repeat (first | refine yN ?_ _ | refine yD ?_ | refine yA ?_ _)); refine blk_far ?_ NB500_517.out _; (with_reducible repeat (first | refine yN ?_ _ | refine yD ?_ | refine yA ?_ _)); refine blk_far ?_ NB500_517.out _; (with_reducible repeat (first | refine yN ?_ _ | refine yD ?_ | refine yA ?_ _)); exact BK500.out⟩
          have n2_ : Aside0 (((w119.setCell ⟨gb517, 0, none⟩ (.int .i64 t514)).setCell ⟨gb517, 1, none⟩ (.int .i64 t515)).heap[gb501]? = some (.cells #[.int .i64 t498, .int .i64 t499] 29 (0, 0))) := ⟨by (with_reducible repeat (first | refine yN ?_ _ | refine yD ?_ | refine yA ?_ _)); refine blk_far ?_ NB501_517.out _; (with_reducible repeat (first | refine yN ?_ _ | refine yD ?_ | refine yA ?_ _)); refine blk_far ?_ NB501_517.out _; (with_reducible repeat (first | refine yN ?_ _ | refine yD ?_ | refine yA ?_ _)); exact BK501.out⟩
          have n3_ : Aside0 (((w119.setCell ⟨gb517, 0, none⟩ (.int .i64 t514)).setCell ⟨gb517, 1, none⟩ (.int .i64 t515)).heap[gb509]? = some (.cells #[.int .i64 t506, .int .i64 t507] 29 (0, 0))) := ⟨by (with_reducible repeat (first | refine yN ?_ _ | refine yD ?_ | refine yA ?_ _)); refine blk_far ?_ NB509_517.out _; (with_reducible repeat (first | refine yN ?_ _ | refine yD ?_ | refine yA ?_ _)); refine blk_far ?_ NB509_517.out _; (with_reducible repeat (first | refine yN ?_ _ | refine yD ?_ | refine yA ?_ _)); exact BK509.out⟩
          have n4_ : Aside0 (((w119.setCell ⟨gb517, 0, none⟩ (.int .i64 t514)).setCell ⟨gb517, 1, none⟩ (.int .i64 t515)).heap[gb513]? = some (.cells #[.int .i64 t510, .int .i64 t511] 29 (0, 0))) := ⟨by (with_reducible repeat (first | refine yN ?_ _ | refine yD ?_ | refine yA ?_ _)); refine blk_far ?_ NB513_517.out _; (with_reducible repeat (first | refine yN ?_ _ | refine yD ?_ | refine yA ?_ _)); refine blk_far ?_ NB513_517.out _; (with_reducible repeat (first | refine yN ?_ _ | refine yD ?_ | refine yA ?_ _)); exact BK513.out⟩
          have n5_ : Aside0 (((w119.setCell ⟨gb517, 0, none⟩ (.int .i64 t514)).setCell ⟨gb517, 1, none⟩ (.int .i64 t515)).heap[gb517]? = some (.cells #[.int .i64 t514, .int .i64 t515] 29 (0, 0))) := ⟨by (with_reducible repeat (first | refine yN ?_ _ | refine yD ?_ | refine yA ?_ _)); refine blk_put (cs := #[.int .i64 t514, .int .i64 0]) ?_ 1 _ rfl; (with_reducible repeat (first | refine yN ?_ _ | refine yD ?_ | refine yA ?_ _)); refine blk_put (cs := #[.int .i64 0, .int .i64 0]) ?_ 0 _ rfl; (with_reducible repeat (first | refine yN ?_ _ | refine yD ?_ | refine yA ?_ _)); exact BK517.out⟩
          have n6_ : Aside0 (Below w.heap.size w ((w119.setCell ⟨gb517, 0, none⟩ (.int .i64 t514)).setCell ⟨gb517, 1, none⟩ (.int .i64 t515))) := ⟨by repeat (first | (with_reducible first | exact HB.out | apply below_alloc | apply yP | apply below_drew1 | refine yS ?_ GE500.out | refine yS ?_ GE501.out | refine yS ?_ GE509.out | refine yS ?_ GE513.out | refine yS ?_ GE517.out) | exact HB.out)⟩
          (try clear HO_501002)
          (try clear BK500)
          (try clear BK501)
          (try clear BK509)
          (try clear BK513)
          (try clear BK517)
          (try clear HB)
          generalize ((w119.setCell ⟨gb517, 0, none⟩ (.int .i64 t514)).setCell ⟨gb517, 1, none⟩ (.int .i64 t515)) = w125 at n0_ n1_ n2_ n3_ n4_ n5_ n6_ ⊢
          have HO_501002 := n0_
          have BK500 := n1_
          have BK501 := n2_
          have BK509 := n3_
          have BK513 := n4_
          have BK517 := n5_
          have HB := n6_
          clear n0_ n1_ n2_ n3_ n4_ n5_ n6_
          have n0_ := yM (Kd.R_drew HO_501002.out)
          have n1_ := yM (yD BK500.out)
          have n2_ := yM (yD BK501.out)
          have n3_ := yM (yD BK509.out)
          have n4_ := yM (yD BK513.out)
          have n5_ := yM (yD BK517.out)
          have n6_ := yM (below_drew1 HB.out)
          clear HO_501002
          clear BK500
          clear BK501
          clear BK509
          clear BK513
          clear BK517
          clear HB
          have HO_501002 := n0_
          have BK500 := n1_
          have BK501 := n2_
          have BK509 := n3_
          have BK513 := n4_
          have BK517 := n5_
          have HB := n6_
          clear n0_ n1_ n2_ n3_ n4_ n5_ n6_
          refine start_ (n := 9) (S := fun w' => w'.cell? ⟨gb500, 0, none⟩ = some (.int .i64 t493) ∧ w'.cell? ⟨gb500, 1, none⟩ = some (.int .i64 t494) ∧ w'.cell? ⟨gb500, 2, none⟩ = some (.slice Ao14 t495.length co14)) (ds := []) #[false, false, false, false, false, false, false, false, false] (by kernel_rfl) rfl rfl ⟨(blk_cell BK500.out 0).trans rfl, (blk_cell BK500.out 1).trans rfl, (blk_cell BK500.out 2).trans rfl⟩ (fun hHeld => ?_); refine with_tabW laws_FnLedgerCan.tab12 laws_FnLedgerCan.bits12 (fun HT_ HW_ => ?_)
          generalize w125.drew = w126 at HO_501002 BK500 BK501 BK509 BK513 BK517 HB hHeld ⊢
          refine pure_ (i := 1) (N := some 88) (v := ?_) (a' := ?_) #[false, true, false, false, false, false, false, false, false] rfl rfl (any_of HT_.out (by kernel_rfl)) (fun _ _ _ h => h) (Or.inl ⟨by rfl, ?_⟩) ?_ ?_
          rotate_left
          ·intro w'
           go_simp
           with_reducible rfl
          rotate_left
          ·simp only [Act.put, setIfInBounds_toArray, set_cons_zero, set_cons_succ, i64_w, i32_w]
           rfl
          refine pure_ (i := 3) (N := some 90) (v := ?_) (a' := ?_) #[false, true, false, true, false, false, false, false, false] rfl rfl (any_of HT_.out (by kernel_rfl)) (fun _ _ _ h => h) (Or.inl ⟨by rfl, ?_⟩) ?_ ?_
          rotate_left
          ·intro w'
           go_simp
           with_reducible rfl
          rotate_left
          ·simp only [Act.put, setIfInBounds_toArray, set_cons_zero, set_cons_succ, i64_w, i32_w]
           rfl
          refine take_ (i := 0) (N := some 87) (v := ?_) (a' := ?_) #[true, true, false, true, false, false, false, false, false] rfl rfl (take_ofW HT_.out HW_.out (by kernel_rfl)) (fun _ _ _ h => h) (Or.inl ⟨by rfl, ?_⟩) hHeld ?_ ?_
          rotate_left
          ·rintro w' ⟨s0, s1, s2⟩
           go_simp
           with_reducible rfl
          rotate_left
          ·simp only [Act.put, setIfInBounds_toArray, set_cons_zero, set_cons_succ, i64_w, i32_w]
           rfl
          refine take_ (i := 4) (N := some 91) (v := ?_) (a' := ?_) #[true, true, false, true, true, false, false, false, false] rfl rfl (take_ofW HT_.out HW_.out (by kernel_rfl)) (fun _ _ _ h => h) (Or.inl ⟨by rfl, ?_⟩) hHeld ?_ ?_
          rotate_left
          ·rintro w' ⟨s0, s1, s2⟩
           go_simp
           with_reducible rfl
          rotate_left
          ·simp only [Act.put, setIfInBounds_toArray, set_cons_zero, set_cons_succ, i64_w, i32_w]
           rfl
          refine pure_ (i := 5) (N := some 92) (v := ?_) (a' := ?_) #[true, true, false, true, true, true, false, false, false] rfl rfl (any_of HT_.out (by kernel_rfl)) (fun _ _ _ h => h) (Or.inl ⟨by rfl, ?_⟩) ?_ ?_
          rotate_left
          ·intro w'
           go_simp
           with_reducible rfl
          rotate_left
          ·simp only [Act.put, setIfInBounds_toArray, set_cons_zero, set_cons_succ, i64_w, i32_w]
           rfl
          refine pure_ (i := 6) (N := some 93) (v := ?_) (a' := ?_) #[true, true, false, true, true, true, true, false, false] rfl rfl (any_of HT_.out (by kernel_rfl)) (fun _ _ _ h => h) (Or.inl ⟨by rfl, ?_⟩) ?_ ?_
          rotate_left
          ·intro w'
           go_simp
           with_reducible rfl
          rotate_left
          ·simp only [Act.put, setIfInBounds_toArray, set_cons_zero, set_cons_succ, i64_w, i32_w]
           rfl
          refine one_ (i := 2) (N := some 89) #[true, true, true, true, true, true, true, false, false] rfl rfl (one_of HT_.out (by kernel_rfl)) (by decide) (fun K hK => ?_)
          refine goes_ Try.func33 (by kernel_rfl) rfl #[.agg #[.int .i64 t493, .int .i64 t494, .slice Ao14 t495.length co14], .agg #[.int .i64 0, .int .i64 1]] (by rfl) rfl rfl (by (try simp only [List.map_toArray, List.map_cons, List.map_nil]); first | done | rfl | (simp only [List.length_drop, List.length_take]; rfl)) ?_
          with_reducible refine (impl_LedgerCan.calls kj7 t493 t494 _ _ t495 0 1 t522 _ ?side1 ?side2 A103.out).mono ?_
          (case side1 => repeat (first | exact (Kd.R_reads' HO_501002.out).2.2 | (with_reducible refine Kd.C_alloc ?_ _) | (with_reducible refine Kd.C_drewN ?_ _) | (with_reducible refine Kd.C_drew ?_)))
          (case side2 => exact (Kd.R_reads' HO_501002.out).2.1)
          rintro e w127 ⟨rfl, hb⟩
          refine ⟨_, rfl, ?_⟩
          have n0_ := yM (Kd.R_below (by (with_reducible repeat (first | apply Kd.R_alloc | apply Kd.R_drewN | apply Kd.R_drew)); exact HO_501002.out) hb)
          have n1_ := yM (blk_below (g := gb500) (o := .cells #[.int .i64 t493, .int .i64 t494, .slice Ao14 t495.length co14] 32 (0, 0)) (by (with_reducible repeat (first | refine yN ?_ _ | refine yD ?_ | refine yA ?_ _)); exact BK500.out) hb)
          have n2_ := yM (blk_below (g := gb501) (o := .cells #[.int .i64 t498, .int .i64 t499] 29 (0, 0)) (by (with_reducible repeat (first | refine yN ?_ _ | refine yD ?_ | refine yA ?_ _)); exact BK501.out) hb)
          have n3_ := yM (blk_below (g := gb509) (o := .cells #[.int .i64 t506, .int .i64 t507] 29 (0, 0)) (by (with_reducible repeat (first | refine yN ?_ _ | refine yD ?_ | refine yA ?_ _)); exact BK509.out) hb)
          have n4_ := yM (blk_below (g := gb513) (o := .cells #[.int .i64 t510, .int .i64 t511] 29 (0, 0)) (by (with_reducible repeat (first | refine yN ?_ _ | refine yD ?_ | refine yA ?_ _)); exact BK513.out) hb)
          have n5_ := yM (blk_below (g := gb517) (o := .cells #[.int .i64 t514, .int .i64 t515] 29 (0, 0)) (by (with_reducible repeat (first | refine yN ?_ _ | refine yD ?_ | refine yA ?_ _)); exact BK517.out) hb)
          have n6_ := yM (below_step (by repeat (first | (with_reducible first | exact HB.out | apply below_alloc | apply yP | apply below_drew1 | refine yS ?_ GE500.out | refine yS ?_ GE501.out | refine yS ?_ GE509.out | refine yS ?_ GE513.out | refine yS ?_ GE517.out) | exact HB.out)) hb)
          clear HO_501002
          clear BK500
          clear BK501
          clear BK509
          clear BK513
          clear BK517
          clear HB
          have HO_501002 := n0_
          have BK500 := n1_
          have BK501 := n2_
          have BK509 := n3_
          have BK513 := n4_
          have BK517 := n5_
          have HB := n6_
          clear n0_ n1_ n2_ n3_ n4_ n5_ n6_
          (try clear hb)
          (try clear hb2)
          (try clear hk)
          (try clear hi)
          refine hK.out _ _ ⟨(blk_cell BK500.out 0).trans rfl, (blk_cell BK500.out 1).trans rfl, (blk_cell BK500.out 2).trans rfl⟩ (fun hHeld => ?_)
          clear hK K
          refine norm_ (a' := ?_) ?_ ?_
          rotate_left
          ·show Act.put _ (some 89) _ = _
           simp only [Act.put, setIfInBounds_toArray, set_cons_zero, set_cons_succ, i64_w, i32_w]
           rfl
          refine pure_ (i := 7) (N := some 94) (v := ?_) (a' := ?_) #[true, true, true, true, true, true, true, true, false] rfl rfl (any_of HT_.out (by kernel_rfl)) (fun _ _ _ h => h) (Or.inl ⟨by rfl, ?_⟩) ?_ ?_
          rotate_left
          ·intro w'
           go_simp
           with_reducible rfl
          rotate_left
          ·simp only [Act.put, setIfInBounds_toArray, set_cons_zero, set_cons_succ, i64_w, i32_w]
           rfl
          refine pure_ (i := 8) (N := some 4) (v := ?_) (a' := ?_) #[true, true, true, true, true, true, true, true, true] rfl rfl (any_of HT_.out (by kernel_rfl)) (fun _ _ _ h => h) (Or.inl ⟨by rfl, ?_⟩) ?_ ?_
          rotate_left
          ·intro w'
           go_simp
           with_reducible rfl
          rotate_left
          ·simp only [Act.put, setIfInBounds_toArray, set_cons_zero, set_cons_succ, i64_w, i32_w]
           rfl
          refine done_ (done_of HT_.out (by kernel_rfl)) ?_
          try go_wp2
          go_ret
          exact ⟨by first | rfl | (simp [errW_none, errW_some] <;> rfl) | (simp [*, errW_none, errW_some] <;> rfl), by repeat (first | (with_reducible first | exact HB.out | apply below_alloc | apply yP | apply below_drew1 | refine yS ?_ GE500.out | refine yS ?_ GE501.out | refine yS ?_ GE509.out | refine yS ?_ GE513.out | refine yS ?_ GE517.out) | exact HB.out)⟩
        ·replace c40 := Bool.eq_false_iff.mpr c40
         subst c40
         have H1 : ((impl_LedgerCan.f kj7 t493 t494 t495 0 1).bind fun t523 => (some (t523 == (decide ((t495.length : Int) < 8))))) = some r := by rw [if_neg (show ¬ (false = true) by decide)] at H; exact H
         clear H
         have H := H1
         clear H1
         replace H := Option.bind_eq_some_iff.mp H
         obtain ⟨t523, A1280, H⟩ := H
         replace H : (some (t523 == (decide ((t495.length : Int) < 8)))) = some r := H
         have A128 := Aside0.mk A1280
         clear A1280
         obtain rfl := Option.some.inj H
         try go_wp2_with (first | ((with_reducible refine gate_callee (f := 35) rfl ?_); refine goesL_ (some 54) rfl rfl Try.func35 (by kernel_rfl) rfl #[.int .i64 (1 + ((l1.length : Int) % 5)), .int .i64 (1 + ((l1.length : Int) % 7))] rfl (by (try simp only [List.map_toArray, List.map_cons, List.map_nil]); first | done | rfl | (simp only [List.length_drop, List.length_take]; rfl)) ?_; (with_reducible refine (impl_FracOf.calls kj7 (1 + ((l1.length : Int) % 5)) (1 + ((l1.length : Int) % 7)) t506 t507 false _ A36.out).mono ?_); rintro e w129 ⟨rfl, hb⟩; refine ⟨_, rfl, ?_⟩; have n0_ := yM (Kd.R_below (by (with_reducible repeat (first | apply Kd.R_alloc | apply Kd.R_drewN | apply Kd.R_drew)); exact HO_501002.out) hb); have n1_ := yM (blk_below (g := gb500) (o := .cells #[.int .i64 t493, .int .i64 t494, .slice Ao14 t495.length co14] 32 (0, 0)) (by (with_reducible repeat (first | refine yN ?_ _ | refine yD ?_ | refine yA ?_ _)); exact BK500.out) hb); have n2_ := yM (blk_below (g := gb501) (o := .cells #[.int .i64 t498, .int .i64 t499] 29 (0, 0)) (by (with_reducible repeat (first | refine yN ?_ _ | refine yD ?_ | refine yA ?_ _)); exact BK501.out) hb); have n3_ := yM (below_step (by repeat (first | (with_reducible first | exact HB.out | apply below_alloc | apply yP | apply below_drew1 | refine yS ?_ GE500.out | refine yS ?_ GE501.out) | exact HB.out)) hb); clear HO_501002; clear BK500; clear BK501; clear HB; have HO_501002 := n0_; have BK500 := n1_; have BK501 := n2_; have HB := n3_; clear n0_ n1_ n2_ n3_; (try clear hb); (try clear hb2); (try clear hk); (try clear hi)) | ((with_reducible refine gate_dst (N := 8) rfl ?_); (try (refine gate_guard (by rfl) ?_; dsimp only)); refine box_event ?hg (N := 8) ?hd (cs := #[.int .i64 0, .int .i64 0]) (t := 29) ?hr ?_; (case hd => rfl); (case hg => rfl); (case hr => first | (go_simp; done) | (go_simp; rfl)); intro gb509 hg w130 hbox hb; have n0_ := yM (Kd.R_below (Kd.R_elderB (by (with_reducible repeat (first | apply Kd.R_alloc | apply Kd.R_drewN | apply Kd.R_drew)); exact HO_501002.out) gb509 (Nat.le_of_eq hg.symm)) hb); have n1_ := yM (blk_below (g := gb500) (o := .cells #[.int .i64 t493, .int .i64 t494, .slice Ao14 t495.length co14] 32 (0, 0)) (by (with_reducible repeat (first | refine yN ?_ _ | refine yD ?_ | refine yA ?_ _)); exact BK500.out) hb); have n2_ := yM (blk_below (g := gb501) (o := .cells #[.int .i64 t498, .int .i64 t499] 29 (0, 0)) (by (with_reducible repeat (first | refine yN ?_ _ | refine yD ?_ | refine yA ?_ _)); exact BK501.out) hb); have n3_ := yM (below_step (by repeat (first | (with_reducible first | exact HB.out | apply below_alloc | apply yP | apply below_drew1 | refine yS ?_ GE500.out | refine yS ?_ GE501.out) | exact HB.out)) hb); have n4_ := yM (hbox); have n5_ := yM ((by rw [hg]; exact (below_size (by repeat (first | (with_reducible first | exact HB.out | apply below_alloc | apply yP | apply below_drew1 | refine yS ?_ GE500.out | refine yS ?_ GE501.out) | exact HB.out))) : w.heap.size ≤ gb509)); have n6_ := yM ((by rw [hg]; exact (below_size (by repeat (first | (with_reducible first | exact HB.out | apply below_alloc | apply yP | apply below_drew1 | refine yS ?_ GE500.out | refine yS ?_ GE501.out) | exact HB.out))) : w.heap.size ≤ gb509)); have n7_ := yM ((by rw [hg]; exact Nat.ne_of_lt (blk_lt (g := gb500) (o := .cells #[.int .i64 t493, .int .i64 t494, .slice Ao14 t495.length co14] 32 (0, 0)) (by (with_reducible repeat (first | refine yN ?_ _ | refine yD ?_ | refine yA ?_ _)); exact BK500.out)) : gb500 ≠ gb509)); have n8_ := yM ((by rw [hg]; exact Nat.ne_of_gt (blk_lt (g := gb500) (o := .cells #[.int .i64 t493, .int .i64 t494, .slice Ao14 t495.length co14] 32 (0, 0)) (by (with_reducible repeat (first | refine yN ?_ _ | refine yD ?_ | refine yA ?_ _)); exact BK500.out)) : gb509 ≠ gb500)); have n9_ := yM ((by rw [hg]; exact Nat.ne_of_lt (blk_lt (g := gb501) (o := .cells #[.int .i64 t498, .int .i64 t499] 29 (0, 0)) (by (with_reducible repeat (first | refine yN ?_ _ | refine yD ?_ | refine yA ?_ _)); exact BK501.out)) : gb501 ≠ gb509)); have n10_ := yM ((by rw [hg]; exact Nat.ne_of_gt (blk_lt (g := gb501) (o := .cells #[.int .i64 t498, .int .i64 t499] 29 (0, 0)) (by (with_reducible repeat (first | refine yN ?_ _ | refine yD ?_ | refine yA ?_ _)); exact BK501.out)) : gb509 ≠ gb501)); clear HO_501002; clear BK500; clear BK501; clear HB; have HO_501002 := n0_; have BK500 := n1_; have BK501 := n2_; have HB := n3_; have BK509 := n4_; have GW509 := n5_; have GE509 := n6_; have NB500_509 := n7_; have NB509_500 := n8_; have NB501_509 := n9_; have NB509_501 := n10_; clear n0_ n1_ n2_ n3_ n4_ n5_ n6_ n7_ n8_ n9_ n10_; clear hb hbox hg; have hnb131 := NB509_500.out; have hnc131 := NB500_509.out; have hnb132 := NB509_501.out; have hnc132 := NB501_509.out; have hcz133_0 : w130.cell? ⟨gb509, 0, none⟩ = some (.int .i64 0) := (blk_cell BK509.out 0).trans rfl; have hcz133_1 : w130.cell? ⟨gb509, 1, none⟩ = some (.int .i64 0) := (blk_cell BK509.out 1).trans rfl; have hfz133_0 := blk_frozen BK509.out 0; have hfz133_1 := blk_frozen BK509.out 1; have hnb134 := NB500_501.out; have hnc134 := NB501_500.out; have hcz135_0 : w130.cell? ⟨gb500, 0, none⟩ = some (.int .i64 t493) := (blk_cell BK500.out 0).trans rfl; have hcz135_1 : w130.cell? ⟨gb500, 1, none⟩ = some (.int .i64 t494) := (blk_cell BK500.out 1).trans rfl; have hcz135_2 : w130.cell? ⟨gb500, 2, none⟩ = some (.slice Ao14 t495.length co14) := (blk_cell BK500.out 2).trans rfl; have hfz135_0 := blk_frozen BK500.out 0; have hfz135_1 := blk_frozen BK500.out 1; have hfz135_2 := blk_frozen BK500.out 2) | ((with_reducible refine gate_callee (f := 20) rfl ?_); refine goesL_ (some 59) rfl rfl Try.func20 (by kernel_rfl) rfl #[.agg #[.int .i64 t493, .int .i64 t494, .slice Ao14 t495.length co14]] rfl (by (try simp only [List.map_toArray, List.map_cons, List.map_nil]); first | done | rfl | (simp only [List.length_drop, List.length_take]; rfl)) ?_; (with_reducible refine (impl_LedgerSum.calls kj7 t493 t494 _ _ t495 t510 t511 t512 _ ?side1 ?side2 A37.out).mono ?_); (case side1 => refine (Kd.R_reads' (e := 29) (base := w.heap.size) (ok := fun k_ => (k_ ≠ gb501 ∧ k_ ≠ gb509)) (n := t495.length) (c := co14) ?_).2.2; exact (by (with_reducible repeat (first | apply Kd.R_alloc | apply Kd.R_drewN | apply Kd.R_drew)); exact (Kd.R_mono (Kd.R_far (p := ⟨gb509, 1, none⟩) (Kd.R_far (p := ⟨gb509, 0, none⟩) (Kd.R_mono HO_501002.out (fun k_ hk => (⟨hk, hk.2⟩ : _ ∧ k_ ≠ gb509))) (fun _ hk => hk.2) (.int .i64 t506)) (fun _ hk => hk.2) (.int .i64 t507)) (fun _ h_ => h_.1)))); (case side2 => exact (Kd.R_reads' HO_501002.out).2.1); rintro e w136 ⟨rfl, hb⟩; refine ⟨_, rfl, ?_⟩; have n0_ := yM (Kd.R_below (by (with_reducible repeat (first | apply Kd.R_alloc | apply Kd.R_drewN | apply Kd.R_drew)); exact (Kd.R_mono (Kd.R_far (p := ⟨gb509, 1, none⟩) (Kd.R_far (p := ⟨gb509, 0, none⟩) (Kd.R_mono HO_501002.out (fun k_ hk => (⟨hk, hk.2⟩ : _ ∧ k_ ≠ gb509))) (fun _ hk => hk.2) (.int .i64 t506)) (fun _ hk => hk.2) (.int .i64 t507)) (fun _ h_ => h_.1))) hb); have n1_ := yM (blk_below (g := gb500) (o := .cells #[.int .i64 t493, .int .i64 t494, .slice Ao14 t495.length co14] 32 (0, 0)) (by (with_reducible repeat (first | refine yN ?_ _ | refine yD ?_ | refine yA ?_ _)); refine blk_far ?_ NB500_509.out _; (with_reducible repeat (first | refine yN ?_ _ | refine yD ?_ | refine yA ?_ _)); refine blk_far ?_ NB500_509.out _; (with_reducible repeat (first | refine yN ?_ _ | refine yD ?_ | refine yA ?_ _)); exact BK500.out) hb); have n2_ := yM (blk_below (g := gb501) (o := .cells #[.int .i64 t498, .int .i64 t499] 29 (0, 0)) (by (with_reducible repeat (first | refine yN ?_ _ | refine yD ?_ | refine yA ?_ _)); refine blk_far ?_ NB501_509.out _; (with_reducible repeat (first | refine yN ?_ _ | refine yD ?_ | refine yA ?_ _)); refine blk_far ?_ NB501_509.out _; (with_reducible repeat (first | refine yN ?_ _ | refine yD ?_ | refine yA ?_ _)); exact BK501.out) hb); have n3_ := yM (blk_below (g := gb509) (o := .cells #[.int .i64 t506, .int .i64 t507] 29 (0, 0)) (by (with_reducible repeat (first | refine yN ?_ _ | refine yD ?_ | refine yA ?_ _)); refine blk_put (cs := #[.int .i64 t506, .int .i64 0]) ?_ 1 _ rfl; (with_reducible repeat (first | refine yN ?_ _ | refine yD ?_ | refine yA ?_ _)); refine blk_put (cs := #[.int .i64 0, .int .i64 0]) ?_ 0 _ rfl; (with_reducible repeat (first | refine yN ?_ _ | refine yD ?_ | refine yA ?_ _)); exact BK509.out) hb); have n4_ := yM (below_step (by repeat (first | (with_reducible first | exact HB.out | apply below_alloc | apply yP | apply below_drew1 | refine yS ?_ GE500.out | refine yS ?_ GE501.out | refine yS ?_ GE509.out) | exact HB.out)) hb); clear HO_501002; clear BK500; clear BK501; clear BK509; clear HB; have HO_501002 := n0_; have BK500 := n1_; have BK501 := n2_; have BK509 := n3_; have HB := n4_; clear n0_ n1_ n2_ n3_ n4_; (try clear hb); (try clear hb2); (try clear hk); (try clear hi)) | ((with_reducible refine gate_dst (N := 10) rfl ?_); (try (refine gate_guard (by rfl) ?_; dsimp only)); refine box_event ?hg (N := 10) ?hd (cs := #[.int .i64 0, .int .i64 0]) (t := 29) ?hr ?_; (case hd => rfl); (case hg => rfl); (case hr => first | (go_simp; done) | (go_simp; rfl)); intro gb513 hg w137 hbox hb; have n0_ := yM (Kd.R_below (Kd.R_elderB (by (with_reducible repeat (first | apply Kd.R_alloc | apply Kd.R_drewN | apply Kd.R_drew)); exact HO_501002.out) gb513 (Nat.le_of_eq hg.symm)) hb); have n1_ := yM (blk_below (g := gb500) (o := .cells #[.int .i64 t493, .int .i64 t494, .slice Ao14 t495.length co14] 32 (0, 0)) (by (with_reducible repeat (first | refine yN ?_ _ | refine yD ?_ | refine yA ?_ _)); exact BK500.out) hb); have n2_ := yM (blk_below (g := gb501) (o := .cells #[.int .i64 t498, .int .i64 t499] 29 (0, 0)) (by (with_reducible repeat (first | refine yN ?_ _ | refine yD ?_ | refine yA ?_ _)); exact BK501.out) hb); have n3_ := yM (blk_below (g := gb509) (o := .cells #[.int .i64 t506, .int .i64 t507] 29 (0, 0)) (by (with_reducible repeat (first | refine yN ?_ _ | refine yD ?_ | refine yA ?_ _)); exact BK509.out) hb); have n4_ := yM (below_step (by repeat (first | (with_reducible first | exact HB.out | apply below_alloc | apply yP | apply below_drew1 | refine yS ?_ GE500.out | refine yS ?_ GE501.out | refine yS ?_ GE509.out) | exact HB.out)) hb); have n5_ := yM (hbox); have n6_ := yM ((by rw [hg]; exact (below_size (by repeat (first | (with_reducible first | exact HB.out | apply below_alloc | apply yP | apply below_drew1 | refine yS ?_ GE500.out | refine yS ?_ GE501.out | refine yS ?_ GE509.out) | exact HB.out))) : w.heap.size ≤ gb513)); have n7_ := yM ((by rw [hg]; exact (below_size (by repeat (first | (with_reducible first | exact HB.out | apply below_alloc | apply yP | apply below_drew1 | refine yS ?_ GE500.out | refine yS ?_ GE501.out | refine yS ?_ GE509.out) | exact HB.out))) : w.heap.size ≤ gb513)); have n8_ := yM ((by rw [hg]; exact Nat.ne_of_lt (blk_lt (g := gb500) (o := .cells #[.int .i64 t493, .int .i64 t494, .slice Ao14 t495.length co14] 32 (0, 0)) (by (with_reducible repeat (first | refine yN ?_ _ | refine yD ?_ | refine yA ?_ _)); exact BK500.out)) : gb500 ≠ gb513)); have n9_ := yM ((by rw [hg]; exact Nat.ne_of_gt (blk_lt (g := gb500) (o := .cells #[.int .i64 t493, .int .i64 t494, .slice Ao14 t495.length co14] 32 (0, 0)) (by (with_reducible repeat (first | refine yN ?_ _ | refine yD ?_ | refine yA ?_ _)); exact BK500.out)) : gb513 ≠ gb500)); have n10_ := yM ((by rw [hg]; exact Nat.ne_of_lt (blk_lt (g := gb501) (o := .cells #[.int .i64 t498, .int .i64 t499] 29 (0, 0)) (by (with_reducible repeat (first | refine yN ?_ _ | refine yD ?_ | refine yA ?_ _)); exact BK501.out)) : gb501 ≠ gb513)); have n11_ := yM ((by rw [hg]; exact Nat.ne_of_gt (blk_lt (g := gb501) (o := .cells #[.int .i64 t498, .int .i64 t499] 29 (0, 0)) (by (with_reducible repeat (first | refine yN ?_ _ | refine yD ?_ | refine yA ?_ _)); exact BK501.out)) : gb513 ≠ gb501)); have n12_ := yM ((by rw [hg]; exact Nat.ne_of_lt (blk_lt (g := gb509) (o := .cells #[.int .i64 t506, .int .i64 t507] 29 (0, 0)) (by (with_reducible repeat (first | refine yN ?_ _ | refine yD ?_ | refine yA ?_ _)); exact BK509.out)) : gb509 ≠ gb513)); have n13_ := yM ((by rw [hg]; exact Nat.ne_of_gt (blk_lt (g := gb509) (o := .cells #[.int .i64 t506, .int .i64 t507] 29 (0, 0)) (by (with_reducible repeat (first | refine yN ?_ _ | refine yD ?_ | refine yA ?_ _)); exact BK509.out)) : gb513 ≠ gb509)); clear HO_501002; clear BK500; clear BK501; clear BK509; clear HB; have HO_501002 := n0_; have BK500 := n1_; have BK501 := n2_; have BK509 := n3_; have HB := n4_; have BK513 := n5_; have GW513 := n6_; have GE513 := n7_; have NB500_513 := n8_; have NB513_500 := n9_; have NB501_513 := n10_; have NB513_501 := n11_; have NB509_513 := n12_; have NB513_509 := n13_; clear n0_ n1_ n2_ n3_ n4_ n5_ n6_ n7_ n8_ n9_ n10_ n11_ n12_ n13_; clear hb hbox hg; have hnb138 := NB513_500.out; have hnc138 := NB500_513.out; have hnb139 := NB513_501.out; have hnc139 := NB501_513.out; have hnb140 := NB513_509.out; have hnc140 := NB509_513.out; have hcz141_0 : w137.cell? ⟨gb513, 0, none⟩ = some (.int .i64 0) := (blk_cell BK513.out 0).trans rfl; have hcz141_1 : w137.cell? ⟨gb513, 1, none⟩ = some (.int .i64 0) := (blk_cell BK513.out 1).trans rfl; have hfz141_0 := blk_frozen BK513.out 0; have hfz141_1 := blk_frozen BK513.out 1; have hcz142_0 : w137.cell? ⟨gb509, 0, none⟩ = some (.int .i64 t506) := (blk_cell BK509.out 0).trans rfl; have hcz142_1 : w137.cell? ⟨gb509, 1, none⟩ = some (.int .i64 t507) := (blk_cell BK509.out 1).trans rfl; have hfz142_0 := blk_frozen BK509.out 0; have hfz142_1 := blk_frozen BK509.out 1) | ((with_reducible refine gate_callee (f := 24) rfl ?_); refine goesL_ (some 65) rfl rfl Try.func24 (by kernel_rfl) rfl #[.agg #[.int .i64 t510, .int .i64 t511], .agg #[.int .i64 t506, .int .i64 t507]] rfl (by (try simp only [List.map_toArray, List.map_cons, List.map_nil]); first | done | rfl | (simp only [List.length_drop, List.length_take]; rfl)) ?_; (with_reducible refine (impl_FracSum.calls kj7 t510 t511 t506 t507 t514 t515 t516 _ A38.out).mono ?_); rintro e w143 ⟨rfl, hb⟩; refine ⟨_, rfl, ?_⟩; have n0_ := yM (Kd.R_below (by (with_reducible repeat (first | apply Kd.R_alloc | apply Kd.R_drewN | apply Kd.R_drew)); exact (Kd.R_mono (Kd.R_far (p := ⟨gb513, 1, none⟩) (Kd.R_far (p := ⟨gb513, 0, none⟩) (Kd.R_mono HO_501002.out (fun k_ hk => (⟨hk, hk.2⟩ : _ ∧ k_ ≠ gb513))) (fun _ hk => hk.2) (.int .i64 t510)) (fun _ hk => hk.2) (.int .i64 t511)) (fun _ h_ => h_.1))) hb); have n1_ := yM (blk_below (g := gb500) (o := .cells #[.int .i64 t493, .int .i64 t494, .slice Ao14 t495.length co14] 32 (0, 0)) (by (with_reducible repeat (first | refine yN ?_ _ | refine yD ?_ | refine yA ?_ _)); refine blk_far ?_ NB500_513.out _; (with_reducible repeat (first | refine yN ?_ _ | refine yD ?_ | refine yA ?_ _)); refine blk_far ?_ NB500_513.out _; (with_reducible repeat (first | refine yN ?_ _ | refine yD ?_ | refine yA ?_ _)); exact BK500.out) hb); have n2_ := yM (blk_below (g := gb501) (o := .cells #[.int .i64 t498, .int .i64 t499] 29 (0, 0)) (by (with_reducible repeat (first | refine yN ?_ _ | refine yD ?_ | refine yA ?_ _)); refine blk_far ?_ NB501_513.out _; (with_reducible repeat (first | refine yN ?_ _ | refine yD ?_ | refine yA ?_ _)); refine blk_far ?_ NB501_513.out _; (with_reducible repeat (first | refine yN ?_ _ | refine yD ?_ | refine yA ?_ _)); exact BK501.out) hb); have n3_ := yM (blk_below (g := gb509) (o := .cells #[.int .i64 t506, .int .i64 t507] 29 (0, 0)) (by (with_reducible repeat (first | refine yN ?_ _ | refine yD ?_ | refine yA ?_ _)); refine blk_far ?_ NB509_513.out _; (with_reducible repeat (first | refine yN ?_ _ | refine yD ?_ | refine yA ?_ _)); refine blk_far ?_ NB509_513.out _; (with_reducible repeat (first | refine yN ?_ _ | refine yD ?_ | refine yA ?_ _)); exact BK509.out) hb); have n4_ := yM (blk_below (g := gb513) (o := .cells #[.int .i64 t510, .int .i64 t511] 29 (0, 0)) (by (with_reducible repeat (first | refine yN ?_ _ | refine yD ?_ | refine yA ?_ _)); refine blk_put (cs := #[.int .i64 t510, .int .i64 0]) ?_ 1 _ rfl; (with_reducible repeat (first | refine yN ?_ _ | refine yD ?_ | refine yA ?_ _)); refine blk_put (cs := #[.int .i64 0, .int .i64 0]) ?_ 0 _ rfl; (with_reducible repeat (first | refine yN ?_ _ | refine yD ?_ | refine yA ?_ _)); exact BK513.out) hb); have n5_ := yM (below_step (by repeat (first | (with_reducible first | exact HB.out | apply below_alloc | apply yP | apply below_drew1 | refine yS ?_ GE500.out | refine yS ?_ GE501.out | refine yS ?_ GE509.out | refine yS ?_ GE513.out) | exact HB.out)) hb); clear HO_501002; clear BK500; clear BK501; clear BK509; clear BK513; clear HB; have HO_501002 := n0_; have BK500 := n1_; have BK501 := n2_; have BK509 := n3_; have BK513 := n4_; have HB := n5_; clear n0_ n1_ n2_ n3_ n4_ n5_; (try clear hb); (try clear hb2); (try clear hk); (try clear hi)) | ((with_reducible refine gate_dst (N := 12) rfl ?_); (try (refine gate_guard (by rfl) ?_; dsimp only)); refine box_event ?hg (N := 12) ?hd (cs := #[.int .i64 0, .int .i64 0]) (t := 29) ?hr ?_; (case hd => rfl); (case hg => rfl); (case hr => first | (go_simp; done) | (go_simp; rfl)); intro gb517 hg w144 hbox hb; have n0_ := yM (Kd.R_below (Kd.R_elderB (by (with_reducible repeat (first | apply Kd.R_alloc | apply Kd.R_drewN | apply Kd.R_drew)); exact HO_501002.out) gb517 (Nat.le_of_eq hg.symm)) hb); have n1_ := yM (blk_below (g := gb500) (o := .cells #[.int .i64 t493, .int .i64 t494, .slice Ao14 t495.length co14] 32 (0, 0)) (by (with_reducible repeat (first | refine yN ?_ _ | refine yD ?_ | refine yA ?_ _)); exact BK500.out) hb); have n2_ := yM (blk_below (g := gb501) (o := .cells #[.int .i64 t498, .int .i64 t499] 29 (0, 0)) (by (with_reducible repeat (first | refine yN ?_ _ | refine yD ?_ | refine yA ?_ _)); exact BK501.out) hb); have n3_ := yM (blk_below (g := gb509) (o := .cells #[.int .i64 t506, .int .i64 t507] 29 (0, 0)) (by (with_reducible repeat (first | refine yN ?_ _ | refine yD ?_ | refine yA ?_ _)); exact BK509.out) hb); have n4_ := yM (blk_below (g := gb513) (o := .cells #[.int .i64 t510, .int .i64 t511] 29 (0, 0)) (by (with_reducible repeat (first | refine yN ?_ _ | refine yD ?_ | refine yA ?_ _)); exact BK513.out) hb); have n5_ := yM (below_step (by repeat (first | (with_reducible first | exact HB.out | apply below_alloc | apply yP | apply below_drew1 | refine yS ?_ GE500.out | refine yS ?_ GE501.out | refine yS ?_ GE509.out | refine yS ?_ GE513.out) | exact HB.out)) hb); have n6_ := yM (hbox); have n7_ := yM ((by rw [hg]; exact (below_size (by repeat (first | (with_reducible first | exact HB.out | apply below_alloc | apply yP | apply below_drew1 | refine yS ?_ GE500.out | refine yS ?_ GE501.out | refine yS ?_ GE509.out | refine yS ?_ GE513.out) | exact HB.out))) : w.heap.size ≤ gb517)); have n8_ := yM ((by rw [hg]; exact (below_size (by repeat (first | (with_reducible first | exact HB.out | apply below_alloc | apply yP | apply below_drew1 | refine yS ?_ GE500.out | refine yS ?_ GE501.out | refine yS ?_ GE509.out | refine yS ?_ GE513.out) | exact HB.out))) : w.heap.size ≤ gb517)); have n9_ := yM ((by rw [hg]; exact Nat.ne_of_lt (blk_lt (g := gb500) (o := .cells #[.int .i64 t493, .int .i64 t494, .slice Ao14 t495.length co14] 32 (0, 0)) (by (with_reducible repeat (first | refine yN ?_ _ | refine yD ?_ | refine yA ?_ _)); exact BK500.out)) : gb500 ≠ gb517)); have n10_ := yM ((by rw [hg]; exact Nat.ne_of_gt (blk_lt (g := gb500) (o := .cells #[.int .i64 t493, .int .i64 t494, .slice Ao14 t495.length co14] 32 (0, 0)) (by (with_reducible repeat (first | refine yN ?_ _ | refine yD ?_ | refine yA ?_ _)); exact BK500.out)) : gb517 ≠ gb500)); have n11_ := yM ((by rw [hg]; exact Nat.ne_of_lt (blk_lt (g := gb501) (o := .cells #[.int .i64 t498, .int .i64 t499] 29 (0, 0)) (by (with_reducible repeat (first | refine yN ?_ _ | refine yD ?_ | refine yA ?_ _)); exact BK501.out)) : gb501 ≠ gb517)); have n12_ := yM ((by rw [hg]; exact Nat.ne_of_gt (blk_lt (g := gb501) (o := .cells #[.int .i64 t498, .int .i64 t499] 29 (0, 0)) (by (with_reducible repeat (first | refine yN ?_ _ | refine yD ?_ | refine yA ?_ _)); exact BK501.out)) : gb517 ≠ gb501)); have n13_ := yM ((by rw [hg]; exact Nat.ne_of_lt (blk_lt (g := gb509) (o := .cells #[.int .i64 t506, .int .i64 t507] 29 (0, 0)) (by (with_reducible repeat (first | refine yN ?_ _ | refine yD ?_ | refine yA ?_ _)); exact BK509.out)) : gb509 ≠ gb517)); have n14_ := yM ((by rw [hg]; exact Nat.ne_of_gt (blk_lt (g := gb509) (o := .cells #[.int .i64 t506, .int .i64 t507] 29 (0, 0)) (by (with_reducible repeat (first | refine yN ?_ _ | refine yD ?_ | refine yA ?_ _)); exact BK509.out)) : gb517 ≠ gb509)); have n15_ := yM ((by rw [hg]; exact Nat.ne_of_lt (blk_lt (g := gb513) (o := .cells #[.int .i64 t510, .int .i64 t511] 29 (0, 0)) (by (with_reducible repeat (first | refine yN ?_ _ | refine yD ?_ | refine yA ?_ _)); exact BK513.out)) : gb513 ≠ gb517)); have n16_ := yM ((by rw [hg]; exact Nat.ne_of_gt (blk_lt (g := gb513) (o := .cells #[.int .i64 t510, .int .i64 t511] 29 (0, 0)) (by (with_reducible repeat (first | refine yN ?_ _ | refine yD ?_ | refine yA ?_ _)); exact BK513.out)) : gb517 ≠ gb513)); clear HO_501002; clear BK500; clear BK501; clear BK509; clear BK513; clear HB; have HO_501002 := n0_; have BK500 := n1_; have BK501 := n2_; have BK509 := n3_; have BK513 := n4_; have HB := n5_; have BK517 := n6_; have GW517 := n7_; have GE517 := n8_; have NB500_517 := n9_; have NB517_500 := n10_; have NB501_517 := n11_; have NB517_501 := n12_; have NB509_517 := n13_; have NB517_509 := n14_; have NB513_517 := n15_; have NB517_513 := n16_; clear n0_ n1_ n2_ n3_ n4_ n5_ n6_ n7_ n8_ n9_ n10_ n11_ n12_ n13_ n14_ n15_ n16_; clear hb hbox hg; have hnb145 := NB517_500.out; have hnc145 := NB500_517.out; have hnb146 := NB517_501.out; have hnc146 := NB501_517.out; have hnb147 := NB517_509.out; have hnc147 := NB509_517.out; have hnb148 := NB517_513.out; have hnc148 := NB513_517.out; have hcz149_0 : w144.cell? ⟨gb517, 0, none⟩ = some (.int .i64 0) := (blk_cell BK517.out 0).trans rfl; have hcz149_1 : w144.cell? ⟨gb517, 1, none⟩ = some (.int .i64 0) := (blk_cell BK517.out 1).trans rfl; have hfz149_0 := blk_frozen BK517.out 0; have hfz149_1 := blk_frozen BK517.out 1))
         have n0_ : Aside0 (Kd.R k29 29 ((w144.setCell ⟨gb517, 0, none⟩ (.int .i64 t514)).setCell ⟨gb517, 1, none⟩ (.int .i64 t515)) w.heap.size (fun k_ => k_ ≠ gb501 ∧ k_ ≠ gb509 ∧ k_ ≠ gb513 ∧ k_ ≠ gb517) (.slice Ao14 t495.length co14) t495) := ⟨by (with_reducible repeat (first | apply Kd.R_alloc | apply Kd.R_drewN | apply Kd.R_drew)); exact Kd.R_mono (Kd.R_far (p := ⟨gb517, 1, none⟩) (Kd.R_far (p := ⟨gb517, 0, none⟩) (Kd.R_mono HO_501002.out (fun k_ hk => (⟨hk, hk.2⟩ : _ ∧ k_ ≠ gb517))) (fun _ hk => hk.2) (.int .i64 t514)) (fun _ hk => hk.2) (.int .i64 t515)) (fun _ hk => ⟨hk.1.1.1.1, ⟨hk.1.1.1.2, ⟨hk.1.1.2, hk.1.2⟩⟩⟩)⟩
         have n1_ : Aside0 (((w144.setCell ⟨gb517, 0, none⟩ (.int .i64 t514)).setCell ⟨gb517, 1, none⟩ (.int .i64 t515)).heap[gb500]? = some (.cells #[.int .i64 t493, .int .i64 t494, .slice Ao14 t495.length co14] 32 (0, 0))) := ⟨by (with_reducible repeat (first | refine yN ?_ _ | refine yD ?_ | refine yA ?_ _)); refine blk_far ?_ NB500_517.out _; (with_reducible repeat (first | refine yN ?_ _ | refine yD ?_ | refine yA ?_ _)); refine blk_far ?_ NB500_517.out _; (with_reducible repeat (first | refine yN ?_ _ | refine yD ?_ | refine yA ?_ _)); exact BK500.out⟩
         have n2_ : Aside0 (((w144.setCell ⟨gb517, 0, none⟩ (.int .i64 t514)).setCell ⟨gb517, 1, none⟩ (.int .i64 t515)).heap[gb501]? = some (.cells #[.int .i64 t498, .int .i64 t499] 29 (0, 0))) := ⟨by (with_reducible repeat (first | refine yN ?_ _ | refine yD ?_ | refine yA ?_ _)); refine blk_far ?_ NB501_517.out _; (with_reducible repeat (first | refine yN ?_ _ | refine yD ?_ | refine yA ?_ _)); refine blk_far ?_ NB501_517.out _; (with_reducible repeat (first | refine yN ?_ _ | refine yD ?_ | refine yA ?_ _)); exact BK501.out⟩
         have n3_ : Aside0 (((w144.setCell ⟨gb517, 0, none⟩ (.int .i64 t514)).setCell ⟨gb517, 1, none⟩ (.int .i64 t515)).heap[gb509]? = some (.cells #[.int .i64 t506, .int .i64 t507] 29 (0, 0))) := ⟨by (with_reducible repeat (first | refine yN ?_ _ | refine yD ?_ | refine yA ?_ _)); refine blk_far ?_ NB509_517.out _; (with_reducible repeat (first | refine yN ?_ _ | refine yD ?_ | refine yA ?_ _)); refine blk_far ?_ NB509_517.out _; (with_reducible repeat (first | refine yN ?_ _ | refine yD ?_ | refine yA ?_ _)); exact BK509.out⟩
         have n4_ : Aside0 (((w144.setCell ⟨gb517, 0, none⟩ (.int .i64 t514)).setCell ⟨gb517, 1, none⟩ (.int .i64 t515)).heap[gb513]? = some (.cells #[.int .i64 t510, .int .i64 t511] 29 (0, 0))) := ⟨by (with_reducible repeat (first | refine yN ?_ _ | refine yD ?_ | refine yA ?_ _)); refine blk_far ?_ NB513_517.out _; (with_reducible repeat (first | refine yN ?_ _ | refine yD ?_ | refine yA ?_ _)); refine blk_far ?_ NB513_517.out _; (with_reducible repeat (first | refine yN ?_ _ | refine yD ?_ | refine yA ?_ _)); exact BK513.out⟩
         have n5_ : Aside0 (((w144.setCell ⟨gb517, 0, none⟩ (.int .i64 t514)).setCell ⟨gb517, 1, none⟩ (.int .i64 t515)).heap[gb517]? = some (.cells #[.int .i64 t514, .int .i64 t515] 29 (0, 0))) := ⟨by (with_reducible repeat (first | refine yN ?_ _ | refine yD ?_ | refine yA ?_ _)); refine blk_put (cs := #[.int .i64 t514, .int .i64 0]) ?_ 1 _ rfl; (with_reducible repeat (first | refine yN ?_ _ | refine yD ?_ | refine yA ?_ _)); refine blk_put (cs := #[.int .i64 0, .int .i64 0]) ?_ 0 _ rfl; (with_reducible repeat (first | refine yN ?_ _ | refine yD ?_ | refine yA ?_ _)); exact BK517.out⟩
         have n6_ : Aside0 (Below w.heap.size w ((w144.setCell ⟨gb517, 0, none⟩ (.int .i64 t514)).setCell ⟨gb517, 1, none⟩ (.int .i64 t515))) := ⟨by repeat (first | (with_reducible first | exact HB.out | apply below_alloc | apply yP | apply below_drew1 | refine yS ?_ GE500.out | refine yS ?_ GE501.out | refine yS ?_ GE509.out | refine yS ?_ GE513.out | refine yS ?_ GE517.out) | exact HB.out)⟩
         (try clear HO_501002)
         (try clear BK500)
         (try clear BK501)
         (try clear BK509)
         (try clear BK513)
         (try clear BK517)
         (try clear HB)
         generalize ((w144.setCell ⟨gb517, 0, none⟩ (.int .i64 t514)).setCell ⟨gb517, 1, none⟩ (.int .i64 t515)) = w150 at n0_ n1_ n2_ n3_ n4_ n5_ n6_ ⊢
         have HO_501002 := n0_
         have BK500 := n1_
         have BK501 := n2_
         have BK509 := n3_
         have BK513 := n4_
         have BK517 := n5_
         have HB := n6_
         clear n0_ n1_ n2_ n3_ n4_ n5_ n6_
         have n0_ := yM (Kd.R_drew HO_501002.out)
         have n1_ := yM (yD BK500.out)
         have n2_ := yM (yD BK501.out)
         have n3_ := yM (yD BK509.out)
         have n4_ := yM (yD BK513.out)
         have n5_ := yM (yD BK517.out)
         have n6_ := yM (below_drew1 HB.out)
         clear HO_501002
         clear BK500
         clear BK501
         clear BK509
         clear BK513
         clear BK517
         clear HB
         have HO_501002 := n0_
         have BK500 := n1_
         have BK501 := n2_
         have BK509 := n3_
         have BK513 := n4_
         have BK517 := n5_
         have HB := n6_
         clear n0_ n1_ n2_ n3_ n4_ n5_ n6_
         refine start_ (n := 9) (S := fun w' => w'.cell? ⟨gb500, 0, none⟩ = some (.int .i64 t493) ∧ w'.cell? ⟨gb500, 1, none⟩ = some (.int .i64 t494) ∧ w'.cell? ⟨gb500, 2, none⟩ = some (.slice Ao14 t495.length co14)) (ds := []) #[false, false, false, false, false, false, false, false, false] (by kernel_rfl) rfl rfl ⟨(blk_cell BK500.out 0).trans rfl, (blk_cell BK500.out 1).trans rfl, (blk_cell BK500.out 2).trans rfl⟩ (fun hHeld => ?_); refine with_tabW laws_FnLedgerCan.tab12 laws_FnLedgerCan.bits12 (fun HT_ HW_ => ?_)
         generalize w150.drew = w151 at HO_501002 BK500 BK501 BK509 BK513 BK517 HB hHeld ⊢
         refine pure_ (i := 1) (N := some 88) (v := ?_) (a' := ?_) #[false, true, false, false, false, false, false, false, false] rfl rfl (any_of HT_.out (by kernel_rfl)) (fun _ _ _ h => h) (Or.inl ⟨by rfl, ?_⟩) ?_ ?_
         rotate_left
         ·intro w'
          go_simp
          with_reducible rfl
         rotate_left
         ·simp only [Act.put, setIfInBounds_toArray, set_cons_zero, set_cons_succ, i64_w, i32_w]
          rfl
         refine pure_ (i := 3) (N := some 90) (v := ?_) (a' := ?_) #[false, true, false, true, false, false, false, false, false] rfl rfl (any_of HT_.out (by kernel_rfl)) (fun _ _ _ h => h) (Or.inl ⟨by rfl, ?_⟩) ?_ ?_
         rotate_left
         ·intro w'
          go_simp
          with_reducible rfl
         rotate_left
         ·simp only [Act.put, setIfInBounds_toArray, set_cons_zero, set_cons_succ, i64_w, i32_w]
          rfl
         refine take_ (i := 0) (N := some 87) (v := ?_) (a' := ?_) #[true, true, false, true, false, false, false, false, false] rfl rfl (take_ofW HT_.out HW_.out (by kernel_rfl)) (fun _ _ _ h => h) (Or.inl ⟨by rfl, ?_⟩) hHeld ?_ ?_
         rotate_left
         ·rintro w' ⟨s0, s1, s2⟩
          go_simp
          with_reducible rfl
         rotate_left
         ·simp only [Act.put, setIfInBounds_toArray, set_cons_zero, set_cons_succ, i64_w, i32_w]
          rfl
         refine take_ (i := 4) (N := some 91) (v := ?_) (a' := ?_) #[true, true, false, true, true, false, false, false, false] rfl rfl (take_ofW HT_.out HW_.out (by kernel_rfl)) (fun _ _ _ h => h) (Or.inl ⟨by rfl, ?_⟩) hHeld ?_ ?_
         rotate_left
         ·rintro w' ⟨s0, s1, s2⟩
          go_simp
          with_reducible rfl
         rotate_left
         ·simp only [Act.put, setIfInBounds_toArray, set_cons_zero, set_cons_succ, i64_w, i32_w]
          rfl
         refine pure_ (i := 5) (N := some 92) (v := ?_) (a' := ?_) #[true, true, false, true, true, true, false, false, false] rfl rfl (any_of HT_.out (by kernel_rfl)) (fun _ _ _ h => h) (Or.inl ⟨by rfl, ?_⟩) ?_ ?_
         rotate_left
         ·intro w'
          go_simp
          with_reducible rfl
         rotate_left
         ·simp only [Act.put, setIfInBounds_toArray, set_cons_zero, set_cons_succ, i64_w, i32_w]
          rfl
         refine pure_ (i := 6) (N := some 93) (v := ?_) (a' := ?_) #[true, true, false, true, true, true, true, false, false] rfl rfl (any_of HT_.out (by kernel_rfl)) (fun _ _ _ h => h) (Or.inl ⟨by rfl, ?_⟩) ?_ ?_
         rotate_left
         ·intro w'
          go_simp
          with_reducible rfl
         rotate_left
         ·simp only [Act.put, setIfInBounds_toArray, set_cons_zero, set_cons_succ, i64_w, i32_w]
          rfl
         refine one_ (i := 2) (N := some 89) #[true, true, true, true, true, true, true, false, false] rfl rfl (one_of HT_.out (by kernel_rfl)) (by decide) (fun K hK => ?_)
         refine goes_ Try.func33 (by kernel_rfl) rfl #[.agg #[.int .i64 t493, .int .i64 t494, .slice Ao14 t495.length co14], .agg #[.int .i64 0, .int .i64 1]] (by rfl) rfl rfl (by (try simp only [List.map_toArray, List.map_cons, List.map_nil]); first | done | rfl | (simp only [List.length_drop, List.length_take]; rfl)) ?_
         with_reducible refine (impl_LedgerCan.calls kj7 t493 t494 _ _ t495 0 1 t523 _ ?side1 ?side2 A128.out).mono ?_
         (case side1 => repeat (first | exact (Kd.R_reads' HO_501002.out).2.2 | (with_reducible refine Kd.C_alloc ?_ _) | (with_reducible refine Kd.C_drewN ?_ _) | (with_reducible refine Kd.C_drew ?_)))
         (case side2 => exact (Kd.R_reads' HO_501002.out).2.1)
         rintro e w152 ⟨rfl, hb⟩
         refine ⟨_, rfl, ?_⟩
         have n0_ := yM (Kd.R_below (by (with_reducible repeat (first | apply Kd.R_alloc | apply Kd.R_drewN | apply Kd.R_drew)); exact HO_501002.out) hb)
         have n1_ := yM (blk_below (g := gb500) (o := .cells #[.int .i64 t493, .int .i64 t494, .slice Ao14 t495.length co14] 32 (0, 0)) (by (with_reducible repeat (first | refine yN ?_ _ | refine yD ?_ | refine yA ?_ _)); exact BK500.out) hb)
         have n2_ := yM (blk_below (g := gb501) (o := .cells #[.int .i64 t498, .int .i64 t499] 29 (0, 0)) (by (with_reducible repeat (first | refine yN ?_ _ | refine yD ?_ | refine yA ?_ _)); exact BK501.out) hb)
         have n3_ := yM (blk_below (g := gb509) (o := .cells #[.int .i64 t506, .int .i64 t507] 29 (0, 0)) (by (with_reducible repeat (first | refine yN ?_ _ | refine yD ?_ | refine yA ?_ _)); exact BK509.out) hb)
         have n4_ := yM (blk_below (g := gb513) (o := .cells #[.int .i64 t510, .int .i64 t511] 29 (0, 0)) (by (with_reducible repeat (first | refine yN ?_ _ | refine yD ?_ | refine yA ?_ _)); exact BK513.out) hb)
         have n5_ := yM (blk_below (g := gb517) (o := .cells #[.int .i64 t514, .int .i64 t515] 29 (0, 0)) (by (with_reducible repeat (first | refine yN ?_ _ | refine yD ?_ | refine yA ?_ _)); exact BK517.out) hb)
         have n6_ := yM (below_step (by repeat (first | (with_reducible first | exact HB.out | apply below_alloc | apply yP | apply below_drew1 | refine yS ?_ GE500.out | refine yS ?_ GE501.out | refine yS ?_ GE509.out | refine yS ?_ GE513.out | refine yS ?_ GE517.out) | exact HB.out)) hb)
         clear HO_501002
         clear BK500
         clear BK501
         clear BK509
         clear BK513
         clear BK517
         clear HB
         have HO_501002 := n0_
         have BK500 := n1_
         have BK501 := n2_
         have BK509 := n3_
         have BK513 := n4_
         have BK517 := n5_
         have HB := n6_
         clear n0_ n1_ n2_ n3_ n4_ n5_ n6_
         (try clear hb)
         (try clear hb2)
         (try clear hk)
         (try clear hi)
         refine hK.out _ _ ⟨(blk_cell BK500.out 0).trans rfl, (blk_cell BK500.out 1).trans rfl, (blk_cell BK500.out 2).trans rfl⟩ (fun hHeld => ?_)
         clear hK K
         refine norm_ (a' := ?_) ?_ ?_
         rotate_left
         ·show Act.put _ (some 89) _ = _
          simp only [Act.put, setIfInBounds_toArray, set_cons_zero, set_cons_succ, i64_w, i32_w]
          rfl
         refine pure_ (i := 7) (N := some 94) (v := ?_) (a' := ?_) #[true, true, true, true, true, true, true, true, false] rfl rfl (any_of HT_.out (by kernel_rfl)) (fun _ _ _ h => h) (Or.inl ⟨by rfl, ?_⟩) ?_ ?_
         rotate_left
         ·intro w'
          go_simp
          with_reducible rfl
         rotate_left
         ·simp only [Act.put, setIfInBounds_toArray, set_cons_zero, set_cons_succ, i64_w, i32_w]
          rfl
         refine pure_ (i := 8) (N := some 4) (v := ?_) (a' := ?_) #[true, true, true, true, true, true, true, true, true] rfl rfl (any_of HT_.out (by kernel_rfl)) (fun _ _ _ h => h) (Or.inl ⟨by rfl, ?_⟩) ?_ ?_
         rotate_left
         ·intro w'
          go_simp
          with_reducible rfl
         rotate_left
         ·simp only [Act.put, setIfInBounds_toArray, set_cons_zero, set_cons_succ, i64_w, i32_w]
          rfl
         refine done_ (done_of HT_.out (by kernel_rfl)) ?_
         try go_wp2
         go_ret
         exact ⟨by first | rfl | (simp [errW_none, errW_some] <;> rfl) | (simp [*, errW_none, errW_some] <;> rfl), by repeat (first | (with_reducible first | exact HB.out | apply below_alloc | apply yP | apply below_drew1 | refine yS ?_ GE500.out | refine yS ?_ GE501.out | refine yS ?_ GE509.out | refine yS ?_ GE513.out | refine yS ?_ GE517.out) | exact HB.out)⟩
       ·replace c39 := Bool.eq_false_iff.mpr c39
        subst c39
        have H1 : ((impl_LedgerCan.f kj7 t493 t494 t495 0 1).bind fun t524 => (some (t524 == (decide ((t495.length : Int) < 8))))) = some r := by rw [if_neg (show ¬ (false = true) by decide)] at H; exact H
        clear H
        have H := H1
        clear H1
        replace H := Option.bind_eq_some_iff.mp H
        obtain ⟨t524, A1530, H⟩ := H
        replace H : (some (t524 == (decide ((t495.length : Int) < 8)))) = some r := H
        have A153 := Aside0.mk A1530
        clear A1530
        obtain rfl := Option.some.inj H
        try go_wp2_with (first | ((with_reducible refine gate_callee (f := 35) rfl ?_); refine goesL_ (some 54) rfl rfl Try.func35 (by kernel_rfl) rfl #[.int .i64 (1 + ((l1.length : Int) % 5)), .int .i64 (1 + ((l1.length : Int) % 7))] rfl (by (try simp only [List.map_toArray, List.map_cons, List.map_nil]); first | done | rfl | (simp only [List.length_drop, List.length_take]; rfl)) ?_; (with_reducible refine (impl_FracOf.calls kj7 (1 + ((l1.length : Int) % 5)) (1 + ((l1.length : Int) % 7)) t506 t507 t508 _ A36.out).mono ?_); rintro e w154 ⟨rfl, hb⟩; refine ⟨_, rfl, ?_⟩; have n0_ := yM (Kd.R_below (by (with_reducible repeat (first | apply Kd.R_alloc | apply Kd.R_drewN | apply Kd.R_drew)); exact HO_501002.out) hb); have n1_ := yM (blk_below (g := gb500) (o := .cells #[.int .i64 t493, .int .i64 t494, .slice Ao14 t495.length co14] 32 (0, 0)) (by (with_reducible repeat (first | refine yN ?_ _ | refine yD ?_ | refine yA ?_ _)); exact BK500.out) hb); have n2_ := yM (blk_below (g := gb501) (o := .cells #[.int .i64 t498, .int .i64 t499] 29 (0, 0)) (by (with_reducible repeat (first | refine yN ?_ _ | refine yD ?_ | refine yA ?_ _)); exact BK501.out) hb); have n3_ := yM (below_step (by repeat (first | (with_reducible first | exact HB.out | apply below_alloc | apply yP | apply below_drew1 | refine yS ?_ GE500.out | refine yS ?_ GE501.out) | exact HB.out)) hb); clear HO_501002; clear BK500; clear BK501; clear HB; have HO_501002 := n0_; have BK500 := n1_; have BK501 := n2_; have HB := n3_; clear n0_ n1_ n2_ n3_; (try clear hb); (try clear hb2); (try clear hk); (try clear hi)) | ((with_reducible refine gate_dst (N := 8) rfl ?_); (try (refine gate_guard (by rfl) ?_; dsimp only)); refine box_event ?hg (N := 8) ?hd (cs := #[.int .i64 0, .int .i64 0]) (t := 29) ?hr ?_; (case hd => rfl); (case hg => rfl); (case hr => first | (go_simp; done) | (go_simp; rfl)); intro gb509 hg w155 hbox hb; have n0_ := yM (Kd.R_below (Kd.R_elderB (by (with_reducible repeat (first | apply Kd.R_alloc | apply Kd.R_drewN | apply Kd.R_drew)); exact HO_501002.out) gb509 (Nat.le_of_eq hg.symm)) hb); have n1_ := yM (blk_below (g := gb500) (o := .cells #[.int .i64 t493, .int .i64 t494, .slice Ao14 t495.length co14] 32 (0, 0)) (by (with_reducible repeat (first | refine yN ?_ _ | refine yD ?_ | refine yA ?_ _)); exact BK500.out) hb); have n2_ := yM (blk_below (g := gb501) (o := .cells #[.int .i64 t498, .int .i64 t499] 29 (0, 0)) (by (with_reducible repeat (first | refine yN ?_ _ | refine yD ?_ | refine yA ?_ _)); exact BK501.out) hb); have n3_ := yM (below_step (by repeat (first | (with_reducible first | exact HB.out | apply below_alloc | apply yP | apply below_drew1 | refine yS ?_ GE500.out | refine yS ?_ GE501.out) | exact HB.out)) hb); have n4_ := yM (hbox); have n5_ := yM ((by rw [hg]; exact (below_size (by repeat (first | (with_reducible first | exact HB.out | apply below_alloc | apply yP | apply below_drew1 | refine yS ?_ GE500.out | refine yS ?_ GE501.out) | exact HB.out))) : w.heap.size ≤ gb509)); have n6_ := yM ((by rw [hg]; exact (below_size (by repeat (first | (with_reducible first | exact HB.out | apply below_alloc | apply yP | apply below_drew1 | refine yS ?_ GE500.out | refine yS ?_ GE501.out) | exact HB.out))) : w.heap.size ≤ gb509)); have n7_ := yM ((by rw [hg]; exact Nat.ne_of_lt (blk_lt (g := gb500) (o := .cells #[.int .i64 t493, .int .i64 t494, .slice Ao14 t495.length co14] 32 (0, 0)) (by (with_reducible repeat (first | refine yN ?_ _ | refine yD ?_ | refine yA ?_ _)); exact BK500.out)) : gb500 ≠ gb509)); have n8_ := yM ((by rw [hg]; exact Nat.ne_of_gt (blk_lt (g := gb500) (o := .cells #[.int .i64 t493, .int .i64 t494, .slice Ao14 t495.length co14] 32 (0, 0)) (by (with_reducible repeat (first | refine yN ?_ _ | refine yD ?_ | refine yA ?_ _)); exact BK500.out)) : gb509 ≠ gb500)); have n9_ := yM ((by rw [hg]; exact Nat.ne_of_lt (blk_lt (g := gb501) (o := .cells #[.int .i64 t498, .int .i64 t499] 29 (0, 0)) (by (with_reducible repeat (first | refine yN ?_ _ | refine yD ?_ | refine yA ?_ _)); exact BK501.out)) : gb501 ≠ gb509)); have n10_ := yM ((by rw [hg]; exact Nat.ne_of_gt (blk_lt (g := gb501) (o := .cells #[.int .i64 t498, .int .i64 t499] 29 (0, 0)) (by (with_reducible repeat (first | refine yN ?_ _ | refine yD ?_ | refine yA ?_ _)); exact BK501.out)) : gb509 ≠ gb501)); clear HO_501002; clear BK500; clear BK501; clear HB; have HO_501002 := n0_; have BK500 := n1_; have BK501 := n2_; have HB := n3_; have BK509 := n4_; have GW509 := n5_; have GE509 := n6_; have NB500_509 := n7_; have NB509_500 := n8_; have NB501_509 := n9_; have NB509_501 := n10_; clear n0_ n1_ n2_ n3_ n4_ n5_ n6_ n7_ n8_ n9_ n10_; clear hb hbox hg; have hnb156 := NB509_500.out; have hnc156 := NB500_509.out; have hnb157 := NB509_501.out; have hnc157 := NB501_509.out; have hcz158_0 : w155.cell? ⟨gb509, 0, none⟩ = some (.int .i64 0) := (blk_cell BK509.out 0).trans rfl; have hcz158_1 : w155.cell? ⟨gb509, 1, none⟩ = some (.int .i64 0) := (blk_cell BK509.out 1).trans rfl; have hfz158_0 := blk_frozen BK509.out 0; have hfz158_1 := blk_frozen BK509.out 1; have hnb159 := NB500_501.out; have hnc159 := NB501_500.out; have hcz160_0 : w155.cell? ⟨gb500, 0, none⟩ = some (.int .i64 t493) := (blk_cell BK500.out 0).trans rfl; have hcz160_1 : w155.cell? ⟨gb500, 1, none⟩ = some (.int .i64 t494) := (blk_cell BK500.out 1).trans rfl; have hcz160_2 : w155.cell? ⟨gb500, 2, none⟩ = some (.slice Ao14 t495.length co14) := (blk_cell BK500.out 2).trans rfl; have hfz160_0 := blk_frozen BK500.out 0; have hfz160_1 := blk_frozen BK500.out 1; have hfz160_2 := blk_frozen BK500.out 2) | ((with_reducible refine gate_callee (f := 20) rfl ?_); refine goesL_ (some 59) rfl rfl Try.func20 (by kernel_rfl) rfl #[.agg #[.int .i64 t493, .int .i64 t494, .slice Ao14 t495.length co14]] rfl (by (try simp only [List.map_toArray, List.map_cons, List.map_nil]); first | done | rfl | (simp only [List.length_drop, List.length_take]; rfl)) ?_; (with_reducible refine (impl_LedgerSum.calls kj7 t493 t494 _ _ t495 t510 t511 t512 _ ?side1 ?side2 A37.out).mono ?_); (case side1 => refine (Kd.R_reads' (e := 29) (base := w.heap.size) (ok := fun k_ => (k_ ≠ gb501 ∧ k_ ≠ gb509)) (n := t495.length) (c := co14) ?_).2.2; exact (by (with_reducible repeat (first | apply Kd.R_alloc | apply Kd.R_drewN | apply Kd.R_drew)); exact (Kd.R_mono (Kd.R_far (p := ⟨gb509, 1, none⟩) (Kd.R_far (p := ⟨gb509, 0, none⟩) (Kd.R_mono HO_501002.out (fun k_ hk => (⟨hk, hk.2⟩ : _ ∧ k_ ≠ gb509))) (fun _ hk => hk.2) (.int .i64 t506)) (fun _ hk => hk.2) (.int .i64 t507)) (fun _ h_ => h_.1)))); (case side2 => exact (Kd.R_reads' HO_501002.out).2.1); rintro e w161 ⟨rfl, hb⟩; refine ⟨_, rfl, ?_⟩; have n0_ := yM (Kd.R_below (by (with_reducible repeat (first | apply Kd.R_alloc | apply Kd.R_drewN | apply Kd.R_drew)); exact (Kd.R_mono (Kd.R_far (p := ⟨gb509, 1, none⟩) (Kd.R_far (p := ⟨gb509, 0, none⟩) (Kd.R_mono HO_501002.out (fun k_ hk => (⟨hk, hk.2⟩ : _ ∧ k_ ≠ gb509))) (fun _ hk => hk.2) (.int .i64 t506)) (fun _ hk => hk.2) (.int .i64 t507)) (fun _ h_ => h_.1))) hb); have n1_ := yM (blk_below (g := gb500) (o := .cells #[.int .i64 t493, .int .i64 t494, .slice Ao14 t495.length co14] 32 (0, 0)) (by (with_reducible repeat (first | refine yN ?_ _ | refine yD ?_ | refine yA ?_ _)); refine blk_far ?_ NB500_509.out _; (with_reducible repeat (first | refine yN ?_ _ | refine yD ?_ | refine yA ?_ _)); refine blk_far ?_ NB500_509.out _; (with_reducible repeat (first | refine yN ?_ _ | refine yD ?_ | refine yA ?_ _)); exact BK500.out) hb); have n2_ := yM (blk_below (g := gb501) (o := .cells #[.int .i64 t498, .int .i64 t499] 29 (0, 0)) (by (with_reducible repeat (first | refine yN ?_ _ | refine yD ?_ | refine yA ?_ _)); refine blk_far ?_ NB501_509.out _; (with_reducible repeat (first | refine yN ?_ _ | refine yD ?_ | refine yA ?_ _)); refine blk_far ?_ NB501_509.out _; (with_reducible repeat (first | refine yN ?_ _ | refine yD ?_ | refine yA ?_ _)); exact BK501.out) hb); have n3_ := yM (blk_below (g := gb509) (o := .cells #[.int .i64 t506, .int .i64 t507] 29 (0, 0)) (by (with_reducible repeat (first | refine yN ?_ _ | refine yD ?_ | refine yA ?_ _)); refine blk_put (cs := #[.int .i64 t506, .int .i64 0]) ?_ 1 _ rfl; (with_reducible repeat (first | refine yN ?_ _ | refine yD ?_ | refine yA ?_ _)); refine blk_put (cs := #[.int .i64 0, .int .i64 0]) ?_ 0 _ rfl; (with_reducible repeat (first | refine yN ?_ _ | refine yD ?_ | refine yA ?_ _)); exact BK509.out) hb); have n4_ := yM (below_step (by repeat (first | (with_reducible first | exact HB.out | apply below_alloc | apply yP | apply below_drew1 | refine yS ?_ GE500.out | refine yS ?_ GE501.out | refine yS ?_ GE509.out) | exact HB.out)) hb); clear HO_501002; clear BK500; clear BK501; clear BK509; clear HB; have HO_501002 := n0_; have BK500 := n1_; have BK501 := n2_; have BK509 := n3_; have HB := n4_; clear n0_ n1_ n2_ n3_ n4_; (try clear hb); (try clear hb2); (try clear hk); (try clear hi)) | ((with_reducible refine gate_dst (N := 10) rfl ?_); (try (refine gate_guard (by rfl) ?_; dsimp only)); refine box_event ?hg (N := 10) ?hd (cs := #[.int .i64 0, .int .i64 0]) (t := 29) ?hr ?_; (case hd => rfl); (case hg => rfl); (case hr => first | (go_simp; done) | (go_simp; rfl)); intro gb513 hg w162 hbox hb; have n0_ := yM (Kd.R_below (Kd.R_elderB (by (with_reducible repeat (first | apply Kd.R_alloc | apply Kd.R_drewN | apply Kd.R_drew)); exact HO_501002.out) gb513 (Nat.le_of_eq hg.symm)) hb); have n1_ := yM (blk_below (g := gb500) (o := .cells #[.int .i64 t493, .int .i64 t494, .slice Ao14 t495.length co14] 32 (0, 0)) (by (with_reducible repeat (first | refine yN ?_ _ | refine yD ?_ | refine yA ?_ _)); exact BK500.out) hb); have n2_ := yM (blk_below (g := gb501) (o := .cells #[.int .i64 t498, .int .i64 t499] 29 (0, 0)) (by (with_reducible repeat (first | refine yN ?_ _ | refine yD ?_ | refine yA ?_ _)); exact BK501.out) hb); have n3_ := yM (blk_below (g := gb509) (o := .cells #[.int .i64 t506, .int .i64 t507] 29 (0, 0)) (by (with_reducible repeat (first | refine yN ?_ _ | refine yD ?_ | refine yA ?_ _)); exact BK509.out) hb); have n4_ := yM (below_step (by repeat (first | (with_reducible first | exact HB.out | apply below_alloc | apply yP | apply below_drew1 | refine yS ?_ GE500.out | refine yS ?_ GE501.out | refine yS ?_ GE509.out) | exact HB.out)) hb); have n5_ := yM (hbox); have n6_ := yM ((by rw [hg]; exact (below_size (by repeat (first | (with_reducible first | exact HB.out | apply below_alloc | apply yP | apply below_drew1 | refine yS ?_ GE500.out | refine yS ?_ GE501.out | refine yS ?_ GE509.out) | exact HB.out))) : w.heap.size ≤ gb513)); have n7_ := yM ((by rw [hg]; exact (below_size (by repeat (first | (with_reducible first | exact HB.out | apply below_alloc | apply yP | apply below_drew1 | refine yS ?_ GE500.out | refine yS ?_ GE501.out | refine yS ?_ GE509.out) | exact HB.out))) : w.heap.size ≤ gb513)); have n8_ := yM ((by rw [hg]; exact Nat.ne_of_lt (blk_lt (g := gb500) (o := .cells #[.int .i64 t493, .int .i64 t494, .slice Ao14 t495.length co14] 32 (0, 0)) (by (with_reducible repeat (first | refine yN ?_ _ | refine yD ?_ | refine yA ?_ _)); exact BK500.out)) : gb500 ≠ gb513)); have n9_ := yM ((by rw [hg]; exact Nat.ne_of_gt (blk_lt (g := gb500) (o := .cells #[.int .i64 t493, .int .i64 t494, .slice Ao14 t495.length co14] 32 (0, 0)) (by (with_reducible repeat (first | refine yN ?_ _ | refine yD ?_ | refine yA ?_ _)); exact BK500.out)) : gb513 ≠ gb500)); have n10_ := yM ((by rw [hg]; exact Nat.ne_of_lt (blk_lt (g := gb501) (o := .cells #[.int .i64 t498, .int .i64 t499] 29 (0, 0)) (by (with_reducible repeat (first | refine yN ?_ _ | refine yD ?_ | refine yA ?_ _)); exact BK501.out)) : gb501 ≠ gb513)); have n11_ := yM ((by rw [hg]; exact Nat.ne_of_gt (blk_lt (g := gb501) (o := .cells #[.int .i64 t498, .int .i64 t499] 29 (0, 0)) (by (with_reducible repeat (first | refine yN ?_ _ | refine yD ?_ | refine yA ?_ _)); exact BK501.out)) : gb513 ≠ gb501)); have n12_ := yM ((by rw [hg]; exact Nat.ne_of_lt (blk_lt (g := gb509) (o := .cells #[.int .i64 t506, .int .i64 t507] 29 (0, 0)) (by (with_reducible repeat (first | refine yN ?_ _ | refine yD ?_ | refine yA ?_ _)); exact BK509.out)) : gb509 ≠ gb513)); have n13_ := yM ((by rw [hg]; exact Nat.ne_of_gt (blk_lt (g := gb509) (o := .cells #[.int .i64 t506, .int .i64 t507] 29 (0, 0)) (by (with_reducible repeat (first | refine yN ?_ _ | refine yD ?_ | refine yA ?_ _)); exact BK509.out)) : gb513 ≠ gb509)); clear HO_501002; clear BK500; clear BK501; clear BK509; clear HB; have HO_501002 := n0_; have BK500 := n1_; have BK501 := n2_; have BK509 := n3_; have HB := n4_; have BK513 := n5_; have GW513 := n6_; have GE513 := n7_; have NB500_513 := n8_; have NB513_500 := n9_; have NB501_513 := n10_; have NB513_501 := n11_; have NB509_513 := n12_; have NB513_509 := n13_; clear n0_ n1_ n2_ n3_ n4_ n5_ n6_ n7_ n8_ n9_ n10_ n11_ n12_ n13_; clear hb hbox hg; have hnb163 := NB513_500.out; have hnc163 := NB500_513.out; have hnb164 := NB513_501.out; have hnc164 := NB501_513.out; have hnb165 := NB513_509.out; have hnc165 := NB509_513.out; have hcz166_0 : w162.cell? ⟨gb513, 0, none⟩ = some (.int .i64 0) := (blk_cell BK513.out 0).trans rfl; have hcz166_1 : w162.cell? ⟨gb513, 1, none⟩ = some (.int .i64 0) := (blk_cell BK513.out 1).trans rfl; have hfz166_0 := blk_frozen BK513.out 0; have hfz166_1 := blk_frozen BK513.out 1; have hcz167_0 : w162.cell? ⟨gb509, 0, none⟩ = some (.int .i64 t506) := (blk_cell BK509.out 0).trans rfl; have hcz167_1 : w162.cell? ⟨gb509, 1, none⟩ = some (.int .i64 t507) := (blk_cell BK509.out 1).trans rfl; have hfz167_0 := blk_frozen BK509.out 0; have hfz167_1 := blk_frozen BK509.out 1) | ((with_reducible refine gate_callee (f := 24) rfl ?_); refine goesL_ (some 65) rfl rfl Try.func24 (by kernel_rfl) rfl #[.agg #[.int .i64 t510, .int .i64 t511], .agg #[.int .i64 t506, .int .i64 t507]] rfl (by (try simp only [List.map_toArray, List.map_cons, List.map_nil]); first | done | rfl | (simp only [List.length_drop, List.length_take]; rfl)) ?_; (with_reducible refine (impl_FracSum.calls kj7 t510 t511 t506 t507 t514 t515 t516 _ A38.out).mono ?_); rintro e w168 ⟨rfl, hb⟩; refine ⟨_, rfl, ?_⟩; have n0_ := yM (Kd.R_below (by (with_reducible repeat (first | apply Kd.R_alloc | apply Kd.R_drewN | apply Kd.R_drew)); exact (Kd.R_mono (Kd.R_far (p := ⟨gb513, 1, none⟩) (Kd.R_far (p := ⟨gb513, 0, none⟩) (Kd.R_mono HO_501002.out (fun k_ hk => (⟨hk, hk.2⟩ : _ ∧ k_ ≠ gb513))) (fun _ hk => hk.2) (.int .i64 t510)) (fun _ hk => hk.2) (.int .i64 t511)) (fun _ h_ => h_.1))) hb); have n1_ := yM (blk_below (g := gb500) (o := .cells #[.int .i64 t493, .int .i64 t494, .slice Ao14 t495.length co14] 32 (0, 0)) (by (with_reducible repeat (first | refine yN ?_ _ | refine yD ?_ | refine yA ?_ _)); refine blk_far ?_ NB500_513.out _; (with_reducible repeat (first | refine yN ?_ _ | refine yD ?_ | refine yA ?_ _)); refine blk_far ?_ NB500_513.out _; (with_reducible repeat (first | refine yN ?_ _ | refine yD ?_ | refine yA ?_ _)); exact BK500.out) hb); have n2_ := yM (blk_below (g := gb501) (o := .cells #[.int .i64 t498, .int .i64 t499] 29 (0, 0)) (by (with_reducible repeat (first | refine yN ?_ _ | refine yD ?_ | refine yA ?_ _)); refine blk_far ?_ NB501_513.out _; (with_reducible repeat (first | refine yN ?_ _ | refine yD ?_ | refine yA ?_ _)); refine blk_far ?_ NB501_513.out _; (with_reducible repeat (first | refine yN ?_ _ | refine yD ?_ | refine yA ?_ _)); exact BK501.out) hb); have n3_ := yM (blk_below (g := gb509) (o := .cells #[.int .i64 t506, .int .i64 t507] 29 (0, 0)) (by (with_reducible repeat (first | refine yN ?_ _ | refine yD ?_ | refine yA ?_ _)); refine blk_far ?_ NB509_513.out _; (with_reducible repeat (first | refine yN ?_ _ | refine yD ?_ | refine yA ?_ _)); refine blk_far ?_ NB509_513.out _; (with_reducible repeat (first | refine yN ?_ _ | refine yD ?_ | refine yA ?_ _)); exact BK509.out) hb); have n4_ := yM (blk_below (g := gb513) (o := .cells #[.int .i64 t510, .int .i64 t511] 29 (0, 0)) (by (with_reducible repeat (first | refine yN ?_ _ | refine yD ?_ | refine yA ?_ _)); refine blk_put (cs := #[.int .i64 t510, .int .i64 0]) ?_ 1 _ rfl; (with_reducible repeat (first | refine yN ?_ _ | refine yD ?_ | refine yA ?_ _)); refine blk_put (cs := #[.int .i64 0, .int .i64 0]) ?_ 0 _ rfl; (with_reducible repeat (first | refine yN ?_ _ | refine yD ?_ | refine yA ?_ _)); exact BK513.out) hb); have n5_ := yM (below_step (by repeat (first | (with_reducible first | exact HB.out | apply below_alloc | apply yP | apply below_drew1 | refine yS ?_ GE500.out | refine yS ?_ GE501.out | refine yS ?_ GE509.out | refine yS ?_ GE513.out) | exact HB.out)) hb); clear HO_501002; clear BK500; clear BK501; clear BK509; clear BK513; clear HB; have HO_501002 := n0_; have BK500 := n1_; have BK501 := n2_; have BK509 := n3_; have BK513 := n4_; have HB := n5_; clear n0_ n1_ n2_ n3_ n4_ n5_; (try clear hb); (try clear hb2); (try clear hk); (try clear hi)) | ((with_reducible refine gate_dst (N := 12) rfl ?_); (try (refine gate_guard (by rfl) ?_; dsimp only)); refine box_event ?hg (N := 12) ?hd (cs := #[.int .i64 0, .int .i64 0]) (t := 29) ?hr ?_; (case hd => rfl); (case hg => rfl); (case hr => first | (go_simp; done) | (go_simp; rfl)); intro gb517 hg w169 hbox hb; have n0_ := yM (Kd.R_below (Kd.R_elderB (by (with_reducible repeat (first | apply Kd.R_alloc | apply Kd.R_drewN | apply Kd.R_drew)); exact HO_501002.out) gb517 (Nat.le_of_eq hg.symm)) hb); have n1_ := yM (blk_below (g := gb500) (o := .cells #[.int .i64 t493, .int .i64 t494, .slice Ao14 t495.length co14] 32 (0, 0)) (by (with_reducible repeat (first | refine yN ?_ _ | refine yD ?_ | refine yA ?_ _)); exact BK500.out) hb); have n2_ := yM (blk_below (g := gb501) (o := .cells #[.int .i64 t498, .int .i64 t499] 29 (0, 0)) (by (with_reducible repeat (first | refine yN ?_ _ | refine yD ?_ | refine yA ?_ _)); exact BK501.out) hb); have n3_ := yM (blk_below (g := gb509) (o := .cells #[.int .i64 t506, .int .i64 t507] 29 (0, 0)) (by (with_reducible repeat (first | refine yN ?_ _ | refine yD ?_ | refine yA ?_ _)); exact BK509.out) hb); have n4_ := yM (blk_below (g := gb513) (o := .cells #[.int .i64 t510, .int .i64 t511] 29 (0, 0)) (by (with_reducible repeat (first | refine yN ?_ _ | refine yD ?_ | refine yA ?_ _)); exact BK513.out) hb); have n5_ := yM (below_step (by repeat (first | (with_reducible first | exact HB.out | apply below_alloc | apply yP | apply below_drew1 | refine yS ?_ GE500.out | refine yS ?_ GE501.out | refine yS ?_ GE509.out | refine yS ?_ GE513.out) | exact HB.out)) hb); have n6_ := yM (hbox); have n7_ := yM ((by rw [hg]; exact (below_size (by repeat (first | (with_reducible first | exact HB.out | apply below_alloc | apply yP | apply below_drew1 | refine yS ?_ GE500.out | refine yS ?_ GE501.out | refine yS ?_ GE509.out | refine yS ?_ GE513.out) | exact HB.out))) : w.heap.size ≤ gb517)); have n8_ := yM ((by rw [hg]; exact (below_size (by repeat (first | (with_reducible first | exact HB.out | apply below_alloc | apply yP | apply below_drew1 | refine yS ?_ GE500.out | refine yS ?_ GE501.out | refine yS ?_ GE509.out | refine yS ?_ GE513.out) | exact HB.out))) : w.heap.size ≤ gb517)); have n9_ := yM ((by rw [hg]; exact Nat.ne_of_lt (blk_lt (g := gb500) (o := .cells #[.int .i64 t493, .int .i64 t494, .slice Ao14 t495.length co14] 32 (0, 0)) (by (with_reducible repeat (first | refine yN ?_ _ | refine yD ?_ | refine yA ?_ _)); exact BK500.out)) : gb500 ≠ gb517)); have n10_ := yM ((by rw [hg]; exact Nat.ne_of_gt (blk_lt (g := gb500) (o := .cells #[.int .i64 t493, .int .i64 t494, .slice Ao14 t495.length co14] 32 (0, 0)) (by (with_reducible repeat (first | refine yN ?_ _ | refine yD ?_ | refine yA ?_ _)); exact BK500.out)) : gb517 ≠ gb500)); have n11_ := yM ((by rw [hg]; exact Nat.ne_of_lt (blk_lt (g := gb501) (o := .cells #[.int .i64 t498, .int .i64 t499] 29 (0, 0)) (by (with_reducible repeat (first | refine yN ?_ _ | refine yD ?_ | refine yA ?_ _)); exact BK501.out)) : gb501 ≠ gb517)); have n12_ := yM ((by rw [hg]; exact Nat.ne_of_gt (blk_lt (g := gb501) (o := .cells #[.int .i64 t498, .int .i64 t499] 29 (0, 0)) (by (with_reducible repeat (first | refine yN ?_ _ | refine yD ?_ | refine yA ?_ _)); exact BK501.out)) : gb517 ≠ gb501)); have n13_ := yM ((by rw [hg]; exact Nat.ne_of_lt (blk_lt (g := gb509) (o := .cells #[.int .i64 t506, .int .i64 t507] 29 (0, 0)) (by (with_reducible repeat (first | refine yN ?_ _ | refine yD ?_ | refine yA ?_ _)); exact BK509.out)) : gb509 ≠ gb517)); have n14_ := yM ((by rw [hg]; exact Nat.ne_of_gt (blk_lt (g := gb509) (o := .cells #[.int .i64 t506, .int .i64 t507] 29 (0, 0)) (by (with_reducible repeat (first | refine yN ?_ _ | refine yD ?_ | refine yA ?_ _)); exact BK509.out)) : gb517 ≠ gb509)); have n15_ := yM ((by rw [hg]; exact Nat.ne_of_lt (blk_lt (g := gb513) (o := .cells #[.int .i64 t510, .int .i64 t511] 29 (0, 0)) (by (with_reducible repeat (first | refine yN ?_ _ | refine yD ?_ | refine yA ?_ _)); exact BK513.out)) : gb513 ≠ gb517)); have n16_ := yM ((by rw [hg]; exact Nat.ne_of_gt (blk_lt (g := gb513) (o := .cells #[.int .i64 t510, .int .i64 t511] 29 (0, 0)) (by (with_reducible repeat (first | refine yN ?_ _ | refine yD ?_ | refine yA ?_ _)); exact BK513.out)) : gb517 ≠ gb513)); clear HO_501002; clear BK500; clear BK501; clear BK509; clear BK513; clear HB; have HO_501002 := n0_; have BK500 := n1_; have BK501 := n2_; have BK509 := n3_; have BK513 := n4_; have HB := n5_; have BK517 := n6_; have GW517 := n7_; have GE517 := n8_; have NB500_517 := n9_; have NB517_500 := n10_; have NB501_517 := n11_; have NB517_501 := n12_; have NB509_517 := n13_; have NB517_509 := n14_; have NB513_517 := n15_; have NB517_513 := n16_; clear n0_ n1_ n2_ n3_ n4_ n5_ n6_ n7_ n8_ n9_ n10_ n11_ n12_ n13_ n14_ n15_ n16_; clear hb hbox hg; have hnb170 := NB517_500.out; have hnc170 := NB500_517.out; have hnb171 := NB517_501.out; have hnc171 := NB501_517.out; have hnb172 := NB517_509.out; have hnc172 := NB509_517.out; have hnb173 := NB517_513.out; have hnc173 := NB513_517.out; have hcz174_0 : w169.cell? ⟨gb517, 0, none⟩ = some (.int .i64 0) := (blk_cell BK517.out 0).trans rfl; have hcz174_1 : w169.cell? ⟨gb517, 1, none⟩ = some (.int .i64 0) := (blk_cell BK517.out 1).trans rfl; have hfz174_0 := blk_frozen BK517.out 0; have hfz174_1 := blk_frozen BK517.out 1))
        have n0_ : Aside0 (Kd.R k29 29 ((w169.setCell ⟨gb517, 0, none⟩ (.int .i64 t514)).setCell ⟨gb517, 1, none⟩ (.int .i64 t515)) w.heap.size (fun k_ => k_ ≠ gb501 ∧ k_ ≠ gb509 ∧ k_ ≠ gb513 ∧ k_ ≠ gb517) (.slice Ao14 t495.length co14) t495) := ⟨by (with_reducible repeat (first | apply Kd.R_alloc | apply Kd.R_drewN | apply Kd.R_drew)); exact Kd.R_mono (Kd.R_far (p := ⟨gb517, 1, none⟩) (Kd.R_far (p := ⟨gb517, 0, none⟩) (Kd.R_mono HO_501002.out (fun k_ hk => (⟨hk, hk.2⟩ : _ ∧ k_ ≠ gb517))) (fun _ hk => hk.2) (.int .i64 t514)) (fun _ hk => hk.2) (.int .i64 t515)) (fun _ hk => ⟨hk.1.1.1.1, ⟨hk.1.1.1.2, ⟨hk.1.1.2, hk.1.2⟩⟩⟩)⟩
        have n1_ : Aside0 (((w169.setCell ⟨gb517, 0, none⟩ (.int .i64 t514)).setCell ⟨gb517, 1, none⟩ (.int .i64 t515)).heap[gb500]? = some (.cells #[.int .i64 t493, .int .i64 t494, .slice Ao14 t495.length co14] 32 (0, 0))) := ⟨by (with_reducible repeat (first | refine yN ?_ _ | refine yD ?_ | refine yA ?_ _)); refine blk_far ?_ NB500_517.out _; (with_reducible repeat (first | refine yN ?_ _ | refine yD ?_ | refine yA ?_ _)); refine blk_far ?_ NB500_517.out _; (with_reducible repeat (first | refine yN ?_ _ | refine yD ?_ | refine yA ?_ _)); exact BK500.out⟩
        have n2_ : Aside0 (((w169.setCell ⟨gb517, 0, none⟩ (.int .i64 t514)).setCell ⟨gb517, 1, none⟩ (.int .i64 t515)).heap[gb501]? = some (.cells #[.int .i64 t498, .int .i64 t499] 29 (0, 0))) := ⟨by (with_reducible repeat (first | refine yN ?_ _ | refine yD ?_ | refine yA ?_ _)); refine blk_far ?_ NB501_517.out _; (with_reducible repeat (first | refine yN ?_ _ | refine yD ?_ | refine yA ?_ _)); refine blk_far ?_ NB501_517.out _; (with_reducible repeat (first | refine yN ?_ _ | refine yD ?_ | refine yA ?_ _)); exact BK501.out⟩
        have n3_ : Aside0 (((w169.setCell ⟨gb517, 0, none⟩ (.int .i64 t514)).setCell ⟨gb517, 1, none⟩ (.int .i64 t515)).heap[gb509]? = some (.cells #[.int .i64 t506, .int .i64 t507] 29 (0, 0))) := ⟨by (with_reducible repeat (first | refine yN ?_ _ | refine yD ?_ | refine yA ?_ _)); refine blk_far ?_ NB509_517.out _; (with_reducible repeat (first | refine yN ?_ _ | refine yD ?_ | refine yA ?_ _)); refine blk_far ?_ NB509_517.out _; (with_reducible repeat (first | refine yN ?_ _ | refine yD ?_ | refine yA ?_ _)); exact BK509.out⟩
        have n4_ : Aside0 (((w169.setCell ⟨gb517, 0, none⟩ (.int .i64 t514)).setCell ⟨gb517, 1, none⟩ (.int .i64 t515)).heap[gb513]? = some (.cells #[.int .i64 t510, .int .i64 t511] 29 (0, 0))) := ⟨by (with_reducible repeat (first | refine yN ?_ _ | refine yD ?_ | refine yA ?_ _)); refine blk_far ?_ NB513_517.out _; (with_reducible repeat (first | refine yN ?_ _ | refine yD ?_ | refine yA ?_ _)); refine blk_far ?_ NB513_517.out _; (with_reducible repeat (first | refine yN ?_ _ | refine yD ?_ | refine yA ?_ _)); exact BK513.out⟩
        have n5_ : Aside0 (((w169.setCell ⟨gb517, 0, none⟩ (.int .i64 t514)).setCell ⟨gb517, 1, none⟩ (.int .i64 t515)).heap[gb517]? = some (.cells #[.int .i64 t514, .int .i64 t515] 29 (0, 0))) := ⟨by (with_reducible repeat (first | refine yN ?_ _ | refine yD ?_ | refine yA ?_ _)); refine blk_put (cs := #[.int .i64 t514, .int .i64 0]) ?_ 1 _ rfl; (with_reducible repeat (first | refine yN ?_ _ | refine yD ?_ | refine yA ?_ _)); refine blk_put (cs := #[.int .i64 0, .int .i64 0]) ?_ 0 _ rfl; (with_reducible repeat (first | refine yN ?_ _ | refine yD ?_ | refine yA ?_ _)); exact BK517.out⟩
        have n6_ : Aside0 (Below w.heap.size w ((w169.setCell ⟨gb517, 0, none⟩ (.int .i64 t514)).setCell ⟨gb517, 1, none⟩ (.int .i64 t515))) := ⟨by repeat (first | (with_reducible first | exact HB.out | apply below_alloc | apply yP | apply below_drew1 | refine yS ?_ GE500.out | refine yS ?_ GE501.out | refine yS ?_ GE509.out | refine yS ?_ GE513.out | refine yS ?_ GE517.out) | exact HB.out)⟩
        (try clear HO_501002)
        (try clear BK500)
        (try clear BK501)
        (try clear BK509)
        (try clear BK513)
        (try clear BK517)
        (try clear HB)
        generalize ((w169.setCell ⟨gb517, 0, none⟩ (.int .i64 t514)).setCell ⟨gb517, 1, none⟩ (.int .i64 t515)) = w175 at n0_ n1_ n2_ n3_ n4_ n5_ n6_ ⊢
        have HO_501002 := n0_
        have BK500 := n1_
        have BK501 := n2_
        have BK509 := n3_
        have BK513 := n4_
        have BK517 := n5_
        have HB := n6_
        clear n0_ n1_ n2_ n3_ n4_ n5_ n6_
        have n0_ := yM (Kd.R_drew HO_501002.out)
        have n1_ := yM (yD BK500.out)
        have n2_ := yM (yD BK501.out)
        have n3_ := yM (yD BK509.out)
        have n4_ := yM (yD BK513.out)
        have n5_ := yM (yD BK517.out)
        have n6_ := yM (below_drew1 HB.out)
        clear HO_501002
        clear BK500
        clear BK501
        clear BK509
        clear BK513
        clear BK517
        clear HB
        have HO_501002 := n0_
        have BK500 := n1_
        have BK501 := n2_
        have BK509 := n3_
        have BK513 := n4_
        have BK517 := n5_
        have HB := n6_
        clear n0_ n1_ n2_ n3_ n4_ n5_ n6_
        refine start_ (n := 9) (S := fun w' => w'.cell? ⟨gb500, 0, none⟩ = some (.int .i64 t493) ∧ w'.cell? ⟨gb500, 1, none⟩ = some (.int .i64 t494) ∧ w'.cell? ⟨gb500, 2, none⟩ = some (.slice Ao14 t495.length co14)) (ds := []) #[false, false, false, false, false, false, false, false, false] (by kernel_rfl) rfl rfl ⟨(blk_cell BK500.out 0).trans rfl, (blk_cell BK500.out 1).trans rfl, (blk_cell BK500.out 2).trans rfl⟩ (fun hHeld => ?_); refine with_tabW laws_FnLedgerCan.tab12 laws_FnLedgerCan.bits12 (fun HT_ HW_ => ?_)
        generalize w175.drew = w176 at HO_501002 BK500 BK501 BK509 BK513 BK517 HB hHeld ⊢
        refine pure_ (i := 1) (N := some 88) (v := ?_) (a' := ?_) #[false, true, false, false, false, false, false, false, false] rfl rfl (any_of HT_.out (by kernel_rfl)) (fun _ _ _ h => h) (Or.inl ⟨by rfl, ?_⟩) ?_ ?_
        rotate_left
        ·intro w'
         go_simp
         with_reducible rfl
        rotate_left
        ·simp only [Act.put, setIfInBounds_toArray, set_cons_zero, set_cons_succ, i64_w, i32_w]
         rfl
        refine pure_ (i := 3) (N := some 90) (v := ?_) (a' := ?_) #[false, true, false, true, false, false, false, false, false] rfl rfl (any_of HT_.out (by kernel_rfl)) (fun _ _ _ h => h) (Or.inl ⟨by rfl, ?_⟩) ?_ ?_
        rotate_left
        ·intro w'
         go_simp
         with_reducible rfl
        rotate_left
        ·simp only [Act.put, setIfInBounds_toArray, set_cons_zero, set_cons_succ, i64_w, i32_w]
         rfl
        refine take_ (i := 0) (N := some 87) (v := ?_) (a' := ?_) #[true, true, false, true, false, false, false, false, false] rfl rfl (take_ofW HT_.out HW_.out (by kernel_rfl)) (fun _ _ _ h => h) (Or.inl ⟨by rfl, ?_⟩) hHeld ?_ ?_
        rotate_left
        ·rintro w' ⟨s0, s1, s2⟩
         go_simp
         with_reducible rfl
        rotate_left
        ·simp only [Act.put, setIfInBounds_toArray, set_cons_zero, set_cons_succ, i64_w, i32_w]
         rfl
        refine take_ (i := 4) (N := some 91) (v := ?_) (a' := ?_) #[true, true, false, true, true, false, false, false, false] rfl rfl (take_ofW HT_.out HW_.out (by kernel_rfl)) (fun _ _ _ h => h) (Or.inl ⟨by rfl, ?_⟩) hHeld ?_ ?_
        rotate_left
        ·rintro w' ⟨s0, s1, s2⟩
         go_simp
         with_reducible rfl
        rotate_left
        ·simp only [Act.put, setIfInBounds_toArray, set_cons_zero, set_cons_succ, i64_w, i32_w]
         rfl
        refine pure_ (i := 5) (N := some 92) (v := ?_) (a' := ?_) #[true, true, false, true, true, true, false, false, false] rfl rfl (any_of HT_.out (by kernel_rfl)) (fun _ _ _ h => h) (Or.inl ⟨by rfl, ?_⟩) ?_ ?_
        rotate_left
        ·intro w'
         go_simp
         with_reducible rfl
        rotate_left
        ·simp only [Act.put, setIfInBounds_toArray, set_cons_zero, set_cons_succ, i64_w, i32_w]
         rfl
        refine pure_ (i := 6) (N := some 93) (v := ?_) (a' := ?_) #[true, true, false, true, true, true, true, false, false] rfl rfl (any_of HT_.out (by kernel_rfl)) (fun _ _ _ h => h) (Or.inl ⟨by rfl, ?_⟩) ?_ ?_
        rotate_left
        ·intro w'
         go_simp
         with_reducible rfl
        rotate_left
        ·simp only [Act.put, setIfInBounds_toArray, set_cons_zero, set_cons_succ, i64_w, i32_w]
         rfl
        refine one_ (i := 2) (N := some 89) #[true, true, true, true, true, true, true, false, false] rfl rfl (one_of HT_.out (by kernel_rfl)) (by decide) (fun K hK => ?_)
        refine goes_ Try.func33 (by kernel_rfl) rfl #[.agg #[.int .i64 t493, .int .i64 t494, .slice Ao14 t495.length co14], .agg #[.int .i64 0, .int .i64 1]] (by rfl) rfl rfl (by (try simp only [List.map_toArray, List.map_cons, List.map_nil]); first | done | rfl | (simp only [List.length_drop, List.length_take]; rfl)) ?_
        with_reducible refine (impl_LedgerCan.calls kj7 t493 t494 _ _ t495 0 1 t524 _ ?side1 ?side2 A153.out).mono ?_
        (case side1 => repeat (first | exact (Kd.R_reads' HO_501002.out).2.2 | (with_reducible refine Kd.C_alloc ?_ _) | (with_reducible refine Kd.C_drewN ?_ _) | (with_reducible refine Kd.C_drew ?_)))
        (case side2 => exact (Kd.R_reads' HO_501002.out).2.1)
        rintro e w177 ⟨rfl, hb⟩
        refine ⟨_, rfl, ?_⟩
        have n0_ := yM (Kd.R_below (by (with_reducible repeat (first | apply Kd.R_alloc | apply Kd.R_drewN | apply Kd.R_drew)); exact HO_501002.out) hb)
        have n1_ := yM (blk_below (g := gb500) (o := .cells #[.int .i64 t493, .int .i64 t494, .slice Ao14 t495.length co14] 32 (0, 0)) (by (with_reducible repeat (first | refine yN ?_ _ | refine yD ?_ | refine yA ?_ _)); exact BK500.out) hb)
        have n2_ := yM (blk_below (g := gb501) (o := .cells #[.int .i64 t498, .int .i64 t499] 29 (0, 0)) (by (with_reducible repeat (first | refine yN ?_ _ | refine yD ?_ | refine yA ?_ _)); exact BK501.out) hb)
        have n3_ := yM (blk_below (g := gb509) (o := .cells #[.int .i64 t506, .int .i64 t507] 29 (0, 0)) (by (with_reducible repeat (first | refine yN ?_ _ | refine yD ?_ | refine yA ?_ _)); exact BK509.out) hb)
        have n4_ := yM (blk_below (g := gb513) (o := .cells #[.int .i64 t510, .int .i64 t511] 29 (0, 0)) (by (with_reducible repeat (first | refine yN ?_ _ | refine yD ?_ | refine yA ?_ _)); exact BK513.out) hb)
        have n5_ := yM (blk_below (g := gb517) (o := .cells #[.int .i64 t514, .int .i64 t515] 29 (0, 0)) (by (with_reducible repeat (first | refine yN ?_ _ | refine yD ?_ | refine yA ?_ _)); exact BK517.out) hb)
        have n6_ := yM (below_step (by repeat (first | (with_reducible first | exact HB.out | apply below_alloc | apply yP | apply below_drew1 | refine yS ?_ GE500.out | refine yS ?_ GE501.out | refine yS ?_ GE509.out | refine yS ?_ GE513.out | refine yS ?_ GE517.out) | exact HB.out)) hb)
        clear HO_501002
        clear BK500
        clear BK501
        clear BK509
        clear BK513
        clear BK517
        clear HB
        have HO_501002 := n0_
        have BK500 := n1_
        have BK501 := n2_
        have BK509 := n3_
        have BK513 := n4_
        have BK517 := n5_
        have HB := n6_
        clear n0_ n1_ n2_ n3_ n4_ n5_ n6_
        (try clear hb)
        (try clear hb2)
        (try clear hk)
        (try clear hi)
        refine hK.out _ _ ⟨(blk_cell BK500.out 0).trans rfl, (blk_cell BK500.out 1).trans rfl, (blk_cell BK500.out 2).trans rfl⟩ (fun hHeld => ?_)
        clear hK K
        refine norm_ (a' := ?_) ?_ ?_
        rotate_left
        ·show Act.put _ (some 89) _ = _
         simp only [Act.put, setIfInBounds_toArray, set_cons_zero, set_cons_succ, i64_w, i32_w]
         rfl
        refine pure_ (i := 7) (N := some 94) (v := ?_) (a' := ?_) #[true, true, true, true, true, true, true, true, false] rfl rfl (any_of HT_.out (by kernel_rfl)) (fun _ _ _ h => h) (Or.inl ⟨by rfl, ?_⟩) ?_ ?_
        rotate_left
        ·intro w'
         go_simp
         with_reducible rfl
        rotate_left
        ·simp only [Act.put, setIfInBounds_toArray, set_cons_zero, set_cons_succ, i64_w, i32_w]
         rfl
        refine pure_ (i := 8) (N := some 4) (v := ?_) (a' := ?_) #[true, true, true, true, true, true, true, true, true] rfl rfl (any_of HT_.out (by kernel_rfl)) (fun _ _ _ h => h) (Or.inl ⟨by rfl, ?_⟩) ?_ ?_
        rotate_left
        ·intro w'
         go_simp
         with_reducible rfl
        rotate_left
        ·simp only [Act.put, setIfInBounds_toArray, set_cons_zero, set_cons_succ, i64_w, i32_w]
         rfl
        refine done_ (done_of HT_.out (by kernel_rfl)) ?_
        try go_wp2
        go_ret
        exact ⟨by first | rfl | (simp [errW_none, errW_some] <;> rfl) | (simp [*, errW_none, errW_some] <;> rfl), by repeat (first | (with_reducible first | exact HB.out | apply below_alloc | apply yP | apply below_drew1 | refine yS ?_ GE500.out | refine yS ?_ GE501.out | refine yS ?_ GE509.out | refine yS ?_ GE513.out | refine yS ?_ GE517.out) | exact HB.out)⟩

/-- THE ONE PURE STATEMENT of laws_FnLedgerCan: yours. -/
def laws_FnLedgerCan.Pure : Prop := ∀ (l0 : List Int) (l1 : List Int), l0.length ≤ maxLen → l0.length * 1 ≤ 140737488351232 → (∀ x ∈ l0, (Lit.int .u8 x).wf = true) → l1.length ≤ maxLen → l1.length * 1 ≤ 140737488351232 → (∀ x ∈ l1, (Lit.int .u8 x).wf = true) → ∃ k, laws_FnLedgerCan.f k l0 l1 = some true
theorem laws_FnLedgerCan.walk (P : laws_FnLedgerCan.Pure) (a0 : Option Addr) (len0 cap0 : Nat) (z0 : List Int) (a1 : Option Addr) (len1 cap1 : Nat) (z1 : List Int) (w : World) (w0 : (a0 = none ∧ len0 = 0 ∧ cap0 = 0 ∧ z0 = []) ∨ ∃ x, a0 = some x ∧ len0 ≤ cap0 ∧ cap0 ≤ maxLen ∧ z0.length = cap0 ∧ (∀ i, i < z0.length → w.cell? (x.add i) = some (.int .u8 (z0.getD i 0))) ∧ ∀ n ∈ z0, (Lit.int .u8 n).wf = true) (y0 : len0 * 1 ≤ 140737488351232) (w1 : (a1 = none ∧ len1 = 0 ∧ cap1 = 0 ∧ z1 = []) ∨ ∃ x, a1 = some x ∧ len1 ≤ cap1 ∧ cap1 ≤ maxLen ∧ z1.length = cap1 ∧ (∀ i, i < z1.length → w.cell? (x.add i) = some (.int .u8 (z1.getD i 0))) ∧ ∀ n ∈ z1, (Lit.int .u8 n).wf = true) (y1 : len1 * 1 ≤ 140737488351232) :
  Calls Try.prog 11 #[.slice a0 len0 cap0, .slice a1 len1 cap1] w fun e w' => e = .returned (.bool true) ∧ Below w.heap.size w w' := by
 obtain ⟨l0, rfl, hr0, hm0, hw0, hc0⟩ := ReadsInt.ofRowC w0
 obtain ⟨l1, rfl, hr1, hm1, hw1, hc1⟩ := ReadsInt.ofRowC w1
 obtain ⟨k, h⟩ := P l0 l1 hm0 y0 hw0 hm1 y1 hw1
 refine (laws_FnLedgerCan.calls k _ _ l0 _ _ l1 true w (Kd.C_of_reads (d := (0 : Int)) (h1 := fun _ => rfl) hr0) hc0 (Kd.C_of_reads (d := (0 : Int)) (h1 := fun _ => rfl) hr1) hc1 h rfl).mono ?_
 rintro e w' ⟨rfl, hd⟩
 exact ⟨rfl, hd⟩

end Go.Proofs.Ytncngkfgalokoaa.PLed
