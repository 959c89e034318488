-- Written by a program of this session over the kit's printer, with contracts proved by hand; Lean checks it.
import Derived.Test.YtncngkfgalokoaaPLedx0
import Derived.Test.YtncngkfgalokoaaPLedx1
import Derived.Test.YtncngkfgalokoaaPLedx2
import Derived.Test.YtncngkfgalokoaaPLedx3
import Derived.Test.YtncngkfgalokoaaPLedx4
import Derived.Test.YtncngkfgalokoaaPLedx5
import Derived.Test.YtncngkfgalokoaaPLedx7
import Derived.Test.YtncngkfgalokoaaPLedx11
-- half its indentation
namespace Go.Proofs.Ytncngkfgalokoaa.PLed
open Go.RowKit Go.Proofs.YtncngkfgalokoaaW.PrintWords Go.Proofs.YtncngkfgalokoaaW.PrintLast Go.Proofs.YtncngkfgalokoaaW.PrintMore
attribute [local go_sem] max2_int min2_int max_two min_two max_three min_three max_four min_four   -- for this text's walks alone
set_option linter.unusedVariables false
set_option linter.unusedSimpArgs false

attribute [local go_sem high] eqA29
open List (setIfInBounds_toArray set_cons_zero set_cons_succ)
/-! ### laws_FnPay: function 10 -/
def laws_FnPay.j0 : Nat → Bool → Bool → Bool → Int → Int → List (S29) → Int → Int → Int → Int → List (S29) → Int → Int → List (S29) → Option (Bool)
 | 0, _, _, _, _, _, _, _, _, _, _, _, _, _, _ => none
 | k + 1, x6, x8, x49, x440000, x440001, x440002, x441000, x441001, x448000, x448001, x448002, x455000, x455001, x455002 => if x49 = true then (if (x8 == x6) = true then ((laws_loLedger.f k x455000 x455001 x455002 x448000 x448001 x448002).bind fun t458 => (some t458)) else (some false)) else ((impl_LedgerCan.f k x440000 x440001 x440002 x441000 x441001).bind fun t459 => (if (x8 != t459) = true then (some false) else (if x8 = true then ((impl_LedgerSum.f k x455000 x455001 x455002).bind fun bt460 => (if bt460.2.2 = true then ((impl_FracCmp.f k bt460.1 bt460.2.1 x455000 x455001).bind fun t464 => (if t464 ≤ 0 then (if (x455002.length : Int) = (wrap64 ((x440002.length : Int) + 1)) then (if 0 ≤ (x440002.length : Int) then (if (x440002.length : Int) < (x455002.length : Int) then (if (((rd_T29 x455002 (x440002.length : Int)).f0) == x441000 && (((rd_T29 x455002 (x440002.length : Int)).f1) == x441001)) = true then (if (x455000 == x440000 && (x455001 == x440001)) = true then ((impl_LedgerOk.f k x455000 x455001 x455002).bind fun t466 => (some t466)) else (some false)) else (some false)) else (none)) else (none)) else (some false)) else (some false))) else (some false))) else ((laws_loLedger.f k x455000 x455001 x455002 x440000 x440001 x440002).bind fun t467 => (some t467)))))
def laws_FnPay.f (k : Nat) (l0 : List Int) : Option (Bool) := if (l0.length : Int) > 1048576 then (some true) else ((spec_DrawLedgerPay.f k l0).bind fun bt432 => ((spec_LedgerPay.f k bt432.1 bt432.2.1 bt432.2.2.1 bt432.2.2.2.1 bt432.2.2.2.2).bind fun bt441 => ((impl_LedgerPay.f k bt432.1 bt432.2.1 bt432.2.2.1 bt432.2.2.2.1 bt432.2.2.2.2).bind fun bt448 => (if (bt448.2.2.2 != bt441.2.2.2) = true then (laws_FnPay.j0 k bt441.2.2.2 bt448.2.2.2 true bt432.1 bt432.2.1 bt432.2.2.1 bt432.2.2.2.1 bt432.2.2.2.2 bt441.1 bt441.2.1 bt441.2.2.1 bt448.1 bt448.2.1 bt448.2.2.1) else ((laws_loLedger.f k bt448.1 bt448.2.1 bt448.2.2.1 bt441.1 bt441.2.1 bt441.2.2.1).bind fun t455 => (if t455 = true then ((spec_LedgerOk.f k bt432.1 bt432.2.1 bt432.2.2.1).bind fun t456 => (if t456 = true then ((spec_FracOk.f k bt432.2.2.2.1 bt432.2.2.2.2).bind fun t457 => (laws_FnPay.j0 k bt441.2.2.2 bt448.2.2.2 (!t457) bt432.1 bt432.2.1 bt432.2.2.1 bt432.2.2.2.1 bt432.2.2.2.2 bt441.1 bt441.2.1 bt441.2.2.1 bt448.1 bt448.2.1 bt448.2.2.1)) else (laws_FnPay.j0 k bt441.2.2.2 bt448.2.2.2 true bt432.1 bt432.2.1 bt432.2.2.1 bt432.2.2.2.1 bt432.2.2.2.2 bt441.1 bt441.2.1 bt441.2.2.1 bt448.1 bt448.2.1 bt448.2.2.1))) else (laws_FnPay.j0 k bt441.2.2.2 bt448.2.2.2 true bt432.1 bt432.2.1 bt432.2.2.1 bt432.2.2.2.1 bt432.2.2.2.2 bt441.1 bt441.2.1 bt441.2.2.1 bt448.1 bt448.2.1 bt448.2.2.1)))))))
theorem laws_FnPay.mono_l : ∀ k, (∀ y0 y1 y2 y3 y4 y5 y6 y7 y8 y9 y10 y11 y12 y13, LeO (laws_FnPay.j0 k y0 y1 y2 y3 y4 y5 y6 y7 y8 y9 y10 y11 y12 y13) (laws_FnPay.j0 (k + 1) y0 y1 y2 y3 y4 y5 y6 y7 y8 y9 y10 y11 y12 y13))
 | 0 => fun _ _ _ _ _ _ _ _ _ _ _ _ _ _ r h => by simp [laws_FnPay.j0] at h
 | k + 1 => by
  have ih0 := laws_FnPay.mono_l k
  ·intro y0 y1 y2 y3 y4 y5 y6 y7 y8 y9 y10 y11 y12 y13
   unfold laws_FnPay.j0
   repeat' first
   | (with_reducible exact ih0 _ _ _ _ _ _ _ _ _ _ _ _ _ _)
   | (with_reducible exact impl_FracCmp.mono _ _ _ _ _)
   | (with_reducible exact impl_LedgerCan.mono _ _ _ _ _ _)
   | (with_reducible exact impl_LedgerOk.mono _ _ _ _)
   | (with_reducible exact impl_LedgerPay.mono _ _ _ _ _ _)
   | (with_reducible exact impl_LedgerSum.mono _ _ _ _)
   | (with_reducible exact laws_loLedger.mono _ _ _ _ _ _ _)
   | (with_reducible exact spec_DrawLedgerPay.mono _ _)
   | (with_reducible exact spec_FracOk.mono _ _ _)
   | (with_reducible exact spec_LedgerOk.mono _ _ _ _)
   | (with_reducible exact spec_LedgerPay.mono _ _ _ _ _ _)
   | (with_reducible exact LeO.refl _)
   | (with_reducible exact LeO.none _)
   | (with_reducible refine LeO.ite ?_ ?_)
   | (with_reducible refine LeO.bind ?_ (fun _ => ?_))
   | exact ih0 _ _ _ _ _ _ _ _ _ _ _ _ _ _
   | exact impl_FracCmp.mono _ _ _ _ _
   | exact impl_LedgerCan.mono _ _ _ _ _ _
   | exact impl_LedgerOk.mono _ _ _ _
   | exact impl_LedgerPay.mono _ _ _ _ _ _
   | exact impl_LedgerSum.mono _ _ _ _
   | exact laws_loLedger.mono _ _ _ _ _ _ _
   | exact spec_DrawLedgerPay.mono _ _
   | exact spec_FracOk.mono _ _ _
   | exact spec_LedgerOk.mono _ _ _ _
   | exact spec_LedgerPay.mono _ _ _ _ _ _
   | exact LeO.none _
   | refine LeO.ite ?_ ?_
   | refine LeO.bind ?_ (fun _ => ?_)
theorem laws_FnPay.mono : ∀ a0 k, LeO (laws_FnPay.f k a0) (laws_FnPay.f (k + 1) a0) := by
 intro a0 k
 have ih0 := laws_FnPay.mono_l k
 unfold laws_FnPay.f
 repeat' first
   | (with_reducible exact ih0 _ _ _ _ _ _ _ _ _ _ _ _ _ _)
   | (with_reducible exact impl_FracCmp.mono _ _ _ _ _)
   | (with_reducible exact impl_LedgerCan.mono _ _ _ _ _ _)
   | (with_reducible exact impl_LedgerOk.mono _ _ _ _)
   | (with_reducible exact impl_LedgerPay.mono _ _ _ _ _ _)
   | (with_reducible exact impl_LedgerSum.mono _ _ _ _)
   | (with_reducible exact laws_loLedger.mono _ _ _ _ _ _ _)
   | (with_reducible exact spec_DrawLedgerPay.mono _ _)
   | (with_reducible exact spec_FracOk.mono _ _ _)
   | (with_reducible exact spec_LedgerOk.mono _ _ _ _)
   | (with_reducible exact spec_LedgerPay.mono _ _ _ _ _ _)
   | (with_reducible exact LeO.refl _)
   | (with_reducible exact LeO.none _)
   | (with_reducible refine LeO.ite ?_ ?_)
   | (with_reducible refine LeO.bind ?_ (fun _ => ?_))
   | exact ih0 _ _ _ _ _ _ _ _ _ _ _ _ _ _
   | exact impl_FracCmp.mono _ _ _ _ _
   | exact impl_LedgerCan.mono _ _ _ _ _ _
   | exact impl_LedgerOk.mono _ _ _ _
   | exact impl_LedgerPay.mono _ _ _ _ _ _
   | exact impl_LedgerSum.mono _ _ _ _
   | exact laws_loLedger.mono _ _ _ _ _ _ _
   | exact spec_DrawLedgerPay.mono _ _
   | exact spec_FracOk.mono _ _ _
   | exact spec_LedgerOk.mono _ _ _ _
   | exact spec_LedgerPay.mono _ _ _ _ _ _
   | exact LeO.none _
   | refine LeO.ite ?_ ?_
   | refine LeO.bind ?_ (fun _ => ?_)
def laws_FnPay.T13 : Bool × List (List Nat × List Nat) := (true, [([], []), ([0], [0]), ([1], [1]), ([1], [1]), ([3, 1], [1, 3]), ([2, 4, 1, 1], [1, 2, 4]), ([5, 1], [1, 5]), ([1, 6], [1, 6]), ([7, 5], [7]), ([8], [8]), ([9, 8], [8, 9]), ([10, 8], [8, 10]), ([8], [8]), ([12, 8], [8, 12]), ([13, 8], [8, 13]), ([14, 8], [8, 14]), ([11, 15, 8], [8, 11, 15]), ([8, 16], [8, 16]), ([17, 8], [17]), ([18], [18]), ([19, 18], [18, 19]), ([18], [18]), ([21, 18], [18, 21]), ([22, 18], [18, 22]), ([20, 23, 18], [18, 20, 23]), ([24, 18], [18, 24]), ([18], [18]), ([25, 26, 18], [18, 25, 26]), ([18, 27], [18, 27]), ([28, 18], [28]), ([29], [29]), ([30, 29], [29, 30]), ([29], [29]), ([32, 29], [29, 32]), ([31, 33, 29], [29, 31, 33]), ([29, 34], [29, 34]), ([35, 29], [35]), ([36], [36]), ([37, 36, 36], [36, 37]), ([36, 38], [36, 38]), ([39, 38, 0, 1, 2, 3, 4, 5, 6, 7, 8, 9, 10, 11, 12, 13, 14, 15, 16, 17, 18, 19, 20, 21, 22, 23, 24, 25, 26, 27, 28, 29, 30, 31, 32, 33, 34, 35, 36, 37, 38, 39], [39])])
def laws_FnPay.B13 : List Nat := [0, 1, 3, 3, 11, 31, 63, 127, 255, 511, 1023, 2047, 511, 4607, 12799, 29183, 65535, 131071, 262143, 524287, 1048575, 524287, 2621439, 6815743, 16777215, 33554431, 524287, 134217727, 268435455, 536870911, 1073741823, 2147483647, 1073741823, 5368709119, 17179869183, 34359738367, 68719476735, 137438953471, 274877906943, 549755813887, 1099511627775]
theorem laws_FnPay.tab13 : rtab .any (opsOf Try.f10 13) = laws_FnPay.T13 := by kernel_rfl
theorem laws_FnPay.bits13 : waitsOk laws_FnPay.T13.2 laws_FnPay.B13 = true := by kernel_rfl
set_option maxHeartbeats 8000000 in
set_option maxRecDepth 100000 in
theorem laws_FnPay.calls (k : Nat) (A0 : Option Addr) (c0 : Nat) (l0 : List Int) (r : Bool) (w : World) (hr0 : Kd.C (Kd.int .u8) w A0 l0.length l0) (hc0 : l0.length ≤ c0) (h : laws_FnPay.f k l0 = some r) (hrt : r = true) :
  Calls Try.prog 10 #[.slice A0 l0.length c0] w fun e w' => e = .returned (.bool r) ∧ Below w.heap.size w w' := by
 have HRT := Aside0.mk hrt
 clear hrt
 have hu32 := Try.underlying32
 have hu29 := Try.underlying29
 have HR0 := Aside0.mk hr0
 have HC0 := Aside0.mk hc0
 clear hr0 hc0
 have HB := yM (Below.refl w.heap.size w)
 have H : (if (l0.length : Int) > 1048576 then (some true) else ((spec_DrawLedgerPay.f k l0).bind fun bt432 => ((spec_LedgerPay.f k bt432.1 bt432.2.1 bt432.2.2.1 bt432.2.2.2.1 bt432.2.2.2.2).bind fun bt441 => ((impl_LedgerPay.f k bt432.1 bt432.2.1 bt432.2.2.1 bt432.2.2.2.1 bt432.2.2.2.2).bind fun bt448 => (if (bt448.2.2.2 != bt441.2.2.2) = true then (laws_FnPay.j0 k bt441.2.2.2 bt448.2.2.2 true bt432.1 bt432.2.1 bt432.2.2.1 bt432.2.2.2.1 bt432.2.2.2.2 bt441.1 bt441.2.1 bt441.2.2.1 bt448.1 bt448.2.1 bt448.2.2.1) else ((laws_loLedger.f k bt448.1 bt448.2.1 bt448.2.2.1 bt441.1 bt441.2.1 bt441.2.2.1).bind fun t455 => (if t455 = true then ((spec_LedgerOk.f k bt432.1 bt432.2.1 bt432.2.2.1).bind fun t456 => (if t456 = true then ((spec_FracOk.f k bt432.2.2.2.1 bt432.2.2.2.2).bind fun t457 => (laws_FnPay.j0 k bt441.2.2.2 bt448.2.2.2 (!t457) bt432.1 bt432.2.1 bt432.2.2.1 bt432.2.2.2.1 bt432.2.2.2.2 bt441.1 bt441.2.1 bt441.2.2.1 bt448.1 bt448.2.1 bt448.2.2.1)) else (laws_FnPay.j0 k bt441.2.2.2 bt448.2.2.2 true bt432.1 bt432.2.1 bt432.2.2.1 bt432.2.2.2.1 bt432.2.2.2.2 bt441.1 bt441.2.1 bt441.2.2.1 bt448.1 bt448.2.1 bt448.2.2.1))) else (laws_FnPay.j0 k bt441.2.2.2 bt448.2.2.2 true bt432.1 bt432.2.1 bt432.2.2.1 bt432.2.2.2.1 bt432.2.2.2.2 bt441.1 bt441.2.1 bt441.2.2.1 bt448.1 bt448.2.1 bt448.2.2.1)))))))) = some r := h
 clear h
 by_cases c2 : (l0.length : Int) > 1048576
 ·rw [if_pos c2] at H
  have c2b0 : decide (1048576 < (l0.length : Int)) = true := decide_eq_true c2
  have c2b1 : decide (1048576 < l0.length) = true := decide_eq_true (by omega)
  clear c2
  obtain rfl := Option.some.inj H
  go_enter Try.func10, Try.ntmps10
  go_wp2
  go_ret
  exact ⟨by first | rfl | (simp [errW_none, errW_some] <;> rfl) | (simp [*, errW_none, errW_some] <;> rfl), by repeat (first | (with_reducible first | exact HB.out | apply below_alloc | apply yP | apply below_drew1) | exact HB.out)⟩
 ·rw [if_neg c2] at H
  have c2b0 : decide (1048576 < (l0.length : Int)) = false := decide_eq_false c2
  have c2b1 : decide (1048576 < l0.length) = false := decide_eq_false (by omega)
  clear c2
  replace H := Option.bind_eq_some_iff.mp H
  obtain ⟨⟨t432, t433, t434, t437, t438⟩, A30, H⟩ := H
  replace H : ((spec_LedgerPay.f k t432 t433 t434 t437 t438).bind fun bt441 => ((impl_LedgerPay.f k t432 t433 t434 t437 t438).bind fun bt448 => (if (bt448.2.2.2 != bt441.2.2.2) = true then (laws_FnPay.j0 k bt441.2.2.2 bt448.2.2.2 true t432 t433 t434 t437 t438 bt441.1 bt441.2.1 bt441.2.2.1 bt448.1 bt448.2.1 bt448.2.2.1) else ((laws_loLedger.f k bt448.1 bt448.2.1 bt448.2.2.1 bt441.1 bt441.2.1 bt441.2.2.1).bind fun t455 => (if t455 = true then ((spec_LedgerOk.f k t432 t433 t434).bind fun t456 => (if t456 = true then ((spec_FracOk.f k t437 t438).bind fun t457 => (laws_FnPay.j0 k bt441.2.2.2 bt448.2.2.2 (!t457) t432 t433 t434 t437 t438 bt441.1 bt441.2.1 bt441.2.2.1 bt448.1 bt448.2.1 bt448.2.2.1)) else (laws_FnPay.j0 k bt441.2.2.2 bt448.2.2.2 true t432 t433 t434 t437 t438 bt441.1 bt441.2.1 bt441.2.2.1 bt448.1 bt448.2.1 bt448.2.2.1))) else (laws_FnPay.j0 k bt441.2.2.2 bt448.2.2.2 true t432 t433 t434 t437 t438 bt441.1 bt441.2.1 bt441.2.2.1 bt448.1 bt448.2.1 bt448.2.2.1)))))) = some r := H
  have A3 := Aside0.mk A30
  clear A30
  replace H := Option.bind_eq_some_iff.mp H
  obtain ⟨⟨t441, t442, t443, t446⟩, A40, H⟩ := H
  replace H : ((impl_LedgerPay.f k t432 t433 t434 t437 t438).bind fun bt448 => (if (bt448.2.2.2 != t446) = true then (laws_FnPay.j0 k t446 bt448.2.2.2 true t432 t433 t434 t437 t438 t441 t442 t443 bt448.1 bt448.2.1 bt448.2.2.1) else ((laws_loLedger.f k bt448.1 bt448.2.1 bt448.2.2.1 t441 t442 t443).bind fun t455 => (if t455 = true then ((spec_LedgerOk.f k t432 t433 t434).bind fun t456 => (if t456 = true then ((spec_FracOk.f k t437 t438).bind fun t457 => (laws_FnPay.j0 k t446 bt448.2.2.2 (!t457) t432 t433 t434 t437 t438 t441 t442 t443 bt448.1 bt448.2.1 bt448.2.2.1)) else (laws_FnPay.j0 k t446 bt448.2.2.2 true t432 t433 t434 t437 t438 t441 t442 t443 bt448.1 bt448.2.1 bt448.2.2.1))) else (laws_FnPay.j0 k t446 bt448.2.2.2 true t432 t433 t434 t437 t438 t441 t442 t443 bt448.1 bt448.2.1 bt448.2.2.1))))) = some r := H
  have A4 := Aside0.mk A40
  clear A40
  replace H := Option.bind_eq_some_iff.mp H
  obtain ⟨⟨t448, t449, t450, t453⟩, A50, H⟩ := H
  replace H : (if (t453 != t446) = true then (laws_FnPay.j0 k t446 t453 true t432 t433 t434 t437 t438 t441 t442 t443 t448 t449 t450) else ((laws_loLedger.f k t448 t449 t450 t441 t442 t443).bind fun t455 => (if t455 = true then ((spec_LedgerOk.f k t432 t433 t434).bind fun t456 => (if t456 = true then ((spec_FracOk.f k t437 t438).bind fun t457 => (laws_FnPay.j0 k t446 t453 (!t457) t432 t433 t434 t437 t438 t441 t442 t443 t448 t449 t450)) else (laws_FnPay.j0 k t446 t453 true t432 t433 t434 t437 t438 t441 t442 t443 t448 t449 t450))) else (laws_FnPay.j0 k t446 t453 true t432 t433 t434 t437 t438 t441 t442 t443 t448 t449 t450)))) = some r := H
  have A5 := Aside0.mk A50
  clear A50
  have HC6 := Aside0.mk H
  clear H
  go_enter Try.func10, Try.ntmps10
  go_upto_region 6 with (first | ((with_reducible refine gate_callee (f := 26) rfl ?_); refine goesL_ (some 16) rfl rfl Try.func26 (by kernel_rfl) rfl #[.slice A0 l0.length c0] rfl (by (try simp only [List.map_toArray, List.map_cons, List.map_nil]); first | done | rfl | (simp only [List.length_drop, List.length_take]; rfl)) ?_; (with_reducible refine (spec_DrawLedgerPay.calls k _ _ l0 t432 t433 t434 t437 t438 _ ?side1 ?side2 A3.out).mono ?_); (case side1 => repeat (first | exact HR0.out | (with_reducible refine Kd.C_alloc ?_ _) | (with_reducible refine Kd.C_drewN ?_ _) | (with_reducible refine Kd.C_drew ?_))); (case side2 => exact HC0.out); rintro e w7 ⟨v435, rfl, ho0, hb⟩; refine ⟨_, rfl, ?_⟩; have n0_ := yM (Kd.R_lower ho0 (below_size (by repeat (first | (with_reducible first | exact HB.out | apply below_alloc | apply yP | apply below_drew1) | exact HB.out)))); have n1_ := yM (below_step (by repeat (first | (with_reducible first | exact HB.out | apply below_alloc | apply yP | apply below_drew1) | exact HB.out)) hb); clear HB; have HO436 := n0_; have HB := n1_; clear n0_ n1_; (try clear hb); (try clear hb2); (try clear hk); (try clear hi); (try clear ho0)) | ((with_reducible refine gate_dst (N := 3) rfl ?_); (try (refine gate_guard (by rfl) ?_; dsimp only)); refine box_event ?hg (N := 3) ?hd (cs := #[.int .i64 0, .int .i64 0, .slice none 0 0]) (t := 32) ?hr ?_; (case hd => rfl); (case hg => rfl); (case hr => first | (go_simp; done) | (go_simp; rfl)); intro gb439 hg w8 hbox hb; have n0_ := yM (Kd.R_below (by (with_reducible repeat (first | apply Kd.R_alloc | apply Kd.R_drewN | apply Kd.R_drew)); exact HO436.out) hb); have n1_ := yM (below_step (by repeat (first | (with_reducible first | exact HB.out | apply below_alloc | apply yP | apply below_drew1) | exact HB.out)) hb); have n2_ := yM (hbox); have n3_ := yM ((by rw [hg]; exact (below_size (by repeat (first | (with_reducible first | exact HB.out | apply below_alloc | apply yP | apply below_drew1) | exact HB.out))) : w.heap.size ≤ gb439)); have n4_ := yM ((by rw [hg]; exact (below_size (by repeat (first | (with_reducible first | exact HB.out | apply below_alloc | apply yP | apply below_drew1) | exact HB.out))) : w.heap.size ≤ gb439)); clear HO436; clear HB; have HO436 := n0_; have HB := n1_; have BK439 := n2_; have GW439 := n3_; have GE439 := n4_; clear n0_ n1_ n2_ n3_ n4_; clear hb hbox hg) | ((with_reducible refine gate_dst (N := 4) rfl ?_); (try (refine gate_guard (by rfl) ?_; dsimp only)); refine box_event ?hg (N := 4) ?hd (cs := #[.int .i64 0, .int .i64 0]) (t := 29) ?hr ?_; (case hd => rfl); (case hg => rfl); (case hr => first | (go_simp; done) | (go_simp; rfl)); intro gb440 hg w9 hbox hb; have n0_ := yM (Kd.R_below (Kd.R_elderB (by (with_reducible repeat (first | apply Kd.R_alloc | apply Kd.R_drewN | apply Kd.R_drew)); exact HO436.out) gb440 (Nat.le_of_eq hg.symm)) hb); have n1_ := yM (blk_below (g := gb439) (o := .cells #[.int .i64 0, .int .i64 0, .slice none 0 0] 32 (0, 0)) (by (with_reducible repeat (first | refine yN ?_ _ | refine yD ?_ | refine yA ?_ _)); exact BK439.out) hb); have n2_ := yM (below_step (by repeat (first | (with_reducible first | exact HB.out | apply below_alloc | apply yP | apply below_drew1 | refine yS ?_ GE439.out) | exact HB.out)) hb); have n3_ := yM (hbox); have n4_ := yM ((by rw [hg]; exact (below_size (by repeat (first | (with_reducible first | exact HB.out | apply below_alloc | apply yP | apply below_drew1 | refine yS ?_ GE439.out) | exact HB.out))) : w.heap.size ≤ gb440)); have n5_ := yM ((by rw [hg]; exact (below_size (by repeat (first | (with_reducible first | exact HB.out | apply below_alloc | apply yP | apply below_drew1 | refine yS ?_ GE439.out) | exact HB.out))) : w.heap.size ≤ gb440)); have n6_ := yM ((by rw [hg]; exact Nat.ne_of_lt (blk_lt (g := gb439) (o := .cells #[.int .i64 0, .int .i64 0, .slice none 0 0] 32 (0, 0)) (by (with_reducible repeat (first | refine yN ?_ _ | refine yD ?_ | refine yA ?_ _)); exact BK439.out)) : gb439 ≠ gb440)); have n7_ := yM ((by rw [hg]; exact Nat.ne_of_gt (blk_lt (g := gb439) (o := .cells #[.int .i64 0, .int .i64 0, .slice none 0 0] 32 (0, 0)) (by (with_reducible repeat (first | refine yN ?_ _ | refine yD ?_ | refine yA ?_ _)); exact BK439.out)) : gb440 ≠ gb439)); clear HO436; clear BK439; clear HB; have HO436 := n0_; have BK439 := n1_; have HB := n2_; have BK440 := n3_; have GW440 := n4_; have GE440 := n5_; have NB439_440 := n6_; have NB440_439 := n7_; clear n0_ n1_ n2_ n3_ n4_ n5_ n6_ n7_; clear hb hbox hg; have hnb10 := NB439_440.out; have hnc10 := NB440_439.out; have hcz11_0 : w9.cell? ⟨gb439, 0, none⟩ = some (.int .i64 0) := (blk_cell BK439.out 0).trans rfl; have hcz11_1 : w9.cell? ⟨gb439, 1, none⟩ = some (.int .i64 0) := (blk_cell BK439.out 1).trans rfl; have hcz11_2 : w9.cell? ⟨gb439, 2, none⟩ = some (.slice none 0 0) := (blk_cell BK439.out 2).trans rfl; have hfz11_0 := blk_frozen BK439.out 0; have hfz11_1 := blk_frozen BK439.out 1; have hfz11_2 := blk_frozen BK439.out 2; obtain ⟨Ao12, co12, eo12⟩ := Kd.R_slice HO436.out; subst eo12; have hcz13_0 : w9.cell? ⟨gb440, 0, none⟩ = some (.int .i64 0) := (blk_cell BK440.out 0).trans rfl; have hcz13_1 : w9.cell? ⟨gb440, 1, none⟩ = some (.int .i64 0) := (blk_cell BK440.out 1).trans rfl; have hfz13_0 := blk_frozen BK440.out 0; have hfz13_1 := blk_frozen BK440.out 1) | ((with_reducible refine gate_callee (f := 27) rfl ?_); refine goesL_ (some 22) rfl rfl Try.func27 (by kernel_rfl) rfl #[.agg #[.int .i64 t432, .int .i64 t433, .slice Ao12 t434.length co12], .agg #[.int .i64 t437, .int .i64 t438]] rfl (by (try simp only [List.map_toArray, List.map_cons, List.map_nil]); first | done | rfl | (simp only [List.length_drop, List.length_take]; rfl)) ?_; (with_reducible refine (spec_LedgerPay.calls k t432 t433 _ _ t434 t437 t438 t441 t442 t443 t446 _ ?side1 ?side2 A4.out).mono ?_); (case side1 => refine (Kd.R_reads' (e := 29) (base := w.heap.size) (ok := fun k_ => (True ∧ k_ ≠ gb440)) (n := t434.length) (c := co12) ?_).2.2; exact (by (with_reducible repeat (first | apply Kd.R_alloc | apply Kd.R_drewN | apply Kd.R_drew)); exact (Kd.R_mono (Kd.R_mono (Kd.R_far (p := ⟨gb440, 1, none⟩) (Kd.R_far (p := ⟨gb440, 0, none⟩) (Kd.R_far (p := ⟨gb439, 2, none⟩) (Kd.R_far (p := ⟨gb439, 1, none⟩) (Kd.R_far (p := ⟨gb439, 0, none⟩) (Kd.R_mono (Kd.R_types HO436.out BK439.out (by decide)) (fun k_ hk => (⟨hk, hk.1.2⟩ : _ ∧ k_ ≠ gb440))) (fun _ hk => hk.1.2) (.int .i64 t432)) (fun _ hk => hk.1.2) (.int .i64 t433)) (fun _ hk => hk.1.2) (.slice Ao12 t434.length co12)) (fun _ hk => hk.2) (.int .i64 t437)) (fun _ hk => hk.2) (.int .i64 t438)) (fun _ h_ => h_.1)) (fun _ h_ => h_.1)))); (case side2 => exact (Kd.R_reads' HO436.out).2.1); rintro e w14 ⟨v444, rfl, ho0, hb⟩; refine ⟨_, rfl, ?_⟩; have n0_ := yM (Kd.R_elder' (by (with_reducible repeat (first | apply Kd.R_alloc | apply Kd.R_drewN | apply Kd.R_drew)); exact (Kd.R_mono (Kd.R_mono (Kd.R_far (p := ⟨gb440, 1, none⟩) (Kd.R_far (p := ⟨gb440, 0, none⟩) (Kd.R_far (p := ⟨gb439, 2, none⟩) (Kd.R_far (p := ⟨gb439, 1, none⟩) (Kd.R_far (p := ⟨gb439, 0, none⟩) (Kd.R_mono (Kd.R_types HO436.out BK439.out (by decide)) (fun k_ hk => (⟨hk, hk.1.2⟩ : _ ∧ k_ ≠ gb440))) (fun _ hk => hk.1.2) (.int .i64 t432)) (fun _ hk => hk.1.2) (.int .i64 t433)) (fun _ hk => hk.1.2) (.slice Ao12 t434.length co12)) (fun _ hk => hk.2) (.int .i64 t437)) (fun _ hk => hk.2) (.int .i64 t438)) (fun _ h_ => h_.1)) (fun _ h_ => h_.1))) (Kd.R_base ho0) hb); have n1_ := yM (Kd.R_lower (Kd.R_newB (Kd.R_new' ho0 (Kd.R_lt (by (with_reducible repeat (first | apply Kd.R_alloc | apply Kd.R_drewN | apply Kd.R_drew)); exact (Kd.R_mono (Kd.R_mono (Kd.R_far (p := ⟨gb440, 1, none⟩) (Kd.R_far (p := ⟨gb440, 0, none⟩) (Kd.R_far (p := ⟨gb439, 2, none⟩) (Kd.R_far (p := ⟨gb439, 1, none⟩) (Kd.R_far (p := ⟨gb439, 0, none⟩) (Kd.R_mono (Kd.R_types HO436.out BK439.out (by decide)) (fun k_ hk => (⟨hk, hk.1.2⟩ : _ ∧ k_ ≠ gb440))) (fun _ hk => hk.1.2) (.int .i64 t432)) (fun _ hk => hk.1.2) (.int .i64 t433)) (fun _ hk => hk.1.2) (.slice Ao12 t434.length co12)) (fun _ hk => hk.2) (.int .i64 t437)) (fun _ hk => hk.2) (.int .i64 t438)) (fun _ h_ => h_.1)) (fun _ h_ => h_.1))))) (g := gb440) (o := .cells #[.int .i64 t437, .int .i64 t438] 29 (0, 0)) (by (with_reducible repeat (first | refine yN ?_ _ | refine yD ?_ | refine yA ?_ _)); refine blk_put (cs := #[.int .i64 t437, .int .i64 0]) ?_ 1 _ rfl; (with_reducible repeat (first | refine yN ?_ _ | refine yD ?_ | refine yA ?_ _)); refine blk_put (cs := #[.int .i64 0, .int .i64 0]) ?_ 0 _ rfl; (with_reducible repeat (first | refine yN ?_ _ | refine yD ?_ | refine yA ?_ _)); refine blk_far ?_ NB440_439.out _; (with_reducible repeat (first | refine yN ?_ _ | refine yD ?_ | refine yA ?_ _)); refine blk_far ?_ NB440_439.out _; (with_reducible repeat (first | refine yN ?_ _ | refine yD ?_ | refine yA ?_ _)); refine blk_far ?_ NB440_439.out _; (with_reducible repeat (first | refine yN ?_ _ | refine yD ?_ | refine yA ?_ _)); exact BK440.out)) (below_size (by repeat (first | (with_reducible first | exact HB.out | apply below_alloc | apply yP | apply below_drew1 | refine yS ?_ GE439.out | refine yS ?_ GE440.out) | exact HB.out)))); have n2_ := yM (blk_below (g := gb439) (o := .cells #[.int .i64 t432, .int .i64 t433, .slice Ao12 t434.length co12] 32 (0, 0)) (by (with_reducible repeat (first | refine yN ?_ _ | refine yD ?_ | refine yA ?_ _)); refine blk_far ?_ NB439_440.out _; (with_reducible repeat (first | refine yN ?_ _ | refine yD ?_ | refine yA ?_ _)); refine blk_far ?_ NB439_440.out _; (with_reducible repeat (first | refine yN ?_ _ | refine yD ?_ | refine yA ?_ _)); refine blk_put (cs := #[.int .i64 t432, .int .i64 t433, .slice none 0 0]) ?_ 2 _ rfl; (with_reducible repeat (first | refine yN ?_ _ | refine yD ?_ | refine yA ?_ _)); refine blk_put (cs := #[.int .i64 t432, .int .i64 0, .slice none 0 0]) ?_ 1 _ rfl; (with_reducible repeat (first | refine yN ?_ _ | refine yD ?_ | refine yA ?_ _)); refine blk_put (cs := #[.int .i64 0, .int .i64 0, .slice none 0 0]) ?_ 0 _ rfl; (with_reducible repeat (first | refine yN ?_ _ | refine yD ?_ | refine yA ?_ _)); exact BK439.out) hb); have n3_ := yM (blk_below (g := gb440) (o := .cells #[.int .i64 t437, .int .i64 t438] 29 (0, 0)) (by (with_reducible repeat (first | refine yN ?_ _ | refine yD ?_ | refine yA ?_ _)); refine blk_put (cs := #[.int .i64 t437, .int .i64 0]) ?_ 1 _ rfl; (with_reducible repeat (first | refine yN ?_ _ | refine yD ?_ | refine yA ?_ _)); refine blk_put (cs := #[.int .i64 0, .int .i64 0]) ?_ 0 _ rfl; (with_reducible repeat (first | refine yN ?_ _ | refine yD ?_ | refine yA ?_ _)); refine blk_far ?_ NB440_439.out _; (with_reducible repeat (first | refine yN ?_ _ | refine yD ?_ | refine yA ?_ _)); refine blk_far ?_ NB440_439.out _; (with_reducible repeat (first | refine yN ?_ _ | refine yD ?_ | refine yA ?_ _)); refine blk_far ?_ NB440_439.out _; (with_reducible repeat (first | refine yN ?_ _ | refine yD ?_ | refine yA ?_ _)); exact BK440.out) hb); have n4_ := yM (below_step (by repeat (first | (with_reducible first | exact HB.out | apply below_alloc | apply yP | apply below_drew1 | refine yS ?_ GE439.out | refine yS ?_ GE440.out) | exact HB.out)) hb); clear HO436; clear BK439; clear BK440; clear HB; have HO436 := n0_; have HO445 := n1_; have BK439 := n2_; have BK440 := n3_; have HB := n4_; clear n0_ n1_ n2_ n3_ n4_; (try clear hb); (try clear hb2); (try clear hk); (try clear hi); (try clear ho0)) | ((with_reducible refine gate_dst (N := 5) rfl ?_); (try (refine gate_guard (by rfl) ?_; dsimp only)); refine box_event ?hg (N := 5) ?hd (cs := #[.int .i64 0, .int .i64 0, .slice none 0 0]) (t := 32) ?hr ?_; (case hd => rfl); (case hg => rfl); (case hr => first | (go_simp; done) | (go_simp; rfl)); intro gb447 hg w15 hbox hb; have n0_ := yM (Kd.R_below (by (with_reducible repeat (first | apply Kd.R_alloc | apply Kd.R_drewN | apply Kd.R_drew)); exact HO436.out) hb); have n1_ := yM (Kd.R_below (by (with_reducible repeat (first | apply Kd.R_alloc | apply Kd.R_drewN | apply Kd.R_drew)); exact HO445.out) hb); have n2_ := yM (blk_below (g := gb439) (o := .cells #[.int .i64 t432, .int .i64 t433, .slice Ao12 t434.length co12] 32 (0, 0)) (by (with_reducible repeat (first | refine yN ?_ _ | refine yD ?_ | refine yA ?_ _)); exact BK439.out) hb); have n3_ := yM (blk_below (g := gb440) (o := .cells #[.int .i64 t437, .int .i64 t438] 29 (0, 0)) (by (with_reducible repeat (first | refine yN ?_ _ | refine yD ?_ | refine yA ?_ _)); exact BK440.out) hb); have n4_ := yM (below_step (by repeat (first | (with_reducible first | exact HB.out | apply below_alloc | apply yP | apply below_drew1 | refine yS ?_ GE439.out | refine yS ?_ GE440.out) | exact HB.out)) hb); have n5_ := yM (hbox); have n6_ := yM ((by rw [hg]; exact (below_size (by repeat (first | (with_reducible first | exact HB.out | apply below_alloc | apply yP | apply below_drew1 | refine yS ?_ GE439.out | refine yS ?_ GE440.out) | exact HB.out))) : w.heap.size ≤ gb447)); have n7_ := yM ((by rw [hg]; exact (below_size (by repeat (first | (with_reducible first | exact HB.out | apply below_alloc | apply yP | apply below_drew1 | refine yS ?_ GE439.out | refine yS ?_ GE440.out) | exact HB.out))) : w.heap.size ≤ gb447)); have n8_ := yM ((by rw [hg]; exact Nat.ne_of_lt (blk_lt (g := gb439) (o := .cells #[.int .i64 t432, .int .i64 t433, .slice Ao12 t434.length co12] 32 (0, 0)) (by (with_reducible repeat (first | refine yN ?_ _ | refine yD ?_ | refine yA ?_ _)); exact BK439.out)) : gb439 ≠ gb447)); have n9_ := yM ((by rw [hg]; exact Nat.ne_of_gt (blk_lt (g := gb439) (o := .cells #[.int .i64 t432, .int .i64 t433, .slice Ao12 t434.length co12] 32 (0, 0)) (by (with_reducible repeat (first | refine yN ?_ _ | refine yD ?_ | refine yA ?_ _)); exact BK439.out)) : gb447 ≠ gb439)); have n10_ := yM ((by rw [hg]; exact Nat.ne_of_lt (blk_lt (g := gb440) (o := .cells #[.int .i64 t437, .int .i64 t438] 29 (0, 0)) (by (with_reducible repeat (first | refine yN ?_ _ | refine yD ?_ | refine yA ?_ _)); exact BK440.out)) : gb440 ≠ gb447)); have n11_ := yM ((by rw [hg]; exact Nat.ne_of_gt (blk_lt (g := gb440) (o := .cells #[.int .i64 t437, .int .i64 t438] 29 (0, 0)) (by (with_reducible repeat (first | refine yN ?_ _ | refine yD ?_ | refine yA ?_ _)); exact BK440.out)) : gb447 ≠ gb440)); clear HO436; clear HO445; clear BK439; clear BK440; clear HB; have HO436 := n0_; have HO445 := n1_; have BK439 := n2_; have BK440 := n3_; have HB := n4_; have BK447 := n5_; have GW447 := n6_; have GE447 := n7_; have NB439_447 := n8_; have NB447_439 := n9_; have NB440_447 := n10_; have NB447_440 := n11_; clear n0_ n1_ n2_ n3_ n4_ n5_ n6_ n7_ n8_ n9_ n10_ n11_; clear hb hbox hg; have hnb16 := NB447_439.out; have hnc16 := NB439_447.out; have hnb17 := NB447_440.out; have hnc17 := NB440_447.out; have hcz18_0 : w15.cell? ⟨gb447, 0, none⟩ = some (.int .i64 0) := (blk_cell BK447.out 0).trans rfl; have hcz18_1 : w15.cell? ⟨gb447, 1, none⟩ = some (.int .i64 0) := (blk_cell BK447.out 1).trans rfl; have hcz18_2 : w15.cell? ⟨gb447, 2, none⟩ = some (.slice none 0 0) := (blk_cell BK447.out 2).trans rfl; have hfz18_0 := blk_frozen BK447.out 0; have hfz18_1 := blk_frozen BK447.out 1; have hfz18_2 := blk_frozen BK447.out 2; obtain ⟨Ao19, co19, eo19⟩ := Kd.R_slice HO445.out; subst eo19; have hcz20_0 : w15.cell? ⟨gb439, 0, none⟩ = some (.int .i64 t432) := (blk_cell BK439.out 0).trans rfl; have hcz20_1 : w15.cell? ⟨gb439, 1, none⟩ = some (.int .i64 t433) := (blk_cell BK439.out 1).trans rfl; have hcz20_2 : w15.cell? ⟨gb439, 2, none⟩ = some (.slice Ao12 t434.length co12) := (blk_cell BK439.out 2).trans rfl; have hfz20_0 := blk_frozen BK439.out 0; have hfz20_1 := blk_frozen BK439.out 1; have hfz20_2 := blk_frozen BK439.out 2; have hcz21_0 : w15.cell? ⟨gb440, 0, none⟩ = some (.int .i64 t437) := (blk_cell BK440.out 0).trans rfl; have hcz21_1 : w15.cell? ⟨gb440, 1, none⟩ = some (.int .i64 t438) := (blk_cell BK440.out 1).trans rfl; have hfz21_0 := blk_frozen BK440.out 0; have hfz21_1 := blk_frozen BK440.out 1) | ((with_reducible refine gate_callee (f := 28) rfl ?_); refine goesL_ (some 28) rfl rfl Try.func28 (by kernel_rfl) rfl #[.agg #[.int .i64 t432, .int .i64 t433, .slice Ao12 t434.length co12], .agg #[.int .i64 t437, .int .i64 t438]] rfl (by (try simp only [List.map_toArray, List.map_cons, List.map_nil]); first | done | rfl | (simp only [List.length_drop, List.length_take]; rfl)) ?_; (with_reducible refine (impl_LedgerPay.calls k t432 t433 _ _ t434 t437 t438 t448 t449 t450 t453 _ ?side1 ?side2 A5.out).mono ?_); (case side1 => refine (Kd.R_reads' (e := 29) (base := w.heap.size) (ok := fun k_ => ((True ∧ k_ ≠ gb440) ∧ some k_ ≠ (.slice Ao19 t443.length co19 : Value).ownBlock)) (n := t434.length) (c := co12) ?_).2.2; exact (by (with_reducible repeat (first | apply Kd.R_alloc | apply Kd.R_drewN | apply Kd.R_drew)); exact (Kd.R_mono (Kd.R_far (p := ⟨gb447, 2, none⟩) (Kd.R_far (p := ⟨gb447, 1, none⟩) (Kd.R_far (p := ⟨gb447, 0, none⟩) (Kd.R_types HO436.out BK447.out (by decide)) (fun _ hk => hk.2) (.int .i64 t441)) (fun _ hk => hk.2) (.int .i64 t442)) (fun _ hk => hk.2) (.slice Ao19 t443.length co19)) (fun _ h_ => h_.1)))); (case side2 => exact (Kd.R_reads' HO436.out).2.1); rintro e w22 ⟨v451, rfl, ho0, hb⟩; refine ⟨_, rfl, ?_⟩; have n0_ := yM (Kd.R_below (by (with_reducible repeat (first | apply Kd.R_alloc | apply Kd.R_drewN | apply Kd.R_drew)); exact (Kd.R_mono (Kd.R_far (p := ⟨gb447, 2, none⟩) (Kd.R_far (p := ⟨gb447, 1, none⟩) (Kd.R_far (p := ⟨gb447, 0, none⟩) (Kd.R_types HO436.out BK447.out (by decide)) (fun _ hk => hk.2) (.int .i64 t441)) (fun _ hk => hk.2) (.int .i64 t442)) (fun _ hk => hk.2) (.slice Ao19 t443.length co19)) (fun _ h_ => h_.1))) hb); have n1_ := yM (Kd.R_below (by (with_reducible repeat (first | apply Kd.R_alloc | apply Kd.R_drewN | apply Kd.R_drew)); exact (Kd.R_mono (Kd.R_far (p := ⟨gb447, 2, none⟩) (Kd.R_far (p := ⟨gb447, 1, none⟩) (Kd.R_far (p := ⟨gb447, 0, none⟩) (Kd.R_types HO445.out BK447.out (by decide)) (fun _ hk => hk.2) (.int .i64 t441)) (fun _ hk => hk.2) (.int .i64 t442)) (fun _ hk => hk.2) (.slice Ao19 t443.length co19)) (fun _ h_ => h_.1))) hb); have n2_ := yM (Kd.V_lower (Kd.V_mono (ok' := fun k_ => some k_ ≠ (.slice Ao12 t434.length co12 : Value).ownBlock ∧ some k_ ≠ (.slice Ao19 t443.length co19 : Value).ownBlock ∧ k_ ≠ gb439 ∧ k_ ≠ gb440 ∧ k_ ≠ gb447) ho0 (fun k_ hk_ => ⟨(Kd.fresh' (Kd.R_lt (by (with_reducible repeat (first | apply Kd.R_alloc | apply Kd.R_drewN | apply Kd.R_drew)); exact (Kd.R_mono (Kd.R_far (p := ⟨gb447, 2, none⟩) (Kd.R_far (p := ⟨gb447, 1, none⟩) (Kd.R_far (p := ⟨gb447, 0, none⟩) (Kd.R_types HO436.out BK447.out (by decide)) (fun _ hk => hk.2) (.int .i64 t441)) (fun _ hk => hk.2) (.int .i64 t442)) (fun _ hk => hk.2) (.slice Ao19 t443.length co19)) (fun _ h_ => h_.1)))) k_ hk_), (Kd.fresh' (Kd.R_lt (by (with_reducible repeat (first | apply Kd.R_alloc | apply Kd.R_drewN | apply Kd.R_drew)); exact (Kd.R_mono (Kd.R_far (p := ⟨gb447, 2, none⟩) (Kd.R_far (p := ⟨gb447, 1, none⟩) (Kd.R_far (p := ⟨gb447, 0, none⟩) (Kd.R_types HO445.out BK447.out (by decide)) (fun _ hk => hk.2) (.int .i64 t441)) (fun _ hk => hk.2) (.int .i64 t442)) (fun _ hk => hk.2) (.slice Ao19 t443.length co19)) (fun _ h_ => h_.1)))) k_ hk_), (Kd.freshB (g := gb439) (o := .cells #[.int .i64 t432, .int .i64 t433, .slice Ao12 t434.length co12] 32 (0, 0)) (by (with_reducible repeat (first | refine yN ?_ _ | refine yD ?_ | refine yA ?_ _)); refine blk_far ?_ NB439_447.out _; (with_reducible repeat (first | refine yN ?_ _ | refine yD ?_ | refine yA ?_ _)); refine blk_far ?_ NB439_447.out _; (with_reducible repeat (first | refine yN ?_ _ | refine yD ?_ | refine yA ?_ _)); refine blk_far ?_ NB439_447.out _; (with_reducible repeat (first | refine yN ?_ _ | refine yD ?_ | refine yA ?_ _)); exact BK439.out) k_ hk_), (Kd.freshB (g := gb440) (o := .cells #[.int .i64 t437, .int .i64 t438] 29 (0, 0)) (by (with_reducible repeat (first | refine yN ?_ _ | refine yD ?_ | refine yA ?_ _)); refine blk_far ?_ NB440_447.out _; (with_reducible repeat (first | refine yN ?_ _ | refine yD ?_ | refine yA ?_ _)); refine blk_far ?_ NB440_447.out _; (with_reducible repeat (first | refine yN ?_ _ | refine yD ?_ | refine yA ?_ _)); refine blk_far ?_ NB440_447.out _; (with_reducible repeat (first | refine yN ?_ _ | refine yD ?_ | refine yA ?_ _)); exact BK440.out) k_ hk_), (Kd.freshB (g := gb447) (o := .cells #[.int .i64 t441, .int .i64 t442, .slice Ao19 t443.length co19] 32 (0, 0)) (by (with_reducible repeat (first | refine yN ?_ _ | refine yD ?_ | refine yA ?_ _)); refine blk_put (cs := #[.int .i64 t441, .int .i64 t442, .slice none 0 0]) ?_ 2 _ rfl; (with_reducible repeat (first | refine yN ?_ _ | refine yD ?_ | refine yA ?_ _)); refine blk_put (cs := #[.int .i64 t441, .int .i64 0, .slice none 0 0]) ?_ 1 _ rfl; (with_reducible repeat (first | refine yN ?_ _ | refine yD ?_ | refine yA ?_ _)); refine blk_put (cs := #[.int .i64 0, .int .i64 0, .slice none 0 0]) ?_ 0 _ rfl; (with_reducible repeat (first | refine yN ?_ _ | refine yD ?_ | refine yA ?_ _)); exact BK447.out) k_ hk_)⟩)) (below_size (by repeat (first | (with_reducible first | exact HB.out | apply below_alloc | apply yP | apply below_drew1 | refine yS ?_ GE439.out | refine yS ?_ GE440.out | refine yS ?_ GE447.out) | exact HB.out)))); have n3_ := yM (blk_below (g := gb439) (o := .cells #[.int .i64 t432, .int .i64 t433, .slice Ao12 t434.length co12] 32 (0, 0)) (by (with_reducible repeat (first | refine yN ?_ _ | refine yD ?_ | refine yA ?_ _)); refine blk_far ?_ NB439_447.out _; (with_reducible repeat (first | refine yN ?_ _ | refine yD ?_ | refine yA ?_ _)); refine blk_far ?_ NB439_447.out _; (with_reducible repeat (first | refine yN ?_ _ | refine yD ?_ | refine yA ?_ _)); refine blk_far ?_ NB439_447.out _; (with_reducible repeat (first | refine yN ?_ _ | refine yD ?_ | refine yA ?_ _)); exact BK439.out) hb); have n4_ := yM (blk_below (g := gb440) (o := .cells #[.int .i64 t437, .int .i64 t438] 29 (0, 0)) (by (with_reducible repeat (first | refine yN ?_ _ | refine yD ?_ | refine yA ?_ _)); refine blk_far ?_ NB440_447.out _; (with_reducible repeat (first | refine yN ?_ _ | refine yD ?_ | refine yA ?_ _)); refine blk_far ?_ NB440_447.out _; (with_reducible repeat (first | refine yN ?_ _ | refine yD ?_ | refine yA ?_ _)); refine blk_far ?_ NB440_447.out _; (with_reducible repeat (first | refine yN ?_ _ | refine yD ?_ | refine yA ?_ _)); exact BK440.out) hb); have n5_ := yM (blk_below (g := gb447) (o := .cells #[.int .i64 t441, .int .i64 t442, .slice Ao19 t443.length co19] 32 (0, 0)) (by (with_reducible repeat (first | refine yN ?_ _ | refine yD ?_ | refine yA ?_ _)); refine blk_put (cs := #[.int .i64 t441, .int .i64 t442, .slice none 0 0]) ?_ 2 _ rfl; (with_reducible repeat (first | refine yN ?_ _ | refine yD ?_ | refine yA ?_ _)); refine blk_put (cs := #[.int .i64 t441, .int .i64 0, .slice none 0 0]) ?_ 1 _ rfl; (with_reducible repeat (first | refine yN ?_ _ | refine yD ?_ | refine yA ?_ _)); refine blk_put (cs := #[.int .i64 0, .int .i64 0, .slice none 0 0]) ?_ 0 _ rfl; (with_reducible repeat (first | refine yN ?_ _ | refine yD ?_ | refine yA ?_ _)); exact BK447.out) hb); have n6_ := yM (below_step (by repeat (first | (with_reducible first | exact HB.out | apply below_alloc | apply yP | apply below_drew1 | refine yS ?_ GE439.out | refine yS ?_ GE440.out | refine yS ?_ GE447.out) | exact HB.out)) hb); clear HO436; clear HO445; clear BK439; clear BK440; clear BK447; clear HB; have HO436 := n0_; have HO445 := n1_; have HO452 := n2_; have BK439 := n3_; have BK440 := n4_; have BK447 := n5_; have HB := n6_; clear n0_ n1_ n2_ n3_ n4_ n5_ n6_; (try clear hb); (try clear hb2); (try clear hk); (try clear hi); (try clear ho0)) | ((with_reducible refine gate_dst (N := 7) rfl ?_); (try (refine gate_guard (by rfl) ?_; dsimp only)); refine box_event ?hg (N := 7) ?hd (cs := #[.int .i64 0, .int .i64 0, .slice none 0 0]) (t := 32) ?hr ?_; (case hd => rfl); (case hg => rfl); (case hr => first | (go_simp; done) | (go_simp; rfl)); intro gb454 hg w23 hbox hb; have n0_ := yM (Kd.R_below (by (with_reducible repeat (first | apply Kd.R_alloc | apply Kd.R_drewN | apply Kd.R_drew)); exact HO436.out) hb); have n1_ := yM (Kd.R_below (by (with_reducible repeat (first | apply Kd.R_alloc | apply Kd.R_drewN | apply Kd.R_drew)); exact HO445.out) hb); have n2_ := yM (Kd.V_below (Kd.V_elderB (by (with_reducible repeat (first | apply Kd.V_alloc | apply Kd.V_drewN | apply Kd.V_drew)); exact HO452.out) gb454 (Nat.le_of_eq hg.symm)) hb); have n3_ := yM (blk_below (g := gb439) (o := .cells #[.int .i64 t432, .int .i64 t433, .slice Ao12 t434.length co12] 32 (0, 0)) (by (with_reducible repeat (first | refine yN ?_ _ | refine yD ?_ | refine yA ?_ _)); exact BK439.out) hb); have n4_ := yM (blk_below (g := gb440) (o := .cells #[.int .i64 t437, .int .i64 t438] 29 (0, 0)) (by (with_reducible repeat (first | refine yN ?_ _ | refine yD ?_ | refine yA ?_ _)); exact BK440.out) hb); have n5_ := yM (blk_below (g := gb447) (o := .cells #[.int .i64 t441, .int .i64 t442, .slice Ao19 t443.length co19] 32 (0, 0)) (by (with_reducible repeat (first | refine yN ?_ _ | refine yD ?_ | refine yA ?_ _)); exact BK447.out) hb); have n6_ := yM (below_step (by repeat (first | (with_reducible first | exact HB.out | apply below_alloc | apply yP | apply below_drew1 | refine yS ?_ GE439.out | refine yS ?_ GE440.out | refine yS ?_ GE447.out) | exact HB.out)) hb); have n7_ := yM (hbox); have n8_ := yM ((by rw [hg]; exact (below_size (by repeat (first | (with_reducible first | exact HB.out | apply below_alloc | apply yP | apply below_drew1 | refine yS ?_ GE439.out | refine yS ?_ GE440.out | refine yS ?_ GE447.out) | exact HB.out))) : w.heap.size ≤ gb454)); have n9_ := yM ((by rw [hg]; exact (below_size (by repeat (first | (with_reducible first | exact HB.out | apply below_alloc | apply yP | apply below_drew1 | refine yS ?_ GE439.out | refine yS ?_ GE440.out | refine yS ?_ GE447.out) | exact HB.out))) : w.heap.size ≤ gb454)); have n10_ := yM ((by rw [hg]; exact Nat.ne_of_lt (blk_lt (g := gb439) (o := .cells #[.int .i64 t432, .int .i64 t433, .slice Ao12 t434.length co12] 32 (0, 0)) (by (with_reducible repeat (first | refine yN ?_ _ | refine yD ?_ | refine yA ?_ _)); exact BK439.out)) : gb439 ≠ gb454)); have n11_ := yM ((by rw [hg]; exact Nat.ne_of_gt (blk_lt (g := gb439) (o := .cells #[.int .i64 t432, .int .i64 t433, .slice Ao12 t434.length co12] 32 (0, 0)) (by (with_reducible repeat (first | refine yN ?_ _ | refine yD ?_ | refine yA ?_ _)); exact BK439.out)) : gb454 ≠ gb439)); have n12_ := yM ((by rw [hg]; exact Nat.ne_of_lt (blk_lt (g := gb440) (o := .cells #[.int .i64 t437, .int .i64 t438] 29 (0, 0)) (by (with_reducible repeat (first | refine yN ?_ _ | refine yD ?_ | refine yA ?_ _)); exact BK440.out)) : gb440 ≠ gb454)); have n13_ := yM ((by rw [hg]; exact Nat.ne_of_gt (blk_lt (g := gb440) (o := .cells #[.int .i64 t437, .int .i64 t438] 29 (0, 0)) (by (with_reducible repeat (first | refine yN ?_ _ | refine yD ?_ | refine yA ?_ _)); exact BK440.out)) : gb454 ≠ gb440)); have n14_ := yM ((by rw [hg]; exact Nat.ne_of_lt (blk_lt (g := gb447) (o := .cells #[.int .i64 t441, .int .i64 t442, .slice Ao19 t443.length co19] 32 (0, 0)) (by (with_reducible repeat (first | refine yN ?_ _ | refine yD ?_ | refine yA ?_ _)); exact BK447.out)) : gb447 ≠ gb454)); have n15_ := yM ((by rw [hg]; exact Nat.ne_of_gt (blk_lt (g := gb447) (o := .cells #[.int .i64 t441, .int .i64 t442, .slice Ao19 t443.length co19] 32 (0, 0)) (by (with_reducible repeat (first | refine yN ?_ _ | refine yD ?_ | refine yA ?_ _)); exact BK447.out)) : gb454 ≠ gb447)); clear HO436; clear HO445; clear HO452; clear BK439; clear BK440; clear BK447; clear HB; have HO436 := n0_; have HO445 := n1_; have HO452 := n2_; have BK439 := n3_; have BK440 := n4_; have BK447 := n5_; have HB := n6_; have BK454 := n7_; have GW454 := n8_; have GE454 := n9_; have NB439_454 := n10_; have NB454_439 := n11_; have NB440_454 := n12_; have NB454_440 := n13_; have NB447_454 := n14_; have NB454_447 := n15_; clear n0_ n1_ n2_ n3_ n4_ n5_ n6_ n7_ n8_ n9_ n10_ n11_ n12_ n13_ n14_ n15_; clear hb hbox hg; have hnb24 := NB454_439.out; have hnc24 := NB439_454.out; have hnb25 := NB454_440.out; have hnc25 := NB440_454.out; have hnb26 := NB454_447.out; have hnc26 := NB447_454.out; have hcz27_0 : w23.cell? ⟨gb454, 0, none⟩ = some (.int .i64 0) := (blk_cell BK454.out 0).trans rfl; have hcz27_1 : w23.cell? ⟨gb454, 1, none⟩ = some (.int .i64 0) := (blk_cell BK454.out 1).trans rfl; have hcz27_2 : w23.cell? ⟨gb454, 2, none⟩ = some (.slice none 0 0) := (blk_cell BK454.out 2).trans rfl; have hfz27_0 := blk_frozen BK454.out 0; have hfz27_1 := blk_frozen BK454.out 1; have hfz27_2 := blk_frozen BK454.out 2; obtain ⟨Ao28, co28, eo28⟩ := Kd.V_slice HO452.out; subst eo28))
  (try simp only [Act.put, setIfInBounds_toArray, set_cons_zero, set_cons_succ])
  go_cut [49] (fun v49 wc => ∃ (kq : Nat) (x49_5 : Bool), v49 = .bool x49_5 ∧ Aside0 (laws_FnPay.j0 kq t446 t453 x49_5 t432 t433 t434 t437 t438 t441 t442 t443 t448 t449 t450 = some r) ∧ Aside0 (kq ≤ k) ∧ Aside0 (Kd.R k29 29 wc w.heap.size (fun k_ => some k_ ≠ ((.slice Ao19 t443.length co19) : Value).ownBlock ∧ k_ ≠ gb440) (.slice Ao12 t434.length co12) t434) ∧ Aside0 (Kd.R k29 29 wc w.heap.size (fun k_ => some k_ ≠ ((.slice Ao12 t434.length co12) : Value).ownBlock ∧ k_ ≠ gb440) (.slice Ao19 t443.length co19) t443) ∧ Aside0 (Kd.V k29 29 wc w.heap.size (fun k_ => some k_ ≠ ((.slice Ao12 t434.length co12) : Value).ownBlock ∧ some k_ ≠ ((.slice Ao19 t443.length co19) : Value).ownBlock ∧ k_ ≠ gb439 ∧ k_ ≠ gb440 ∧ k_ ≠ gb447 ∧ k_ ≠ gb454) (.slice Ao28 t450.length co28) t450) ∧ Aside0 (wc.heap[gb439]? = some (.cells #[.int .i64 t432, .int .i64 t433, (.slice Ao12 t434.length co12)] 32 (0, 0))) ∧ Aside0 (wc.heap[gb440]? = some (.cells #[.int .i64 t437, .int .i64 t438] 29 (0, 0))) ∧ Aside0 (wc.heap[gb447]? = some (.cells #[.int .i64 t441, .int .i64 t442, (.slice Ao19 t443.length co19)] 32 (0, 0))) ∧ Aside0 (wc.heap[gb454]? = some (.cells #[.int .i64 t448, .int .i64 t449, (.slice Ao28 t450.length co28)] 32 (0, 0))) ∧ Aside0 (Below w.heap.size w wc))
  case first =>
   have H := HC6.out
   clear HC6
   by_cases c29 : (t453 != t446) = true
   ·rw [if_pos c29] at H
    have c29b0 : (t453 != t446) = true := c29
    (try (have c29b1 : decide (t453 = t446) = false := by simpa using c29))
    (try (have c29b2 : (t453 == t446) = false := by simpa using c29))
    (try (have c29b3 : ¬ (t453 = t446) := by simpa using c29))
    clear c29
    (first | rw [c29b0] | (simp only [i64_w, i32_w]; rw [c29b0]) | skip)
    have H' := Aside0.mk H
    clear H
    go_wp2
    go_meet
    case rel => exact ⟨_, (true), (by first | rfl | (simp; done) | (simp [*]; done)), H', ⟨by first | omega | exact Nat.le_refl _⟩, ⟨by (with_reducible repeat (first | apply Kd.R_alloc | apply Kd.R_drewN | apply Kd.R_drew)); exact Kd.R_mono (Kd.R_far (p := ⟨gb454, 2, none⟩) (Kd.R_far (p := ⟨gb454, 1, none⟩) (Kd.R_far (p := ⟨gb454, 0, none⟩) (Kd.R_types HO436.out BK454.out (by decide)) (fun _ hk => hk.2) (.int .i64 t448)) (fun _ hk => hk.2) (.int .i64 t449)) (fun _ hk => hk.2) (.slice Ao28 t450.length co28)) (fun _ hk => ⟨hk.1.2, hk.1.1.2⟩)⟩, ⟨by (with_reducible repeat (first | apply Kd.R_alloc | apply Kd.R_drewN | apply Kd.R_drew)); exact Kd.R_mono (Kd.R_far (p := ⟨gb454, 2, none⟩) (Kd.R_far (p := ⟨gb454, 1, none⟩) (Kd.R_far (p := ⟨gb454, 0, none⟩) (Kd.R_types HO445.out BK454.out (by decide)) (fun _ hk => hk.2) (.int .i64 t448)) (fun _ hk => hk.2) (.int .i64 t449)) (fun _ hk => hk.2) (.slice Ao28 t450.length co28)) (fun _ hk => ⟨hk.1.1.2, hk.1.2⟩)⟩, ⟨by (with_reducible repeat (first | apply Kd.V_alloc | apply Kd.V_drewN | apply Kd.V_drew)); exact Kd.V_mono (Kd.V_far (p := ⟨gb454, 2, none⟩) (Kd.V_far (p := ⟨gb454, 1, none⟩) (Kd.V_far (p := ⟨gb454, 0, none⟩) (Kd.V_mono HO452.out (fun k_ hk => (⟨hk, hk.2⟩ : _ ∧ k_ ≠ gb454))) (fun _ hk => hk.2) (.int .i64 t448)) (fun _ hk => hk.2) (.int .i64 t449)) (fun _ hk => hk.2) (.slice Ao28 t450.length co28)) (fun _ hk => ⟨hk.1.1.1, ⟨hk.1.1.2.1, ⟨hk.1.1.2.2.1, ⟨hk.1.1.2.2.2.1, ⟨hk.1.1.2.2.2.2, hk.1.2⟩⟩⟩⟩⟩)⟩, ⟨by (with_reducible repeat (first | refine yN ?_ _ | refine yD ?_ | refine yA ?_ _)); refine blk_far ?_ NB439_454.out _; (with_reducible repeat (first | refine yN ?_ _ | refine yD ?_ | refine yA ?_ _)); refine blk_far ?_ NB439_454.out _; (with_reducible repeat (first | refine yN ?_ _ | refine yD ?_ | refine yA ?_ _)); refine blk_far ?_ NB439_454.out _; (with_reducible repeat (first | refine yN ?_ _ | refine yD ?_ | refine yA ?_ _)); exact BK439.out⟩, ⟨by (with_reducible repeat (first | refine yN ?_ _ | refine yD ?_ | refine yA ?_ _)); refine blk_far ?_ NB440_454.out _; (with_reducible repeat (first | refine yN ?_ _ | refine yD ?_ | refine yA ?_ _)); refine blk_far ?_ NB440_454.out _; (with_reducible repeat (first | refine yN ?_ _ | refine yD ?_ | refine yA ?_ _)); refine blk_far ?_ NB440_454.out _; (with_reducible repeat (first | refine yN ?_ _ | refine yD ?_ | refine yA ?_ _)); exact BK440.out⟩, ⟨by (with_reducible repeat (first | refine yN ?_ _ | refine yD ?_ | refine yA ?_ _)); refine blk_far ?_ NB447_454.out _; (with_reducible repeat (first | refine yN ?_ _ | refine yD ?_ | refine yA ?_ _)); refine blk_far ?_ NB447_454.out _; (with_reducible repeat (first | refine yN ?_ _ | refine yD ?_ | refine yA ?_ _)); refine blk_far ?_ NB447_454.out _; (with_reducible repeat (first | refine yN ?_ _ | refine yD ?_ | refine yA ?_ _)); exact BK447.out⟩, ⟨by (with_reducible repeat (first | refine yN ?_ _ | refine yD ?_ | refine yA ?_ _)); refine blk_put (cs := #[.int .i64 t448, .int .i64 t449, .slice none 0 0]) ?_ 2 _ rfl; (with_reducible repeat (first | refine yN ?_ _ | refine yD ?_ | refine yA ?_ _)); refine blk_put (cs := #[.int .i64 t448, .int .i64 0, .slice none 0 0]) ?_ 1 _ rfl; (with_reducible repeat (first | refine yN ?_ _ | refine yD ?_ | refine yA ?_ _)); refine blk_put (cs := #[.int .i64 0, .int .i64 0, .slice none 0 0]) ?_ 0 _ rfl; (with_reducible repeat (first | refine yN ?_ _ | refine yD ?_ | refine yA ?_ _)); exact BK454.out⟩, ⟨by repeat (first | (with_reducible first | exact HB.out | apply below_alloc | apply yP | apply below_drew1 | refine yS ?_ GE439.out | refine yS ?_ GE440.out | refine yS ?_ GE447.out | refine yS ?_ GE454.out) | exact HB.out)⟩⟩
   ·rw [if_neg c29] at H
    have c29b0 : (t453 != t446) = false := by simpa using c29
    (try (have c29b1 : decide (t453 = t446) = true := by simpa using c29))
    (try (have c29b2 : (t453 == t446) = true := by simpa using c29))
    clear c29
    (first | rw [c29b0] | (simp only [i64_w, i32_w]; rw [c29b0]) | skip)
    replace H := Option.bind_eq_some_iff.mp H
    obtain ⟨t455, A300, H⟩ := H
    replace H : (if t455 = true then ((spec_LedgerOk.f k t432 t433 t434).bind fun t456 => (if t456 = true then ((spec_FracOk.f k t437 t438).bind fun t457 => (laws_FnPay.j0 k t446 t453 (!t457) t432 t433 t434 t437 t438 t441 t442 t443 t448 t449 t450)) else (laws_FnPay.j0 k t446 t453 true t432 t433 t434 t437 t438 t441 t442 t443 t448 t449 t450))) else (laws_FnPay.j0 k t446 t453 true t432 t433 t434 t437 t438 t441 t442 t443 t448 t449 t450)) = some r := H
    have A30 := Aside0.mk A300
    clear A300
    by_cases c31 : t455 = true
    ·subst c31
     have H1 : ((spec_LedgerOk.f k t432 t433 t434).bind fun t456 => (if t456 = true then ((spec_FracOk.f k t437 t438).bind fun t457 => (laws_FnPay.j0 k t446 t453 (!t457) t432 t433 t434 t437 t438 t441 t442 t443 t448 t449 t450)) else (laws_FnPay.j0 k t446 t453 true t432 t433 t434 t437 t438 t441 t442 t443 t448 t449 t450))) = some r := by rw [if_pos rfl] at H; exact H
     clear H
     have H := H1
     clear H1
     replace H := Option.bind_eq_some_iff.mp H
     obtain ⟨t456, A320, H⟩ := H
     replace H : (if t456 = true then ((spec_FracOk.f k t437 t438).bind fun t457 => (laws_FnPay.j0 k t446 t453 (!t457) t432 t433 t434 t437 t438 t441 t442 t443 t448 t449 t450)) else (laws_FnPay.j0 k t446 t453 true t432 t433 t434 t437 t438 t441 t442 t443 t448 t449 t450)) = some r := H
     have A32 := Aside0.mk A320
     clear A320
     by_cases c33 : t456 = true
     ·subst c33
      have H1 : ((spec_FracOk.f k t437 t438).bind fun t457 => (laws_FnPay.j0 k t446 t453 (!t457) t432 t433 t434 t437 t438 t441 t442 t443 t448 t449 t450)) = some r := by rw [if_pos rfl] at H; exact H
      clear H
      have H := H1
      clear H1
      replace H := Option.bind_eq_some_iff.mp H
      obtain ⟨t457, A340, H⟩ := H
      replace H : (laws_FnPay.j0 k t446 t453 (!t457) t432 t433 t434 t437 t438 t441 t442 t443 t448 t449 t450) = some r := H
      have A34 := Aside0.mk A340
      clear A340
      have H' := Aside0.mk H
      clear H
      have hnb35 := NB454_439.out
      have hnc35 := NB439_454.out
      have hnb36 := NB454_440.out
      have hnc36 := NB440_454.out
      have hnb37 := NB454_447.out
      have hnc37 := NB447_454.out
      have hcz38_0 : w23.cell? ⟨gb454, 0, none⟩ = some (.int .i64 0) := (blk_cell BK454.out 0).trans rfl
      have hcz38_1 : w23.cell? ⟨gb454, 1, none⟩ = some (.int .i64 0) := (blk_cell BK454.out 1).trans rfl
      have hcz38_2 : w23.cell? ⟨gb454, 2, none⟩ = some (.slice none 0 0) := (blk_cell BK454.out 2).trans rfl
      have hfz38_0 := blk_frozen BK454.out 0
      have hfz38_1 := blk_frozen BK454.out 1
      have hfz38_2 := blk_frozen BK454.out 2
      have hnb39 := NB447_439.out
      have hnc39 := NB439_447.out
      have hnb40 := NB447_440.out
      have hnc40 := NB440_447.out
      have hcz41_0 : w23.cell? ⟨gb447, 0, none⟩ = some (.int .i64 t441) := (blk_cell BK447.out 0).trans rfl
      have hcz41_1 : w23.cell? ⟨gb447, 1, none⟩ = some (.int .i64 t442) := (blk_cell BK447.out 1).trans rfl
      have hcz41_2 : w23.cell? ⟨gb447, 2, none⟩ = some (.slice Ao19 t443.length co19) := (blk_cell BK447.out 2).trans rfl
      have hfz41_0 := blk_frozen BK447.out 0
      have hfz41_1 := blk_frozen BK447.out 1
      have hfz41_2 := blk_frozen BK447.out 2
      go_wp2_with (first | (go_at_call 29; (with_reducible refine (laws_loLedger.calls k t448 t449 _ _ t450 t441 t442 _ _ t443 true _ ?side1 ?side2 ?side3 ?side4 A30.out).mono ?_); (case side1 => refine (Kd.V_reads' (e := 29) (base := w.heap.size) (ok := fun k_ => ((some k_ ≠ (.slice Ao12 t434.length co12 : Value).ownBlock ∧ (some k_ ≠ (.slice Ao19 t443.length co19 : Value).ownBlock ∧ (k_ ≠ gb439 ∧ (k_ ≠ gb440 ∧ k_ ≠ gb447)))) ∧ k_ ≠ gb454)) (n := t450.length) (c := co28) ?_).2.2; exact (by (with_reducible repeat (first | apply Kd.V_alloc | apply Kd.V_drewN | apply Kd.V_drew)); exact (Kd.V_mono (Kd.V_far (p := ⟨gb454, 2, none⟩) (Kd.V_far (p := ⟨gb454, 1, none⟩) (Kd.V_far (p := ⟨gb454, 0, none⟩) (Kd.V_mono HO452.out (fun k_ hk => (⟨hk, hk.2⟩ : _ ∧ k_ ≠ gb454))) (fun _ hk => hk.2) (.int .i64 t448)) (fun _ hk => hk.2) (.int .i64 t449)) (fun _ hk => hk.2) (.slice Ao28 t450.length co28)) (fun _ h_ => h_.1)))); (case side2 => exact (Kd.V_reads' HO452.out).2.1); (case side3 => refine (Kd.R_reads' (e := 29) (base := w.heap.size) (ok := fun k_ => ((True ∧ some k_ ≠ (.slice Ao12 t434.length co12 : Value).ownBlock) ∧ k_ ≠ gb440)) (n := t443.length) (c := co19) ?_).2.2; exact (by (with_reducible repeat (first | apply Kd.R_alloc | apply Kd.R_drewN | apply Kd.R_drew)); exact (Kd.R_mono (Kd.R_far (p := ⟨gb454, 2, none⟩) (Kd.R_far (p := ⟨gb454, 1, none⟩) (Kd.R_far (p := ⟨gb454, 0, none⟩) (Kd.R_types HO445.out BK454.out (by decide)) (fun _ hk => hk.2) (.int .i64 t448)) (fun _ hk => hk.2) (.int .i64 t449)) (fun _ hk => hk.2) (.slice Ao28 t450.length co28)) (fun _ h_ => h_.1)))); (case side4 => exact (Kd.R_reads' HO445.out).2.1); rintro e w42 ⟨rfl, hb⟩; have n0_ := yM (Kd.R_below (by (with_reducible repeat (first | apply Kd.R_alloc | apply Kd.R_drewN | apply Kd.R_drew)); exact (Kd.R_mono (Kd.R_far (p := ⟨gb454, 2, none⟩) (Kd.R_far (p := ⟨gb454, 1, none⟩) (Kd.R_far (p := ⟨gb454, 0, none⟩) (Kd.R_types HO436.out BK454.out (by decide)) (fun _ hk => hk.2) (.int .i64 t448)) (fun _ hk => hk.2) (.int .i64 t449)) (fun _ hk => hk.2) (.slice Ao28 t450.length co28)) (fun _ h_ => h_.1))) hb); have n1_ := yM (Kd.R_below (by (with_reducible repeat (first | apply Kd.R_alloc | apply Kd.R_drewN | apply Kd.R_drew)); exact (Kd.R_mono (Kd.R_far (p := ⟨gb454, 2, none⟩) (Kd.R_far (p := ⟨gb454, 1, none⟩) (Kd.R_far (p := ⟨gb454, 0, none⟩) (Kd.R_types HO445.out BK454.out (by decide)) (fun _ hk => hk.2) (.int .i64 t448)) (fun _ hk => hk.2) (.int .i64 t449)) (fun _ hk => hk.2) (.slice Ao28 t450.length co28)) (fun _ h_ => h_.1))) hb); have n2_ := yM (Kd.V_below (by (with_reducible repeat (first | apply Kd.V_alloc | apply Kd.V_drewN | apply Kd.V_drew)); exact (Kd.V_mono (Kd.V_far (p := ⟨gb454, 2, none⟩) (Kd.V_far (p := ⟨gb454, 1, none⟩) (Kd.V_far (p := ⟨gb454, 0, none⟩) (Kd.V_mono HO452.out (fun k_ hk => (⟨hk, hk.2⟩ : _ ∧ k_ ≠ gb454))) (fun _ hk => hk.2) (.int .i64 t448)) (fun _ hk => hk.2) (.int .i64 t449)) (fun _ hk => hk.2) (.slice Ao28 t450.length co28)) (fun _ h_ => h_.1))) hb); have n3_ := yM (blk_below (g := gb439) (o := .cells #[.int .i64 t432, .int .i64 t433, .slice Ao12 t434.length co12] 32 (0, 0)) (by (with_reducible repeat (first | refine yN ?_ _ | refine yD ?_ | refine yA ?_ _)); refine blk_far ?_ NB439_454.out _; (with_reducible repeat (first | refine yN ?_ _ | refine yD ?_ | refine yA ?_ _)); refine blk_far ?_ NB439_454.out _; (with_reducible repeat (first | refine yN ?_ _ | refine yD ?_ | refine yA ?_ _)); refine blk_far ?_ NB439_454.out _; (with_reducible repeat (first | refine yN ?_ _ | refine yD ?_ | refine yA ?_ _)); exact BK439.out) hb); have n4_ := yM (blk_below (g := gb440) (o := .cells #[.int .i64 t437, .int .i64 t438] 29 (0, 0)) (by (with_reducible repeat (first | refine yN ?_ _ | refine yD ?_ | refine yA ?_ _)); refine blk_far ?_ NB440_454.out _; (with_reducible repeat (first | refine yN ?_ _ | refine yD ?_ | refine yA ?_ _)); refine blk_far ?_ NB440_454.out _; (with_reducible repeat (first | refine yN ?_ _ | refine yD ?_ | refine yA ?_ _)); refine blk_far ?_ NB440_454.out _; (with_reducible repeat (first | refine yN ?_ _ | refine yD ?_ | refine yA ?_ _)); exact BK440.out) hb); have n5_ := yM (blk_below (g := gb447) (o := .cells #[.int .i64 t441, .int .i64 t442, .slice Ao19 t443.length co19] 32 (0, 0)) (by (with_reducible repeat (first | refine yN ?_ _ | refine yD ?_ | refine yA ?_ _)); refine blk_far ?_ NB447_454.out _; (with_reducible repeat (first | refine yN ?_ _ | refine yD ?_ | refine yA ?_ _)); refine blk_far ?_ NB447_454.out _; (with_reducible repeat (first | refine yN ?_ _ | refine yD ?_ | refine yA ?_ _)); refine blk_far ?_ NB447_454.out _; (with_reducible repeat (first | refine yN ?_ _ | refine yD ?_ | refine yA ?_ _)); exact BK447.out) hb); have n6_ := yM (blk_below (g := gb454) (o := .cells #[.int .i64 t448, .int .i64 t449, .slice Ao28 t450.length co28] 32 (0, 0)) (by (with_reducible repeat (first | refine yN ?_ _ | refine yD ?_ | refine yA ?_ _)); refine blk_put (cs := #[.int .i64 t448, .int .i64 t449, .slice none 0 0]) ?_ 2 _ rfl; (with_reducible repeat (first | refine yN ?_ _ | refine yD ?_ | refine yA ?_ _)); refine blk_put (cs := #[.int .i64 t448, .int .i64 0, .slice none 0 0]) ?_ 1 _ rfl; (with_reducible repeat (first | refine yN ?_ _ | refine yD ?_ | refine yA ?_ _)); refine blk_put (cs := #[.int .i64 0, .int .i64 0, .slice none 0 0]) ?_ 0 _ rfl; (with_reducible repeat (first | refine yN ?_ _ | refine yD ?_ | refine yA ?_ _)); exact BK454.out) hb); have n7_ := yM (below_step (by repeat (first | (with_reducible first | exact HB.out | apply below_alloc | apply yP | apply below_drew1 | refine yS ?_ GE439.out | refine yS ?_ GE440.out | refine yS ?_ GE447.out | refine yS ?_ GE454.out) | exact HB.out)) hb); clear HO436; clear HO445; clear HO452; clear BK439; clear BK440; clear BK447; clear BK454; clear HB; have HO436 := n0_; have HO445 := n1_; have HO452 := n2_; have BK439 := n3_; have BK440 := n4_; have BK447 := n5_; have BK454 := n6_; have HB := n7_; clear n0_ n1_ n2_ n3_ n4_ n5_ n6_ n7_; (try clear hb); (try clear hb2); (try clear hk); (try clear hi); have hnb43 := NB439_440.out; have hnc43 := NB440_439.out; have hcz44_0 : w42.cell? ⟨gb439, 0, none⟩ = some (.int .i64 t432) := (blk_cell BK439.out 0).trans rfl; have hcz44_1 : w42.cell? ⟨gb439, 1, none⟩ = some (.int .i64 t433) := (blk_cell BK439.out 1).trans rfl; have hcz44_2 : w42.cell? ⟨gb439, 2, none⟩ = some (.slice Ao12 t434.length co12) := (blk_cell BK439.out 2).trans rfl; have hfz44_0 := blk_frozen BK439.out 0; have hfz44_1 := blk_frozen BK439.out 1; have hfz44_2 := blk_frozen BK439.out 2) | (go_at_call 15; (with_reducible refine (spec_LedgerOk.calls k t432 t433 _ _ t434 true _ ?side1 ?side2 A32.out).mono ?_); (case side1 => repeat (first | exact (Kd.R_reads' HO436.out).2.2 | (with_reducible refine Kd.C_alloc ?_ _) | (with_reducible refine Kd.C_drewN ?_ _) | (with_reducible refine Kd.C_drew ?_))); (case side2 => exact (Kd.R_reads' HO436.out).2.1); rintro e w45 ⟨rfl, hb⟩; have n0_ := yM (Kd.R_below (by (with_reducible repeat (first | apply Kd.R_alloc | apply Kd.R_drewN | apply Kd.R_drew)); exact HO436.out) hb); have n1_ := yM (Kd.R_below (by (with_reducible repeat (first | apply Kd.R_alloc | apply Kd.R_drewN | apply Kd.R_drew)); exact HO445.out) hb); have n2_ := yM (Kd.V_below (by (with_reducible repeat (first | apply Kd.V_alloc | apply Kd.V_drewN | apply Kd.V_drew)); exact HO452.out) hb); have n3_ := yM (blk_below (g := gb439) (o := .cells #[.int .i64 t432, .int .i64 t433, .slice Ao12 t434.length co12] 32 (0, 0)) (by (with_reducible repeat (first | refine yN ?_ _ | refine yD ?_ | refine yA ?_ _)); exact BK439.out) hb); have n4_ := yM (blk_below (g := gb440) (o := .cells #[.int .i64 t437, .int .i64 t438] 29 (0, 0)) (by (with_reducible repeat (first | refine yN ?_ _ | refine yD ?_ | refine yA ?_ _)); exact BK440.out) hb); have n5_ := yM (blk_below (g := gb447) (o := .cells #[.int .i64 t441, .int .i64 t442, .slice Ao19 t443.length co19] 32 (0, 0)) (by (with_reducible repeat (first | refine yN ?_ _ | refine yD ?_ | refine yA ?_ _)); exact BK447.out) hb); have n6_ := yM (blk_below (g := gb454) (o := .cells #[.int .i64 t448, .int .i64 t449, .slice Ao28 t450.length co28] 32 (0, 0)) (by (with_reducible repeat (first | refine yN ?_ _ | refine yD ?_ | refine yA ?_ _)); exact BK454.out) hb); have n7_ := yM (below_step (by repeat (first | (with_reducible first | exact HB.out | apply below_alloc | apply yP | apply below_drew1 | refine yS ?_ GE439.out | refine yS ?_ GE440.out | refine yS ?_ GE447.out | refine yS ?_ GE454.out) | exact HB.out)) hb); clear HO436; clear HO445; clear HO452; clear BK439; clear BK440; clear BK447; clear BK454; clear HB; have HO436 := n0_; have HO445 := n1_; have HO452 := n2_; have BK439 := n3_; have BK440 := n4_; have BK447 := n5_; have BK454 := n6_; have HB := n7_; clear n0_ n1_ n2_ n3_ n4_ n5_ n6_ n7_; (try clear hb); (try clear hb2); (try clear hk); (try clear hi); have hcz46_0 : w45.cell? ⟨gb440, 0, none⟩ = some (.int .i64 t437) := (blk_cell BK440.out 0).trans rfl; have hcz46_1 : w45.cell? ⟨gb440, 1, none⟩ = some (.int .i64 t438) := (blk_cell BK440.out 1).trans rfl; have hfz46_0 := blk_frozen BK440.out 0; have hfz46_1 := blk_frozen BK440.out 1) | (go_at_call 30; (with_reducible refine (spec_FracOk.calls k t437 t438 t457 _ A34.out).mono ?_); rintro e w47 ⟨rfl, hb⟩; have n0_ := yM (Kd.R_below (by (with_reducible repeat (first | apply Kd.R_alloc | apply Kd.R_drewN | apply Kd.R_drew)); exact HO436.out) hb); have n1_ := yM (Kd.R_below (by (with_reducible repeat (first | apply Kd.R_alloc | apply Kd.R_drewN | apply Kd.R_drew)); exact HO445.out) hb); have n2_ := yM (Kd.V_below (by (with_reducible repeat (first | apply Kd.V_alloc | apply Kd.V_drewN | apply Kd.V_drew)); exact HO452.out) hb); have n3_ := yM (blk_below (g := gb439) (o := .cells #[.int .i64 t432, .int .i64 t433, .slice Ao12 t434.length co12] 32 (0, 0)) (by (with_reducible repeat (first | refine yN ?_ _ | refine yD ?_ | refine yA ?_ _)); exact BK439.out) hb); have n4_ := yM (blk_below (g := gb440) (o := .cells #[.int .i64 t437, .int .i64 t438] 29 (0, 0)) (by (with_reducible repeat (first | refine yN ?_ _ | refine yD ?_ | refine yA ?_ _)); exact BK440.out) hb); have n5_ := yM (blk_below (g := gb447) (o := .cells #[.int .i64 t441, .int .i64 t442, .slice Ao19 t443.length co19] 32 (0, 0)) (by (with_reducible repeat (first | refine yN ?_ _ | refine yD ?_ | refine yA ?_ _)); exact BK447.out) hb); have n6_ := yM (blk_below (g := gb454) (o := .cells #[.int .i64 t448, .int .i64 t449, .slice Ao28 t450.length co28] 32 (0, 0)) (by (with_reducible repeat (first | refine yN ?_ _ | refine yD ?_ | refine yA ?_ _)); exact BK454.out) hb); have n7_ := yM (below_step (by repeat (first | (with_reducible first | exact HB.out | apply below_alloc | apply yP | apply below_drew1 | refine yS ?_ GE439.out | refine yS ?_ GE440.out | refine yS ?_ GE447.out | refine yS ?_ GE454.out) | exact HB.out)) hb); clear HO436; clear HO445; clear HO452; clear BK439; clear BK440; clear BK447; clear BK454; clear HB; have HO436 := n0_; have HO445 := n1_; have HO452 := n2_; have BK439 := n3_; have BK440 := n4_; have BK447 := n5_; have BK454 := n6_; have HB := n7_; clear n0_ n1_ n2_ n3_ n4_ n5_ n6_ n7_; (try clear hb); (try clear hb2); (try clear hk); (try clear hi)))
      go_meet
      case rel => exact ⟨_, (!t457), (by first | rfl | (simp; done) | (simp [*]; done)), H', ⟨by first | omega | exact Nat.le_refl _⟩, ⟨by (with_reducible repeat (first | apply Kd.R_alloc | apply Kd.R_drewN | apply Kd.R_drew)); exact Kd.R_mono HO436.out (fun _ hk => ⟨hk.2, hk.1.2⟩)⟩, ⟨by (with_reducible repeat (first | apply Kd.R_alloc | apply Kd.R_drewN | apply Kd.R_drew)); exact Kd.R_mono HO445.out (fun _ hk => ⟨hk.1.2, hk.2⟩)⟩, ⟨by (with_reducible repeat (first | apply Kd.V_alloc | apply Kd.V_drewN | apply Kd.V_drew)); exact Kd.V_mono HO452.out (fun _ hk => ⟨hk.1.1, ⟨hk.1.2.1, ⟨hk.1.2.2.1, ⟨hk.1.2.2.2.1, ⟨hk.1.2.2.2.2, hk.2⟩⟩⟩⟩⟩)⟩, ⟨by (with_reducible repeat (first | refine yN ?_ _ | refine yD ?_ | refine yA ?_ _)); exact BK439.out⟩, ⟨by (with_reducible repeat (first | refine yN ?_ _ | refine yD ?_ | refine yA ?_ _)); exact BK440.out⟩, ⟨by (with_reducible repeat (first | refine yN ?_ _ | refine yD ?_ | refine yA ?_ _)); exact BK447.out⟩, ⟨by (with_reducible repeat (first | refine yN ?_ _ | refine yD ?_ | refine yA ?_ _)); exact BK454.out⟩, ⟨by repeat (first | (with_reducible first | exact HB.out | apply below_alloc | apply yP | apply below_drew1 | refine yS ?_ GE439.out | refine yS ?_ GE440.out | refine yS ?_ GE447.out | refine yS ?_ GE454.out) | exact HB.out)⟩⟩
     ·replace c33 := Bool.eq_false_iff.mpr c33
      subst c33
      have H1 : (laws_FnPay.j0 k t446 t453 true t432 t433 t434 t437 t438 t441 t442 t443 t448 t449 t450) = some r := by rw [if_neg (show ¬ (false = true) by decide)] at H; exact H
      clear H
      have H := H1
      clear H1
      have H' := Aside0.mk H
      clear H
      have hnb48 := NB454_439.out
      have hnc48 := NB439_454.out
      have hnb49 := NB454_440.out
      have hnc49 := NB440_454.out
      have hnb50 := NB454_447.out
      have hnc50 := NB447_454.out
      have hcz51_0 : w23.cell? ⟨gb454, 0, none⟩ = some (.int .i64 0) := (blk_cell BK454.out 0).trans rfl
      have hcz51_1 : w23.cell? ⟨gb454, 1, none⟩ = some (.int .i64 0) := (blk_cell BK454.out 1).trans rfl
      have hcz51_2 : w23.cell? ⟨gb454, 2, none⟩ = some (.slice none 0 0) := (blk_cell BK454.out 2).trans rfl
      have hfz51_0 := blk_frozen BK454.out 0
      have hfz51_1 := blk_frozen BK454.out 1
      have hfz51_2 := blk_frozen BK454.out 2
      have hnb52 := NB447_439.out
      have hnc52 := NB439_447.out
      have hnb53 := NB447_440.out
      have hnc53 := NB440_447.out
      have hcz54_0 : w23.cell? ⟨gb447, 0, none⟩ = some (.int .i64 t441) := (blk_cell BK447.out 0).trans rfl
      have hcz54_1 : w23.cell? ⟨gb447, 1, none⟩ = some (.int .i64 t442) := (blk_cell BK447.out 1).trans rfl
      have hcz54_2 : w23.cell? ⟨gb447, 2, none⟩ = some (.slice Ao19 t443.length co19) := (blk_cell BK447.out 2).trans rfl
      have hfz54_0 := blk_frozen BK447.out 0
      have hfz54_1 := blk_frozen BK447.out 1
      have hfz54_2 := blk_frozen BK447.out 2
      go_wp2_with (first | (go_at_call 29; (with_reducible refine (laws_loLedger.calls k t448 t449 _ _ t450 t441 t442 _ _ t443 true _ ?side1 ?side2 ?side3 ?side4 A30.out).mono ?_); (case side1 => refine (Kd.V_reads' (e := 29) (base := w.heap.size) (ok := fun k_ => ((some k_ ≠ (.slice Ao12 t434.length co12 : Value).ownBlock ∧ (some k_ ≠ (.slice Ao19 t443.length co19 : Value).ownBlock ∧ (k_ ≠ gb439 ∧ (k_ ≠ gb440 ∧ k_ ≠ gb447)))) ∧ k_ ≠ gb454)) (n := t450.length) (c := co28) ?_).2.2; exact (by (with_reducible repeat (first | apply Kd.V_alloc | apply Kd.V_drewN | apply Kd.V_drew)); exact (Kd.V_mono (Kd.V_far (p := ⟨gb454, 2, none⟩) (Kd.V_far (p := ⟨gb454, 1, none⟩) (Kd.V_far (p := ⟨gb454, 0, none⟩) (Kd.V_mono HO452.out (fun k_ hk => (⟨hk, hk.2⟩ : _ ∧ k_ ≠ gb454))) (fun _ hk => hk.2) (.int .i64 t448)) (fun _ hk => hk.2) (.int .i64 t449)) (fun _ hk => hk.2) (.slice Ao28 t450.length co28)) (fun _ h_ => h_.1)))); (case side2 => exact (Kd.V_reads' HO452.out).2.1); (case side3 => refine (Kd.R_reads' (e := 29) (base := w.heap.size) (ok := fun k_ => ((True ∧ some k_ ≠ (.slice Ao12 t434.length co12 : Value).ownBlock) ∧ k_ ≠ gb440)) (n := t443.length) (c := co19) ?_).2.2; exact (by (with_reducible repeat (first | apply Kd.R_alloc | apply Kd.R_drewN | apply Kd.R_drew)); exact (Kd.R_mono (Kd.R_far (p := ⟨gb454, 2, none⟩) (Kd.R_far (p := ⟨gb454, 1, none⟩) (Kd.R_far (p := ⟨gb454, 0, none⟩) (Kd.R_types HO445.out BK454.out (by decide)) (fun _ hk => hk.2) (.int .i64 t448)) (fun _ hk => hk.2) (.int .i64 t449)) (fun _ hk => hk.2) (.slice Ao28 t450.length co28)) (fun _ h_ => h_.1)))); (case side4 => exact (Kd.R_reads' HO445.out).2.1); rintro e w55 ⟨rfl, hb⟩; have n0_ := yM (Kd.R_below (by (with_reducible repeat (first | apply Kd.R_alloc | apply Kd.R_drewN | apply Kd.R_drew)); exact (Kd.R_mono (Kd.R_far (p := ⟨gb454, 2, none⟩) (Kd.R_far (p := ⟨gb454, 1, none⟩) (Kd.R_far (p := ⟨gb454, 0, none⟩) (Kd.R_types HO436.out BK454.out (by decide)) (fun _ hk => hk.2) (.int .i64 t448)) (fun _ hk => hk.2) (.int .i64 t449)) (fun _ hk => hk.2) (.slice Ao28 t450.length co28)) (fun _ h_ => h_.1))) hb); have n1_ := yM (Kd.R_below (by (with_reducible repeat (first | apply Kd.R_alloc | apply Kd.R_drewN | apply Kd.R_drew)); exact (Kd.R_mono (Kd.R_far (p := ⟨gb454, 2, none⟩) (Kd.R_far (p := ⟨gb454, 1, none⟩) (Kd.R_far (p := ⟨gb454, 0, none⟩) (Kd.R_types HO445.out BK454.out (by decide)) (fun _ hk => hk.2) (.int .i64 t448)) (fun _ hk => hk.2) (.int .i64 t449)) (fun _ hk => hk.2) (.slice Ao28 t450.length co28)) (fun _ h_ => h_.1))) hb); have n2_ := yM (Kd.V_below (by (with_reducible repeat (first | apply Kd.V_alloc | apply Kd.V_drewN | apply Kd.V_drew)); exact (Kd.V_mono (Kd.V_far (p := ⟨gb454, 2, none⟩) (Kd.V_far (p := ⟨gb454, 1, none⟩) (Kd.V_far (p := ⟨gb454, 0, none⟩) (Kd.V_mono HO452.out (fun k_ hk => (⟨hk, hk.2⟩ : _ ∧ k_ ≠ gb454))) (fun _ hk => hk.2) (.int .i64 t448)) (fun _ hk => hk.2) (.int .i64 t449)) (fun _ hk => hk.2) (.slice Ao28 t450.length co28)) (fun _ h_ => h_.1))) hb); have n3_ := yM (blk_below (g := gb439) (o := .cells #[.int .i64 t432, .int .i64 t433, .slice Ao12 t434.length co12] 32 (0, 0)) (by (with_reducible repeat (first | refine yN ?_ _ | refine yD ?_ | refine yA ?_ _)); refine blk_far ?_ NB439_454.out _; (with_reducible repeat (first | refine yN ?_ _ | refine yD ?_ | refine yA ?_ _)); refine blk_far ?_ NB439_454.out _; (with_reducible repeat (first | refine yN ?_ _ | refine yD ?_ | refine yA ?_ _)); refine blk_far ?_ NB439_454.out _; (with_reducible repeat (first | refine yN ?_ _ | refine yD ?_ | refine yA ?_ _)); exact BK439.out) hb); have n4_ := yM (blk_below (g := gb440) (o := .cells #[.int .i64 t437, .int .i64 t438] 29 (0, 0)) (by (with_reducible repeat (first | refine yN ?_ _ | refine yD ?_ | refine yA ?_ _)); refine blk_far ?_ NB440_454.out _; (with_reducible repeat (first | refine yN ?_ _ | refine yD ?_ | refine yA ?_ _)); refine blk_far ?_ NB440_454.out _; (with_reducible repeat (first | refine yN ?_ _ | refine yD ?_ | refine yA ?_ _)); refine blk_far ?_ NB440_454.out _; (with_reducible repeat (first | refine yN ?_ _ | refine yD ?_ | refine yA ?_ _)); exact BK440.out) hb); have n5_ := yM (blk_below (g := gb447) (o := .cells #[.int .i64 t441, .int .i64 t442, .slice Ao19 t443.length co19] 32 (0, 0)) (by (with_reducible repeat (first | refine yN ?_ _ | refine yD ?_ | refine yA ?_ _)); refine blk_far ?_ NB447_454.out _; (with_reducible repeat (first | refine yN ?_ _ | refine yD ?_ | refine yA ?_ _)); refine blk_far ?_ NB447_454.out _; (with_reducible repeat (first | refine yN ?_ _ | refine yD ?_ | refine yA ?_ _)); refine blk_far ?_ NB447_454.out _; (with_reducible repeat (first | refine yN ?_ _ | refine yD ?_ | refine yA ?_ _)); exact BK447.out) hb); have n6_ := yM (blk_below (g := gb454) (o := .cells #[.int .i64 t448, .int .i64 t449, .slice Ao28 t450.length co28] 32 (0, 0)) (by (with_reducible repeat (first | refine yN ?_ _ | refine yD ?_ | refine yA ?_ _)); refine blk_put (cs := #[.int .i64 t448, .int .i64 t449, .slice none 0 0]) ?_ 2 _ rfl; (with_reducible repeat (first | refine yN ?_ _ | refine yD ?_ | refine yA ?_ _)); refine blk_put (cs := #[.int .i64 t448, .int .i64 0, .slice none 0 0]) ?_ 1 _ rfl; (with_reducible repeat (first | refine yN ?_ _ | refine yD ?_ | refine yA ?_ _)); refine blk_put (cs := #[.int .i64 0, .int .i64 0, .slice none 0 0]) ?_ 0 _ rfl; (with_reducible repeat (first | refine yN ?_ _ | refine yD ?_ | refine yA ?_ _)); exact BK454.out) hb); have n7_ := yM (below_step (by repeat (first | (with_reducible first | exact HB.out | apply below_alloc | apply yP | apply below_drew1 | refine yS ?_ GE439.out | refine yS ?_ GE440.out | refine yS ?_ GE447.out | refine yS ?_ GE454.out) | exact HB.out)) hb); clear HO436; clear HO445; clear HO452; clear BK439; clear BK440; clear BK447; clear BK454; clear HB; have HO436 := n0_; have HO445 := n1_; have HO452 := n2_; have BK439 := n3_; have BK440 := n4_; have BK447 := n5_; have BK454 := n6_; have HB := n7_; clear n0_ n1_ n2_ n3_ n4_ n5_ n6_ n7_; (try clear hb); (try clear hb2); (try clear hk); (try clear hi); have hnb56 := NB439_440.out; have hnc56 := NB440_439.out; have hcz57_0 : w55.cell? ⟨gb439, 0, none⟩ = some (.int .i64 t432) := (blk_cell BK439.out 0).trans rfl; have hcz57_1 : w55.cell? ⟨gb439, 1, none⟩ = some (.int .i64 t433) := (blk_cell BK439.out 1).trans rfl; have hcz57_2 : w55.cell? ⟨gb439, 2, none⟩ = some (.slice Ao12 t434.length co12) := (blk_cell BK439.out 2).trans rfl; have hfz57_0 := blk_frozen BK439.out 0; have hfz57_1 := blk_frozen BK439.out 1; have hfz57_2 := blk_frozen BK439.out 2) | (go_at_call 15; (with_reducible refine (spec_LedgerOk.calls k t432 t433 _ _ t434 false _ ?side1 ?side2 A32.out).mono ?_); (case side1 => repeat (first | exact (Kd.R_reads' HO436.out).2.2 | (with_reducible refine Kd.C_alloc ?_ _) | (with_reducible refine Kd.C_drewN ?_ _) | (with_reducible refine Kd.C_drew ?_))); (case side2 => exact (Kd.R_reads' HO436.out).2.1); rintro e w58 ⟨rfl, hb⟩; have n0_ := yM (Kd.R_below (by (with_reducible repeat (first | apply Kd.R_alloc | apply Kd.R_drewN | apply Kd.R_drew)); exact HO436.out) hb); have n1_ := yM (Kd.R_below (by (with_reducible repeat (first | apply Kd.R_alloc | apply Kd.R_drewN | apply Kd.R_drew)); exact HO445.out) hb); have n2_ := yM (Kd.V_below (by (with_reducible repeat (first | apply Kd.V_alloc | apply Kd.V_drewN | apply Kd.V_drew)); exact HO452.out) hb); have n3_ := yM (blk_below (g := gb439) (o := .cells #[.int .i64 t432, .int .i64 t433, .slice Ao12 t434.length co12] 32 (0, 0)) (by (with_reducible repeat (first | refine yN ?_ _ | refine yD ?_ | refine yA ?_ _)); exact BK439.out) hb); have n4_ := yM (blk_below (g := gb440) (o := .cells #[.int .i64 t437, .int .i64 t438] 29 (0, 0)) (by (with_reducible repeat (first | refine yN ?_ _ | refine yD ?_ | refine yA ?_ _)); exact BK440.out) hb); have n5_ := yM (blk_below (g := gb447) (o := .cells #[.int .i64 t441, .int .i64 t442, .slice Ao19 t443.length co19] 32 (0, 0)) (by (with_reducible repeat (first | refine yN ?_ _ | refine yD ?_ | refine yA ?_ _)); exact BK447.out) hb); have n6_ := yM (blk_below (g := gb454) (o := .cells #[.int .i64 t448, .int .i64 t449, .slice Ao28 t450.length co28] 32 (0, 0)) (by (with_reducible repeat (first | refine yN ?_ _ | refine yD ?_ | refine yA ?_ _)); exact BK454.out) hb); have n7_ := yM (below_step (by repeat (first | (with_reducible first | exact HB.out | apply below_alloc | apply yP | apply below_drew1 | refine yS ?_ GE439.out | refine yS ?_ GE440.out | refine yS ?_ GE447.out | refine yS ?_ GE454.out) | exact HB.out)) hb); clear HO436; clear HO445; clear HO452; clear BK439; clear BK440; clear BK447; clear BK454; clear HB; have HO436 := n0_; have HO445 := n1_; have HO452 := n2_; have BK439 := n3_; have BK440 := n4_; have BK447 := n5_; have BK454 := n6_; have HB := n7_; clear n0_ n1_ n2_ n3_ n4_ n5_ n6_ n7_; (try clear hb); (try clear hb2); (try clear hk); (try clear hi)))
      go_meet
      case rel => exact ⟨_, (true), (by first | rfl | (simp; done) | (simp [*]; done)), H', ⟨by first | omega | exact Nat.le_refl _⟩, ⟨by (with_reducible repeat (first | apply Kd.R_alloc | apply Kd.R_drewN | apply Kd.R_drew)); exact Kd.R_mono HO436.out (fun _ hk => ⟨hk.2, hk.1.2⟩)⟩, ⟨by (with_reducible repeat (first | apply Kd.R_alloc | apply Kd.R_drewN | apply Kd.R_drew)); exact Kd.R_mono HO445.out (fun _ hk => ⟨hk.1.2, hk.2⟩)⟩, ⟨by (with_reducible repeat (first | apply Kd.V_alloc | apply Kd.V_drewN | apply Kd.V_drew)); exact Kd.V_mono HO452.out (fun _ hk => ⟨hk.1.1, ⟨hk.1.2.1, ⟨hk.1.2.2.1, ⟨hk.1.2.2.2.1, ⟨hk.1.2.2.2.2, hk.2⟩⟩⟩⟩⟩)⟩, ⟨by (with_reducible repeat (first | refine yN ?_ _ | refine yD ?_ | refine yA ?_ _)); exact BK439.out⟩, ⟨by (with_reducible repeat (first | refine yN ?_ _ | refine yD ?_ | refine yA ?_ _)); exact BK440.out⟩, ⟨by (with_reducible repeat (first | refine yN ?_ _ | refine yD ?_ | refine yA ?_ _)); exact BK447.out⟩, ⟨by (with_reducible repeat (first | refine yN ?_ _ | refine yD ?_ | refine yA ?_ _)); exact BK454.out⟩, ⟨by repeat (first | (with_reducible first | exact HB.out | apply below_alloc | apply yP | apply below_drew1 | refine yS ?_ GE439.out | refine yS ?_ GE440.out | refine yS ?_ GE447.out | refine yS ?_ GE454.out) | exact HB.out)⟩⟩
    ·replace c31 := Bool.eq_false_iff.mpr c31
     subst c31
     have H1 : (laws_FnPay.j0 k t446 t453 true t432 t433 t434 t437 t438 t441 t442 t443 t448 t449 t450) = some r := by rw [if_neg (show ¬ (false = true) by decide)] at H; exact H
     clear H
     have H := H1
     clear H1
     have H' := Aside0.mk H
     clear H
     have hnb59 := NB454_439.out
     have hnc59 := NB439_454.out
     have hnb60 := NB454_440.out
     have hnc60 := NB440_454.out
     have hnb61 := NB454_447.out
     have hnc61 := NB447_454.out
     have hcz62_0 : w23.cell? ⟨gb454, 0, none⟩ = some (.int .i64 0) := (blk_cell BK454.out 0).trans rfl
     have hcz62_1 : w23.cell? ⟨gb454, 1, none⟩ = some (.int .i64 0) := (blk_cell BK454.out 1).trans rfl
     have hcz62_2 : w23.cell? ⟨gb454, 2, none⟩ = some (.slice none 0 0) := (blk_cell BK454.out 2).trans rfl
     have hfz62_0 := blk_frozen BK454.out 0
     have hfz62_1 := blk_frozen BK454.out 1
     have hfz62_2 := blk_frozen BK454.out 2
     have hnb63 := NB447_439.out
     have hnc63 := NB439_447.out
     have hnb64 := NB447_440.out
     have hnc64 := NB440_447.out
     have hcz65_0 : w23.cell? ⟨gb447, 0, none⟩ = some (.int .i64 t441) := (blk_cell BK447.out 0).trans rfl
     have hcz65_1 : w23.cell? ⟨gb447, 1, none⟩ = some (.int .i64 t442) := (blk_cell BK447.out 1).trans rfl
     have hcz65_2 : w23.cell? ⟨gb447, 2, none⟩ = some (.slice Ao19 t443.length co19) := (blk_cell BK447.out 2).trans rfl
     have hfz65_0 := blk_frozen BK447.out 0
     have hfz65_1 := blk_frozen BK447.out 1
     have hfz65_2 := blk_frozen BK447.out 2
     go_wp2_with (first | (go_at_call 29; (with_reducible refine (laws_loLedger.calls k t448 t449 _ _ t450 t441 t442 _ _ t443 false _ ?side1 ?side2 ?side3 ?side4 A30.out).mono ?_); (case side1 => refine (Kd.V_reads' (e := 29) (base := w.heap.size) (ok := fun k_ => ((some k_ ≠ (.slice Ao12 t434.length co12 : Value).ownBlock ∧ (some k_ ≠ (.slice Ao19 t443.length co19 : Value).ownBlock ∧ (k_ ≠ gb439 ∧ (k_ ≠ gb440 ∧ k_ ≠ gb447)))) ∧ k_ ≠ gb454)) (n := t450.length) (c := co28) ?_).2.2; exact (by (with_reducible repeat (first | apply Kd.V_alloc | apply Kd.V_drewN | apply Kd.V_drew)); exact (Kd.V_mono (Kd.V_far (p := ⟨gb454, 2, none⟩) (Kd.V_far (p := ⟨gb454, 1, none⟩) (Kd.V_far (p := ⟨gb454, 0, none⟩) (Kd.V_mono HO452.out (fun k_ hk => (⟨hk, hk.2⟩ : _ ∧ k_ ≠ gb454))) (fun _ hk => hk.2) (.int .i64 t448)) (fun _ hk => hk.2) (.int .i64 t449)) (fun _ hk => hk.2) (.slice Ao28 t450.length co28)) (fun _ h_ => h_.1)))); (case side2 => exact (Kd.V_reads' HO452.out).2.1); (case side3 => refine (Kd.R_reads' (e := 29) (base := w.heap.size) (ok := fun k_ => ((True ∧ some k_ ≠ (.slice Ao12 t434.length co12 : Value).ownBlock) ∧ k_ ≠ gb440)) (n := t443.length) (c := co19) ?_).2.2; exact (by (with_reducible repeat (first | apply Kd.R_alloc | apply Kd.R_drewN | apply Kd.R_drew)); exact (Kd.R_mono (Kd.R_far (p := ⟨gb454, 2, none⟩) (Kd.R_far (p := ⟨gb454, 1, none⟩) (Kd.R_far (p := ⟨gb454, 0, none⟩) (Kd.R_types HO445.out BK454.out (by decide)) (fun _ hk => hk.2) (.int .i64 t448)) (fun _ hk => hk.2) (.int .i64 t449)) (fun _ hk => hk.2) (.slice Ao28 t450.length co28)) (fun _ h_ => h_.1)))); (case side4 => exact (Kd.R_reads' HO445.out).2.1); rintro e w66 ⟨rfl, hb⟩; have n0_ := yM (Kd.R_below (by (with_reducible repeat (first | apply Kd.R_alloc | apply Kd.R_drewN | apply Kd.R_drew)); exact (Kd.R_mono (Kd.R_far (p := ⟨gb454, 2, none⟩) (Kd.R_far (p := ⟨gb454, 1, none⟩) (Kd.R_far (p := ⟨gb454, 0, none⟩) (Kd.R_types HO436.out BK454.out (by decide)) (fun _ hk => hk.2) (.int .i64 t448)) (fun _ hk => hk.2) (.int .i64 t449)) (fun _ hk => hk.2) (.slice Ao28 t450.length co28)) (fun _ h_ => h_.1))) hb); have n1_ := yM (Kd.R_below (by (with_reducible repeat (first | apply Kd.R_alloc | apply Kd.R_drewN | apply Kd.R_drew)); exact (Kd.R_mono (Kd.R_far (p := ⟨gb454, 2, none⟩) (Kd.R_far (p := ⟨gb454, 1, none⟩) (Kd.R_far (p := ⟨gb454, 0, none⟩) (Kd.R_types HO445.out BK454.out (by decide)) (fun _ hk => hk.2) (.int .i64 t448)) (fun _ hk => hk.2) (.int .i64 t449)) (fun _ hk => hk.2) (.slice Ao28 t450.length co28)) (fun _ h_ => h_.1))) hb); have n2_ := yM (Kd.V_below (by (with_reducible repeat (first | apply Kd.V_alloc | apply Kd.V_drewN | apply Kd.V_drew)); exact (Kd.V_mono (Kd.V_far (p := ⟨gb454, 2, none⟩) (Kd.V_far (p := ⟨gb454, 1, none⟩) (Kd.V_far (p := ⟨gb454, 0, none⟩) (Kd.V_mono HO452.out (fun k_ hk => (⟨hk, hk.2⟩ : _ ∧ k_ ≠ gb454))) (fun _ hk => hk.2) (.int .i64 t448)) (fun _ hk => hk.2) (.int .i64 t449)) (fun _ hk => hk.2) (.slice Ao28 t450.length co28)) (fun _ h_ => h_.1))) hb); have n3_ := yM (blk_below (g := gb439) (o := .cells #[.int .i64 t432, .int .i64 t433, .slice Ao12 t434.length co12] 32 (0, 0)) (by (with_reducible repeat (first | refine yN ?_ _ | refine yD ?_ | refine yA ?_ _)); refine blk_far ?_ NB439_454.out _; (with_reducible repeat (first | refine yN ?_ _ | refine yD ?_ | refine yA ?_ _)); refine blk_far ?_ NB439_454.out _; (with_reducible repeat (first | refine yN ?_ _ | refine yD ?_ | refine yA ?_ _)); refine blk_far ?_ NB439_454.out _; (with_reducible repeat (first | refine yN ?_ _ | refine yD ?_ | refine yA ?_ _)); exact BK439.out) hb); have n4_ := yM (blk_below (g := gb440) (o := .cells #[.int .i64 t437, .int .i64 t438] 29 (0, 0)) (by (with_reducible repeat (first | refine yN ?_ _ | refine yD ?_ | refine yA ?_ _)); refine blk_far ?_ NB440_454.out _; (with_reducible repeat (first | refine yN ?_ _ | refine yD ?_ | refine yA ?_ _)); refine blk_far ?_ NB440_454.out _; (with_reducible repeat (first | refine yN ?_ _ | refine yD ?_ | refine yA ?_ _)); refine blk_far ?_ NB440_454.out _; (with_reducible repeat (first | refine yN ?_ _ | refine yD ?_ | refine yA ?_ _)); exact BK440.out) hb); have n5_ := yM (blk_below (g := gb447) (o := .cells #[.int .i64 t441, .int .i64 t442, .slice Ao19 t443.length co19] 32 (0, 0)) (by (with_reducible repeat (first | refine yN ?_ _ | refine yD ?_ | refine yA ?_ _)); refine blk_far ?_ NB447_454.out _; (with_reducible repeat (first | refine yN ?_ _ | refine yD ?_ | refine yA ?_ _)); refine blk_far ?_ NB447_454.out _; (with_reducible repeat (first | refine yN ?_ _ | refine yD ?_ | refine yA ?_ _)); refine blk_far ?_ NB447_454.out _; (with_reducible repeat (first | refine yN ?_ _ | refine yD ?_ | refine yA ?_ _)); exact BK447.out) hb); have n6_ := yM (blk_below (g := gb454) (o := .cells #[.int .i64 t448, .int .i64 t449, .slice Ao28 t450.length co28] 32 (0, 0)) (by (with_reducible repeat (first | refine yN ?_ _ | refine yD ?_ | refine yA ?_ _)); refine blk_put (cs := #[.int .i64 t448, .int .i64 t449, .slice none 0 0]) ?_ 2 _ rfl; (with_reducible repeat (first | refine yN ?_ _ | refine yD ?_ | refine yA ?_ _)); refine blk_put (cs := #[.int .i64 t448, .int .i64 0, .slice none 0 0]) ?_ 1 _ rfl; (with_reducible repeat (first | refine yN ?_ _ | refine yD ?_ | refine yA ?_ _)); refine blk_put (cs := #[.int .i64 0, .int .i64 0, .slice none 0 0]) ?_ 0 _ rfl; (with_reducible repeat (first | refine yN ?_ _ | refine yD ?_ | refine yA ?_ _)); exact BK454.out) hb); have n7_ := yM (below_step (by repeat (first | (with_reducible first | exact HB.out | apply below_alloc | apply yP | apply below_drew1 | refine yS ?_ GE439.out | refine yS ?_ GE440.out | refine yS ?_ GE447.out | refine yS ?_ GE454.out) | exact HB.out)) hb); clear HO436; clear HO445; clear HO452; clear BK439; clear BK440; clear BK447; clear BK454; clear HB; have HO436 := n0_; have HO445 := n1_; have HO452 := n2_; have BK439 := n3_; have BK440 := n4_; have BK447 := n5_; have BK454 := n6_; have HB := n7_; clear n0_ n1_ n2_ n3_ n4_ n5_ n6_ n7_; (try clear hb); (try clear hb2); (try clear hk); (try clear hi)))
     go_meet
     case rel => exact ⟨_, (true), (by first | rfl | (simp; done) | (simp [*]; done)), H', ⟨by first | omega | exact Nat.le_refl _⟩, ⟨by (with_reducible repeat (first | apply Kd.R_alloc | apply Kd.R_drewN | apply Kd.R_drew)); exact Kd.R_mono HO436.out (fun _ hk => ⟨hk.2, hk.1.2⟩)⟩, ⟨by (with_reducible repeat (first | apply Kd.R_alloc | apply Kd.R_drewN | apply Kd.R_drew)); exact Kd.R_mono HO445.out (fun _ hk => ⟨hk.1.2, hk.2⟩)⟩, ⟨by (with_reducible repeat (first | apply Kd.V_alloc | apply Kd.V_drewN | apply Kd.V_drew)); exact Kd.V_mono HO452.out (fun _ hk => ⟨hk.1.1, ⟨hk.1.2.1, ⟨hk.1.2.2.1, ⟨hk.1.2.2.2.1, ⟨hk.1.2.2.2.2, hk.2⟩⟩⟩⟩⟩)⟩, ⟨by (with_reducible repeat (first | refine yN ?_ _ | refine yD ?_ | refine yA ?_ _)); exact BK439.out⟩, ⟨by (with_reducible repeat (first | refine yN ?_ _ | refine yD ?_ | refine yA ?_ _)); exact BK440.out⟩, ⟨by (with_reducible repeat (first | refine yN ?_ _ | refine yD ?_ | refine yA ?_ _)); exact BK447.out⟩, ⟨by (with_reducible repeat (first | refine yN ?_ _ | refine yD ?_ | refine yA ?_ _)); exact BK454.out⟩, ⟨by repeat (first | (with_reducible first | exact HB.out | apply below_alloc | apply yP | apply below_drew1 | refine yS ?_ GE439.out | refine yS ?_ GE440.out | refine yS ?_ GE447.out | refine yS ?_ GE454.out) | exact HB.out)⟩⟩
  case rest =>
   clear HC6
   try clear c1
   try clear c2
   try clear c2b0
   try clear c2b1
   try clear p2
   try clear c3
   try clear c4
   try clear c5
   try clear c6
   try clear c10
   try clear c16
   try clear c17
   try clear c24
   try clear c25
   try clear c26
   try clear c27
   try clear c28
   try clear c29
   try clear c29b0
   try clear c29b1
   try clear c29b2
   try clear c31
   try clear c33
   try clear c35
   try clear c36
   try clear c37
   try clear c39
   try clear c40
   try clear c43
   try clear c48
   try clear c49
   try clear c50
   try clear c52
   try clear c53
   try clear c56
   try clear c59
   try clear c60
   try clear c61
   try clear c63
   try clear c64
   try clear hcz11_0
   try clear hcz11_1
   try clear hcz11_2
   try clear hcz13_0
   try clear hcz13_1
   try clear hcz18_0
   try clear hcz18_1
   try clear hcz18_2
   try clear hcz20_0
   try clear hcz20_1
   try clear hcz20_2
   try clear hcz21_0
   try clear hcz21_1
   try clear hcz27_0
   try clear hcz27_1
   try clear hcz27_2
   try clear hcz38_0
   try clear hcz38_1
   try clear hcz38_2
   try clear hcz41_0
   try clear hcz41_1
   try clear hcz41_2
   try clear hcz44_0
   try clear hcz44_1
   try clear hcz44_2
   try clear hcz46_0
   try clear hcz46_1
   try clear hcz51_0
   try clear hcz51_1
   try clear hcz51_2
   try clear hcz54_0
   try clear hcz54_1
   try clear hcz54_2
   try clear hcz57_0
   try clear hcz57_1
   try clear hcz57_2
   try clear hcz62_0
   try clear hcz62_1
   try clear hcz62_2
   try clear hcz65_0
   try clear hcz65_1
   try clear hcz65_2
   try clear hfz11_0
   try clear hfz11_1
   try clear hfz11_2
   try clear hfz13_0
   try clear hfz13_1
   try clear hfz18_0
   try clear hfz18_1
   try clear hfz18_2
   try clear hfz20_0
   try clear hfz20_1
   try clear hfz20_2
   try clear hfz21_0
   try clear hfz21_1
   try clear hfz27_0
   try clear hfz27_1
   try clear hfz27_2
   try clear hfz38_0
   try clear hfz38_1
   try clear hfz38_2
   try clear hfz41_0
   try clear hfz41_1
   try clear hfz41_2
   try clear hfz44_0
   try clear hfz44_1
   try clear hfz44_2
   try clear hfz46_0
   try clear hfz46_1
   try clear hfz51_0
   try clear hfz51_1
   try clear hfz51_2
   try clear hfz54_0
   try clear hfz54_1
   try clear hfz54_2
   try clear hfz57_0
   try clear hfz57_1
   try clear hfz57_2
   try clear hfz62_0
   try clear hfz62_1
   try clear hfz62_2
   try clear hfz65_0
   try clear hfz65_1
   try clear hfz65_2
   obtain ⟨kq, x49_5, rfl, HA, HJ5, HO_440002, HO_448002, HO_455002, BK439, BK440, BK447, BK454, HB⟩ := hcut
   cases kq with
   | zero => exact absurd HA.out (by simp [laws_FnPay.j0])
   | succ kj5 =>
    have H := HA.out
    clear HA
    simp only [laws_FnPay.j0] at H
    by_cases c67 : x49_5 = true
    ·subst c67
     have H1 : (if (t453 == t446) = true then ((laws_loLedger.f kj5 t448 t449 t450 t441 t442 t443).bind fun t458 => (some t458)) else (some false)) = some r := by rw [if_pos rfl] at H; exact H
     clear H
     have H := H1
     clear H1
     by_cases c68 : (t453 == t446) = true
     ·rw [if_pos c68] at H
      have c68b0 : (t453 == t446) = true := c68
      (try (have c68b1 : decide (t453 = t446) = true := by simpa using c68))
      (try (have c68b2 : (t453 == t446) = true := by simpa using c68))
      clear c68
      replace H := Option.bind_eq_some_iff.mp H
      obtain ⟨t458, A690, H⟩ := H
      replace H : (some t458) = some r := H
      have A69 := Aside0.mk A690
      clear A690
      obtain rfl := Option.some.inj H
      have hnb70 := NB454_439.out
      have hnc70 := NB439_454.out
      have hnb71 := NB454_440.out
      have hnc71 := NB440_454.out
      have hnb72 := NB454_447.out
      have hnc72 := NB447_454.out
      have hcz73_0 : wc.cell? ⟨gb454, 0, none⟩ = some (.int .i64 t448) := (blk_cell BK454.out 0).trans rfl
      have hcz73_1 : wc.cell? ⟨gb454, 1, none⟩ = some (.int .i64 t449) := (blk_cell BK454.out 1).trans rfl
      have hcz73_2 : wc.cell? ⟨gb454, 2, none⟩ = some (.slice Ao28 t450.length co28) := (blk_cell BK454.out 2).trans rfl
      have hfz73_0 := blk_frozen BK454.out 0
      have hfz73_1 := blk_frozen BK454.out 1
      have hfz73_2 := blk_frozen BK454.out 2
      have hnb74 := NB447_439.out
      have hnc74 := NB439_447.out
      have hnb75 := NB447_440.out
      have hnc75 := NB440_447.out
      have hcz76_0 : wc.cell? ⟨gb447, 0, none⟩ = some (.int .i64 t441) := (blk_cell BK447.out 0).trans rfl
      have hcz76_1 : wc.cell? ⟨gb447, 1, none⟩ = some (.int .i64 t442) := (blk_cell BK447.out 1).trans rfl
      have hcz76_2 : wc.cell? ⟨gb447, 2, none⟩ = some (.slice Ao19 t443.length co19) := (blk_cell BK447.out 2).trans rfl
      have hfz76_0 := blk_frozen BK447.out 0
      have hfz76_1 := blk_frozen BK447.out 1
      have hfz76_2 := blk_frozen BK447.out 2
      go_wp2_with (first | (go_at_call 29; (with_reducible refine (laws_loLedger.calls kj5 t448 t449 _ _ t450 t441 t442 _ _ t443 t458 _ ?side1 ?side2 ?side3 ?side4 A69.out).mono ?_); (case side1 => repeat (first | exact (Kd.V_reads' HO_455002.out).2.2 | (with_reducible refine Kd.C_alloc ?_ _) | (with_reducible refine Kd.C_drewN ?_ _) | (with_reducible refine Kd.C_drew ?_))); (case side2 => exact (Kd.V_reads' HO_455002.out).2.1); (case side3 => repeat (first | exact (Kd.R_reads' HO_448002.out).2.2 | (with_reducible refine Kd.C_alloc ?_ _) | (with_reducible refine Kd.C_drewN ?_ _) | (with_reducible refine Kd.C_drew ?_))); (case side4 => exact (Kd.R_reads' HO_448002.out).2.1); rintro e w77 ⟨rfl, hb⟩; have n0_ := yM (Kd.R_below (by (with_reducible repeat (first | apply Kd.R_alloc | apply Kd.R_drewN | apply Kd.R_drew)); exact HO_440002.out) hb); have n1_ := yM (Kd.R_below (by (with_reducible repeat (first | apply Kd.R_alloc | apply Kd.R_drewN | apply Kd.R_drew)); exact HO_448002.out) hb); have n2_ := yM (Kd.V_below (by (with_reducible repeat (first | apply Kd.V_alloc | apply Kd.V_drewN | apply Kd.V_drew)); exact HO_455002.out) hb); have n3_ := yM (blk_below (g := gb439) (o := .cells #[.int .i64 t432, .int .i64 t433, .slice Ao12 t434.length co12] 32 (0, 0)) (by (with_reducible repeat (first | refine yN ?_ _ | refine yD ?_ | refine yA ?_ _)); exact BK439.out) hb); have n4_ := yM (blk_below (g := gb440) (o := .cells #[.int .i64 t437, .int .i64 t438] 29 (0, 0)) (by (with_reducible repeat (first | refine yN ?_ _ | refine yD ?_ | refine yA ?_ _)); exact BK440.out) hb); have n5_ := yM (blk_below (g := gb447) (o := .cells #[.int .i64 t441, .int .i64 t442, .slice Ao19 t443.length co19] 32 (0, 0)) (by (with_reducible repeat (first | refine yN ?_ _ | refine yD ?_ | refine yA ?_ _)); exact BK447.out) hb); have n6_ := yM (blk_below (g := gb454) (o := .cells #[.int .i64 t448, .int .i64 t449, .slice Ao28 t450.length co28] 32 (0, 0)) (by (with_reducible repeat (first | refine yN ?_ _ | refine yD ?_ | refine yA ?_ _)); exact BK454.out) hb); have n7_ := yM (below_step (by repeat (first | (with_reducible first | exact HB.out | apply below_alloc | apply yP | apply below_drew1 | refine yS ?_ GE439.out | refine yS ?_ GE440.out | refine yS ?_ GE447.out | refine yS ?_ GE454.out) | exact HB.out)) hb); clear HO_440002; clear HO_448002; clear HO_455002; clear BK439; clear BK440; clear BK447; clear BK454; clear HB; have HO_440002 := n0_; have HO_448002 := n1_; have HO_455002 := n2_; have BK439 := n3_; have BK440 := n4_; have BK447 := n5_; have BK454 := n6_; have HB := n7_; clear n0_ n1_ n2_ n3_ n4_ n5_ n6_ n7_; (try clear hb); (try clear hb2); (try clear hk); (try clear hi)))
      go_ret
      exact ⟨by first | rfl | (simp [errW_none, errW_some] <;> rfl) | (simp [*, errW_none, errW_some] <;> rfl), by repeat (first | (with_reducible first | exact HB.out | apply below_alloc | apply yP | apply below_drew1 | refine yS ?_ GE439.out | refine yS ?_ GE440.out | refine yS ?_ GE447.out | refine yS ?_ GE454.out) | exact HB.out)⟩
     ·rw [if_neg c68] at H
      have c68b0 : (t453 == t446) = false := by simpa using c68
      (try (have c68b1 : decide (t453 = t446) = false := by simpa using c68))
      (try (have c68b2 : (t453 == t446) = false := by simpa using c68))
      (try (have c68b3 : ¬ (t453 = t446) := by simpa using c68))
      clear c68
      exact absurd (Option.some.inj (H.trans (congrArg some HRT.out))) (by decide)
    ·replace c67 := Bool.eq_false_iff.mpr c67
     subst c67
     have H1 : ((impl_LedgerCan.f kj5 t432 t433 t434 t437 t438).bind fun t459 => (if (t453 != t459) = true then (some false) else (if t453 = true then ((impl_LedgerSum.f kj5 t448 t449 t450).bind fun bt460 => (if bt460.2.2 = true then ((impl_FracCmp.f kj5 bt460.1 bt460.2.1 t448 t449).bind fun t464 => (if t464 ≤ 0 then (if (t450.length : Int) = (wrap64 ((t434.length : Int) + 1)) then (if 0 ≤ (t434.length : Int) then (if (t434.length : Int) < (t450.length : Int) then (if (((rd_T29 t450 (t434.length : Int)).f0) == t437 && (((rd_T29 t450 (t434.length : Int)).f1) == t438)) = true then (if (t448 == t432 && (t449 == t433)) = true then ((impl_LedgerOk.f kj5 t448 t449 t450).bind fun t466 => (some t466)) else (some false)) else (some false)) else (none)) else (none)) else (some false)) else (some false))) else (some false))) else ((laws_loLedger.f kj5 t448 t449 t450 t432 t433 t434).bind fun t467 => (some t467))))) = some r := by rw [if_neg (show ¬ (false = true) by decide)] at H; exact H
     clear H
     have H := H1
     clear H1
     replace H := Option.bind_eq_some_iff.mp H
     obtain ⟨t459, A780, H⟩ := H
     replace H : (if (t453 != t459) = true then (some false) else (if t453 = true then ((impl_LedgerSum.f kj5 t448 t449 t450).bind fun bt460 => (if bt460.2.2 = true then ((impl_FracCmp.f kj5 bt460.1 bt460.2.1 t448 t449).bind fun t464 => (if t464 ≤ 0 then (if (t450.length : Int) = (wrap64 ((t434.length : Int) + 1)) then (if 0 ≤ (t434.length : Int) then (if (t434.length : Int) < (t450.length : Int) then (if (((rd_T29 t450 (t434.length : Int)).f0) == t437 && (((rd_T29 t450 (t434.length : Int)).f1) == t438)) = true then (if (t448 == t432 && (t449 == t433)) = true then ((impl_LedgerOk.f kj5 t448 t449 t450).bind fun t466 => (some t466)) else (some false)) else (some false)) else (none)) else (none)) else (some false)) else (some false))) else (some false))) else ((laws_loLedger.f kj5 t448 t449 t450 t432 t433 t434).bind fun t467 => (some t467)))) = some r := H
     have A78 := Aside0.mk A780
     clear A780
     by_cases c79 : (t453 != t459) = true
     ·rw [if_pos c79] at H
      have c79b0 : (t453 != t459) = true := c79
      (try (have c79b1 : decide (t453 = t459) = false := by simpa using c79))
      (try (have c79b2 : (t453 == t459) = false := by simpa using c79))
      (try (have c79b3 : ¬ (t453 = t459) := by simpa using c79))
      clear c79
      exact absurd (Option.some.inj (H.trans (congrArg some HRT.out))) (by decide)
     ·rw [if_neg c79] at H
      have c79b0 : (t453 != t459) = false := by simpa using c79
      (try (have c79b1 : decide (t453 = t459) = true := by simpa using c79))
      (try (have c79b2 : (t453 == t459) = true := by simpa using c79))
      clear c79
      by_cases c80 : t453 = true
      ·subst c80
       have H1 : ((impl_LedgerSum.f kj5 t448 t449 t450).bind fun bt460 => (if bt460.2.2 = true then ((impl_FracCmp.f kj5 bt460.1 bt460.2.1 t448 t449).bind fun t464 => (if t464 ≤ 0 then (if (t450.length : Int) = (wrap64 ((t434.length : Int) + 1)) then (if 0 ≤ (t434.length : Int) then (if (t434.length : Int) < (t450.length : Int) then (if (((rd_T29 t450 (t434.length : Int)).f0) == t437 && (((rd_T29 t450 (t434.length : Int)).f1) == t438)) = true then (if (t448 == t432 && (t449 == t433)) = true then ((impl_LedgerOk.f kj5 t448 t449 t450).bind fun t466 => (some t466)) else (some false)) else (some false)) else (none)) else (none)) else (some false)) else (some false))) else (some false))) = some r := by rw [if_pos rfl] at H; exact H
       clear H
       have H := H1
       clear H1
       replace H := Option.bind_eq_some_iff.mp H
       obtain ⟨⟨t460, t461, t462⟩, A810, H⟩ := H
       replace H : (if t462 = true then ((impl_FracCmp.f kj5 t460 t461 t448 t449).bind fun t464 => (if t464 ≤ 0 then (if (t450.length : Int) = (wrap64 ((t434.length : Int) + 1)) then (if 0 ≤ (t434.length : Int) then (if (t434.length : Int) < (t450.length : Int) then (if (((rd_T29 t450 (t434.length : Int)).f0) == t437 && (((rd_T29 t450 (t434.length : Int)).f1) == t438)) = true then (if (t448 == t432 && (t449 == t433)) = true then ((impl_LedgerOk.f kj5 t448 t449 t450).bind fun t466 => (some t466)) else (some false)) else (some false)) else (none)) else (none)) else (some false)) else (some false))) else (some false)) = some r := H
       have A81 := Aside0.mk A810
       clear A810
       by_cases c82 : t462 = true
       ·subst c82
        have H1 : ((impl_FracCmp.f kj5 t460 t461 t448 t449).bind fun t464 => (if t464 ≤ 0 then (if (t450.length : Int) = (wrap64 ((t434.length : Int) + 1)) then (if 0 ≤ (t434.length : Int) then (if (t434.length : Int) < (t450.length : Int) then (if (((rd_T29 t450 (t434.length : Int)).f0) == t437 && (((rd_T29 t450 (t434.length : Int)).f1) == t438)) = true then (if (t448 == t432 && (t449 == t433)) = true then ((impl_LedgerOk.f kj5 t448 t449 t450).bind fun t466 => (some t466)) else (some false)) else (some false)) else (none)) else (none)) else (some false)) else (some false))) = some r := by rw [if_pos rfl] at H; exact H
        clear H
        have H := H1
        clear H1
        replace H := Option.bind_eq_some_iff.mp H
        obtain ⟨t464, A830, H⟩ := H
        replace H : (if t464 ≤ 0 then (if (t450.length : Int) = (wrap64 ((t434.length : Int) + 1)) then (if 0 ≤ (t434.length : Int) then (if (t434.length : Int) < (t450.length : Int) then (if (((rd_T29 t450 (t434.length : Int)).f0) == t437 && (((rd_T29 t450 (t434.length : Int)).f1) == t438)) = true then (if (t448 == t432 && (t449 == t433)) = true then ((impl_LedgerOk.f kj5 t448 t449 t450).bind fun t466 => (some t466)) else (some false)) else (some false)) else (none)) else (none)) else (some false)) else (some false)) = some r := H
        have A83 := Aside0.mk A830
        clear A830
        by_cases c84 : t464 ≤ 0
        ·rw [if_pos c84] at H
         have c84b0 : decide (t464 ≤ 0) = true := decide_eq_true c84
         clear c84
         by_cases c85 : (t450.length : Int) = (wrap64 ((t434.length : Int) + 1))
         ·rw [if_pos c85] at H
          have c85b0 : ((t450.length : Int) == (wrap64 ((t434.length : Int) + 1))) = true := beq_iff_eq.mpr c85
          have c85b1 : ((t450.length : Int) != (wrap64 ((t434.length : Int) + 1))) = false := bne_eq_false_iff_eq.mpr c85
          clear c85
          by_cases c86 : 0 ≤ (t434.length : Int)
          ·rw [if_pos c86] at H
           have c86b0 : decide (0 ≤ (t434.length : Int)) = true := decide_eq_true c86
           have c86b1 : decide (0 ≤ t434.length) = true := decide_eq_true (by omega)
           clear c86
           by_cases c87 : (t434.length : Int) < (t450.length : Int)
           ·rw [if_pos c87] at H
            have c87b0 : decide ((t434.length : Int) < (t450.length : Int)) = true := decide_eq_true c87
            have c87b1 : decide (t434.length < t450.length) = true := decide_eq_true (Int.ofNat_lt.mp c87)
            clear c87
            by_cases c88 : (((rd_T29 t450 (t434.length : Int)).f0) == t437 && (((rd_T29 t450 (t434.length : Int)).f1) == t438)) = true
            ·rw [if_pos c88] at H
             have c88b0 : (((rd_T29 t450 (t434.length : Int)).f0) == t437 && (((rd_T29 t450 (t434.length : Int)).f1) == t438)) = true := c88
             (try (have c88b1 : decide (((rd_T29 t450 (t434.length : Int)).f0) = t437 && (((rd_T29 t450 (t434.length : Int)).f1) == t438)) = true := by simpa using c88))
             (try (have c88b2 : (((rd_T29 t450 (t434.length : Int)).f0) == t437 && (((rd_T29 t450 (t434.length : Int)).f1) == t438)) = true := by simpa using c88))
             clear c88
             by_cases c89 : (t448 == t432 && (t449 == t433)) = true
             ·rw [if_pos c89] at H
              have c89b0 : (t448 == t432 && (t449 == t433)) = true := c89
              (try (have c89b1 : decide (t448 = t432 && (t449 == t433)) = true := by simpa using c89))
              (try (have c89b2 : (t448 == t432 && (t449 == t433)) = true := by simpa using c89))
              clear c89
              replace H := Option.bind_eq_some_iff.mp H
              obtain ⟨t466, A900, H⟩ := H
              replace H : (some t466) = some r := H
              have A90 := Aside0.mk A900
              clear A900
              obtain rfl := Option.some.inj H
              have hnb91 := NB439_440.out
              have hnc91 := NB440_439.out
              have hnb92 := NB439_447.out
              have hnc92 := NB447_439.out
              have hnb93 := NB439_454.out
              have hnc93 := NB454_439.out
              have hcz94_0 : wc.cell? ⟨gb439, 0, none⟩ = some (.int .i64 t432) := (blk_cell BK439.out 0).trans rfl
              have hcz94_1 : wc.cell? ⟨gb439, 1, none⟩ = some (.int .i64 t433) := (blk_cell BK439.out 1).trans rfl
              have hcz94_2 : wc.cell? ⟨gb439, 2, none⟩ = some (.slice Ao12 t434.length co12) := (blk_cell BK439.out 2).trans rfl
              have hfz94_0 := blk_frozen BK439.out 0
              have hfz94_1 := blk_frozen BK439.out 1
              have hfz94_2 := blk_frozen BK439.out 2
              have hnb95 := NB440_447.out
              have hnc95 := NB447_440.out
              have hnb96 := NB440_454.out
              have hnc96 := NB454_440.out
              have hcz97_0 : wc.cell? ⟨gb440, 0, none⟩ = some (.int .i64 t437) := (blk_cell BK440.out 0).trans rfl
              have hcz97_1 : wc.cell? ⟨gb440, 1, none⟩ = some (.int .i64 t438) := (blk_cell BK440.out 1).trans rfl
              have hfz97_0 := blk_frozen BK440.out 0
              have hfz97_1 := blk_frozen BK440.out 1
              try go_wp2_with (first | ((with_reducible refine gate_callee (f := 33) rfl ?_); refine goesL_ (some 61) rfl rfl Try.func33 (by kernel_rfl) rfl #[.agg #[.int .i64 t432, .int .i64 t433, .slice Ao12 t434.length co12], .agg #[.int .i64 t437, .int .i64 t438]] rfl (by (try simp only [List.map_toArray, List.map_cons, List.map_nil]); first | done | rfl | (simp only [List.length_drop, List.length_take]; rfl)) ?_; (with_reducible refine (impl_LedgerCan.calls kj5 t432 t433 _ _ t434 t437 t438 t459 _ ?side1 ?side2 A78.out).mono ?_); (case side1 => repeat (first | exact (Kd.R_reads' HO_440002.out).2.2 | (with_reducible refine Kd.C_alloc ?_ _) | (with_reducible refine Kd.C_drewN ?_ _) | (with_reducible refine Kd.C_drew ?_))); (case side2 => exact (Kd.R_reads' HO_440002.out).2.1); rintro e w98 ⟨rfl, hb⟩; refine ⟨_, rfl, ?_⟩; have n0_ := yM (Kd.R_below (by (with_reducible repeat (first | apply Kd.R_alloc | apply Kd.R_drewN | apply Kd.R_drew)); exact HO_440002.out) hb); have n1_ := yM (Kd.R_below (by (with_reducible repeat (first | apply Kd.R_alloc | apply Kd.R_drewN | apply Kd.R_drew)); exact HO_448002.out) hb); have n2_ := yM (Kd.V_below (by (with_reducible repeat (first | apply Kd.V_alloc | apply Kd.V_drewN | apply Kd.V_drew)); exact HO_455002.out) hb); have n3_ := yM (blk_below (g := gb439) (o := .cells #[.int .i64 t432, .int .i64 t433, .slice Ao12 t434.length co12] 32 (0, 0)) (by (with_reducible repeat (first | refine yN ?_ _ | refine yD ?_ | refine yA ?_ _)); exact BK439.out) hb); have n4_ := yM (blk_below (g := gb440) (o := .cells #[.int .i64 t437, .int .i64 t438] 29 (0, 0)) (by (with_reducible repeat (first | refine yN ?_ _ | refine yD ?_ | refine yA ?_ _)); exact BK440.out) hb); have n5_ := yM (blk_below (g := gb447) (o := .cells #[.int .i64 t441, .int .i64 t442, .slice Ao19 t443.length co19] 32 (0, 0)) (by (with_reducible repeat (first | refine yN ?_ _ | refine yD ?_ | refine yA ?_ _)); exact BK447.out) hb); have n6_ := yM (blk_below (g := gb454) (o := .cells #[.int .i64 t448, .int .i64 t449, .slice Ao28 t450.length co28] 32 (0, 0)) (by (with_reducible repeat (first | refine yN ?_ _ | refine yD ?_ | refine yA ?_ _)); exact BK454.out) hb); have n7_ := yM (below_step (by repeat (first | (with_reducible first | exact HB.out | apply below_alloc | apply yP | apply below_drew1 | refine yS ?_ GE439.out | refine yS ?_ GE440.out | refine yS ?_ GE447.out | refine yS ?_ GE454.out) | exact HB.out)) hb); clear HO_440002; clear HO_448002; clear HO_455002; clear BK439; clear BK440; clear BK447; clear BK454; clear HB; have HO_440002 := n0_; have HO_448002 := n1_; have HO_455002 := n2_; have BK439 := n3_; have BK440 := n4_; have BK447 := n5_; have BK454 := n6_; have HB := n7_; clear n0_ n1_ n2_ n3_ n4_ n5_ n6_ n7_; (try clear hb); (try clear hb2); (try clear hk); (try clear hi); have hnb99 := NB454_447.out; have hnc99 := NB447_454.out; have hcz100_0 : w98.cell? ⟨gb454, 0, none⟩ = some (.int .i64 t448) := (blk_cell BK454.out 0).trans rfl; have hcz100_1 : w98.cell? ⟨gb454, 1, none⟩ = some (.int .i64 t449) := (blk_cell BK454.out 1).trans rfl; have hcz100_2 : w98.cell? ⟨gb454, 2, none⟩ = some (.slice Ao28 t450.length co28) := (blk_cell BK454.out 2).trans rfl; have hfz100_0 := blk_frozen BK454.out 0; have hfz100_1 := blk_frozen BK454.out 1; have hfz100_2 := blk_frozen BK454.out 2) | ((with_reducible refine gate_callee (f := 20) rfl ?_); refine goesL_ (some 70) rfl rfl Try.func20 (by kernel_rfl) rfl #[.agg #[.int .i64 t448, .int .i64 t449, .slice Ao28 t450.length co28]] rfl (by (try simp only [List.map_toArray, List.map_cons, List.map_nil]); first | done | rfl | (simp only [List.length_drop, List.length_take]; rfl)) ?_; (with_reducible refine (impl_LedgerSum.calls kj5 t448 t449 _ _ t450 t460 t461 true _ ?side1 ?side2 A81.out).mono ?_); (case side1 => repeat (first | exact (Kd.V_reads' HO_455002.out).2.2 | (with_reducible refine Kd.C_alloc ?_ _) | (with_reducible refine Kd.C_drewN ?_ _) | (with_reducible refine Kd.C_drew ?_))); (case side2 => exact (Kd.V_reads' HO_455002.out).2.1); rintro e w101 ⟨rfl, hb⟩; refine ⟨_, rfl, ?_⟩; have n0_ := yM (Kd.R_below (by (with_reducible repeat (first | apply Kd.R_alloc | apply Kd.R_drewN | apply Kd.R_drew)); exact HO_440002.out) hb); have n1_ := yM (Kd.R_below (by (with_reducible repeat (first | apply Kd.R_alloc | apply Kd.R_drewN | apply Kd.R_drew)); exact HO_448002.out) hb); have n2_ := yM (Kd.V_below (by (with_reducible repeat (first | apply Kd.V_alloc | apply Kd.V_drewN | apply Kd.V_drew)); exact HO_455002.out) hb); have n3_ := yM (blk_below (g := gb439) (o := .cells #[.int .i64 t432, .int .i64 t433, .slice Ao12 t434.length co12] 32 (0, 0)) (by (with_reducible repeat (first | refine yN ?_ _ | refine yD ?_ | refine yA ?_ _)); exact BK439.out) hb); have n4_ := yM (blk_below (g := gb440) (o := .cells #[.int .i64 t437, .int .i64 t438] 29 (0, 0)) (by (with_reducible repeat (first | refine yN ?_ _ | refine yD ?_ | refine yA ?_ _)); exact BK440.out) hb); have n5_ := yM (blk_below (g := gb447) (o := .cells #[.int .i64 t441, .int .i64 t442, .slice Ao19 t443.length co19] 32 (0, 0)) (by (with_reducible repeat (first | refine yN ?_ _ | refine yD ?_ | refine yA ?_ _)); exact BK447.out) hb); have n6_ := yM (blk_below (g := gb454) (o := .cells #[.int .i64 t448, .int .i64 t449, .slice Ao28 t450.length co28] 32 (0, 0)) (by (with_reducible repeat (first | refine yN ?_ _ | refine yD ?_ | refine yA ?_ _)); exact BK454.out) hb); have n7_ := yM (below_step (by repeat (first | (with_reducible first | exact HB.out | apply below_alloc | apply yP | apply below_drew1 | refine yS ?_ GE439.out | refine yS ?_ GE440.out | refine yS ?_ GE447.out | refine yS ?_ GE454.out) | exact HB.out)) hb); clear HO_440002; clear HO_448002; clear HO_455002; clear BK439; clear BK440; clear BK447; clear BK454; clear HB; have HO_440002 := n0_; have HO_448002 := n1_; have HO_455002 := n2_; have BK439 := n3_; have BK440 := n4_; have BK447 := n5_; have BK454 := n6_; have HB := n7_; clear n0_ n1_ n2_ n3_ n4_ n5_ n6_ n7_; (try clear hb); (try clear hb2); (try clear hk); (try clear hi)) | ((with_reducible refine gate_dst (N := 9) rfl ?_); (try (refine gate_guard (by rfl) ?_; dsimp only)); refine box_event ?hg (N := 9) ?hd (cs := #[.int .i64 0, .int .i64 0]) (t := 29) ?hr ?_; (case hd => rfl); (case hg => rfl); (case hr => first | (go_simp; done) | (go_simp; rfl)); intro gb463 hg w102 hbox hb; have n0_ := yM (Kd.R_below (Kd.R_elderB (by (with_reducible repeat (first | apply Kd.R_alloc | apply Kd.R_drewN | apply Kd.R_drew)); exact HO_440002.out) gb463 (Nat.le_of_eq hg.symm)) hb); have n1_ := yM (Kd.R_below (Kd.R_elderB (by (with_reducible repeat (first | apply Kd.R_alloc | apply Kd.R_drewN | apply Kd.R_drew)); exact HO_448002.out) gb463 (Nat.le_of_eq hg.symm)) hb); have n2_ := yM (Kd.V_below (Kd.V_elderB (by (with_reducible repeat (first | apply Kd.V_alloc | apply Kd.V_drewN | apply Kd.V_drew)); exact HO_455002.out) gb463 (Nat.le_of_eq hg.symm)) hb); have n3_ := yM (blk_below (g := gb439) (o := .cells #[.int .i64 t432, .int .i64 t433, .slice Ao12 t434.length co12] 32 (0, 0)) (by (with_reducible repeat (first | refine yN ?_ _ | refine yD ?_ | refine yA ?_ _)); exact BK439.out) hb); have n4_ := yM (blk_below (g := gb440) (o := .cells #[.int .i64 t437, .int .i64 t438] 29 (0, 0)) (by (with_reducible repeat (first | refine yN ?_ _ | refine yD ?_ | refine yA ?_ _)); exact BK440.out) hb); have n5_ := yM (blk_below (g := gb447) (o := .cells #[.int .i64 t441, .int .i64 t442, .slice Ao19 t443.length co19] 32 (0, 0)) (by (with_reducible repeat (first | refine yN ?_ _ | refine yD ?_ | refine yA ?_ _)); exact BK447.out) hb); have n6_ := yM (blk_below (g := gb454) (o := .cells #[.int .i64 t448, .int .i64 t449, .slice Ao28 t450.length co28] 32 (0, 0)) (by (with_reducible repeat (first | refine yN ?_ _ | refine yD ?_ | refine yA ?_ _)); exact BK454.out) hb); have n7_ := yM (below_step (by repeat (first | (with_reducible first | exact HB.out | apply below_alloc | apply yP | apply below_drew1 | refine yS ?_ GE439.out | refine yS ?_ GE440.out | refine yS ?_ GE447.out | refine yS ?_ GE454.out) | exact HB.out)) hb); have n8_ := yM (hbox); have n9_ := yM ((by rw [hg]; exact (below_size (by repeat (first | (with_reducible first | exact HB.out | apply below_alloc | apply yP | apply below_drew1 | refine yS ?_ GE439.out | refine yS ?_ GE440.out | refine yS ?_ GE447.out | refine yS ?_ GE454.out) | exact HB.out))) : w.heap.size ≤ gb463)); have n10_ := yM ((by rw [hg]; exact (below_size (by repeat (first | (with_reducible first | exact HB.out | apply below_alloc | apply yP | apply below_drew1 | refine yS ?_ GE439.out | refine yS ?_ GE440.out | refine yS ?_ GE447.out | refine yS ?_ GE454.out) | exact HB.out))) : w.heap.size ≤ gb463)); have n11_ := yM ((by rw [hg]; exact Nat.ne_of_lt (blk_lt (g := gb439) (o := .cells #[.int .i64 t432, .int .i64 t433, .slice Ao12 t434.length co12] 32 (0, 0)) (by (with_reducible repeat (first | refine yN ?_ _ | refine yD ?_ | refine yA ?_ _)); exact BK439.out)) : gb439 ≠ gb463)); have n12_ := yM ((by rw [hg]; exact Nat.ne_of_gt (blk_lt (g := gb439) (o := .cells #[.int .i64 t432, .int .i64 t433, .slice Ao12 t434.length co12] 32 (0, 0)) (by (with_reducible repeat (first | refine yN ?_ _ | refine yD ?_ | refine yA ?_ _)); exact BK439.out)) : gb463 ≠ gb439)); have n13_ := yM ((by rw [hg]; exact Nat.ne_of_lt (blk_lt (g := gb440) (o := .cells #[.int .i64 t437, .int .i64 t438] 29 (0, 0)) (by (with_reducible repeat (first | refine yN ?_ _ | refine yD ?_ | refine yA ?_ _)); exact BK440.out)) : gb440 ≠ gb463)); have n14_ := yM ((by rw [hg]; exact Nat.ne_of_gt (blk_lt (g := gb440) (o := .cells #[.int .i64 t437, .int .i64 t438] 29 (0, 0)) (by (with_reducible repeat (first | refine yN ?_ _ | refine yD ?_ | refine yA ?_ _)); exact BK440.out)) : gb463 ≠ gb440)); have n15_ := yM ((by rw [hg]; exact Nat.ne_of_lt (blk_lt (g := gb447) (o := .cells #[.int .i64 t441, .int .i64 t442, .slice Ao19 t443.length co19] 32 (0, 0)) (by (with_reducible repeat (first | refine yN ?_ _ | refine yD ?_ | refine yA ?_ _)); exact BK447.out)) : gb447 ≠ gb463)); have n16_ := yM ((by rw [hg]; exact Nat.ne_of_gt (blk_lt (g := gb447) (o := .cells #[.int .i64 t441, .int .i64 t442, .slice Ao19 t443.length co19] 32 (0, 0)) (by (with_reducible repeat (first | refine yN ?_ _ | refine yD ?_ | refine yA ?_ _)); exact BK447.out)) : gb463 ≠ gb447)); have n17_ := yM ((by rw [hg]; exact Nat.ne_of_lt (blk_lt (g := gb454) (o := .cells #[.int .i64 t448, .int .i64 t449, .slice Ao28 t450.length co28] 32 (0, 0)) (by (with_reducible repeat (first | refine yN ?_ _ | refine yD ?_ | refine yA ?_ _)); exact BK454.out)) : gb454 ≠ gb463)); have n18_ := yM ((by rw [hg]; exact Nat.ne_of_gt (blk_lt (g := gb454) (o := .cells #[.int .i64 t448, .int .i64 t449, .slice Ao28 t450.length co28] 32 (0, 0)) (by (with_reducible repeat (first | refine yN ?_ _ | refine yD ?_ | refine yA ?_ _)); exact BK454.out)) : gb463 ≠ gb454)); clear HO_440002; clear HO_448002; clear HO_455002; clear BK439; clear BK440; clear BK447; clear BK454; clear HB; have HO_440002 := n0_; have HO_448002 := n1_; have HO_455002 := n2_; have BK439 := n3_; have BK440 := n4_; have BK447 := n5_; have BK454 := n6_; have HB := n7_; have BK463 := n8_; have GW463 := n9_; have GE463 := n10_; have NB439_463 := n11_; have NB463_439 := n12_; have NB440_463 := n13_; have NB463_440 := n14_; have NB447_463 := n15_; have NB463_447 := n16_; have NB454_463 := n17_; have NB463_454 := n18_; clear n0_ n1_ n2_ n3_ n4_ n5_ n6_ n7_ n8_ n9_ n10_ n11_ n12_ n13_ n14_ n15_ n16_ n17_ n18_; clear hb hbox hg; have hnb103 := NB463_439.out; have hnc103 := NB439_463.out; have hnb104 := NB463_440.out; have hnc104 := NB440_463.out; have hnb105 := NB463_447.out; have hnc105 := NB447_463.out; have hnb106 := NB463_454.out; have hnc106 := NB454_463.out; have hcz107_0 : w102.cell? ⟨gb463, 0, none⟩ = some (.int .i64 0) := (blk_cell BK463.out 0).trans rfl; have hcz107_1 : w102.cell? ⟨gb463, 1, none⟩ = some (.int .i64 0) := (blk_cell BK463.out 1).trans rfl; have hfz107_0 := blk_frozen BK463.out 0; have hfz107_1 := blk_frozen BK463.out 1))
              have n0_ : Aside0 (Kd.R k29 29 ((w102.setCell ⟨gb463, 0, none⟩ (.int .i64 t460)).setCell ⟨gb463, 1, none⟩ (.int .i64 t461)) w.heap.size (fun k_ => some k_ ≠ (.slice Ao19 t443.length co19 : Value).ownBlock ∧ k_ ≠ gb440 ∧ k_ ≠ gb463) (.slice Ao12 t434.length co12) t434) := ⟨by (with_reducible repeat (first | apply Kd.R_alloc | apply Kd.R_drewN | apply Kd.R_drew)); exact Kd.R_mono (Kd.R_far (p := ⟨gb463, 1, none⟩) (Kd.R_far (p := ⟨gb463, 0, none⟩) (Kd.R_mono HO_440002.out (fun k_ hk => (⟨hk, hk.2⟩ : _ ∧ k_ ≠ gb463))) (fun _ hk => hk.2) (.int .i64 t460)) (fun _ hk => hk.2) (.int .i64 t461)) (fun _ hk => ⟨hk.1.1.1, ⟨hk.1.1.2, hk.1.2⟩⟩)⟩
              have n1_ : Aside0 (Kd.R k29 29 ((w102.setCell ⟨gb463, 0, none⟩ (.int .i64 t460)).setCell ⟨gb463, 1, none⟩ (.int .i64 t461)) w.heap.size (fun k_ => some k_ ≠ (.slice Ao12 t434.length co12 : Value).ownBlock ∧ k_ ≠ gb440 ∧ k_ ≠ gb463) (.slice Ao19 t443.length co19) t443) := ⟨by (with_reducible repeat (first | apply Kd.R_alloc | apply Kd.R_drewN | apply Kd.R_drew)); exact Kd.R_mono (Kd.R_far (p := ⟨gb463, 1, none⟩) (Kd.R_far (p := ⟨gb463, 0, none⟩) (Kd.R_mono HO_448002.out (fun k_ hk => (⟨hk, hk.2⟩ : _ ∧ k_ ≠ gb463))) (fun _ hk => hk.2) (.int .i64 t460)) (fun _ hk => hk.2) (.int .i64 t461)) (fun _ hk => ⟨hk.1.1.1, ⟨hk.1.1.2, hk.1.2⟩⟩)⟩
              have n2_ : Aside0 (Kd.V k29 29 ((w102.setCell ⟨gb463, 0, none⟩ (.int .i64 t460)).setCell ⟨gb463, 1, none⟩ (.int .i64 t461)) w.heap.size (fun k_ => some k_ ≠ (.slice Ao12 t434.length co12 : Value).ownBlock ∧ some k_ ≠ (.slice Ao19 t443.length co19 : Value).ownBlock ∧ k_ ≠ gb439 ∧ k_ ≠ gb440 ∧ k_ ≠ gb447 ∧ k_ ≠ gb454 ∧ k_ ≠ gb463) (.slice Ao28 t450.length co28) t450) := ⟨by (with_reducible repeat (first | apply Kd.V_alloc | apply Kd.V_drewN | apply Kd.V_drew)); exact Kd.V_mono (Kd.V_far (p := ⟨gb463, 1, none⟩) (Kd.V_far (p := ⟨gb463, 0, none⟩) (Kd.V_mono HO_455002.out (fun k_ hk => (⟨hk, hk.2⟩ : _ ∧ k_ ≠ gb463))) (fun _ hk => hk.2) (.int .i64 t460)) (fun _ hk => hk.2) (.int .i64 t461)) (fun _ hk => ⟨hk.1.1.1, ⟨hk.1.1.2.1, ⟨hk.1.1.2.2.1, ⟨hk.1.1.2.2.2.1, ⟨hk.1.1.2.2.2.2.1, ⟨hk.1.1.2.2.2.2.2, hk.1.2⟩⟩⟩⟩⟩⟩)⟩
              have n3_ : Aside0 (((w102.setCell ⟨gb463, 0, none⟩ (.int .i64 t460)).setCell ⟨gb463, 1, none⟩ (.int .i64 t461)).heap[gb439]? = some (.cells #[.int .i64 t432, .int .i64 t433, .slice Ao12 t434.length co12] 32 (0, 0))) := ⟨by (with_reducible repeat (first | refine yN ?_ _ | refine yD ?_ | refine yA ?_ _)); refine blk_far ?_ NB439_463.out _; (with_reducible repeat (first | refine yN ?_ _ | refine yD ?_ | refine yA ?_ _)); refine blk_far ?_ NB439_463.out _; (with_reducible repeat (first | refine yN ?_ _ | refine yD ?_ | refine yA ?_ _)); exact BK439.out⟩
              have n4_ : Aside0 (((w102.setCell ⟨gb463, 0, none⟩ (.int .i64 t460)).setCell ⟨gb463, 1, none⟩ (.int .i64 t461)).heap[gb440]? = some (.cells #[.int .i64 t437, .int .i64 t438] 29 (0, 0))) := ⟨by (with_reducible repeat (first | refine yN ?_ _ | refine yD ?_ | refine yA ?_ _)); refine blk_far ?_ NB440_463.out _; (with_reducible repeat (first | refine yN ?_ _ | refine yD ?_ | refine yA ?_ _)); refine blk_far ?_ NB440_463.out _; (with_reducible repeat (first | refine yN ?_ _ | refine yD ?_ | refine yA ?_ _)); exact BK440.out⟩
              have n5_ : Aside0 (((w102.setCell ⟨gb463, 0, none⟩ (.int .i64 t460)).setCell ⟨gb463, 1, none⟩ (.int .i64 t461)).heap[gb447]? = some (.cells #[.int .i64 t441, .int .i64 t442, .slice Ao19 t443.length co19] 32 (0, 0))) := ⟨by (with_reducible repeat (first | refine yN ?_ _ | refine yD ?_ | refine yA ?_ _)); refine blk_far ?_ NB447_463.out _; (with_reducible repeat (first | refine yN ?_ _ | refine yD ?_ | refine yA ?_ _)); refine blk_far ?_ NB447_463.out _; (with_reducible repeat (first | refine yN ?_ _ | refine yD ?_ | refine yA ?_ _)); exact BK447.out⟩
              have n6_ : Aside0 (((w102.setCell ⟨gb463, 0, none⟩ (.int .i64 t460)).setCell ⟨gb463, 1, none⟩ (.int .i64 t461)).heap[gb454]? = some (.cells #[.int .i64 t448, .int .i64 t449, .slice Ao28 t450.length co28] 32 (0, 0))) := ⟨by (with_reducible repeat (first | refine yN ?_ _ | refine yD ?_ | refine yA ?_ _)); refine blk_far ?_ NB454_463.out _; (with_reducible repeat (first | refine yN ?_ _ | refine yD ?_ | refine yA ?_ _)); refine blk_far ?_ NB454_463.out _; (with_reducible repeat (first | refine yN ?_ _ | refine yD ?_ | refine yA ?_ _)); exact BK454.out⟩
              have n7_ : Aside0 (((w102.setCell ⟨gb463, 0, none⟩ (.int .i64 t460)).setCell ⟨gb463, 1, none⟩ (.int .i64 t461)).heap[gb463]? = some (.cells #[.int .i64 t460, .int .i64 t461] 29 (0, 0))) := ⟨by (with_reducible repeat (first | refine yN ?_ _ | refine yD ?_ | refine yA ?_ _)); refine blk_put (cs := #[.int .i64 t460, .int .i64 0]) ?_ 1 _ rfl; (with_reducible repeat (first | refine yN ?_ _ | refine yD ?_ | refine yA ?_ _)); refine blk_put (cs := #[.int .i64 0, .int .i64 0]) ?_ 0 _ rfl; (with_reducible repeat (first | refine yN ?_ _ | refine yD ?_ | refine yA ?_ _)); exact BK463.out⟩
              have n8_ : Aside0 (Below w.heap.size w ((w102.setCell ⟨gb463, 0, none⟩ (.int .i64 t460)).setCell ⟨gb463, 1, none⟩ (.int .i64 t461))) := ⟨by repeat (first | (with_reducible first | exact HB.out | apply below_alloc | apply yP | apply below_drew1 | refine yS ?_ GE439.out | refine yS ?_ GE440.out | refine yS ?_ GE447.out | refine yS ?_ GE454.out | refine yS ?_ GE463.out) | exact HB.out)⟩
              (try clear HO_440002)
              (try clear HO_448002)
              (try clear HO_455002)
              (try clear BK439)
              (try clear BK440)
              (try clear BK447)
              (try clear BK454)
              (try clear BK463)
              (try clear HB)
              generalize ((w102.setCell ⟨gb463, 0, none⟩ (.int .i64 t460)).setCell ⟨gb463, 1, none⟩ (.int .i64 t461)) = w108 at n0_ n1_ n2_ n3_ n4_ n5_ n6_ n7_ n8_ ⊢
              have HO_440002 := n0_
              have HO_448002 := n1_
              have HO_455002 := n2_
              have BK439 := n3_
              have BK440 := n4_
              have BK447 := n5_
              have BK454 := n6_
              have BK463 := n7_
              have HB := n8_
              clear n0_ n1_ n2_ n3_ n4_ n5_ n6_ n7_ n8_
              have n0_ := yM (Kd.R_drew HO_440002.out)
              have n1_ := yM (Kd.R_drew HO_448002.out)
              have n2_ := yM (Kd.V_drew HO_455002.out)
              have n3_ := yM (yD BK439.out)
              have n4_ := yM (yD BK440.out)
              have n5_ := yM (yD BK447.out)
              have n6_ := yM (yD BK454.out)
              have n7_ := yM (yD BK463.out)
              have n8_ := yM (below_drew1 HB.out)
              clear HO_440002
              clear HO_448002
              clear HO_455002
              clear BK439
              clear BK440
              clear BK447
              clear BK454
              clear BK463
              clear HB
              have HO_440002 := n0_
              have HO_448002 := n1_
              have HO_455002 := n2_
              have BK439 := n3_
              have BK440 := n4_
              have BK447 := n5_
              have BK454 := n6_
              have BK463 := n7_
              have HB := n8_
              clear n0_ n1_ n2_ n3_ n4_ n5_ n6_ n7_ n8_
              have p465 : 0 ≤ ((t434.length : Int) : Int) := of_decide_eq_true (by first | (with_reducible assumption) | assumption)
              have q465 : (t434.length : Int) < (t450.length : Int) := of_decide_eq_true (by first | (with_reducible assumption) | assumption)
              obtain ⟨ad465, e465, hx465_0, hx465_1⟩ := at_T29 (Kd.V_reads' HO_455002.out).2.2 (t434.length : Int) p465 q465
              cases e465
              (try simp only [Go.IntWalk.toNatUp] at hx465_0)
              (try simp only [Go.IntWalk.toNatUp] at hx465_1)
              replace p465 := eq_true p465
              replace q465 := eq_true q465
              refine start_ (n := 41) (S := fun w' => w'.cell? ⟨gb463, 0, none⟩ = some (.int .i64 t460) ∧ w'.cell? ⟨gb463, 1, none⟩ = some (.int .i64 t461) ∧ w'.cell? ⟨gb454, 0, none⟩ = some (.int .i64 t448) ∧ w'.cell? ⟨gb454, 1, none⟩ = some (.int .i64 t449) ∧ w'.cell? ⟨gb454, 2, none⟩ = some (.slice (some ad465) t450.length co28) ∧ w'.cell? ⟨gb439, 0, none⟩ = some (.int .i64 t432) ∧ w'.cell? ⟨gb439, 1, none⟩ = some (.int .i64 t433) ∧ w'.cell? ⟨gb439, 2, none⟩ = some (.slice Ao12 t434.length co12) ∧ w'.cell? ⟨gb440, 0, none⟩ = some (.int .i64 t437) ∧ w'.cell? ⟨gb440, 1, none⟩ = some (.int .i64 t438) ∧ w'.cell? (ad465.add (t434.length * 2)) = some (.int .i64 ((rd_T29 t450 (t434.length : Int)).f0)) ∧ w'.cell? ⟨(ad465.add (t434.length * 2)).block, (ad465.add (t434.length * 2)).off + 1, none⟩ = some (.int .i64 ((rd_T29 t450 (t434.length : Int)).f1))) (ds := []) #[false, false, false, false, false, false, false, false, false, false, false, false, false, false, false, false, false, false, false, false, false, false, false, false, false, false, false, false, false, false, false, false, false, false, false, false, false, false, false, false, false] (by kernel_rfl) rfl rfl ⟨(blk_cell BK463.out 0).trans rfl, (blk_cell BK463.out 1).trans rfl, (blk_cell BK454.out 0).trans rfl, (blk_cell BK454.out 1).trans rfl, (blk_cell BK454.out 2).trans rfl, (blk_cell BK439.out 0).trans rfl, (blk_cell BK439.out 1).trans rfl, (blk_cell BK439.out 2).trans rfl, (blk_cell BK440.out 0).trans rfl, (blk_cell BK440.out 1).trans rfl, hx465_0, hx465_1⟩ (fun hHeld => ?_); refine with_tabW laws_FnPay.tab13 laws_FnPay.bits13 (fun HT_ HW_ => ?_)
              generalize w108.drew = w109 at HO_440002 HO_448002 HO_455002 BK439 BK440 BK447 BK454 BK463 HB hx465_0 hx465_1 hHeld ⊢
              refine pure_ (i := 0) (N := some 73) (v := ?_) (a' := ?_) #[true, false, false, false, false, false, false, false, false, false, false, false, false, false, false, false, false, false, false, false, false, false, false, false, false, false, false, false, false, false, false, false, false, false, false, false, false, false, false, false, false] rfl rfl (any_of HT_.out (by kernel_rfl)) (fun _ _ _ h => h) (Or.inl ⟨by rfl, ?_⟩) ?_ ?_
              rotate_left
              ·intro w'
               go_simp
               with_reducible rfl
              rotate_left
              ·simp only [Act.put, setIfInBounds_toArray, set_cons_zero, set_cons_succ, i64_w, i32_w]
               rfl
              refine pure_ (i := 1) (N := some 74) (v := ?_) (a' := ?_) #[true, true, false, false, false, false, false, false, false, false, false, false, false, false, false, false, false, false, false, false, false, false, false, false, false, false, false, false, false, false, false, false, false, false, false, false, false, false, false, false, false] rfl rfl (any_of HT_.out (by kernel_rfl)) (fun _ _ _ h => h) (Or.inl ⟨by rfl, ?_⟩) ?_ ?_
              rotate_left
              ·intro w'
               go_simp
               with_reducible rfl
              rotate_left
              ·simp only [Act.put, setIfInBounds_toArray, set_cons_zero, set_cons_succ, i64_w, i32_w]
               rfl
              refine pure_ (i := 3) (N := some 76) (v := ?_) (a' := ?_) #[true, true, false, true, false, false, false, false, false, false, false, false, false, false, false, false, false, false, false, false, false, false, false, false, false, false, false, false, false, false, false, false, false, false, false, false, false, false, false, false, false] rfl rfl (any_of HT_.out (by kernel_rfl)) (fun _ _ _ h => h) (Or.inl ⟨by rfl, ?_⟩) ?_ ?_
              rotate_left
              ·intro w'
               go_simp
               with_reducible rfl
              rotate_left
              ·simp only [Act.put, setIfInBounds_toArray, set_cons_zero, set_cons_succ, i64_w, i32_w]
               rfl
              refine take_ (i := 2) (N := some 75) (v := ?_) (a' := ?_) #[true, true, true, true, false, false, false, false, false, false, false, false, false, false, false, false, false, false, false, false, false, false, false, false, false, false, false, false, false, false, false, false, false, false, false, false, false, false, false, false, false] rfl rfl (take_ofW HT_.out HW_.out (by kernel_rfl)) (fun _ _ _ h => h) (Or.inl ⟨by rfl, ?_⟩) hHeld ?_ ?_
              rotate_left
              ·rintro w' ⟨s0, s1, s2, s3, s4, s5, s6, s7, s8, s9, s10, s11⟩
               go_simp
               with_reducible rfl
              rotate_left
              ·simp only [Act.put, setIfInBounds_toArray, set_cons_zero, set_cons_succ, i64_w, i32_w]
               rfl
              refine take_ (i := 4) (N := some 77) (v := ?_) (a' := ?_) #[true, true, true, true, true, false, false, false, false, false, false, false, false, false, false, false, false, false, false, false, false, false, false, false, false, false, false, false, false, false, false, false, false, false, false, false, false, false, false, false, false] rfl rfl (take_ofW HT_.out HW_.out (by kernel_rfl)) (fun _ _ _ h => h) (Or.inl ⟨by rfl, ?_⟩) hHeld ?_ ?_
              rotate_left
              ·rintro w' ⟨s0, s1, s2, s3, s4, s5, s6, s7, s8, s9, s10, s11⟩
               go_simp
               with_reducible rfl
              rotate_left
              ·simp only [Act.put, setIfInBounds_toArray, set_cons_zero, set_cons_succ, i64_w, i32_w]
               rfl
              refine one_ (i := 5) (N := some 78) #[true, true, true, true, true, true, false, false, false, false, false, false, false, false, false, false, false, false, false, false, false, false, false, false, false, false, false, false, false, false, false, false, false, false, false, false, false, false, false, false, false] rfl rfl (one_of HT_.out (by kernel_rfl)) (by decide) (fun K hK => ?_)
              refine goes_ Try.func25 (by kernel_rfl) rfl #[.agg #[.int .i64 t460, .int .i64 t461], .agg #[.int .i64 t448, .int .i64 t449]] (by rfl) rfl rfl (by (try simp only [List.map_toArray, List.map_cons, List.map_nil]); first | done | rfl | (simp only [List.length_drop, List.length_take]; rfl)) ?_
              with_reducible refine (impl_FracCmp.calls kj5 t460 t461 t448 t449 t464 _ A83.out).mono ?_
              rintro e w110 ⟨rfl, hb⟩
              have HS10_ := (hb.cell (World.block_lt_of_cell? _ _ (hHeld.2.2.2.2.2.2.2.2.2.2.1))).trans (hHeld.2.2.2.2.2.2.2.2.2.2.1)
              have HS11_ := (hb.cell (World.block_lt_of_cell? _ _ (hHeld.2.2.2.2.2.2.2.2.2.2.2))).trans (hHeld.2.2.2.2.2.2.2.2.2.2.2)
              refine ⟨_, rfl, ?_⟩
              have n0_ := yM (Kd.R_below (by (with_reducible repeat (first | apply Kd.R_alloc | apply Kd.R_drewN | apply Kd.R_drew)); exact HO_440002.out) hb)
              have n1_ := yM (Kd.R_below (by (with_reducible repeat (first | apply Kd.R_alloc | apply Kd.R_drewN | apply Kd.R_drew)); exact HO_448002.out) hb)
              have n2_ := yM (Kd.V_below (by (with_reducible repeat (first | apply Kd.V_alloc | apply Kd.V_drewN | apply Kd.V_drew)); exact HO_455002.out) hb)
              have n3_ := yM (blk_below (g := gb439) (o := .cells #[.int .i64 t432, .int .i64 t433, .slice Ao12 t434.length co12] 32 (0, 0)) (by (with_reducible repeat (first | refine yN ?_ _ | refine yD ?_ | refine yA ?_ _)); exact BK439.out) hb)
              have n4_ := yM (blk_below (g := gb440) (o := .cells #[.int .i64 t437, .int .i64 t438] 29 (0, 0)) (by (with_reducible repeat (first | refine yN ?_ _ | refine yD ?_ | refine yA ?_ _)); exact BK440.out) hb)
              have n5_ := yM (blk_below (g := gb447) (o := .cells #[.int .i64 t441, .int .i64 t442, .slice Ao19 t443.length co19] 32 (0, 0)) (by (with_reducible repeat (first | refine yN ?_ _ | refine yD ?_ | refine yA ?_ _)); exact BK447.out) hb)
              have n6_ := yM (blk_below (g := gb454) (o := .cells #[.int .i64 t448, .int .i64 t449, .slice (some ad465) t450.length co28] 32 (0, 0)) (by (with_reducible repeat (first | refine yN ?_ _ | refine yD ?_ | refine yA ?_ _)); exact BK454.out) hb)
              have n7_ := yM (blk_below (g := gb463) (o := .cells #[.int .i64 t460, .int .i64 t461] 29 (0, 0)) (by (with_reducible repeat (first | refine yN ?_ _ | refine yD ?_ | refine yA ?_ _)); exact BK463.out) hb)
              have n8_ := yM (below_step (by repeat (first | (with_reducible first | exact HB.out | apply below_alloc | apply yP | apply below_drew1 | refine yS ?_ GE439.out | refine yS ?_ GE440.out | refine yS ?_ GE447.out | refine yS ?_ GE454.out | refine yS ?_ GE463.out) | exact HB.out)) hb)
              clear HO_440002
              clear HO_448002
              clear HO_455002
              clear BK439
              clear BK440
              clear BK447
              clear BK454
              clear BK463
              clear HB
              have HO_440002 := n0_
              have HO_448002 := n1_
              have HO_455002 := n2_
              have BK439 := n3_
              have BK440 := n4_
              have BK447 := n5_
              have BK454 := n6_
              have BK463 := n7_
              have HB := n8_
              clear n0_ n1_ n2_ n3_ n4_ n5_ n6_ n7_ n8_
              (try clear hb)
              (try clear hb2)
              (try clear hk)
              (try clear hi)
              refine hK.out _ _ ⟨(blk_cell BK463.out 0).trans rfl, (blk_cell BK463.out 1).trans rfl, (blk_cell BK454.out 0).trans rfl, (blk_cell BK454.out 1).trans rfl, (blk_cell BK454.out 2).trans rfl, (blk_cell BK439.out 0).trans rfl, (blk_cell BK439.out 1).trans rfl, (blk_cell BK439.out 2).trans rfl, (blk_cell BK440.out 0).trans rfl, (blk_cell BK440.out 1).trans rfl, HS10_, HS11_⟩ (fun hHeld => ?_)
              clear hK K
              refine norm_ (a' := ?_) ?_ ?_
              rotate_left
              ·show Act.put _ (some 78) _ = _
               simp only [Act.put, setIfInBounds_toArray, set_cons_zero, set_cons_succ, i64_w, i32_w]
               rfl
              refine pure_ (i := 6) (N := some 79) (v := ?_) (a' := ?_) #[true, true, true, true, true, true, true, false, false, false, false, false, false, false, false, false, false, false, false, false, false, false, false, false, false, false, false, false, false, false, false, false, false, false, false, false, false, false, false, false, false] rfl rfl (any_of HT_.out (by kernel_rfl)) (fun _ _ _ h => h) (Or.inl ⟨by rfl, ?_⟩) ?_ ?_
              rotate_left
              ·intro w'
               go_simp
               with_reducible rfl
              rotate_left
              ·simp only [Act.put, setIfInBounds_toArray, set_cons_zero, set_cons_succ, i64_w, i32_w]
               rfl
              refine pure_ (i := 7) (N := some 80) (v := ?_) (a' := ?_) #[true, true, true, true, true, true, true, true, false, false, false, false, false, false, false, false, false, false, false, false, false, false, false, false, false, false, false, false, false, false, false, false, false, false, false, false, false, false, false, false, false] rfl rfl (any_of HT_.out (by kernel_rfl)) (fun _ _ _ h => h) (Or.inl ⟨by rfl, ?_⟩) ?_ ?_
              rotate_left
              ·intro w'
               go_simp
               with_reducible rfl
              rotate_left
              ·simp only [Act.put, setIfInBounds_toArray, set_cons_zero, set_cons_succ, i64_w, i32_w]
               rfl
              refine pure_ (i := 8) (N := some 81) (v := ?_) (a' := ?_) #[true, true, true, true, true, true, true, true, true, false, false, false, false, false, false, false, false, false, false, false, false, false, false, false, false, false, false, false, false, false, false, false, false, false, false, false, false, false, false, false, false] rfl rfl (any_of HT_.out (by kernel_rfl)) (fun _ _ _ h => h) (Or.inl ⟨by rfl, ?_⟩) ?_ ?_
              rotate_left
              ·intro w'
               go_simp
               with_reducible rfl
              rotate_left
              ·simp only [Act.put, setIfInBounds_toArray, set_cons_zero, set_cons_succ, i64_w, i32_w]
               rfl
              refine pure_ (i := 9) (N := some 82) (v := ?_) (a' := ?_) #[true, true, true, true, true, true, true, true, true, true, false, false, false, false, false, false, false, false, false, false, false, false, false, false, false, false, false, false, false, false, false, false, false, false, false, false, false, false, false, false, false] rfl rfl (any_of HT_.out (by kernel_rfl)) (fun _ _ _ h => h) (Or.inl ⟨by rfl, ?_⟩) ?_ ?_
              rotate_left
              ·intro w'
               go_simp
               with_reducible rfl
              rotate_left
              ·simp only [Act.put, setIfInBounds_toArray, set_cons_zero, set_cons_succ, i64_w, i32_w]
               rfl
              refine pure_ (i := 12) (N := some 85) (v := ?_) (a' := ?_) #[true, true, true, true, true, true, true, true, true, true, false, false, true, false, false, false, false, false, false, false, false, false, false, false, false, false, false, false, false, false, false, false, false, false, false, false, false, false, false, false, false] rfl rfl (any_of HT_.out (by kernel_rfl)) (fun _ _ _ h => h) (Or.inl ⟨by rfl, ?_⟩) ?_ ?_
              rotate_left
              ·intro w'
               go_simp
               with_reducible rfl
              rotate_left
              ·simp only [Act.put, setIfInBounds_toArray, set_cons_zero, set_cons_succ, i64_w, i32_w]
               rfl
              refine take_ (i := 10) (N := some 83) (v := ?_) (a' := ?_) #[true, true, true, true, true, true, true, true, true, true, true, false, true, false, false, false, false, false, false, false, false, false, false, false, false, false, false, false, false, false, false, false, false, false, false, false, false, false, false, false, false] rfl rfl (take_ofW HT_.out HW_.out (by kernel_rfl)) (fun _ _ _ h => h) (Or.inl ⟨by rfl, ?_⟩) hHeld ?_ ?_
              rotate_left
              ·rintro w' ⟨s0, s1, s2, s3, s4, s5, s6, s7, s8, s9, s10, s11⟩
               go_simp
               with_reducible rfl
              rotate_left
              ·simp only [Act.put, setIfInBounds_toArray, set_cons_zero, set_cons_succ, i64_w, i32_w]
               rfl
              refine pure_ (i := 11) (N := some 84) (v := ?_) (a' := ?_) #[true, true, true, true, true, true, true, true, true, true, true, true, true, false, false, false, false, false, false, false, false, false, false, false, false, false, false, false, false, false, false, false, false, false, false, false, false, false, false, false, false] rfl rfl (any_of HT_.out (by kernel_rfl)) (fun _ _ _ h => h) (Or.inl ⟨by rfl, ?_⟩) ?_ ?_
              rotate_left
              ·intro w'
               go_simp
               with_reducible rfl
              rotate_left
              ·simp only [Act.put, setIfInBounds_toArray, set_cons_zero, set_cons_succ, i64_w, i32_w]
               rfl
              refine take_ (i := 13) (N := some 86) (v := ?_) (a' := ?_) #[true, true, true, true, true, true, true, true, true, true, true, true, true, true, false, false, false, false, false, false, false, false, false, false, false, false, false, false, false, false, false, false, false, false, false, false, false, false, false, false, false] rfl rfl (take_ofW HT_.out HW_.out (by kernel_rfl)) (fun _ _ _ h => h) (Or.inl ⟨by rfl, ?_⟩) hHeld ?_ ?_
              rotate_left
              ·rintro w' ⟨s0, s1, s2, s3, s4, s5, s6, s7, s8, s9, s10, s11⟩
               go_simp
               with_reducible rfl
              rotate_left
              ·simp only [Act.put, setIfInBounds_toArray, set_cons_zero, set_cons_succ, i64_w, i32_w]
               rfl
              refine pure_ (i := 14) (N := some 87) (v := ?_) (a' := ?_) #[true, true, true, true, true, true, true, true, true, true, true, true, true, true, true, false, false, false, false, false, false, false, false, false, false, false, false, false, false, false, false, false, false, false, false, false, false, false, false, false, false] rfl rfl (any_of HT_.out (by kernel_rfl)) (fun _ _ _ h => h) (Or.inl ⟨by rfl, ?_⟩) ?_ ?_
              rotate_left
              ·intro w'
               go_simp
               with_reducible rfl
              rotate_left
              ·simp only [Act.put, setIfInBounds_toArray, set_cons_zero, set_cons_succ, i64_w, i32_w]
               rfl
              refine pure_ (i := 15) (N := some 88) (v := ?_) (a' := ?_) #[true, true, true, true, true, true, true, true, true, true, true, true, true, true, true, true, false, false, false, false, false, false, false, false, false, false, false, false, false, false, false, false, false, false, false, false, false, false, false, false, false] rfl rfl (any_of HT_.out (by kernel_rfl)) (fun _ _ _ h => h) (Or.inl ⟨by rfl, ?_⟩) ?_ ?_
              rotate_left
              ·intro w'
               go_simp
               with_reducible rfl
              rotate_left
              ·simp only [Act.put, setIfInBounds_toArray, set_cons_zero, set_cons_succ, i64_w, i32_w]
               rfl
              refine pure_ (i := 16) (N := some 89) (v := ?_) (a' := ?_) #[true, true, true, true, true, true, true, true, true, true, true, true, true, true, true, true, true, false, false, false, false, false, false, false, false, false, false, false, false, false, false, false, false, false, false, false, false, false, false, false, false] rfl rfl (any_of HT_.out (by kernel_rfl)) (fun _ _ _ h => h) (Or.inl ⟨by rfl, ?_⟩) ?_ ?_
              rotate_left
              ·intro w'
               go_simp
               with_reducible rfl
              rotate_left
              ·simp only [Act.put, setIfInBounds_toArray, set_cons_zero, set_cons_succ, i64_w, i32_w]
               rfl
              refine pure_ (i := 17) (N := some 90) (v := ?_) (a' := ?_) #[true, true, true, true, true, true, true, true, true, true, true, true, true, true, true, true, true, true, false, false, false, false, false, false, false, false, false, false, false, false, false, false, false, false, false, false, false, false, false, false, false] rfl rfl (any_of HT_.out (by kernel_rfl)) (fun _ _ _ h => h) (Or.inl ⟨by rfl, ?_⟩) ?_ ?_
              rotate_left
              ·intro w'
               go_simp
               with_reducible rfl
              rotate_left
              ·simp only [Act.put, setIfInBounds_toArray, set_cons_zero, set_cons_succ, i64_w, i32_w]
               rfl
              refine pure_ (i := 18) (N := some 91) (v := ?_) (a' := ?_) #[true, true, true, true, true, true, true, true, true, true, true, true, true, true, true, true, true, true, true, false, false, false, false, false, false, false, false, false, false, false, false, false, false, false, false, false, false, false, false, false, false] rfl rfl (any_of HT_.out (by kernel_rfl)) (fun _ _ _ h => h) (Or.inl ⟨by rfl, ?_⟩) ?_ ?_
              rotate_left
              ·intro w'
               go_simp
               with_reducible rfl
              rotate_left
              ·simp only [Act.put, setIfInBounds_toArray, set_cons_zero, set_cons_succ, i64_w, i32_w]
               rfl
              refine pure_ (i := 19) (N := some 92) (v := ?_) (a' := ?_) #[true, true, true, true, true, true, true, true, true, true, true, true, true, true, true, true, true, true, true, true, false, false, false, false, false, false, false, false, false, false, false, false, false, false, false, false, false, false, false, false, false] rfl rfl (any_of HT_.out (by kernel_rfl)) (fun _ _ _ h => h) (Or.inl ⟨by rfl, ?_⟩) ?_ ?_
              rotate_left
              ·intro w'
               go_simp
               with_reducible rfl
              rotate_left
              ·simp only [Act.put, setIfInBounds_toArray, set_cons_zero, set_cons_succ, i64_w, i32_w]
               rfl
              refine pure_ (i := 21) (N := some 94) (v := ?_) (a' := ?_) #[true, true, true, true, true, true, true, true, true, true, true, true, true, true, true, true, true, true, true, true, false, true, false, false, false, false, false, false, false, false, false, false, false, false, false, false, false, false, false, false, false] rfl rfl (any_of HT_.out (by kernel_rfl)) (fun _ _ _ h => h) (Or.inl ⟨by rfl, ?_⟩) ?_ ?_
              rotate_left
              ·intro w'
               go_simp
               with_reducible rfl
              rotate_left
              ·simp only [Act.put, setIfInBounds_toArray, set_cons_zero, set_cons_succ, i64_w, i32_w]
               rfl
              refine take_ (i := 20) (N := some 93) (v := ?_) (a' := ?_) #[true, true, true, true, true, true, true, true, true, true, true, true, true, true, true, true, true, true, true, true, true, true, false, false, false, false, false, false, false, false, false, false, false, false, false, false, false, false, false, false, false] rfl rfl (take_ofW HT_.out HW_.out (by kernel_rfl)) (fun _ _ _ h => h) (Or.inl ⟨by rfl, ?_⟩) hHeld ?_ ?_
              rotate_left
              ·rintro w' ⟨s0, s1, s2, s3, s4, s5, s6, s7, s8, s9, s10, s11⟩
               go_simp
               with_reducible rfl
              rotate_left
              ·simp only [Act.put, setIfInBounds_toArray, set_cons_zero, set_cons_succ, i64_w, i32_w]
               rfl
              refine take_ (i := 22) (N := some 95) (v := ?_) (a' := ?_) #[true, true, true, true, true, true, true, true, true, true, true, true, true, true, true, true, true, true, true, true, true, true, true, false, false, false, false, false, false, false, false, false, false, false, false, false, false, false, false, false, false] rfl rfl (take_ofW HT_.out HW_.out (by kernel_rfl)) (fun _ _ _ h => h) (Or.inl ⟨by rfl, ?_⟩) hHeld ?_ ?_
              rotate_left
              ·rintro w' ⟨s0, s1, s2, s3, s4, s5, s6, s7, s8, s9, s10, s11⟩
               go_simp
               with_reducible rfl
              rotate_left
              ·simp only [Act.put, setIfInBounds_toArray, set_cons_zero, set_cons_succ, i64_w, i32_w]
               rfl
              refine pure_ (i := 23) (N := some 96) (v := ?_) (a' := ?_) #[true, true, true, true, true, true, true, true, true, true, true, true, true, true, true, true, true, true, true, true, true, true, true, true, false, false, false, false, false, false, false, false, false, false, false, false, false, false, false, false, false] rfl rfl (any_of HT_.out (by kernel_rfl)) (fun _ _ _ h => h) (Or.inl ⟨by rfl, ?_⟩) ?_ ?_
              rotate_left
              ·intro w'
               go_simp
               with_reducible rfl
              rotate_left
              ·simp only [Act.put, setIfInBounds_toArray, set_cons_zero, set_cons_succ, i64_w, i32_w]
               rfl
              refine pure_ (i := 24) (N := some 97) (v := ?_) (a' := ?_) #[true, true, true, true, true, true, true, true, true, true, true, true, true, true, true, true, true, true, true, true, true, true, true, true, true, false, false, false, false, false, false, false, false, false, false, false, false, false, false, false, false] rfl rfl (any_of HT_.out (by kernel_rfl)) (fun _ _ _ h => h) (Or.inl ⟨by rfl, ?_⟩) ?_ ?_
              rotate_left
              ·intro w'
               go_simp
               with_reducible rfl
              rotate_left
              ·simp only [Act.put, setIfInBounds_toArray, set_cons_zero, set_cons_succ, i64_w, i32_w]
               rfl
              refine take_ (i := 25) (N := some 98) (v := ?_) (a' := ?_) #[true, true, true, true, true, true, true, true, true, true, true, true, true, true, true, true, true, true, true, true, true, true, true, true, true, true, false, false, false, false, false, false, false, false, false, false, false, false, false, false, false] rfl rfl (take_ofW HT_.out HW_.out (by kernel_rfl)) (fun _ _ _ h => h) (Or.inl ⟨by rfl, ?_⟩) hHeld ?_ ?_
              rotate_left
              ·rintro w' ⟨s0, s1, s2, s3, s4, s5, s6, s7, s8, s9, s10, s11⟩
               go_simp
               with_reducible rfl
              rotate_left
              ·simp only [Act.put, setIfInBounds_toArray, set_cons_zero, set_cons_succ, i64_w, i32_w]
               rfl
              refine take_ (i := 26) (N := some 99) (v := ?_) (a' := ?_) #[true, true, true, true, true, true, true, true, true, true, true, true, true, true, true, true, true, true, true, true, true, true, true, true, true, true, true, false, false, false, false, false, false, false, false, false, false, false, false, false, false] rfl rfl (take_ofW HT_.out HW_.out (by kernel_rfl)) (fun _ _ _ h => h) (Or.inl ⟨by rfl, ?_⟩) hHeld ?_ ?_
              rotate_left
              ·rintro w' ⟨s0, s1, s2, s3, s4, s5, s6, s7, s8, s9, s10, s11⟩
               go_simp
               with_reducible rfl
              rotate_left
              ·simp only [Act.put, setIfInBounds_toArray, set_cons_zero, set_cons_succ, i64_w, i32_w]
               rfl
              refine pure_ (i := 27) (N := some 100) (v := ?_) (a' := ?_) #[true, true, true, true, true, true, true, true, true, true, true, true, true, true, true, true, true, true, true, true, true, true, true, true, true, true, true, true, false, false, false, false, false, false, false, false, false, false, false, false, false] rfl rfl (any_of HT_.out (by kernel_rfl)) (fun _ _ _ h => h) (Or.inl ⟨by rfl, ?_⟩) ?_ ?_
              rotate_left
              ·intro w'
               go_simp
               with_reducible rfl
              rotate_left
              ·simp only [Act.put, setIfInBounds_toArray, set_cons_zero, set_cons_succ, i64_w, i32_w]
               rfl
              refine pure_ (i := 28) (N := some 101) (v := ?_) (a' := ?_) #[true, true, true, true, true, true, true, true, true, true, true, true, true, true, true, true, true, true, true, true, true, true, true, true, true, true, true, true, true, false, false, false, false, false, false, false, false, false, false, false, false] rfl rfl (any_of HT_.out (by kernel_rfl)) (fun _ _ _ h => h) (Or.inl ⟨by rfl, ?_⟩) ?_ ?_
              rotate_left
              ·intro w'
               go_simp
               with_reducible rfl
              rotate_left
              ·simp only [Act.put, setIfInBounds_toArray, set_cons_zero, set_cons_succ, i64_w, i32_w]
               rfl
              refine pure_ (i := 29) (N := some 102) (v := ?_) (a' := ?_) #[true, true, true, true, true, true, true, true, true, true, true, true, true, true, true, true, true, true, true, true, true, true, true, true, true, true, true, true, true, true, false, false, false, false, false, false, false, false, false, false, false] rfl rfl (any_of HT_.out (by kernel_rfl)) (fun _ _ _ h => h) (Or.inl ⟨by rfl, ?_⟩) ?_ ?_
              rotate_left
              ·intro w'
               go_simp
               with_reducible rfl
              rotate_left
              ·simp only [Act.put, setIfInBounds_toArray, set_cons_zero, set_cons_succ, i64_w, i32_w]
               rfl
              refine pure_ (i := 30) (N := some 103) (v := ?_) (a' := ?_) #[true, true, true, true, true, true, true, true, true, true, true, true, true, true, true, true, true, true, true, true, true, true, true, true, true, true, true, true, true, true, true, false, false, false, false, false, false, false, false, false, false] rfl rfl (any_of HT_.out (by kernel_rfl)) (fun _ _ _ h => h) (Or.inl ⟨by rfl, ?_⟩) ?_ ?_
              rotate_left
              ·intro w'
               go_simp
               with_reducible rfl
              rotate_left
              ·simp only [Act.put, setIfInBounds_toArray, set_cons_zero, set_cons_succ, i64_w, i32_w]
               rfl
              refine pure_ (i := 32) (N := some 105) (v := ?_) (a' := ?_) #[true, true, true, true, true, true, true, true, true, true, true, true, true, true, true, true, true, true, true, true, true, true, true, true, true, true, true, true, true, true, true, false, true, false, false, false, false, false, false, false, false] rfl rfl (any_of HT_.out (by kernel_rfl)) (fun _ _ _ h => h) (Or.inl ⟨by rfl, ?_⟩) ?_ ?_
              rotate_left
              ·intro w'
               go_simp
               with_reducible rfl
              rotate_left
              ·simp only [Act.put, setIfInBounds_toArray, set_cons_zero, set_cons_succ, i64_w, i32_w]
               rfl
              refine take_ (i := 31) (N := some 104) (v := ?_) (a' := ?_) #[true, true, true, true, true, true, true, true, true, true, true, true, true, true, true, true, true, true, true, true, true, true, true, true, true, true, true, true, true, true, true, true, true, false, false, false, false, false, false, false, false] rfl rfl (take_ofW HT_.out HW_.out (by kernel_rfl)) (fun _ _ _ h => h) (Or.inl ⟨by rfl, ?_⟩) hHeld ?_ ?_
              rotate_left
              ·rintro w' ⟨s0, s1, s2, s3, s4, s5, s6, s7, s8, s9, s10, s11⟩
               go_simp
               with_reducible rfl
              rotate_left
              ·simp only [Act.put, setIfInBounds_toArray, set_cons_zero, set_cons_succ, i64_w, i32_w]
               rfl
              refine take_ (i := 33) (N := some 106) (v := ?_) (a' := ?_) #[true, true, true, true, true, true, true, true, true, true, true, true, true, true, true, true, true, true, true, true, true, true, true, true, true, true, true, true, true, true, true, true, true, true, false, false, false, false, false, false, false] rfl rfl (take_ofW HT_.out HW_.out (by kernel_rfl)) (fun _ _ _ h => h) (Or.inl ⟨by rfl, ?_⟩) hHeld ?_ ?_
              rotate_left
              ·rintro w' ⟨s0, s1, s2, s3, s4, s5, s6, s7, s8, s9, s10, s11⟩
               go_simp
               with_reducible rfl
              rotate_left
              ·simp only [Act.put, setIfInBounds_toArray, set_cons_zero, set_cons_succ, i64_w, i32_w]
               rfl
              refine pure_ (i := 34) (N := some 107) (v := ?_) (a' := ?_) #[true, true, true, true, true, true, true, true, true, true, true, true, true, true, true, true, true, true, true, true, true, true, true, true, true, true, true, true, true, true, true, true, true, true, true, false, false, false, false, false, false] rfl rfl (any_of HT_.out (by kernel_rfl)) (fun _ _ _ h => h) (Or.inl ⟨by rfl, ?_⟩) ?_ ?_
              rotate_left
              ·intro w'
               go_simp
               with_reducible rfl
              rotate_left
              ·simp only [Act.put, setIfInBounds_toArray, set_cons_zero, set_cons_succ, i64_w, i32_w]
               rfl
              refine pure_ (i := 35) (N := some 108) (v := ?_) (a' := ?_) #[true, true, true, true, true, true, true, true, true, true, true, true, true, true, true, true, true, true, true, true, true, true, true, true, true, true, true, true, true, true, true, true, true, true, true, true, false, false, false, false, false] rfl rfl (any_of HT_.out (by kernel_rfl)) (fun _ _ _ h => h) (Or.inl ⟨by rfl, ?_⟩) ?_ ?_
              rotate_left
              ·intro w'
               go_simp
               with_reducible rfl
              rotate_left
              ·simp only [Act.put, setIfInBounds_toArray, set_cons_zero, set_cons_succ, i64_w, i32_w]
               rfl
              refine pure_ (i := 36) (N := some 109) (v := ?_) (a' := ?_) #[true, true, true, true, true, true, true, true, true, true, true, true, true, true, true, true, true, true, true, true, true, true, true, true, true, true, true, true, true, true, true, true, true, true, true, true, true, false, false, false, false] rfl rfl (any_of HT_.out (by kernel_rfl)) (fun _ _ _ h => h) (Or.inl ⟨by rfl, ?_⟩) ?_ ?_
              rotate_left
              ·intro w'
               go_simp
               with_reducible rfl
              rotate_left
              ·simp only [Act.put, setIfInBounds_toArray, set_cons_zero, set_cons_succ, i64_w, i32_w]
               rfl
              refine take_ (i := 37) (N := some 110) (v := ?_) (a' := ?_) #[true, true, true, true, true, true, true, true, true, true, true, true, true, true, true, true, true, true, true, true, true, true, true, true, true, true, true, true, true, true, true, true, true, true, true, true, true, true, false, false, false] rfl rfl (take_ofW HT_.out HW_.out (by kernel_rfl)) (fun _ _ _ h => h) (Or.inl ⟨by rfl, ?_⟩) hHeld ?_ ?_
              rotate_left
              ·rintro w' ⟨s0, s1, s2, s3, s4, s5, s6, s7, s8, s9, s10, s11⟩
               go_simp
               with_reducible rfl
              rotate_left
              ·simp only [Act.put, setIfInBounds_toArray, set_cons_zero, set_cons_succ, i64_w, i32_w]
               rfl
              refine one_ (i := 38) (N := some 111) #[true, true, true, true, true, true, true, true, true, true, true, true, true, true, true, true, true, true, true, true, true, true, true, true, true, true, true, true, true, true, true, true, true, true, true, true, true, true, true, false, false] rfl rfl (one_of HT_.out (by kernel_rfl)) (by decide) (fun K hK => ?_)
              refine goes_ Try.func17 (by kernel_rfl) rfl #[.agg #[.int .i64 t448, .int .i64 t449, .slice (some ad465) t450.length co28]] (by rfl) rfl rfl (by (try simp only [List.map_toArray, List.map_cons, List.map_nil]); first | done | rfl | (simp only [List.length_drop, List.length_take]; rfl)) ?_
              with_reducible refine (impl_LedgerOk.calls kj5 t448 t449 _ _ t450 t466 _ ?side1 ?side2 A90.out).mono ?_
              (case side1 => repeat (first | exact (Kd.V_reads' HO_455002.out).2.2 | (with_reducible refine Kd.C_alloc ?_ _) | (with_reducible refine Kd.C_drewN ?_ _) | (with_reducible refine Kd.C_drew ?_)))
              (case side2 => exact (Kd.V_reads' HO_455002.out).2.1)
              rintro e w111 ⟨rfl, hb⟩
              have HS10_ := (hb.cell (World.block_lt_of_cell? _ _ (hHeld.2.2.2.2.2.2.2.2.2.2.1))).trans (hHeld.2.2.2.2.2.2.2.2.2.2.1)
              have HS11_ := (hb.cell (World.block_lt_of_cell? _ _ (hHeld.2.2.2.2.2.2.2.2.2.2.2))).trans (hHeld.2.2.2.2.2.2.2.2.2.2.2)
              refine ⟨_, rfl, ?_⟩
              have n0_ := yM (Kd.R_below (by (with_reducible repeat (first | apply Kd.R_alloc | apply Kd.R_drewN | apply Kd.R_drew)); exact HO_440002.out) hb)
              have n1_ := yM (Kd.R_below (by (with_reducible repeat (first | apply Kd.R_alloc | apply Kd.R_drewN | apply Kd.R_drew)); exact HO_448002.out) hb)
              have n2_ := yM (Kd.V_below (by (with_reducible repeat (first | apply Kd.V_alloc | apply Kd.V_drewN | apply Kd.V_drew)); exact HO_455002.out) hb)
              have n3_ := yM (blk_below (g := gb439) (o := .cells #[.int .i64 t432, .int .i64 t433, .slice Ao12 t434.length co12] 32 (0, 0)) (by (with_reducible repeat (first | refine yN ?_ _ | refine yD ?_ | refine yA ?_ _)); exact BK439.out) hb)
              have n4_ := yM (blk_below (g := gb440) (o := .cells #[.int .i64 t437, .int .i64 t438] 29 (0, 0)) (by (with_reducible repeat (first | refine yN ?_ _ | refine yD ?_ | refine yA ?_ _)); exact BK440.out) hb)
              have n5_ := yM (blk_below (g := gb447) (o := .cells #[.int .i64 t441, .int .i64 t442, .slice Ao19 t443.length co19] 32 (0, 0)) (by (with_reducible repeat (first | refine yN ?_ _ | refine yD ?_ | refine yA ?_ _)); exact BK447.out) hb)
              have n6_ := yM (blk_below (g := gb454) (o := .cells #[.int .i64 t448, .int .i64 t449, .slice (some ad465) t450.length co28] 32 (0, 0)) (by (with_reducible repeat (first | refine yN ?_ _ | refine yD ?_ | refine yA ?_ _)); exact BK454.out) hb)
              have n7_ := yM (blk_below (g := gb463) (o := .cells #[.int .i64 t460, .int .i64 t461] 29 (0, 0)) (by (with_reducible repeat (first | refine yN ?_ _ | refine yD ?_ | refine yA ?_ _)); exact BK463.out) hb)
              have n8_ := yM (below_step (by repeat (first | (with_reducible first | exact HB.out | apply below_alloc | apply yP | apply below_drew1 | refine yS ?_ GE439.out | refine yS ?_ GE440.out | refine yS ?_ GE447.out | refine yS ?_ GE454.out | refine yS ?_ GE463.out) | exact HB.out)) hb)
              clear HO_440002
              clear HO_448002
              clear HO_455002
              clear BK439
              clear BK440
              clear BK447
              clear BK454
              clear BK463
              clear HB
              have HO_440002 := n0_
              have HO_448002 := n1_
              have HO_455002 := n2_
              have BK439 := n3_
              have BK440 := n4_
              have BK447 := n5_
              have BK454 := n6_
              have BK463 := n7_
              have HB := n8_
              clear n0_ n1_ n2_ n3_ n4_ n5_ n6_ n7_ n8_
              (try clear hb)
              (try clear hb2)
              (try clear hk)
              (try clear hi)
              refine hK.out _ _ ⟨(blk_cell BK463.out 0).trans rfl, (blk_cell BK463.out 1).trans rfl, (blk_cell BK454.out 0).trans rfl, (blk_cell BK454.out 1).trans rfl, (blk_cell BK454.out 2).trans rfl, (blk_cell BK439.out 0).trans rfl, (blk_cell BK439.out 1).trans rfl, (blk_cell BK439.out 2).trans rfl, (blk_cell BK440.out 0).trans rfl, (blk_cell BK440.out 1).trans rfl, HS10_, HS11_⟩ (fun hHeld => ?_)
              clear hK K
              refine norm_ (a' := ?_) ?_ ?_
              rotate_left
              ·show Act.put _ (some 111) _ = _
               simp only [Act.put, setIfInBounds_toArray, set_cons_zero, set_cons_succ, i64_w, i32_w]
               rfl
              refine pure_ (i := 39) (N := some 112) (v := ?_) (a' := ?_) #[true, true, true, true, true, true, true, true, true, true, true, true, true, true, true, true, true, true, true, true, true, true, true, true, true, true, true, true, true, true, true, true, true, true, true, true, true, true, true, true, false] rfl rfl (any_of HT_.out (by kernel_rfl)) (fun _ _ _ h => h) (Or.inl ⟨by rfl, ?_⟩) ?_ ?_
              rotate_left
              ·intro w'
               go_simp
               with_reducible rfl
              rotate_left
              ·simp only [Act.put, setIfInBounds_toArray, set_cons_zero, set_cons_succ, i64_w, i32_w]
               rfl
              refine pure_ (i := 40) (N := some 2) (v := ?_) (a' := ?_) #[true, true, true, true, true, true, true, true, true, true, true, true, true, true, true, true, true, true, true, true, true, true, true, true, true, true, true, true, true, true, true, true, true, true, true, true, true, true, true, true, true] rfl rfl (any_of HT_.out (by kernel_rfl)) (fun _ _ _ h => h) (Or.inl ⟨by rfl, ?_⟩) ?_ ?_
              rotate_left
              ·intro w'
               go_simp
               with_reducible rfl
              rotate_left
              ·simp only [Act.put, setIfInBounds_toArray, set_cons_zero, set_cons_succ, i64_w, i32_w]
               rfl
              refine done_ (done_of HT_.out (by kernel_rfl)) ?_
              try go_wp2
              go_ret
              exact ⟨by first | rfl | (simp [errW_none, errW_some] <;> rfl) | (simp [*, errW_none, errW_some] <;> rfl), by repeat (first | (with_reducible first | exact HB.out | apply below_alloc | apply yP | apply below_drew1 | refine yS ?_ GE439.out | refine yS ?_ GE440.out | refine yS ?_ GE447.out | refine yS ?_ GE454.out | refine yS ?_ GE463.out) | exact HB.out)⟩
             ·rw [if_neg c89] at H
              have c89b0 : (t448 == t432 && (t449 == t433)) = false := by simpa using c89
              (try (have c89b1 : decide (t448 = t432 && (t449 == t433)) = false := by simpa using c89))
              (try (have c89b2 : (t448 == t432 && (t449 == t433)) = false := by simpa using c89))
              (try (have c89b3 : ¬ (t448 = t432 && (t449 == t433)) := by simpa using c89))
              clear c89
              exact absurd (Option.some.inj (H.trans (congrArg some HRT.out))) (by decide)
            ·rw [if_neg c88] at H
             have c88b0 : (((rd_T29 t450 (t434.length : Int)).f0) == t437 && (((rd_T29 t450 (t434.length : Int)).f1) == t438)) = false := by simpa using c88
             (try (have c88b1 : decide (((rd_T29 t450 (t434.length : Int)).f0) = t437 && (((rd_T29 t450 (t434.length : Int)).f1) == t438)) = false := by simpa using c88))
             (try (have c88b2 : (((rd_T29 t450 (t434.length : Int)).f0) == t437 && (((rd_T29 t450 (t434.length : Int)).f1) == t438)) = false := by simpa using c88))
             (try (have c88b3 : ¬ (((rd_T29 t450 (t434.length : Int)).f0) = t437 && (((rd_T29 t450 (t434.length : Int)).f1) == t438)) := by simpa using c88))
             clear c88
             exact absurd (Option.some.inj (H.trans (congrArg some HRT.out))) (by decide)
           ·rw [if_neg c87] at H
            exact absurd H (by simp)
          ·rw [if_neg c86] at H
           exact absurd H (by simp)
         ·rw [if_neg c85] at H
          have c85b0 : ((t450.length : Int) == (wrap64 ((t434.length : Int) + 1))) = false := beq_eq_false_iff_ne.mpr c85
          have c85b1 : ((t450.length : Int) != (wrap64 ((t434.length : Int) + 1))) = true := bne_iff_ne.mpr c85
          exact absurd (Option.some.inj (H.trans (congrArg some HRT.out))) (by decide)
        ·rw [if_neg c84] at H
         have c84b0 : decide (t464 ≤ 0) = false := decide_eq_false c84
         clear c84
         exact absurd (Option.some.inj (H.trans (congrArg some HRT.out))) (by decide)
       ·replace c82 := Bool.eq_false_iff.mpr c82
        subst c82
        have H1 : (some false) = some r := by rw [if_neg (show ¬ (false = true) by decide)] at H; exact H
        clear H
        have H := H1
        clear H1
        exact absurd (Option.some.inj (H.trans (congrArg some HRT.out))) (by decide)
      ·replace c80 := Bool.eq_false_iff.mpr c80
       subst c80
       have H1 : ((laws_loLedger.f kj5 t448 t449 t450 t432 t433 t434).bind fun t467 => (some t467)) = some r := by rw [if_neg (show ¬ (false = true) by decide)] at H; exact H
       clear H
       have H := H1
       clear H1
       replace H := Option.bind_eq_some_iff.mp H
       obtain ⟨t467, A1120, H⟩ := H
       replace H : (some t467) = some r := H
       have A112 := Aside0.mk A1120
       clear A1120
       obtain rfl := Option.some.inj H
       have hnb113 := NB439_440.out
       have hnc113 := NB440_439.out
       have hnb114 := NB439_447.out
       have hnc114 := NB447_439.out
       have hnb115 := NB439_454.out
       have hnc115 := NB454_439.out
       have hcz116_0 : wc.cell? ⟨gb439, 0, none⟩ = some (.int .i64 t432) := (blk_cell BK439.out 0).trans rfl
       have hcz116_1 : wc.cell? ⟨gb439, 1, none⟩ = some (.int .i64 t433) := (blk_cell BK439.out 1).trans rfl
       have hcz116_2 : wc.cell? ⟨gb439, 2, none⟩ = some (.slice Ao12 t434.length co12) := (blk_cell BK439.out 2).trans rfl
       have hfz116_0 := blk_frozen BK439.out 0
       have hfz116_1 := blk_frozen BK439.out 1
       have hfz116_2 := blk_frozen BK439.out 2
       have hnb117 := NB440_447.out
       have hnc117 := NB447_440.out
       have hnb118 := NB440_454.out
       have hnc118 := NB454_440.out
       have hcz119_0 : wc.cell? ⟨gb440, 0, none⟩ = some (.int .i64 t437) := (blk_cell BK440.out 0).trans rfl
       have hcz119_1 : wc.cell? ⟨gb440, 1, none⟩ = some (.int .i64 t438) := (blk_cell BK440.out 1).trans rfl
       have hfz119_0 := blk_frozen BK440.out 0
       have hfz119_1 := blk_frozen BK440.out 1
       go_wp2_with (first | ((with_reducible refine gate_callee (f := 33) rfl ?_); refine goesL_ (some 61) rfl rfl Try.func33 (by kernel_rfl) rfl #[.agg #[.int .i64 t432, .int .i64 t433, .slice Ao12 t434.length co12], .agg #[.int .i64 t437, .int .i64 t438]] rfl (by (try simp only [List.map_toArray, List.map_cons, List.map_nil]); first | done | rfl | (simp only [List.length_drop, List.length_take]; rfl)) ?_; (with_reducible refine (impl_LedgerCan.calls kj5 t432 t433 _ _ t434 t437 t438 t459 _ ?side1 ?side2 A78.out).mono ?_); (case side1 => repeat (first | exact (Kd.R_reads' HO_440002.out).2.2 | (with_reducible refine Kd.C_alloc ?_ _) | (with_reducible refine Kd.C_drewN ?_ _) | (with_reducible refine Kd.C_drew ?_))); (case side2 => exact (Kd.R_reads' HO_440002.out).2.1); rintro e w120 ⟨rfl, hb⟩; refine ⟨_, rfl, ?_⟩; have n0_ := yM (Kd.R_below (by (with_reducible repeat (first | apply Kd.R_alloc | apply Kd.R_drewN | apply Kd.R_drew)); exact HO_440002.out) hb); have n1_ := yM (Kd.R_below (by (with_reducible repeat (first | apply Kd.R_alloc | apply Kd.R_drewN | apply Kd.R_drew)); exact HO_448002.out) hb); have n2_ := yM (Kd.V_below (by (with_reducible repeat (first | apply Kd.V_alloc | apply Kd.V_drewN | apply Kd.V_drew)); exact HO_455002.out) hb); have n3_ := yM (blk_below (g := gb439) (o := .cells #[.int .i64 t432, .int .i64 t433, .slice Ao12 t434.length co12] 32 (0, 0)) (by (with_reducible repeat (first | refine yN ?_ _ | refine yD ?_ | refine yA ?_ _)); exact BK439.out) hb); have n4_ := yM (blk_below (g := gb440) (o := .cells #[.int .i64 t437, .int .i64 t438] 29 (0, 0)) (by (with_reducible repeat (first | refine yN ?_ _ | refine yD ?_ | refine yA ?_ _)); exact BK440.out) hb); have n5_ := yM (blk_below (g := gb447) (o := .cells #[.int .i64 t441, .int .i64 t442, .slice Ao19 t443.length co19] 32 (0, 0)) (by (with_reducible repeat (first | refine yN ?_ _ | refine yD ?_ | refine yA ?_ _)); exact BK447.out) hb); have n6_ := yM (blk_below (g := gb454) (o := .cells #[.int .i64 t448, .int .i64 t449, .slice Ao28 t450.length co28] 32 (0, 0)) (by (with_reducible repeat (first | refine yN ?_ _ | refine yD ?_ | refine yA ?_ _)); exact BK454.out) hb); have n7_ := yM (below_step (by repeat (first | (with_reducible first | exact HB.out | apply below_alloc | apply yP | apply below_drew1 | refine yS ?_ GE439.out | refine yS ?_ GE440.out | refine yS ?_ GE447.out | refine yS ?_ GE454.out) | exact HB.out)) hb); clear HO_440002; clear HO_448002; clear HO_455002; clear BK439; clear BK440; clear BK447; clear BK454; clear HB; have HO_440002 := n0_; have HO_448002 := n1_; have HO_455002 := n2_; have BK439 := n3_; have BK440 := n4_; have BK447 := n5_; have BK454 := n6_; have HB := n7_; clear n0_ n1_ n2_ n3_ n4_ n5_ n6_ n7_; (try clear hb); (try clear hb2); (try clear hk); (try clear hi); have hnb121 := NB454_447.out; have hnc121 := NB447_454.out; have hcz122_0 : w120.cell? ⟨gb454, 0, none⟩ = some (.int .i64 t448) := (blk_cell BK454.out 0).trans rfl; have hcz122_1 : w120.cell? ⟨gb454, 1, none⟩ = some (.int .i64 t449) := (blk_cell BK454.out 1).trans rfl; have hcz122_2 : w120.cell? ⟨gb454, 2, none⟩ = some (.slice Ao28 t450.length co28) := (blk_cell BK454.out 2).trans rfl; have hfz122_0 := blk_frozen BK454.out 0; have hfz122_1 := blk_frozen BK454.out 1; have hfz122_2 := blk_frozen BK454.out 2; have hcz123_0 : w120.cell? ⟨gb439, 0, none⟩ = some (.int .i64 t432) := (blk_cell BK439.out 0).trans rfl; have hcz123_1 : w120.cell? ⟨gb439, 1, none⟩ = some (.int .i64 t433) := (blk_cell BK439.out 1).trans rfl; have hcz123_2 : w120.cell? ⟨gb439, 2, none⟩ = some (.slice Ao12 t434.length co12) := (blk_cell BK439.out 2).trans rfl; have hfz123_0 := blk_frozen BK439.out 0; have hfz123_1 := blk_frozen BK439.out 1; have hfz123_2 := blk_frozen BK439.out 2) | ((with_reducible refine gate_callee (f := 29) rfl ?_); refine goesL_ (some 67) rfl rfl Try.func29 (by kernel_rfl) rfl #[.agg #[.int .i64 t448, .int .i64 t449, .slice Ao28 t450.length co28], .agg #[.int .i64 t432, .int .i64 t433, .slice Ao12 t434.length co12]] rfl (by (try simp only [List.map_toArray, List.map_cons, List.map_nil]); first | done | rfl | (simp only [List.length_drop, List.length_take]; rfl)) ?_; (with_reducible refine (laws_loLedger.calls kj5 t448 t449 _ _ t450 t432 t433 _ _ t434 t467 _ ?side1 ?side2 ?side3 ?side4 A112.out).mono ?_); (case side1 => repeat (first | exact (Kd.V_reads' HO_455002.out).2.2 | (with_reducible refine Kd.C_alloc ?_ _) | (with_reducible refine Kd.C_drewN ?_ _) | (with_reducible refine Kd.C_drew ?_))); (case side2 => exact (Kd.V_reads' HO_455002.out).2.1); (case side3 => repeat (first | exact (Kd.R_reads' HO_440002.out).2.2 | (with_reducible refine Kd.C_alloc ?_ _) | (with_reducible refine Kd.C_drewN ?_ _) | (with_reducible refine Kd.C_drew ?_))); (case side4 => exact (Kd.R_reads' HO_440002.out).2.1); rintro e w124 ⟨rfl, hb⟩; refine ⟨_, rfl, ?_⟩; have n0_ := yM (Kd.R_below (by (with_reducible repeat (first | apply Kd.R_alloc | apply Kd.R_drewN | apply Kd.R_drew)); exact HO_440002.out) hb); have n1_ := yM (Kd.R_below (by (with_reducible repeat (first | apply Kd.R_alloc | apply Kd.R_drewN | apply Kd.R_drew)); exact HO_448002.out) hb); have n2_ := yM (Kd.V_below (by (with_reducible repeat (first | apply Kd.V_alloc | apply Kd.V_drewN | apply Kd.V_drew)); exact HO_455002.out) hb); have n3_ := yM (blk_below (g := gb439) (o := .cells #[.int .i64 t432, .int .i64 t433, .slice Ao12 t434.length co12] 32 (0, 0)) (by (with_reducible repeat (first | refine yN ?_ _ | refine yD ?_ | refine yA ?_ _)); exact BK439.out) hb); have n4_ := yM (blk_below (g := gb440) (o := .cells #[.int .i64 t437, .int .i64 t438] 29 (0, 0)) (by (with_reducible repeat (first | refine yN ?_ _ | refine yD ?_ | refine yA ?_ _)); exact BK440.out) hb); have n5_ := yM (blk_below (g := gb447) (o := .cells #[.int .i64 t441, .int .i64 t442, .slice Ao19 t443.length co19] 32 (0, 0)) (by (with_reducible repeat (first | refine yN ?_ _ | refine yD ?_ | refine yA ?_ _)); exact BK447.out) hb); have n6_ := yM (blk_below (g := gb454) (o := .cells #[.int .i64 t448, .int .i64 t449, .slice Ao28 t450.length co28] 32 (0, 0)) (by (with_reducible repeat (first | refine yN ?_ _ | refine yD ?_ | refine yA ?_ _)); exact BK454.out) hb); have n7_ := yM (below_step (by repeat (first | (with_reducible first | exact HB.out | apply below_alloc | apply yP | apply below_drew1 | refine yS ?_ GE439.out | refine yS ?_ GE440.out | refine yS ?_ GE447.out | refine yS ?_ GE454.out) | exact HB.out)) hb); clear HO_440002; clear HO_448002; clear HO_455002; clear BK439; clear BK440; clear BK447; clear BK454; clear HB; have HO_440002 := n0_; have HO_448002 := n1_; have HO_455002 := n2_; have BK439 := n3_; have BK440 := n4_; have BK447 := n5_; have BK454 := n6_; have HB := n7_; clear n0_ n1_ n2_ n3_ n4_ n5_ n6_ n7_; (try clear hb); (try clear hb2); (try clear hk); (try clear hi)))
       go_ret
       exact ⟨by first | rfl | (simp [errW_none, errW_some] <;> rfl) | (simp [*, errW_none, errW_some] <;> rfl), by repeat (first | (with_reducible first | exact HB.out | apply below_alloc | apply yP | apply below_drew1 | refine yS ?_ GE439.out | refine yS ?_ GE440.out | refine yS ?_ GE447.out | refine yS ?_ GE454.out) | exact HB.out)⟩

/-- THE ONE PURE STATEMENT of laws_FnPay: yours. -/
def laws_FnPay.Pure : Prop := ∀ (l0 : List Int), l0.length ≤ maxLen → l0.length * 1 ≤ 140737488351232 → (∀ x ∈ l0, (Lit.int .u8 x).wf = true) → ∃ k, laws_FnPay.f k l0 = some true
theorem laws_FnPay.walk (P : laws_FnPay.Pure) (a0 : Option Addr) (len0 cap0 : Nat) (z0 : List Int) (w : World) (w0 : (a0 = none ∧ len0 = 0 ∧ cap0 = 0 ∧ z0 = []) ∨ ∃ x, a0 = some x ∧ len0 ≤ cap0 ∧ cap0 ≤ maxLen ∧ z0.length = cap0 ∧ (∀ i, i < z0.length → w.cell? (x.add i) = some (.int .u8 (z0.getD i 0))) ∧ ∀ n ∈ z0, (Lit.int .u8 n).wf = true) (y0 : len0 * 1 ≤ 140737488351232) :
  Calls Try.prog 10 #[.slice a0 len0 cap0] w fun e w' => e = .returned (.bool true) ∧ Below w.heap.size w w' := by
 obtain ⟨l0, rfl, hr0, hm0, hw0, hc0⟩ := ReadsInt.ofRowC w0
 obtain ⟨k, h⟩ := P l0 hm0 y0 hw0
 refine (laws_FnPay.calls k _ _ l0 true w (Kd.C_of_reads (d := (0 : Int)) (h1 := fun _ => rfl) hr0) hc0 h rfl).mono ?_
 rintro e w' ⟨rfl, hd⟩
 exact ⟨rfl, hd⟩

end Go.Proofs.Ytncngkfgalokoaa.PLed
