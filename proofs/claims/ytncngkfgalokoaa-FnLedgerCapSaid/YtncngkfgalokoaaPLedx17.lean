-- Written by a program of this session over the kit's printer, with contracts proved by hand; Lean checks it.
import Derived.Test.YtncngkfgalokoaaPLedx0
import Derived.Test.YtncngkfgalokoaaPLedx4
import Derived.Test.YtncngkfgalokoaaPLedx11
import Derived.Test.YtncngkfgalokoaaPLedx15
-- half its indentation
namespace Go.Proofs.Ytncngkfgalokoaa.PLed
open Go.RowKit Go.Proofs.YtncngkfgalokoaaW.PrintWords Go.Proofs.YtncngkfgalokoaaW.PrintLast Go.Proofs.YtncngkfgalokoaaW.PrintMore
attribute [local go_sem] max2_int min2_int max_two min_two max_three min_three max_four min_four   -- for this text's walks alone
set_option linter.unusedVariables false
set_option linter.unusedSimpArgs false

open List (setIfInBounds_toArray set_cons_zero set_cons_succ)
/-! ### laws_FnLedgerCap: function 12 -/
mutual
def laws_FnLedgerCap.j0 : Nat → List Int → List Int → Bool → Option (Bool)
 | 0, _, _, _ => none
 | k + 1, x0, x1, x19 => if x19 = true then (some true) else ((spec_DrawLedgerCan.f k x0).bind fun bt525 => ((impl_LedgerCan.f k bt525.1 bt525.2.1 bt525.2.2.1 bt525.2.2.2.1 bt525.2.2.2.2).bind fun t534 => ((spec_LedgerCan.f k bt525.1 bt525.2.1 bt525.2.2.1 bt525.2.2.2.1 bt525.2.2.2.2).bind fun t535 => (if (t534 != t535) = true then (laws_FnLedgerCap.j1 k x1 t534 true bt525.1 bt525.2.1 bt525.2.2.1 bt525.2.2.2.1 bt525.2.2.2.2) else (laws_FnLedgerCap.j1 k x1 t534 (!t534) bt525.1 bt525.2.1 bt525.2.2.1 bt525.2.2.2.1 bt525.2.2.2.2)))))
def laws_FnLedgerCap.j1 : Nat → List Int → Bool → Bool → Int → Int → List (S29) → Int → Int → Option (Bool)
 | 0, _, _, _, _, _, _, _, _ => none
 | k + 1, x1, x7, x36, x533000, x533001, x533002, x534000, x534001 => if x36 = true then ((spec_LedgerCan.f k x533000 x533001 x533002 x534000 x534001).bind fun t536 => (some (x7 == t536))) else ((impl_FracOf.f k (1 + ((x1.length : Int) % 5)) 1).bind fun bt537 => ((impl_FracSum.f k x533000 x533001 bt537.1 bt537.2.1).bind fun bt541 => (if bt541.2.2 = true then ((impl_LedgerCan.f k bt541.1 bt541.2.1 x533002 x534000 x534001).bind fun t545 => (some t545)) else (some true))))
end
def laws_FnLedgerCap.f (k : Nat) (l0 : List Int) (l1 : List Int) : Option (Bool) := if (l0.length : Int) > 1048576 then (laws_FnLedgerCap.j0 k l0 l1 true) else (laws_FnLedgerCap.j0 k l0 l1 (decide ((l1.length : Int) > 1048576)))
theorem laws_FnLedgerCap.mono_l : ∀ k, (∀ y0 y1 y2, LeO (laws_FnLedgerCap.j0 k y0 y1 y2) (laws_FnLedgerCap.j0 (k + 1) y0 y1 y2)) ∧ (∀ y0 y1 y2 y3 y4 y5 y6 y7, LeO (laws_FnLedgerCap.j1 k y0 y1 y2 y3 y4 y5 y6 y7) (laws_FnLedgerCap.j1 (k + 1) y0 y1 y2 y3 y4 y5 y6 y7))
 | 0 => ⟨fun _ _ _ r h => by simp [laws_FnLedgerCap.j0] at h, fun _ _ _ _ _ _ _ _ r h => by simp [laws_FnLedgerCap.j1] at h⟩
 | k + 1 => by
  obtain ⟨ih0, ih1⟩ := laws_FnLedgerCap.mono_l k
  refine ⟨?_, ?_⟩
  ·intro y0 y1 y2
   unfold laws_FnLedgerCap.j0
   repeat' first
   | (with_reducible exact ih0 _ _ _)
   | (with_reducible exact ih1 _ _ _ _ _ _ _ _)
   | (with_reducible exact impl_FracOf.mono _ _ _)
   | (with_reducible exact impl_FracSum.mono _ _ _ _ _)
   | (with_reducible exact impl_LedgerCan.mono _ _ _ _ _ _)
   | (with_reducible exact spec_DrawLedgerCan.mono _ _)
   | (with_reducible exact spec_LedgerCan.mono _ _ _ _ _ _)
   | (with_reducible exact LeO.refl _)
   | (with_reducible exact LeO.none _)
   | (with_reducible refine LeO.ite ?_ ?_)
   | (with_reducible refine LeO.bind ?_ (fun _ => ?_))
   | exact ih0 _ _ _
   | exact ih1 _ _ _ _ _ _ _ _
   | exact impl_FracOf.mono _ _ _
   | exact impl_FracSum.mono _ _ _ _ _
   | exact impl_LedgerCan.mono _ _ _ _ _ _
   | exact spec_DrawLedgerCan.mono _ _
   | exact spec_LedgerCan.mono _ _ _ _ _ _
   | exact LeO.none _
   | refine LeO.ite ?_ ?_
   | refine LeO.bind ?_ (fun _ => ?_)
  ·intro y0 y1 y2 y3 y4 y5 y6 y7
   unfold laws_FnLedgerCap.j1
   repeat' first
   | (with_reducible exact ih0 _ _ _)
   | (with_reducible exact ih1 _ _ _ _ _ _ _ _)
   | (with_reducible exact impl_FracOf.mono _ _ _)
   | (with_reducible exact impl_FracSum.mono _ _ _ _ _)
   | (with_reducible exact impl_LedgerCan.mono _ _ _ _ _ _)
   | (with_reducible exact spec_DrawLedgerCan.mono _ _)
   | (with_reducible exact spec_LedgerCan.mono _ _ _ _ _ _)
   | (with_reducible exact LeO.refl _)
   | (with_reducible exact LeO.none _)
   | (with_reducible refine LeO.ite ?_ ?_)
   | (with_reducible refine LeO.bind ?_ (fun _ => ?_))
   | exact ih0 _ _ _
   | exact ih1 _ _ _ _ _ _ _ _
   | exact impl_FracOf.mono _ _ _
   | exact impl_FracSum.mono _ _ _ _ _
   | exact impl_LedgerCan.mono _ _ _ _ _ _
   | exact spec_DrawLedgerCan.mono _ _
   | exact spec_LedgerCan.mono _ _ _ _ _ _
   | exact LeO.none _
   | refine LeO.ite ?_ ?_
   | refine LeO.bind ?_ (fun _ => ?_)
theorem laws_FnLedgerCap.mono : ∀ a0 a1 k, LeO (laws_FnLedgerCap.f k a0 a1) (laws_FnLedgerCap.f (k + 1) a0 a1) := by
 intro a0 a1 k
 obtain ⟨ih0, ih1⟩ := laws_FnLedgerCap.mono_l k
 unfold laws_FnLedgerCap.f
 repeat' first
   | (with_reducible exact ih0 _ _ _)
   | (with_reducible exact ih1 _ _ _ _ _ _ _ _)
   | (with_reducible exact impl_FracOf.mono _ _ _)
   | (with_reducible exact impl_FracSum.mono _ _ _ _ _)
   | (with_reducible exact impl_LedgerCan.mono _ _ _ _ _ _)
   | (with_reducible exact spec_DrawLedgerCan.mono _ _)
   | (with_reducible exact spec_LedgerCan.mono _ _ _ _ _ _)
   | (with_reducible exact LeO.refl _)
   | (with_reducible exact LeO.none _)
   | (with_reducible refine LeO.ite ?_ ?_)
   | (with_reducible refine LeO.bind ?_ (fun _ => ?_))
   | exact ih0 _ _ _
   | exact ih1 _ _ _ _ _ _ _ _
   | exact impl_FracOf.mono _ _ _
   | exact impl_FracSum.mono _ _ _ _ _
   | exact impl_LedgerCan.mono _ _ _ _ _ _
   | exact spec_DrawLedgerCan.mono _ _
   | exact spec_LedgerCan.mono _ _ _ _ _ _
   | exact LeO.none _
   | refine LeO.ite ?_ ?_
   | refine LeO.bind ?_ (fun _ => ?_)
set_option maxHeartbeats 8000000 in
set_option maxRecDepth 100000 in
theorem laws_FnLedgerCap.calls (k : Nat) (A0 : Option Addr) (c0 : Nat) (l0 : List Int) (A1 : Option Addr) (c1 : Nat) (l1 : List Int) (r : Bool) (w : World) (hr0 : Kd.C (Kd.int .u8) w A0 l0.length l0) (hc0 : l0.length ≤ c0) (hr1 : Kd.C (Kd.int .u8) w A1 l1.length l1) (hc1 : l1.length ≤ c1) (h : laws_FnLedgerCap.f k l0 l1 = some r) (hrt : r = true) :
  Calls Try.prog 12 #[.slice A0 l0.length c0, .slice A1 l1.length c1] w fun e w' => e = .returned (.bool r) ∧ Below w.heap.size w w' := by
 have HRT := Aside0.mk hrt
 clear hrt
 have hu32 := Try.underlying32
 have hu29 := Try.underlying29
 have HR0 := Aside0.mk hr0
 have HC0 := Aside0.mk hc0
 clear hr0 hc0
 have HR1 := Aside0.mk hr1
 have HC1 := Aside0.mk hc1
 clear hr1 hc1
 have HB := yM (Below.refl w.heap.size w)
 have H : (if (l0.length : Int) > 1048576 then (laws_FnLedgerCap.j0 k l0 l1 true) else (laws_FnLedgerCap.j0 k l0 l1 (decide ((l1.length : Int) > 1048576)))) = some r := h
 clear h
 have HC3 := Aside0.mk H
 clear H
 go_enter Try.func12, Try.ntmps12
 go_upto_region 1 with (fail)
 go_cut [19] (fun v19 wc => ∃ (kq : Nat) (x19_2 : Bool), v19 = .bool x19_2 ∧ Aside0 (laws_FnLedgerCap.j0 kq l0 l1 x19_2 = some r) ∧ Aside0 (kq ≤ k) ∧ Aside0 (Below w.heap.size w wc))
 case first =>
  have H := HC3.out
  clear HC3
  by_cases c4 : (l0.length : Int) > 1048576
  ·rw [if_pos c4] at H
   have c4b0 : decide (1048576 < (l0.length : Int)) = true := decide_eq_true c4
   have c4b1 : decide (1048576 < l0.length) = true := decide_eq_true (by omega)
   clear c4
   (first | rw [c4b0] | (simp only [i64_w, i32_w]; rw [c4b0]) | skip)
   have H' := Aside0.mk H
   clear H
   go_wp2
   go_meet
   case rel => exact ⟨_, (true), (by first | rfl | (simp; done) | (simp [*]; done)), H', ⟨by first | omega | exact Nat.le_refl _⟩, ⟨by repeat (first | (with_reducible first | exact HB.out | apply below_alloc | apply yP | apply below_drew1) | exact HB.out)⟩⟩
  ·rw [if_neg c4] at H
   have c4b0 : decide (1048576 < (l0.length : Int)) = false := decide_eq_false c4
   have c4b1 : decide (1048576 < l0.length) = false := decide_eq_false (by omega)
   clear c4
   (first | rw [c4b0] | (simp only [i64_w, i32_w]; rw [c4b0]) | skip)
   have H' := Aside0.mk H
   clear H
   go_wp2
   go_meet
   case rel => exact ⟨_, (decide ((l1.length : Int) > 1048576)), (by first | rfl | (simp; done) | (simp [*]; done)), H', ⟨by first | omega | exact Nat.le_refl _⟩, ⟨by repeat (first | (with_reducible first | exact HB.out | apply below_alloc | apply yP | apply below_drew1) | exact HB.out)⟩⟩
 case rest =>
  clear HC3
  try clear c1
  try clear p2
  try clear c4
  try clear c4b0
  try clear c4b1
  obtain ⟨kq, x19_2, rfl, HA, HJ2, HB⟩ := hcut
  cases kq with
  | zero => exact absurd HA.out (by simp [laws_FnLedgerCap.j0])
  | succ kj2 =>
   have H := HA.out
   clear HA
   simp only [laws_FnLedgerCap.j0] at H
   by_cases c5 : x19_2 = true
   ·subst c5
    have H1 : (some true) = some r := by rw [if_pos rfl] at H; exact H
    clear H
    have H := H1
    clear H1
    obtain rfl := Option.some.inj H
    go_wp2
    go_ret
    exact ⟨by first | rfl | (simp [errW_none, errW_some] <;> rfl) | (simp [*, errW_none, errW_some] <;> rfl), by repeat (first | (with_reducible first | exact HB.out | apply below_alloc | apply yP | apply below_drew1) | exact HB.out)⟩
   ·replace c5 := Bool.eq_false_iff.mpr c5
    subst c5
    have H1 : ((spec_DrawLedgerCan.f kj2 l0).bind fun bt525 => ((impl_LedgerCan.f kj2 bt525.1 bt525.2.1 bt525.2.2.1 bt525.2.2.2.1 bt525.2.2.2.2).bind fun t534 => ((spec_LedgerCan.f kj2 bt525.1 bt525.2.1 bt525.2.2.1 bt525.2.2.2.1 bt525.2.2.2.2).bind fun t535 => (if (t534 != t535) = true then (laws_FnLedgerCap.j1 kj2 l1 t534 true bt525.1 bt525.2.1 bt525.2.2.1 bt525.2.2.2.1 bt525.2.2.2.2) else (laws_FnLedgerCap.j1 kj2 l1 t534 (!t534) bt525.1 bt525.2.1 bt525.2.2.1 bt525.2.2.2.1 bt525.2.2.2.2))))) = some r := by rw [if_neg (show ¬ (false = true) by decide)] at H; exact H
    clear H
    have H := H1
    clear H1
    replace H := Option.bind_eq_some_iff.mp H
    obtain ⟨⟨t525, t526, t527, t530, t531⟩, A60, H⟩ := H
    replace H : ((impl_LedgerCan.f kj2 t525 t526 t527 t530 t531).bind fun t534 => ((spec_LedgerCan.f kj2 t525 t526 t527 t530 t531).bind fun t535 => (if (t534 != t535) = true then (laws_FnLedgerCap.j1 kj2 l1 t534 true t525 t526 t527 t530 t531) else (laws_FnLedgerCap.j1 kj2 l1 t534 (!t534) t525 t526 t527 t530 t531)))) = some r := H
    have A6 := Aside0.mk A60
    clear A60
    replace H := Option.bind_eq_some_iff.mp H
    obtain ⟨t534, A70, H⟩ := H
    replace H : ((spec_LedgerCan.f kj2 t525 t526 t527 t530 t531).bind fun t535 => (if (t534 != t535) = true then (laws_FnLedgerCap.j1 kj2 l1 t534 true t525 t526 t527 t530 t531) else (laws_FnLedgerCap.j1 kj2 l1 t534 (!t534) t525 t526 t527 t530 t531))) = some r := H
    have A7 := Aside0.mk A70
    clear A70
    have HC8 := Aside0.mk H
    clear H
    go_upto_region 5 with (first | ((with_reducible refine gate_callee (f := 34) rfl ?_); refine goesL_ (some 22) rfl rfl Try.func34 (by kernel_rfl) rfl #[.slice A0 l0.length c0] rfl (by (try simp only [List.map_toArray, List.map_cons, List.map_nil]); first | done | rfl | (simp only [List.length_drop, List.length_take]; rfl)) ?_; (with_reducible refine (spec_DrawLedgerCan.calls kj2 _ _ l0 t525 t526 t527 t530 t531 _ ?side1 ?side2 A6.out).mono ?_); (case side1 => repeat (first | exact (Kd.C_below HR0.out HB.out) | (with_reducible refine Kd.C_alloc ?_ _) | (with_reducible refine Kd.C_drewN ?_ _) | (with_reducible refine Kd.C_drew ?_))); (case side2 => exact HC0.out); rintro e w9 ⟨v528, rfl, ho0, hb⟩; refine ⟨_, rfl, ?_⟩; have n0_ := yM (Kd.R_lower ho0 (below_size (by repeat (first | (with_reducible first | exact HB.out | apply below_alloc | apply yP | apply below_drew1) | exact HB.out)))); have n1_ := yM (below_step (by repeat (first | (with_reducible first | exact HB.out | apply below_alloc | apply yP | apply below_drew1) | exact HB.out)) hb); clear HB; have HO529 := n0_; have HB := n1_; clear n0_ n1_; (try clear hb); (try clear hb2); (try clear hk); (try clear hi); (try clear ho0)) | ((with_reducible refine gate_dst (N := 5) rfl ?_); (try (refine gate_guard (by rfl) ?_; dsimp only)); refine box_event ?hg (N := 5) ?hd (cs := #[.int .i64 0, .int .i64 0, .slice none 0 0]) (t := 32) ?hr ?_; (case hd => rfl); (case hg => rfl); (case hr => first | (go_simp; done) | (go_simp; rfl)); intro gb532 hg w10 hbox hb; have n0_ := yM (Kd.R_below (by (with_reducible repeat (first | apply Kd.R_alloc | apply Kd.R_drewN | apply Kd.R_drew)); exact HO529.out) hb); have n1_ := yM (below_step (by repeat (first | (with_reducible first | exact HB.out | apply below_alloc | apply yP | apply below_drew1) | exact HB.out)) hb); have n2_ := yM (hbox); have n3_ := yM ((by rw [hg]; exact (below_size (by repeat (first | (with_reducible first | exact HB.out | apply below_alloc | apply yP | apply below_drew1) | exact HB.out))) : w.heap.size ≤ gb532)); have n4_ := yM ((by rw [hg]; exact (below_size (by repeat (first | (with_reducible first | exact HB.out | apply below_alloc | apply yP | apply below_drew1) | exact HB.out))) : w.heap.size ≤ gb532)); clear HO529; clear HB; have HO529 := n0_; have HB := n1_; have BK532 := n2_; have GW532 := n3_; have GE532 := n4_; clear n0_ n1_ n2_ n3_ n4_; clear hb hbox hg) | ((with_reducible refine gate_dst (N := 6) rfl ?_); (try (refine gate_guard (by rfl) ?_; dsimp only)); refine box_event ?hg (N := 6) ?hd (cs := #[.int .i64 0, .int .i64 0]) (t := 29) ?hr ?_; (case hd => rfl); (case hg => rfl); (case hr => first | (go_simp; done) | (go_simp; rfl)); intro gb533 hg w11 hbox hb; have n0_ := yM (Kd.R_below (Kd.R_elderB (by (with_reducible repeat (first | apply Kd.R_alloc | apply Kd.R_drewN | apply Kd.R_drew)); exact HO529.out) gb533 (Nat.le_of_eq hg.symm)) hb); have n1_ := yM (blk_below (g := gb532) (o := .cells #[.int .i64 0, .int .i64 0, .slice none 0 0] 32 (0, 0)) (by (with_reducible repeat (first | refine yN ?_ _ | refine yD ?_ | refine yA ?_ _)); exact BK532.out) hb); have n2_ := yM (below_step (by repeat (first | (with_reducible first | exact HB.out | apply below_alloc | apply yP | apply below_drew1 | refine yS ?_ GE532.out) | exact HB.out)) hb); have n3_ := yM (hbox); have n4_ := yM ((by rw [hg]; exact (below_size (by repeat (first | (with_reducible first | exact HB.out | apply below_alloc | apply yP | apply below_drew1 | refine yS ?_ GE532.out) | exact HB.out))) : w.heap.size ≤ gb533)); have n5_ := yM ((by rw [hg]; exact (below_size (by repeat (first | (with_reducible first | exact HB.out | apply below_alloc | apply yP | apply below_drew1 | refine yS ?_ GE532.out) | exact HB.out))) : w.heap.size ≤ gb533)); have n6_ := yM ((by rw [hg]; exact Nat.ne_of_lt (blk_lt (g := gb532) (o := .cells #[.int .i64 0, .int .i64 0, .slice none 0 0] 32 (0, 0)) (by (with_reducible repeat (first | refine yN ?_ _ | refine yD ?_ | refine yA ?_ _)); exact BK532.out)) : gb532 ≠ gb533)); have n7_ := yM ((by rw [hg]; exact Nat.ne_of_gt (blk_lt (g := gb532) (o := .cells #[.int .i64 0, .int .i64 0, .slice none 0 0] 32 (0, 0)) (by (with_reducible repeat (first | refine yN ?_ _ | refine yD ?_ | refine yA ?_ _)); exact BK532.out)) : gb533 ≠ gb532)); clear HO529; clear BK532; clear HB; have HO529 := n0_; have BK532 := n1_; have HB := n2_; have BK533 := n3_; have GW533 := n4_; have GE533 := n5_; have NB532_533 := n6_; have NB533_532 := n7_; clear n0_ n1_ n2_ n3_ n4_ n5_ n6_ n7_; clear hb hbox hg; have hnb12 := NB532_533.out; have hnc12 := NB533_532.out; have hcz13_0 : w11.cell? ⟨gb532, 0, none⟩ = some (.int .i64 0) := (blk_cell BK532.out 0).trans rfl; have hcz13_1 : w11.cell? ⟨gb532, 1, none⟩ = some (.int .i64 0) := (blk_cell BK532.out 1).trans rfl; have hcz13_2 : w11.cell? ⟨gb532, 2, none⟩ = some (.slice none 0 0) := (blk_cell BK532.out 2).trans rfl; have hfz13_0 := blk_frozen BK532.out 0; have hfz13_1 := blk_frozen BK532.out 1; have hfz13_2 := blk_frozen BK532.out 2; obtain ⟨Ao14, co14, eo14⟩ := Kd.R_slice HO529.out; subst eo14; have hcz15_0 : w11.cell? ⟨gb533, 0, none⟩ = some (.int .i64 0) := (blk_cell BK533.out 0).trans rfl; have hcz15_1 : w11.cell? ⟨gb533, 1, none⟩ = some (.int .i64 0) := (blk_cell BK533.out 1).trans rfl; have hfz15_0 := blk_frozen BK533.out 0; have hfz15_1 := blk_frozen BK533.out 1) | ((with_reducible refine gate_callee (f := 33) rfl ?_); refine goesL_ (some 27) rfl rfl Try.func33 (by kernel_rfl) rfl #[.agg #[.int .i64 t525, .int .i64 t526, .slice Ao14 t527.length co14], .agg #[.int .i64 t530, .int .i64 t531]] rfl (by (try simp only [List.map_toArray, List.map_cons, List.map_nil]); first | done | rfl | (simp only [List.length_drop, List.length_take]; rfl)) ?_; (with_reducible refine (impl_LedgerCan.calls kj2 t525 t526 _ _ t527 t530 t531 t534 _ ?side1 ?side2 A7.out).mono ?_); (case side1 => refine (Kd.R_reads' (e := 29) (base := w.heap.size) (ok := fun k_ => (True ∧ k_ ≠ gb533)) (n := t527.length) (c := co14) ?_).2.2; exact (by (with_reducible repeat (first | apply Kd.R_alloc | apply Kd.R_drewN | apply Kd.R_drew)); exact (Kd.R_mono (Kd.R_mono (Kd.R_far (p := ⟨gb533, 1, none⟩) (Kd.R_far (p := ⟨gb533, 0, none⟩) (Kd.R_far (p := ⟨gb532, 2, none⟩) (Kd.R_far (p := ⟨gb532, 1, none⟩) (Kd.R_far (p := ⟨gb532, 0, none⟩) (Kd.R_mono (Kd.R_types HO529.out BK532.out (by decide)) (fun k_ hk => (⟨hk, hk.1.2⟩ : _ ∧ k_ ≠ gb533))) (fun _ hk => hk.1.2) (.int .i64 t525)) (fun _ hk => hk.1.2) (.int .i64 t526)) (fun _ hk => hk.1.2) (.slice Ao14 t527.length co14)) (fun _ hk => hk.2) (.int .i64 t530)) (fun _ hk => hk.2) (.int .i64 t531)) (fun _ h_ => h_.1)) (fun _ h_ => h_.1)))); (case side2 => exact (Kd.R_reads' HO529.out).2.1); rintro e w16 ⟨rfl, hb⟩; refine ⟨_, rfl, ?_⟩; have n0_ := yM (Kd.R_below (by (with_reducible repeat (first | apply Kd.R_alloc | apply Kd.R_drewN | apply Kd.R_drew)); exact (Kd.R_mono (Kd.R_mono (Kd.R_far (p := ⟨gb533, 1, none⟩) (Kd.R_far (p := ⟨gb533, 0, none⟩) (Kd.R_far (p := ⟨gb532, 2, none⟩) (Kd.R_far (p := ⟨gb532, 1, none⟩) (Kd.R_far (p := ⟨gb532, 0, none⟩) (Kd.R_mono (Kd.R_types HO529.out BK532.out (by decide)) (fun k_ hk => (⟨hk, hk.1.2⟩ : _ ∧ k_ ≠ gb533))) (fun _ hk => hk.1.2) (.int .i64 t525)) (fun _ hk => hk.1.2) (.int .i64 t526)) (fun _ hk => hk.1.2) (.slice Ao14 t527.length co14)) (fun _ hk => hk.2) (.int .i64 t530)) (fun _ hk => hk.2) (.int .i64 t531)) (fun _ h_ => h_.1)) (fun _ h_ => h_.1))) hb); have n1_ := yM (blk_below (g := gb532) (o := .cells #[.int .i64 t525, .int .i64 t526, .slice Ao14 t527.length co14] 32 (0, 0)) (by (with_reducible repeat (first | refine yN ?_ _ | refine yD ?_ | refine yA ?_ _)); refine blk_far ?_ NB532_533.out _; (with_reducible repeat (first | refine yN ?_ _ | refine yD ?_ | refine yA ?_ _)); refine blk_far ?_ NB532_533.out _; (with_reducible repeat (first | refine yN ?_ _ | refine yD ?_ | refine yA ?_ _)); refine blk_put (cs := #[.int .i64 t525, .int .i64 t526, .slice none 0 0]) ?_ 2 _ rfl; (with_reducible repeat (first | refine yN ?_ _ | refine yD ?_ | refine yA ?_ _)); refine blk_put (cs := #[.int .i64 t525, .int .i64 0, .slice none 0 0]) ?_ 1 _ rfl; (with_reducible repeat (first | refine yN ?_ _ | refine yD ?_ | refine yA ?_ _)); refine blk_put (cs := #[.int .i64 0, .int .i64 0, .slice none 0 0]) ?_ 0 _ rfl; (with_reducible repeat (first | refine yN ?_ _ | refine yD ?_ | refine yA ?_ _)); exact BK532.out) hb); have n2_ := yM (blk_below (g := gb533) (o := .cells #[.int .i64 t530, .int .i64 t531] 29 (0, 0)) (by (with_reducible repeat (first | refine yN ?_ _ | refine yD ?_ | refine yA ?_ _)); refine blk_put (cs := #[.int .i64 t530, .int .i64 0]) ?_ 1 _ rfl; (with_reducible repeat (first | refine yN ?_ _ | refine yD ?_ | refine yA ?_ _)); refine blk_put (cs := #[.int .i64 0, .int .i64 0]) ?_ 0 _ rfl; (with_reducible repeat (first | refine yN ?_ _ | refine yD ?_ | refine yA ?_ _)); refine blk_far ?_ NB533_532.out _; (with_reducible repeat (first | refine yN ?_ _ | refine yD ?_ | refine yA ?_ _)); refine blk_far ?_ NB533_532.out _; (with_reducible repeat (first | refine yN ?_ _ | refine yD ?_ | refine yA ?_ _)); refine blk_far ?_ NB533_532.out _; (with_reducible repeat (first | refine yN ?_ _ | refine yD ?_ | refine yA ?_ _)); exact BK533.out) hb); have n3_ := yM (below_step (by repeat (first | (with_reducible first | exact HB.out | apply below_alloc | apply yP | apply below_drew1 | refine yS ?_ GE532.out | refine yS ?_ GE533.out) | exact HB.out)) hb); clear HO529; clear BK532; clear BK533; clear HB; have HO529 := n0_; have BK532 := n1_; have BK533 := n2_; have HB := n3_; clear n0_ n1_ n2_ n3_; (try clear hb); (try clear hb2); (try clear hk); (try clear hi)))
    (try simp only [Act.put, setIfInBounds_toArray, set_cons_zero, set_cons_succ])
    go_cut [36] (fun v36 wc => ∃ (kq : Nat) (x36_7 : Bool), v36 = .bool x36_7 ∧ Aside0 (laws_FnLedgerCap.j1 kq l1 t534 x36_7 t525 t526 t527 t530 t531 = some r) ∧ Aside0 (kq ≤ kj2) ∧ Aside0 (Kd.R k29 29 wc w.heap.size (fun k_ => k_ ≠ gb533) (.slice Ao14 t527.length co14) t527) ∧ Aside0 (wc.heap[gb532]? = some (.cells #[.int .i64 t525, .int .i64 t526, (.slice Ao14 t527.length co14)] 32 (0, 0))) ∧ Aside0 (wc.heap[gb533]? = some (.cells #[.int .i64 t530, .int .i64 t531] 29 (0, 0))) ∧ Aside0 (Below w.heap.size w wc))
    case first =>
     have H := HC8.out
     clear HC8
     replace H := Option.bind_eq_some_iff.mp H
     obtain ⟨t535, A170, H⟩ := H
     replace H : (if (t534 != t535) = true then (laws_FnLedgerCap.j1 kj2 l1 t534 true t525 t526 t527 t530 t531) else (laws_FnLedgerCap.j1 kj2 l1 t534 (!t534) t525 t526 t527 t530 t531)) = some r := H
     have A17 := Aside0.mk A170
     clear A170
     by_cases c18 : (t534 != t535) = true
     ·rw [if_pos c18] at H
      have c18b0 : (t534 != t535) = true := c18
      (try (have c18b1 : decide (t534 = t535) = false := by simpa using c18))
      (try (have c18b2 : (t534 == t535) = false := by simpa using c18))
      (try (have c18b3 : ¬ (t534 = t535) := by simpa using c18))
      clear c18
      (first | rw [c18b0] | (simp only [i64_w, i32_w]; rw [c18b0]) | skip)
      have H' := Aside0.mk H
      clear H
      have hnb19 := NB532_533.out
      have hnc19 := NB533_532.out
      have hcz20_0 : w16.cell? ⟨gb532, 0, none⟩ = some (.int .i64 t525) := (blk_cell BK532.out 0).trans rfl
      have hcz20_1 : w16.cell? ⟨gb532, 1, none⟩ = some (.int .i64 t526) := (blk_cell BK532.out 1).trans rfl
      have hcz20_2 : w16.cell? ⟨gb532, 2, none⟩ = some (.slice Ao14 t527.length co14) := (blk_cell BK532.out 2).trans rfl
      have hfz20_0 := blk_frozen BK532.out 0
      have hfz20_1 := blk_frozen BK532.out 1
      have hfz20_2 := blk_frozen BK532.out 2
      have hcz21_0 : w16.cell? ⟨gb533, 0, none⟩ = some (.int .i64 t530) := (blk_cell BK533.out 0).trans rfl
      have hcz21_1 : w16.cell? ⟨gb533, 1, none⟩ = some (.int .i64 t531) := (blk_cell BK533.out 1).trans rfl
      have hfz21_0 := blk_frozen BK533.out 0
      have hfz21_1 := blk_frozen BK533.out 1
      go_wp2_with (first | ((with_reducible refine gate_callee (f := 31) rfl ?_); refine goesL_ (some 31) rfl rfl Try.func31 (by kernel_rfl) rfl #[.agg #[.int .i64 t525, .int .i64 t526, .slice Ao14 t527.length co14], .agg #[.int .i64 t530, .int .i64 t531]] rfl (by (try simp only [List.map_toArray, List.map_cons, List.map_nil]); first | done | rfl | (simp only [List.length_drop, List.length_take]; rfl)) ?_; (with_reducible refine (spec_LedgerCan.calls kj2 t525 t526 _ _ t527 t530 t531 t535 _ ?side1 ?side2 A17.out).mono ?_); (case side1 => repeat (first | exact (Kd.R_reads' HO529.out).2.2 | (with_reducible refine Kd.C_alloc ?_ _) | (with_reducible refine Kd.C_drewN ?_ _) | (with_reducible refine Kd.C_drew ?_))); (case side2 => exact (Kd.R_reads' HO529.out).2.1); rintro e w22 ⟨rfl, hb⟩; refine ⟨_, rfl, ?_⟩; have n0_ := yM (Kd.R_below (by (with_reducible repeat (first | apply Kd.R_alloc | apply Kd.R_drewN | apply Kd.R_drew)); exact HO529.out) hb); have n1_ := yM (blk_below (g := gb532) (o := .cells #[.int .i64 t525, .int .i64 t526, .slice Ao14 t527.length co14] 32 (0, 0)) (by (with_reducible repeat (first | refine yN ?_ _ | refine yD ?_ | refine yA ?_ _)); exact BK532.out) hb); have n2_ := yM (blk_below (g := gb533) (o := .cells #[.int .i64 t530, .int .i64 t531] 29 (0, 0)) (by (with_reducible repeat (first | refine yN ?_ _ | refine yD ?_ | refine yA ?_ _)); exact BK533.out) hb); have n3_ := yM (below_step (by repeat (first | (with_reducible first | exact HB.out | apply below_alloc | apply yP | apply below_drew1 | refine yS ?_ GE532.out | refine yS ?_ GE533.out) | exact HB.out)) hb); clear HO529; clear BK532; clear BK533; clear HB; have HO529 := n0_; have BK532 := n1_; have BK533 := n2_; have HB := n3_; clear n0_ n1_ n2_ n3_; (try clear hb); (try clear hb2); (try clear hk); (try clear hi)))
      go_meet
      case rel => exact ⟨_, (true), (by first | rfl | (simp; done) | (simp [*]; done)), H', ⟨by have := HJ2.out; first | omega | exact Nat.le_refl _⟩, ⟨by (with_reducible repeat (first | apply Kd.R_alloc | apply Kd.R_drewN | apply Kd.R_drew)); exact Kd.R_mono HO529.out (fun _ hk => hk.2)⟩, ⟨by (with_reducible repeat (first | refine yN ?_ _ | refine yD ?_ | refine yA ?_ _)); exact BK532.out⟩, ⟨by (with_reducible repeat (first | refine yN ?_ _ | refine yD ?_ | refine yA ?_ _)); exact BK533.out⟩, ⟨by repeat (first | (with_reducible first | exact HB.out | apply below_alloc | apply yP | apply below_drew1 | refine yS ?_ GE532.out | refine yS ?_ GE533.out) | exact HB.out)⟩⟩
     ·rw [if_neg c18] at H
      have c18b0 : (t534 != t535) = false := by simpa using c18
      (try (have c18b1 : decide (t534 = t535) = true := by simpa using c18))
      (try (have c18b2 : (t534 == t535) = true := by simpa using c18))
      clear c18
      (first | rw [c18b0] | (simp only [i64_w, i32_w]; rw [c18b0]) | skip)
      have H' := Aside0.mk H
      clear H
      have hnb23 := NB532_533.out
      have hnc23 := NB533_532.out
      have hcz24_0 : w16.cell? ⟨gb532, 0, none⟩ = some (.int .i64 t525) := (blk_cell BK532.out 0).trans rfl
      have hcz24_1 : w16.cell? ⟨gb532, 1, none⟩ = some (.int .i64 t526) := (blk_cell BK532.out 1).trans rfl
      have hcz24_2 : w16.cell? ⟨gb532, 2, none⟩ = some (.slice Ao14 t527.length co14) := (blk_cell BK532.out 2).trans rfl
      have hfz24_0 := blk_frozen BK532.out 0
      have hfz24_1 := blk_frozen BK532.out 1
      have hfz24_2 := blk_frozen BK532.out 2
      have hcz25_0 : w16.cell? ⟨gb533, 0, none⟩ = some (.int .i64 t530) := (blk_cell BK533.out 0).trans rfl
      have hcz25_1 : w16.cell? ⟨gb533, 1, none⟩ = some (.int .i64 t531) := (blk_cell BK533.out 1).trans rfl
      have hfz25_0 := blk_frozen BK533.out 0
      have hfz25_1 := blk_frozen BK533.out 1
      go_wp2_with (first | ((with_reducible refine gate_callee (f := 31) rfl ?_); refine goesL_ (some 31) rfl rfl Try.func31 (by kernel_rfl) rfl #[.agg #[.int .i64 t525, .int .i64 t526, .slice Ao14 t527.length co14], .agg #[.int .i64 t530, .int .i64 t531]] rfl (by (try simp only [List.map_toArray, List.map_cons, List.map_nil]); first | done | rfl | (simp only [List.length_drop, List.length_take]; rfl)) ?_; (with_reducible refine (spec_LedgerCan.calls kj2 t525 t526 _ _ t527 t530 t531 t535 _ ?side1 ?side2 A17.out).mono ?_); (case side1 => repeat (first | exact (Kd.R_reads' HO529.out).2.2 | (with_reducible refine Kd.C_alloc ?_ _) | (with_reducible refine Kd.C_drewN ?_ _) | (with_reducible refine Kd.C_drew ?_))); (case side2 => exact (Kd.R_reads' HO529.out).2.1); rintro e w26 ⟨rfl, hb⟩; refine ⟨_, rfl, ?_⟩; have n0_ := yM (Kd.R_below (by (with_reducible repeat (first | apply Kd.R_alloc | apply Kd.R_drewN | apply Kd.R_drew)); exact HO529.out) hb); have n1_ := yM (blk_below (g := gb532) (o := .cells #[.int .i64 t525, .int .i64 t526, .slice Ao14 t527.length co14] 32 (0, 0)) (by (with_reducible repeat (first | refine yN ?_ _ | refine yD ?_ | refine yA ?_ _)); exact BK532.out) hb); have n2_ := yM (blk_below (g := gb533) (o := .cells #[.int .i64 t530, .int .i64 t531] 29 (0, 0)) (by (with_reducible repeat (first | refine yN ?_ _ | refine yD ?_ | refine yA ?_ _)); exact BK533.out) hb); have n3_ := yM (below_step (by repeat (first | (with_reducible first | exact HB.out | apply below_alloc | apply yP | apply below_drew1 | refine yS ?_ GE532.out | refine yS ?_ GE533.out) | exact HB.out)) hb); clear HO529; clear BK532; clear BK533; clear HB; have HO529 := n0_; have BK532 := n1_; have BK533 := n2_; have HB := n3_; clear n0_ n1_ n2_ n3_; (try clear hb); (try clear hb2); (try clear hk); (try clear hi)))
      go_meet
      case rel => exact ⟨_, (!t534), (by first | rfl | (simp; done) | (simp [*]; done)), H', ⟨by have := HJ2.out; first | omega | exact Nat.le_refl _⟩, ⟨by (with_reducible repeat (first | apply Kd.R_alloc | apply Kd.R_drewN | apply Kd.R_drew)); exact Kd.R_mono HO529.out (fun _ hk => hk.2)⟩, ⟨by (with_reducible repeat (first | refine yN ?_ _ | refine yD ?_ | refine yA ?_ _)); exact BK532.out⟩, ⟨by (with_reducible repeat (first | refine yN ?_ _ | refine yD ?_ | refine yA ?_ _)); exact BK533.out⟩, ⟨by repeat (first | (with_reducible first | exact HB.out | apply below_alloc | apply yP | apply below_drew1 | refine yS ?_ GE532.out | refine yS ?_ GE533.out) | exact HB.out)⟩⟩
    case rest =>
     clear HC8
     try clear c1
     try clear c2
     try clear p2
     try clear c3
     try clear c4
     try clear c4b0
     try clear c4b1
     try clear c5
     try clear c12
     try clear c18
     try clear c18b0
     try clear c18b1
     try clear c18b2
     try clear c19
     try clear c23
     try clear hcz13_0
     try clear hcz13_1
     try clear hcz13_2
     try clear hcz15_0
     try clear hcz15_1
     try clear hcz20_0
     try clear hcz20_1
     try clear hcz20_2
     try clear hcz21_0
     try clear hcz21_1
     try clear hcz24_0
     try clear hcz24_1
     try clear hcz24_2
     try clear hcz25_0
     try clear hcz25_1
     try clear hfz13_0
     try clear hfz13_1
     try clear hfz13_2
     try clear hfz15_0
     try clear hfz15_1
     try clear hfz20_0
     try clear hfz20_1
     try clear hfz20_2
     try clear hfz21_0
     try clear hfz21_1
     try clear hfz24_0
     try clear hfz24_1
     try clear hfz24_2
     try clear hfz25_0
     try clear hfz25_1
     try clear p2
     obtain ⟨kq, x36_7, rfl, HA, HJ7, HO_533002, BK532, BK533, HB⟩ := hcut
     cases kq with
     | zero => exact absurd HA.out (by simp [laws_FnLedgerCap.j1])
     | succ kj7 =>
      have H := HA.out
      clear HA
      simp only [laws_FnLedgerCap.j1] at H
      by_cases c27 : x36_7 = true
      ·subst c27
       have H1 : ((spec_LedgerCan.f kj7 t525 t526 t527 t530 t531).bind fun t536 => (some (t534 == t536))) = some r := by rw [if_pos rfl] at H; exact H
       clear H
       have H := H1
       clear H1
       replace H := Option.bind_eq_some_iff.mp H
       obtain ⟨t536, A280, H⟩ := H
       replace H : (some (t534 == t536)) = some r := H
       have A28 := Aside0.mk A280
       clear A280
       obtain rfl := Option.some.inj H
       have hnb29 := NB532_533.out
       have hnc29 := NB533_532.out
       have hcz30_0 : wc.cell? ⟨gb532, 0, none⟩ = some (.int .i64 t525) := (blk_cell BK532.out 0).trans rfl
       have hcz30_1 : wc.cell? ⟨gb532, 1, none⟩ = some (.int .i64 t526) := (blk_cell BK532.out 1).trans rfl
       have hcz30_2 : wc.cell? ⟨gb532, 2, none⟩ = some (.slice Ao14 t527.length co14) := (blk_cell BK532.out 2).trans rfl
       have hfz30_0 := blk_frozen BK532.out 0
       have hfz30_1 := blk_frozen BK532.out 1
       have hfz30_2 := blk_frozen BK532.out 2
       have hcz31_0 : wc.cell? ⟨gb533, 0, none⟩ = some (.int .i64 t530) := (blk_cell BK533.out 0).trans rfl
       have hcz31_1 : wc.cell? ⟨gb533, 1, none⟩ = some (.int .i64 t531) := (blk_cell BK533.out 1).trans rfl
       have hfz31_0 := blk_frozen BK533.out 0
       have hfz31_1 := blk_frozen BK533.out 1
       go_wp2_with (first | ((with_reducible refine gate_callee (f := 31) rfl ?_); refine goesL_ (some 40) rfl rfl Try.func31 (by kernel_rfl) rfl #[.agg #[.int .i64 t525, .int .i64 t526, .slice Ao14 t527.length co14], .agg #[.int .i64 t530, .int .i64 t531]] rfl (by (try simp only [List.map_toArray, List.map_cons, List.map_nil]); first | done | rfl | (simp only [List.length_drop, List.length_take]; rfl)) ?_; (with_reducible refine (spec_LedgerCan.calls kj7 t525 t526 _ _ t527 t530 t531 t536 _ ?side1 ?side2 A28.out).mono ?_); (case side1 => repeat (first | exact (Kd.R_reads' HO_533002.out).2.2 | (with_reducible refine Kd.C_alloc ?_ _) | (with_reducible refine Kd.C_drewN ?_ _) | (with_reducible refine Kd.C_drew ?_))); (case side2 => exact (Kd.R_reads' HO_533002.out).2.1); rintro e w32 ⟨rfl, hb⟩; refine ⟨_, rfl, ?_⟩; have n0_ := yM (Kd.R_below (by (with_reducible repeat (first | apply Kd.R_alloc | apply Kd.R_drewN | apply Kd.R_drew)); exact HO_533002.out) hb); have n1_ := yM (blk_below (g := gb532) (o := .cells #[.int .i64 t525, .int .i64 t526, .slice Ao14 t527.length co14] 32 (0, 0)) (by (with_reducible repeat (first | refine yN ?_ _ | refine yD ?_ | refine yA ?_ _)); exact BK532.out) hb); have n2_ := yM (blk_below (g := gb533) (o := .cells #[.int .i64 t530, .int .i64 t531] 29 (0, 0)) (by (with_reducible repeat (first | refine yN ?_ _ | refine yD ?_ | refine yA ?_ _)); exact BK533.out) hb); have n3_ := yM (below_step (by repeat (first | (with_reducible first | exact HB.out | apply below_alloc | apply yP | apply below_drew1 | refine yS ?_ GE532.out | refine yS ?_ GE533.out) | exact HB.out)) hb); clear HO_533002; clear BK532; clear BK533; clear HB; have HO_533002 := n0_; have BK532 := n1_; have BK533 := n2_; have HB := n3_; clear n0_ n1_ n2_ n3_; (try clear hb); (try clear hb2); (try clear hk); (try clear hi)))
       go_ret
       exact ⟨by first | rfl | (simp [errW_none, errW_some] <;> rfl) | (simp [*, errW_none, errW_some] <;> rfl), by repeat (first | (with_reducible first | exact HB.out | apply below_alloc | apply yP | apply below_drew1 | refine yS ?_ GE532.out | refine yS ?_ GE533.out) | exact HB.out)⟩
      ·replace c27 := Bool.eq_false_iff.mpr c27
       subst c27
       have H1 : ((impl_FracOf.f kj7 (1 + ((l1.length : Int) % 5)) 1).bind fun bt537 => ((impl_FracSum.f kj7 t525 t526 bt537.1 bt537.2.1).bind fun bt541 => (if bt541.2.2 = true then ((impl_LedgerCan.f kj7 bt541.1 bt541.2.1 t527 t530 t531).bind fun t545 => (some t545)) else (some true)))) = some r := by rw [if_neg (show ¬ (false = true) by decide)] at H; exact H
       clear H
       have H := H1
       clear H1
       replace H := Option.bind_eq_some_iff.mp H
       obtain ⟨⟨t537, t538, t539⟩, A330, H⟩ := H
       replace H : ((impl_FracSum.f kj7 t525 t526 t537 t538).bind fun bt541 => (if bt541.2.2 = true then ((impl_LedgerCan.f kj7 bt541.1 bt541.2.1 t527 t530 t531).bind fun t545 => (some t545)) else (some true))) = some r := H
       have A33 := Aside0.mk A330
       clear A330
       replace H := Option.bind_eq_some_iff.mp H
       obtain ⟨⟨t541, t542, t543⟩, A340, H⟩ := H
       replace H : (if t543 = true then ((impl_LedgerCan.f kj7 t541 t542 t527 t530 t531).bind fun t545 => (some t545)) else (some true)) = some r := H
       have A34 := Aside0.mk A340
       clear A340
       by_cases c35 : t543 = true
       ·subst c35
        have H1 : ((impl_LedgerCan.f kj7 t541 t542 t527 t530 t531).bind fun t545 => (some t545)) = some r := by rw [if_pos rfl] at H; exact H
        clear H
        have H := H1
        clear H1
        replace H := Option.bind_eq_some_iff.mp H
        obtain ⟨t545, A360, H⟩ := H
        replace H : (some t545) = some r := H
        have A36 := Aside0.mk A360
        clear A360
        obtain rfl := Option.some.inj H
        go_wp2_with (first | ((with_reducible refine gate_callee (f := 35) rfl ?_); refine goesL_ (some 47) rfl rfl Try.func35 (by kernel_rfl) rfl #[.int .i64 (1 + ((l1.length : Int) % 5)), .int .i64 1] rfl (by (try simp only [List.map_toArray, List.map_cons, List.map_nil]); first | done | rfl | (simp only [List.length_drop, List.length_take]; rfl)) ?_; (with_reducible refine (impl_FracOf.calls kj7 (1 + ((l1.length : Int) % 5)) 1 t537 t538 t539 _ A33.out).mono ?_); rintro e w37 ⟨rfl, hb⟩; refine ⟨_, rfl, ?_⟩; have n0_ := yM (Kd.R_below (by (with_reducible repeat (first | apply Kd.R_alloc | apply Kd.R_drewN | apply Kd.R_drew)); exact HO_533002.out) hb); have n1_ := yM (blk_below (g := gb532) (o := .cells #[.int .i64 t525, .int .i64 t526, .slice Ao14 t527.length co14] 32 (0, 0)) (by (with_reducible repeat (first | refine yN ?_ _ | refine yD ?_ | refine yA ?_ _)); exact BK532.out) hb); have n2_ := yM (blk_below (g := gb533) (o := .cells #[.int .i64 t530, .int .i64 t531] 29 (0, 0)) (by (with_reducible repeat (first | refine yN ?_ _ | refine yD ?_ | refine yA ?_ _)); exact BK533.out) hb); have n3_ := yM (below_step (by repeat (first | (with_reducible first | exact HB.out | apply below_alloc | apply yP | apply below_drew1 | refine yS ?_ GE532.out | refine yS ?_ GE533.out) | exact HB.out)) hb); clear HO_533002; clear BK532; clear BK533; clear HB; have HO_533002 := n0_; have BK532 := n1_; have BK533 := n2_; have HB := n3_; clear n0_ n1_ n2_ n3_; (try clear hb); (try clear hb2); (try clear hk); (try clear hi)) | ((with_reducible refine gate_dst (N := 8) rfl ?_); (try (refine gate_guard (by rfl) ?_; dsimp only)); refine box_event ?hg (N := 8) ?hd (cs := #[.int .i64 0, .int .i64 0]) (t := 29) ?hr ?_; (case hd => rfl); (case hg => rfl); (case hr => first | (go_simp; done) | (go_simp; rfl)); intro gb540 hg w38 hbox hb; have n0_ := yM (Kd.R_below (Kd.R_elderB (by (with_reducible repeat (first | apply Kd.R_alloc | apply Kd.R_drewN | apply Kd.R_drew)); exact HO_533002.out) gb540 (Nat.le_of_eq hg.symm)) hb); have n1_ := yM (blk_below (g := gb532) (o := .cells #[.int .i64 t525, .int .i64 t526, .slice Ao14 t527.length co14] 32 (0, 0)) (by (with_reducible repeat (first | refine yN ?_ _ | refine yD ?_ | refine yA ?_ _)); exact BK532.out) hb); have n2_ := yM (blk_below (g := gb533) (o := .cells #[.int .i64 t530, .int .i64 t531] 29 (0, 0)) (by (with_reducible repeat (first | refine yN ?_ _ | refine yD ?_ | refine yA ?_ _)); exact BK533.out) hb); have n3_ := yM (below_step (by repeat (first | (with_reducible first | exact HB.out | apply below_alloc | apply yP | apply below_drew1 | refine yS ?_ GE532.out | refine yS ?_ GE533.out) | exact HB.out)) hb); have n4_ := yM (hbox); have n5_ := yM ((by rw [hg]; exact (below_size (by repeat (first | (with_reducible first | exact HB.out | apply below_alloc | apply yP | apply below_drew1 | refine yS ?_ GE532.out | refine yS ?_ GE533.out) | exact HB.out))) : w.heap.size ≤ gb540)); have n6_ := yM ((by rw [hg]; exact (below_size (by repeat (first | (with_reducible first | exact HB.out | apply below_alloc | apply yP | apply below_drew1 | refine yS ?_ GE532.out | refine yS ?_ GE533.out) | exact HB.out))) : w.heap.size ≤ gb540)); have n7_ := yM ((by rw [hg]; exact Nat.ne_of_lt (blk_lt (g := gb532) (o := .cells #[.int .i64 t525, .int .i64 t526, .slice Ao14 t527.length co14] 32 (0, 0)) (by (with_reducible repeat (first | refine yN ?_ _ | refine yD ?_ | refine yA ?_ _)); exact BK532.out)) : gb532 ≠ gb540)); have n8_ := yM ((by rw [hg]; exact Nat.ne_of_gt (blk_lt (g := gb532) (o := .cells #[.int .i64 t525, .int .i64 t526, .slice Ao14 t527.length co14] 32 (0, 0)) (by (with_reducible repeat (first | refine yN ?_ _ | refine yD ?_ | refine yA ?_ _)); exact BK532.out)) : gb540 ≠ gb532)); have n9_ := yM ((by rw [hg]; exact Nat.ne_of_lt (blk_lt (g := gb533) (o := .cells #[.int .i64 t530, .int .i64 t531] 29 (0, 0)) (by (with_reducible repeat (first | refine yN ?_ _ | refine yD ?_ | refine yA ?_ _)); exact BK533.out)) : gb533 ≠ gb540)); have n10_ := yM ((by rw [hg]; exact Nat.ne_of_gt (blk_lt (g := gb533) (o := .cells #[.int .i64 t530, .int .i64 t531] 29 (0, 0)) (by (with_reducible repeat (first | refine yN ?_ _ | refine yD ?_ | refine yA ?_ _)); exact BK533.out)) : gb540 ≠ gb533)); clear HO_533002; clear BK532; clear BK533; clear HB; have HO_533002 := n0_; have BK532 := n1_; have BK533 := n2_; have HB := n3_; have BK540 := n4_; have GW540 := n5_; have GE540 := n6_; have NB532_540 := n7_; have NB540_532 := n8_; have NB533_540 := n9_; have NB540_533 := n10_; clear n0_ n1_ n2_ n3_ n4_ n5_ n6_ n7_ n8_ n9_ n10_; clear hb hbox hg; have hnb39 := NB540_532.out; have hnc39 := NB532_540.out; have hnb40 := NB540_533.out; have hnc40 := NB533_540.out; have hcz41_0 : w38.cell? ⟨gb540, 0, none⟩ = some (.int .i64 0) := (blk_cell BK540.out 0).trans rfl; have hcz41_1 : w38.cell? ⟨gb540, 1, none⟩ = some (.int .i64 0) := (blk_cell BK540.out 1).trans rfl; have hfz41_0 := blk_frozen BK540.out 0; have hfz41_1 := blk_frozen BK540.out 1; have hnb42 := NB532_533.out; have hnc42 := NB533_532.out; have hcz43_0 : w38.cell? ⟨gb532, 0, none⟩ = some (.int .i64 t525) := (blk_cell BK532.out 0).trans rfl; have hcz43_1 : w38.cell? ⟨gb532, 1, none⟩ = some (.int .i64 t526) := (blk_cell BK532.out 1).trans rfl; have hcz43_2 : w38.cell? ⟨gb532, 2, none⟩ = some (.slice Ao14 t527.length co14) := (blk_cell BK532.out 2).trans rfl; have hfz43_0 := blk_frozen BK532.out 0; have hfz43_1 := blk_frozen BK532.out 1; have hfz43_2 := blk_frozen BK532.out 2) | ((with_reducible refine gate_callee (f := 24) rfl ?_); refine goesL_ (some 54) rfl rfl Try.func24 (by kernel_rfl) rfl #[.agg #[.int .i64 t525, .int .i64 t526], .agg #[.int .i64 t537, .int .i64 t538]] rfl (by (try simp only [List.map_toArray, List.map_cons, List.map_nil]); first | done | rfl | (simp only [List.length_drop, List.length_take]; rfl)) ?_; (with_reducible refine (impl_FracSum.calls kj7 t525 t526 t537 t538 t541 t542 true _ A34.out).mono ?_); rintro e w44 ⟨rfl, hb⟩; refine ⟨_, rfl, ?_⟩; have n0_ := yM (Kd.R_below (by (with_reducible repeat (first | apply Kd.R_alloc | apply Kd.R_drewN | apply Kd.R_drew)); exact (Kd.R_mono (Kd.R_far (p := ⟨gb540, 1, none⟩) (Kd.R_far (p := ⟨gb540, 0, none⟩) (Kd.R_mono HO_533002.out (fun k_ hk => (⟨hk, hk.2⟩ : _ ∧ k_ ≠ gb540))) (fun _ hk => hk.2) (.int .i64 t537)) (fun _ hk => hk.2) (.int .i64 t538)) (fun _ h_ => h_.1))) hb); have n1_ := yM (blk_below (g := gb532) (o := .cells #[.int .i64 t525, .int .i64 t526, .slice Ao14 t527.length co14] 32 (0, 0)) (by (with_reducible repeat (first | refine yN ?_ _ | refine yD ?_ | refine yA ?_ _)); refine blk_far ?_ NB532_540.out _; (with_reducible repeat (first | refine yN ?_ _ | refine yD ?_ | refine yA ?_ _)); refine blk_far ?_ NB532_540.out _; (with_reducible repeat (first | refine yN ?_ _ | refine yD ?_ | refine yA ?_ _)); exact BK532.out) hb); have n2_ := yM (blk_below (g := gb533) (o := .cells #[.int .i64 t530, .int .i64 t531] 29 (0, 0)) (by (with_reducible repeat (first | refine yN ?_ _ | refine yD ?_ | refine yA ?_ _)); refine blk_far ?_ NB533_540.out _; (with_reducible repeat (first | refine yN ?_ _ | refine yD ?_ | refine yA ?_ _)); refine blk_far ?_ NB533_540.out _; (with_reducible repeat (first | refine yN ?_ _ | refine yD ?_ | refine yA ?_ _)); exact BK533.out) hb); have n3_ := yM (blk_below (g := gb540) (o := .cells #[.int .i64 t537, .int .i64 t538] 29 (0, 0)) (by (with_reducible repeat (first | refine yN ?_ _ | refine yD ?_ | refine yA ?_ _)); refine blk_put (cs := #[.int .i64 t537, .int .i64 0]) ?_ 1 _ rfl; (with_reducible repeat (first | refine yN ?_ _ | refine yD ?_ | refine yA ?_ _)); refine blk_put (cs := #[.int .i64 0, .int .i64 0]) ?_ 0 _ rfl; (with_reducible repeat (first | refine yN ?_ _ | refine yD ?_ | refine yA ?_ _)); exact BK540.out) hb); have n4_ := yM (below_step (by repeat (first | (with_reducible first | exact HB.out | apply below_alloc | apply yP | apply below_drew1 | refine yS ?_ GE532.out | refine yS ?_ GE533.out | refine yS ?_ GE540.out) | exact HB.out)) hb); clear HO_533002; clear BK532; clear BK533; clear BK540; clear HB; have HO_533002 := n0_; have BK532 := n1_; have BK533 := n2_; have BK540 := n3_; have HB := n4_; clear n0_ n1_ n2_ n3_ n4_; (try clear hb); (try clear hb2); (try clear hk); (try clear hi)) | ((with_reducible refine gate_dst (N := 10) rfl ?_); (try (refine gate_guard (by rfl) ?_; dsimp only)); refine box_event ?hg (N := 10) ?hd (cs := #[.int .i64 0, .int .i64 0]) (t := 29) ?hr ?_; (case hd => rfl); (case hg => rfl); (case hr => first | (go_simp; done) | (go_simp; rfl)); intro gb544 hg w45 hbox hb; have n0_ := yM (Kd.R_below (Kd.R_elderB (by (with_reducible repeat (first | apply Kd.R_alloc | apply Kd.R_drewN | apply Kd.R_drew)); exact HO_533002.out) gb544 (Nat.le_of_eq hg.symm)) hb); have n1_ := yM (blk_below (g := gb532) (o := .cells #[.int .i64 t525, .int .i64 t526, .slice Ao14 t527.length co14] 32 (0, 0)) (by (with_reducible repeat (first | refine yN ?_ _ | refine yD ?_ | refine yA ?_ _)); exact BK532.out) hb); have n2_ := yM (blk_below (g := gb533) (o := .cells #[.int .i64 t530, .int .i64 t531] 29 (0, 0)) (by (with_reducible repeat (first | refine yN ?_ _ | refine yD ?_ | refine yA ?_ _)); exact BK533.out) hb); have n3_ := yM (blk_below (g := gb540) (o := .cells #[.int .i64 t537, .int .i64 t538] 29 (0, 0)) (by (with_reducible repeat (first | refine yN ?_ _ | refine yD ?_ | refine yA ?_ _)); exact BK540.out) hb); have n4_ := yM (below_step (by repeat (first | (with_reducible first | exact HB.out | apply below_alloc | apply yP | apply below_drew1 | refine yS ?_ GE532.out | refine yS ?_ GE533.out | refine yS ?_ GE540.out) | exact HB.out)) hb); have n5_ := yM (hbox); have n6_ := yM ((by rw [hg]; exact (below_size (by repeat (first | (with_reducible first | exact HB.out | apply below_alloc | apply yP | apply below_drew1 | refine yS ?_ GE532.out | refine yS ?_ GE533.out | refine yS ?_ GE540.out) | exact HB.out))) : w.heap.size ≤ gb544)); have n7_ := yM ((by rw [hg]; exact (below_size (by repeat (first | (with_reducible first | exact HB.out | apply below_alloc | apply yP | apply below_drew1 | refine yS ?_ GE532.out | refine yS ?_ GE533.out | refine yS ?_ GE540.out) | exact HB.out))) : w.heap.size ≤ gb544)); have n8_ := yM ((by rw [hg]; exact Nat.ne_of_lt (blk_lt (g := gb532) (o := .cells #[.int .i64 t525, .int .i64 t526, .slice Ao14 t527.length co14] 32 (0, 0)) (by (with_reducible repeat (first | refine yN ?_ _ | refine yD ?_ | refine yA ?_ _)); exact BK532.out)) : gb532 ≠ gb544)); have n9_ := yM ((by rw [hg]; exact Nat.ne_of_gt (blk_lt (g := gb532) (o := .cells #[.int .i64 t525, .int .i64 t526, .slice Ao14 t527.length co14] 32 (0, 0)) (by (with_reducible repeat (first | refine yN ?_ _ | refine yD ?_ | refine yA ?_ _)); exact BK532.out)) : gb544 ≠ gb532)); have n10_ := yM ((by rw [hg]; exact Nat.ne_of_lt (blk_lt (g := gb533) (o := .cells #[.int .i64 t530, .int .i64 t531] 29 (0, 0)) (by (with_reducible repeat (first | refine yN ?_ _ | refine yD ?_ | refine yA ?_ _)); exact BK533.out)) : gb533 ≠ gb544)); have n11_ := yM ((by rw [hg]; exact Nat.ne_of_gt (blk_lt (g := gb533) (o := .cells #[.int .i64 t530, .int .i64 t531] 29 (0, 0)) (by (with_reducible repeat (first | refine yN ?_ _ | refine yD ?_ | refine yA ?_ _)); exact BK533.out)) : gb544 ≠ gb533)); have n12_ := yM ((by rw [hg]; exact Nat.ne_of_lt (blk_lt (g := gb540) (o := .cells #[.int .i64 t537, .int .i64 t538] 29 (0, 0)) (by (with_reducible repeat (first | refine yN ?_ _ | refine yD ?_ | refine yA ?_ _)); exact BK540.out)) : gb540 ≠ gb544)); have n13_ := yM ((by rw [hg]; exact Nat.ne_of_gt (blk_lt (g := gb540) (o := .cells #[.int .i64 t537, .int .i64 t538] 29 (0, 0)) (by (with_reducible repeat (first | refine yN ?_ _ | refine yD ?_ | refine yA ?_ _)); exact BK540.out)) : gb544 ≠ gb540)); clear HO_533002; clear BK532; clear BK533; clear BK540; clear HB; have HO_533002 := n0_; have BK532 := n1_; have BK533 := n2_; have BK540 := n3_; have HB := n4_; have BK544 := n5_; have GW544 := n6_; have GE544 := n7_; have NB532_544 := n8_; have NB544_532 := n9_; have NB533_544 := n10_; have NB544_533 := n11_; have NB540_544 := n12_; have NB544_540 := n13_; clear n0_ n1_ n2_ n3_ n4_ n5_ n6_ n7_ n8_ n9_ n10_ n11_ n12_ n13_; clear hb hbox hg; have hnb46 := NB544_532.out; have hnc46 := NB532_544.out; have hnb47 := NB544_533.out; have hnc47 := NB533_544.out; have hnb48 := NB544_540.out; have hnc48 := NB540_544.out; have hcz49_0 : w45.cell? ⟨gb544, 0, none⟩ = some (.int .i64 0) := (blk_cell BK544.out 0).trans rfl; have hcz49_1 : w45.cell? ⟨gb544, 1, none⟩ = some (.int .i64 0) := (blk_cell BK544.out 1).trans rfl; have hfz49_0 := blk_frozen BK544.out 0; have hfz49_1 := blk_frozen BK544.out 1; have hcz50_0 : w45.cell? ⟨gb532, 0, none⟩ = some (.int .i64 t525) := (blk_cell BK532.out 0).trans rfl; have hcz50_1 : w45.cell? ⟨gb532, 1, none⟩ = some (.int .i64 t526) := (blk_cell BK532.out 1).trans rfl; have hcz50_2 : w45.cell? ⟨gb532, 2, none⟩ = some (.slice Ao14 t527.length co14) := (blk_cell BK532.out 2).trans rfl; have hfz50_0 := blk_frozen BK532.out 0; have hfz50_1 := blk_frozen BK532.out 1; have hfz50_2 := blk_frozen BK532.out 2; have hcz51_0 : w45.cell? ⟨gb533, 0, none⟩ = some (.int .i64 t530) := (blk_cell BK533.out 0).trans rfl; have hcz51_1 : w45.cell? ⟨gb533, 1, none⟩ = some (.int .i64 t531) := (blk_cell BK533.out 1).trans rfl; have hfz51_0 := blk_frozen BK533.out 0; have hfz51_1 := blk_frozen BK533.out 1) | (go_at_call 33; (with_reducible refine (impl_LedgerCan.calls kj7 t541 t542 _ _ t527 t530 t531 t545 _ ?side1 ?side2 A36.out).mono ?_); (case side1 => refine (Kd.R_reads' (e := 29) (base := w.heap.size) (ok := fun k_ => ((k_ ≠ gb533 ∧ k_ ≠ gb540) ∧ k_ ≠ gb544)) (n := t527.length) (c := co14) ?_).2.2; exact (by (with_reducible repeat (first | apply Kd.R_alloc | apply Kd.R_drewN | apply Kd.R_drew)); exact (Kd.R_mono (Kd.R_far (p := ⟨gb544, 1, none⟩) (Kd.R_far (p := ⟨gb544, 0, none⟩) (Kd.R_mono HO_533002.out (fun k_ hk => (⟨hk, hk.2⟩ : _ ∧ k_ ≠ gb544))) (fun _ hk => hk.2) (.int .i64 t541)) (fun _ hk => hk.2) (.int .i64 t542)) (fun _ h_ => h_.1)))); (case side2 => exact (Kd.R_reads' HO_533002.out).2.1); rintro e w52 ⟨rfl, hb⟩; have n0_ := yM (Kd.R_below (by (with_reducible repeat (first | apply Kd.R_alloc | apply Kd.R_drewN | apply Kd.R_drew)); exact (Kd.R_mono (Kd.R_far (p := ⟨gb544, 1, none⟩) (Kd.R_far (p := ⟨gb544, 0, none⟩) (Kd.R_mono HO_533002.out (fun k_ hk => (⟨hk, hk.2⟩ : _ ∧ k_ ≠ gb544))) (fun _ hk => hk.2) (.int .i64 t541)) (fun _ hk => hk.2) (.int .i64 t542)) (fun _ h_ => h_.1))) hb); have n1_ := yM (blk_below (g := gb532) (o := .cells #[.int .i64 t525, .int .i64 t526, .slice Ao14 t527.length co14] 32 (0, 0)) (by (with_reducible repeat (first | refine yN ?_ _ | refine yD ?_ | refine yA ?_ _)); refine blk_far ?_ NB532_544.out _; (with_reducible repeat (first | refine yN ?_ _ | refine yD ?_ | refine yA ?_ _)); refine blk_far ?_ NB532_544.out _; (with_reducible repeat (first | refine yN ?_ _ | refine yD ?_ | refine yA ?_ _)); exact BK532.out) hb); have n2_ := yM (blk_below (g := gb533) (o := .cells #[.int .i64 t530, .int .i64 t531] 29 (0, 0)) (by (with_reducible repeat (first | refine yN ?_ _ | refine yD ?_ | refine yA ?_ _)); refine blk_far ?_ NB533_544.out _; (with_reducible repeat (first | refine yN ?_ _ | refine yD ?_ | refine yA ?_ _)); refine blk_far ?_ NB533_544.out _; (with_reducible repeat (first | refine yN ?_ _ | refine yD ?_ | refine yA ?_ _)); exact BK533.out) hb); have n3_ := yM (blk_below (g := gb540) (o := .cells #[.int .i64 t537, .int .i64 t538] 29 (0, 0)) (by (with_reducible repeat (first | refine yN ?_ _ | refine yD ?_ | refine yA ?_ _)); refine blk_far ?_ NB540_544.out _; (with_reducible repeat (first | refine yN ?_ _ | refine yD ?_ | refine yA ?_ _)); refine blk_far ?_ NB540_544.out _; (with_reducible repeat (first | refine yN ?_ _ | refine yD ?_ | refine yA ?_ _)); exact BK540.out) hb); have n4_ := yM (blk_below (g := gb544) (o := .cells #[.int .i64 t541, .int .i64 t542] 29 (0, 0)) (by (with_reducible repeat (first | refine yN ?_ _ | refine yD ?_ | refine yA ?_ _)); refine blk_put (cs := #[.int .i64 t541, .int .i64 0]) ?_ 1 _ rfl; (with_reducible repeat (first | refine yN ?_ _ | refine yD ?_ | refine yA ?_ _)); refine blk_put (cs := #[.int .i64 0, .int .i64 0]) ?_ 0 _ rfl; (with_reducible repeat (first | refine yN ?_ _ | refine yD ?_ | refine yA ?_ _)); exact BK544.out) hb); have n5_ := yM (below_step (by repeat (first | (with_reducible first | exact HB.out | apply below_alloc | apply yP | apply below_drew1 | refine yS ?_ GE532.out | refine yS ?_ GE533.out | refine yS ?_ GE540.out | refine yS ?_ GE544.out) | exact HB.out)) hb); clear HO_533002; clear BK532; clear BK533; clear BK540; clear BK544; clear HB; have HO_533002 := n0_; have BK532 := n1_; have BK533 := n2_; have BK540 := n3_; have BK544 := n4_; have HB := n5_; clear n0_ n1_ n2_ n3_ n4_ n5_; (try clear hb); (try clear hb2); (try clear hk); (try clear hi)))
        go_ret
        exact ⟨by first | rfl | (simp [errW_none, errW_some] <;> rfl) | (simp [*, errW_none, errW_some] <;> rfl), by repeat (first | (with_reducible first | exact HB.out | apply below_alloc | apply yP | apply below_drew1 | refine yS ?_ GE532.out | refine yS ?_ GE533.out | refine yS ?_ GE540.out | refine yS ?_ GE544.out) | exact HB.out)⟩
       ·replace c35 := Bool.eq_false_iff.mpr c35
        subst c35
        have H1 : (some true) = some r := by rw [if_neg (show ¬ (false = true) by decide)] at H; exact H
        clear H
        have H := H1
        clear H1
        obtain rfl := Option.some.inj H
        go_wp2_with (first | ((with_reducible refine gate_callee (f := 35) rfl ?_); refine goesL_ (some 47) rfl rfl Try.func35 (by kernel_rfl) rfl #[.int .i64 (1 + ((l1.length : Int) % 5)), .int .i64 1] rfl (by (try simp only [List.map_toArray, List.map_cons, List.map_nil]); first | done | rfl | (simp only [List.length_drop, List.length_take]; rfl)) ?_; (with_reducible refine (impl_FracOf.calls kj7 (1 + ((l1.length : Int) % 5)) 1 t537 t538 t539 _ A33.out).mono ?_); rintro e w53 ⟨rfl, hb⟩; refine ⟨_, rfl, ?_⟩; have n0_ := yM (Kd.R_below (by (with_reducible repeat (first | apply Kd.R_alloc | apply Kd.R_drewN | apply Kd.R_drew)); exact HO_533002.out) hb); have n1_ := yM (blk_below (g := gb532) (o := .cells #[.int .i64 t525, .int .i64 t526, .slice Ao14 t527.length co14] 32 (0, 0)) (by (with_reducible repeat (first | refine yN ?_ _ | refine yD ?_ | refine yA ?_ _)); exact BK532.out) hb); have n2_ := yM (blk_below (g := gb533) (o := .cells #[.int .i64 t530, .int .i64 t531] 29 (0, 0)) (by (with_reducible repeat (first | refine yN ?_ _ | refine yD ?_ | refine yA ?_ _)); exact BK533.out) hb); have n3_ := yM (below_step (by repeat (first | (with_reducible first | exact HB.out | apply below_alloc | apply yP | apply below_drew1 | refine yS ?_ GE532.out | refine yS ?_ GE533.out) | exact HB.out)) hb); clear HO_533002; clear BK532; clear BK533; clear HB; have HO_533002 := n0_; have BK532 := n1_; have BK533 := n2_; have HB := n3_; clear n0_ n1_ n2_ n3_; (try clear hb); (try clear hb2); (try clear hk); (try clear hi)) | ((with_reducible refine gate_dst (N := 8) rfl ?_); (try (refine gate_guard (by rfl) ?_; dsimp only)); refine box_event ?hg (N := 8) ?hd (cs := #[.int .i64 0, .int .i64 0]) (t := 29) ?hr ?_; (case hd => rfl); (case hg => rfl); (case hr => first | (go_simp; done) | (go_simp; rfl)); intro gb540 hg w54 hbox hb; have n0_ := yM (Kd.R_below (Kd.R_elderB (by (with_reducible repeat (first | apply Kd.R_alloc | apply Kd.R_drewN | apply Kd.R_drew)); exact HO_533002.out) gb540 (Nat.le_of_eq hg.symm)) hb); have n1_ := yM (blk_below (g := gb532) (o := .cells #[.int .i64 t525, .int .i64 t526, .slice Ao14 t527.length co14] 32 (0, 0)) (by (with_reducible repeat (first | refine yN ?_ _ | refine yD ?_ | refine yA ?_ _)); exact BK532.out) hb); have n2_ := yM (blk_below (g := gb533) (o := .cells #[.int .i64 t530, .int .i64 t531] 29 (0, 0)) (by (with_reducible repeat (first | refine yN ?_ _ | refine yD ?_ | refine yA ?_ _)); exact BK533.out) hb); have n3_ := yM (below_step (by repeat (first | (with_reducible first | exact HB.out | apply below_alloc | apply yP | apply below_drew1 | refine yS ?_ GE532.out | refine yS ?_ GE533.out) | exact HB.out)) hb); have n4_ := yM (hbox); have n5_ := yM ((by rw [hg]; exact (below_size (by repeat (first | (with_reducible first | exact HB.out | apply below_alloc | apply yP | apply below_drew1 | refine yS ?_ GE532.out | refine yS ?_ GE533.out) | exact HB.out))) : w.heap.size ≤ gb540)); have n6_ := yM ((by rw [hg]; exact (below_size (by repeat (first | (with_reducible first | exact HB.out | apply below_alloc | apply yP | apply below_drew1 | refine yS ?_ GE532.out | refine yS ?_ GE533.out) | exact HB.out))) : w.heap.size ≤ gb540)); have n7_ := yM ((by rw [hg]; exact Nat.ne_of_lt (blk_lt (g := gb532) (o := .cells #[.int .i64 t525, .int .i64 t526, .slice Ao14 t527.length co14] 32 (0, 0)) (by (with_reducible repeat (first | refine yN ?_ _ | refine yD ?_ | refine yA ?_ _)); exact BK532.out)) : gb532 ≠ gb540)); have n8_ := yM ((by rw [hg]; exact Nat.ne_of_gt (blk_lt (g := gb532) (o := .cells #[.int .i64 t525, .int .i64 t526, .slice Ao14 t527.length co14] 32 (0, 0)) (by (with_reducible repeat (first | refine yN ?_ _ | refine yD ?_ | refine yA ?_ _)); exact BK532.out)) : gb540 ≠ gb532)); have n9_ := yM ((by rw [hg]; exact Nat.ne_of_lt (blk_lt (g := gb533) (o := .cells #[.int .i64 t530, .int .i64 t531] 29 (0, 0)) (by (with_reducible repeat (first | refine yN ?_ _ | refine yD ?_ | refine yA ?_ _)); exact BK533.out)) : gb533 ≠ gb540)); have n10_ := yM ((by rw [hg]; exact Nat.ne_of_gt (blk_lt (g := gb533) (o := .cells #[.int .i64 t530, .int .i64 t531] 29 (0, 0)) (by (with_reducible repeat (first | refine yN ?_ _ | refine yD ?_ | refine yA ?_ _)); exact BK533.out)) : gb540 ≠ gb533)); clear HO_533002; clear BK532; clear BK533; clear HB; have HO_533002 := n0_; have BK532 := n1_; have BK533 := n2_; have HB := n3_; have BK540 := n4_; have GW540 := n5_; have GE540 := n6_; have NB532_540 := n7_; have NB540_532 := n8_; have NB533_540 := n9_; have NB540_533 := n10_; clear n0_ n1_ n2_ n3_ n4_ n5_ n6_ n7_ n8_ n9_ n10_; clear hb hbox hg; have hnb55 := NB540_532.out; have hnc55 := NB532_540.out; have hnb56 := NB540_533.out; have hnc56 := NB533_540.out; have hcz57_0 : w54.cell? ⟨gb540, 0, none⟩ = some (.int .i64 0) := (blk_cell BK540.out 0).trans rfl; have hcz57_1 : w54.cell? ⟨gb540, 1, none⟩ = some (.int .i64 0) := (blk_cell BK540.out 1).trans rfl; have hfz57_0 := blk_frozen BK540.out 0; have hfz57_1 := blk_frozen BK540.out 1; have hnb58 := NB532_533.out; have hnc58 := NB533_532.out; have hcz59_0 : w54.cell? ⟨gb532, 0, none⟩ = some (.int .i64 t525) := (blk_cell BK532.out 0).trans rfl; have hcz59_1 : w54.cell? ⟨gb532, 1, none⟩ = some (.int .i64 t526) := (blk_cell BK532.out 1).trans rfl; have hcz59_2 : w54.cell? ⟨gb532, 2, none⟩ = some (.slice Ao14 t527.length co14) := (blk_cell BK532.out 2).trans rfl; have hfz59_0 := blk_frozen BK532.out 0; have hfz59_1 := blk_frozen BK532.out 1; have hfz59_2 := blk_frozen BK532.out 2) | ((with_reducible refine gate_callee (f := 24) rfl ?_); refine goesL_ (some 54) rfl rfl Try.func24 (by kernel_rfl) rfl #[.agg #[.int .i64 t525, .int .i64 t526], .agg #[.int .i64 t537, .int .i64 t538]] rfl (by (try simp only [List.map_toArray, List.map_cons, List.map_nil]); first | done | rfl | (simp only [List.length_drop, List.length_take]; rfl)) ?_; (with_reducible refine (impl_FracSum.calls kj7 t525 t526 t537 t538 t541 t542 false _ A34.out).mono ?_); rintro e w60 ⟨rfl, hb⟩; refine ⟨_, rfl, ?_⟩; have n0_ := yM (Kd.R_below (by (with_reducible repeat (first | apply Kd.R_alloc | apply Kd.R_drewN | apply Kd.R_drew)); exact (Kd.R_mono (Kd.R_far (p := ⟨gb540, 1, none⟩) (Kd.R_far (p := ⟨gb540, 0, none⟩) (Kd.R_mono HO_533002.out (fun k_ hk => (⟨hk, hk.2⟩ : _ ∧ k_ ≠ gb540))) (fun _ hk => hk.2) (.int .i64 t537)) (fun _ hk => hk.2) (.int .i64 t538)) (fun _ h_ => h_.1))) hb); have n1_ := yM (blk_below (g := gb532) (o := .cells #[.int .i64 t525, .int .i64 t526, .slice Ao14 t527.length co14] 32 (0, 0)) (by (with_reducible repeat (first | refine yN ?_ _ | refine yD ?_ | refine yA ?_ _)); refine blk_far ?_ NB532_540.out _; (with_reducible repeat (first | refine yN ?_ _ | refine yD ?_ | refine yA ?_ _)); refine blk_far ?_ NB532_540.out _; (with_reducible repeat (first | refine yN ?_ _ | refine yD ?_ | refine yA ?_ _)); exact BK532.out) hb); have n2_ := yM (blk_below (g := gb533) (o := .cells #[.int .i64 t530, .int .i64 t531] 29 (0, 0)) (by (with_reducible repeat (first | refine yN ?_ _ | refine yD ?_ | refine yA ?_ _)); refine blk_far ?_ NB533_540.out _; (with_reducible repeat (first | refine yN ?_ _ | refine yD ?_ | refine yA ?_ _)); refine blk_far ?_ NB533_540.out _; (with_reducible repeat (first | refine yN ?_ _ | refine yD ?_ | refine yA ?_ _)); exact BK533.out) hb); have n3_ := yM (blk_below (g := gb540) (o := .cells #[.int .i64 t537, .int .i64 t538] 29 (0, 0)) (by (with_reducible repeat (first | refine yN ?_ _ | refine yD ?_ | refine yA ?_ _)); refine blk_put (cs := #[.int .i64 t537, .int .i64 0]) ?_ 1 _ rfl; (with_reducible repeat (first | refine yN ?_ _ | refine yD ?_ | refine yA ?_ _)); refine blk_put (cs := #[.int .i64 0, .int .i64 0]) ?_ 0 _ rfl; (with_reducible repeat (first | refine yN ?_ _ | refine yD ?_ | refine yA ?_ _)); exact BK540.out) hb); have n4_ := yM (below_step (by repeat (first | (with_reducible first | exact HB.out | apply below_alloc | apply yP | apply below_drew1 | refine yS ?_ GE532.out | refine yS ?_ GE533.out | refine yS ?_ GE540.out) | exact HB.out)) hb); clear HO_533002; clear BK532; clear BK533; clear BK540; clear HB; have HO_533002 := n0_; have BK532 := n1_; have BK533 := n2_; have BK540 := n3_; have HB := n4_; clear n0_ n1_ n2_ n3_ n4_; (try clear hb); (try clear hb2); (try clear hk); (try clear hi)) | ((with_reducible refine gate_dst (N := 10) rfl ?_); (try (refine gate_guard (by rfl) ?_; dsimp only)); refine box_event ?hg (N := 10) ?hd (cs := #[.int .i64 0, .int .i64 0]) (t := 29) ?hr ?_; (case hd => rfl); (case hg => rfl); (case hr => first | (go_simp; done) | (go_simp; rfl)); intro gb544 hg w61 hbox hb; have n0_ := yM (Kd.R_below (Kd.R_elderB (by (with_reducible repeat (first | apply Kd.R_alloc | apply Kd.R_drewN | apply Kd.R_drew)); exact HO_533002.out) gb544 (Nat.le_of_eq hg.symm)) hb); have n1_ := yM (blk_below (g := gb532) (o := .cells #[.int .i64 t525, .int .i64 t526, .slice Ao14 t527.length co14] 32 (0, 0)) (by (with_reducible repeat (first | refine yN ?_ _ | refine yD ?_ | refine yA ?_ _)); exact BK532.out) hb); have n2_ := yM (blk_below (g := gb533) (o := .cells #[.int .i64 t530, .int .i64 t531] 29 (0, 0)) (by (with_reducible repeat (first | refine yN ?_ _ | refine yD ?_ | refine yA ?_ _)); exact BK533.out) hb); have n3_ := yM (blk_below (g := gb540) (o := .cells #[.int .i64 t537, .int .i64 t538] 29 (0, 0)) (by (with_reducible repeat (first | refine yN ?_ _ | refine yD ?_ | refine yA ?_ _)); exact BK540.out) hb); have n4_ := yM (below_step (by repeat (first | (with_reducible first | exact HB.out | apply below_alloc | apply yP | apply below_drew1 | refine yS ?_ GE532.out | refine yS ?_ GE533.out | refine yS ?_ GE540.out) | exact HB.out)) hb); have n5_ := yM (hbox); have n6_ := yM ((by rw [hg]; exact (below_size (by repeat (first | (with_reducible first | exact HB.out | apply below_alloc | apply yP | apply below_drew1 | refine yS ?_ GE532.out | refine yS ?_ GE533.out | refine yS ?_ GE540.out) | exact HB.out))) : w.heap.size ≤ gb544)); have n7_ := yM ((by rw [hg]; exact (below_size (by repeat (first | (with_reducible first | exact HB.out | apply below_alloc | apply yP | apply below_drew1 | refine yS ?_ GE532.out | refine yS ?_ GE533.out | refine yS ?_ GE540.out) | exact HB.out))) : w.heap.size ≤ gb544)); have n8_ := yM ((by rw [hg]; exact Nat.ne_of_lt (blk_lt (g := gb532) (o := .cells #[.int .i64 t525, .int .i64 t526, .slice Ao14 t527.length co14] 32 (0, 0)) (by (with_reducible repeat (first | refine yN ?_ _ | refine yD ?_ | refine yA ?_ _)); exact BK532.out)) : gb532 ≠ gb544)); have n9_ := yM ((by rw [hg]; exact Nat.ne_of_gt (blk_lt (g := gb532) (o := .cells #[.int .i64 t525, .int .i64 t526, .slice Ao14 t527.length co14] 32 (0, 0)) (by (with_reducible repeat (first | refine yN ?_ _ | refine yD ?_ | refine yA ?_ _)); exact BK532.out)) : gb544 ≠ gb532)); have n10_ := yM ((by rw [hg]; exact Nat.ne_of_lt (blk_lt (g := gb533) (o := .cells #[.int .i64 t530, .int .i64 t531] 29 (0, 0)) (by (with_reducible repeat (first | refine yN ?_ _ | refine yD ?_ | refine yA ?_ _)); exact BK533.out)) : gb533 ≠ gb544)); have n11_ := yM ((by rw [hg]; exact Nat.ne_of_gt (blk_lt (g := gb533) (o := .cells #[.int .i64 t530, .int .i64 t531] 29 (0, 0)) (by (with_reducible repeat (first | refine yN ?_ _ | refine yD ?_ | refine yA ?_ _)); exact BK533.out)) : gb544 ≠ gb533)); have n12_ := yM ((by rw [hg]; exact Nat.ne_of_lt (blk_lt (g := gb540) (o := .cells #[.int .i64 t537, .int .i64 t538] 29 (0, 0)) (by (with_reducible repeat (first | refine yN ?_ _ | refine yD ?_ | refine yA ?_ _)); exact BK540.out)) : gb540 ≠ gb544)); have n13_ := yM ((by rw [hg]; exact Nat.ne_of_gt (blk_lt (g := gb540) (o := .cells #[.int .i64 t537, .int .i64 t538] 29 (0, 0)) (by (with_reducible repeat (first | refine yN ?_ _ | refine yD ?_ | refine yA ?_ _)); exact BK540.out)) : gb544 ≠ gb540)); clear HO_533002; clear BK532; clear BK533; clear BK540; clear HB; have HO_533002 := n0_; have BK532 := n1_; have BK533 := n2_; have BK540 := n3_; have HB := n4_; have BK544 := n5_; have GW544 := n6_; have GE544 := n7_; have NB532_544 := n8_; have NB544_532 := n9_; have NB533_544 := n10_; have NB544_533 := n11_; have NB540_544 := n12_; have NB544_540 := n13_; clear n0_ n1_ n2_ n3_ n4_ n5_ n6_ n7_ n8_ n9_ n10_ n11_ n12_ n13_; clear hb hbox hg; have hnb62 := NB544_532.out; have hnc62 := NB532_544.out; have hnb63 := NB544_533.out; have hnc63 := NB533_544.out; have hnb64 := NB544_540.out; have hnc64 := NB540_544.out; have hcz65_0 : w61.cell? ⟨gb544, 0, none⟩ = some (.int .i64 0) := (blk_cell BK544.out 0).trans rfl; have hcz65_1 : w61.cell? ⟨gb544, 1, none⟩ = some (.int .i64 0) := (blk_cell BK544.out 1).trans rfl; have hfz65_0 := blk_frozen BK544.out 0; have hfz65_1 := blk_frozen BK544.out 1))
        go_ret
        exact ⟨by first | rfl | (simp [errW_none, errW_some] <;> rfl) | (simp [*, errW_none, errW_some] <;> rfl), by repeat (first | (with_reducible first | exact HB.out | apply below_alloc | apply yP | apply below_drew1 | refine yS ?_ GE532.out | refine yS ?_ GE533.out | refine yS ?_ GE540.out | refine yS ?_ GE544.out) | exact HB.out)⟩

/-- THE ONE PURE STATEMENT of laws_FnLedgerCap: yours. -/
def laws_FnLedgerCap.Pure : Prop := ∀ (l0 : List Int) (l1 : List Int), l0.length ≤ maxLen → l0.length * 1 ≤ 140737488351232 → (∀ x ∈ l0, (Lit.int .u8 x).wf = true) → l1.length ≤ maxLen → l1.length * 1 ≤ 140737488351232 → (∀ x ∈ l1, (Lit.int .u8 x).wf = true) → ∃ k, laws_FnLedgerCap.f k l0 l1 = some true
theorem laws_FnLedgerCap.walk (P : laws_FnLedgerCap.Pure) (a0 : Option Addr) (len0 cap0 : Nat) (z0 : List Int) (a1 : Option Addr) (len1 cap1 : Nat) (z1 : List Int) (w : World) (w0 : (a0 = none ∧ len0 = 0 ∧ cap0 = 0 ∧ z0 = []) ∨ ∃ x, a0 = some x ∧ len0 ≤ cap0 ∧ cap0 ≤ maxLen ∧ z0.length = cap0 ∧ (∀ i, i < z0.length → w.cell? (x.add i) = some (.int .u8 (z0.getD i 0))) ∧ ∀ n ∈ z0, (Lit.int .u8 n).wf = true) (y0 : len0 * 1 ≤ 140737488351232) (w1 : (a1 = none ∧ len1 = 0 ∧ cap1 = 0 ∧ z1 = []) ∨ ∃ x, a1 = some x ∧ len1 ≤ cap1 ∧ cap1 ≤ maxLen ∧ z1.length = cap1 ∧ (∀ i, i < z1.length → w.cell? (x.add i) = some (.int .u8 (z1.getD i 0))) ∧ ∀ n ∈ z1, (Lit.int .u8 n).wf = true) (y1 : len1 * 1 ≤ 140737488351232) :
  Calls Try.prog 12 #[.slice a0 len0 cap0, .slice a1 len1 cap1] w fun e w' => e = .returned (.bool true) ∧ Below w.heap.size w w' := by
 obtain ⟨l0, rfl, hr0, hm0, hw0, hc0⟩ := ReadsInt.ofRowC w0
 obtain ⟨l1, rfl, hr1, hm1, hw1, hc1⟩ := ReadsInt.ofRowC w1
 obtain ⟨k, h⟩ := P l0 l1 hm0 y0 hw0 hm1 y1 hw1
 refine (laws_FnLedgerCap.calls k _ _ l0 _ _ l1 true w (Kd.C_of_reads (d := (0 : Int)) (h1 := fun _ => rfl) hr0) hc0 (Kd.C_of_reads (d := (0 : Int)) (h1 := fun _ => rfl) hr1) hc1 h rfl).mono ?_
 rintro e w' ⟨rfl, hd⟩
 exact ⟨rfl, hd⟩

-- NOT PRINTED: function 13 (laws_FnPayTwo)

end Go.Proofs.Ytncngkfgalokoaa.PLed
