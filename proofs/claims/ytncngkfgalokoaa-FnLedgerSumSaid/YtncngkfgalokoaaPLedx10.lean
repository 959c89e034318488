-- Written by a program of this session over the kit's printer, with contracts proved by hand; Lean checks it.
import Derived.Test.YtncngkfgalokoaaPLedx0
import Derived.Test.YtncngkfgalokoaaPLedx1
import Derived.Test.YtncngkfgalokoaaPLedx4
import Derived.Test.YtncngkfgalokoaaPLedx5
import Derived.Test.YtncngkfgalokoaaPLedx9
-- half its indentation
namespace Go.Proofs.Ytncngkfgalokoaa.PLed
open Go.RowKit Go.Proofs.YtncngkfgalokoaaW.PrintWords Go.Proofs.YtncngkfgalokoaaW.PrintLast Go.Proofs.YtncngkfgalokoaaW.PrintMore
attribute [local go_sem] max2_int min2_int max_two min_two max_three min_three max_four min_four   -- for this text's walks alone
set_option linter.unusedVariables false
set_option linter.unusedSimpArgs false

attribute [local go_sem high] eqA29
open List (setIfInBounds_toArray set_cons_zero set_cons_succ)
/-! ### laws_FnLedgerSum: function 6 -/
mutual
def laws_FnLedgerSum.j0 : Nat → Bool → Bool → Bool → Int → Int → List (S29) → Int → Int → Int → Int → Option (Bool)
 | 0, _, _, _, _, _, _, _, _, _, _ => none
 | k + 1, x5, x7, x38, x313000, x313001, x313002, x317000, x317001, x321000, x321001 => if x38 = true then (if (x7 == x5) = true then (if (x321000 == x317000 && (x321001 == x317001)) = true then (if x7 = true then (some true) else ((impl_LedgerOk.f k x313000 x313001 x313002).bind fun t321 => (some (!t321)))) else (some false)) else (some false)) else (laws_FnLedgerSum.l0 k 0 x313000 x313001 x313002 x321000 x321001 0 1)
def laws_FnLedgerSum.l0 : Nat → Int → Int → Int → List (S29) → Int → Int → Int → Int → Option (Bool)
 | 0, _, _, _, _, _, _, _, _ => none
 | k + 1, x9, x313000, x313001, x313002, x321000, x321001, x323000, x323001 => if x9 < (x313002.length : Int) then (if 0 ≤ x9 then ((impl_FracSum.f k x323000 x323001 ((rd_T29 x313002 x9).f0) ((rd_T29 x313002 x9).f1)).bind fun bt324 => (if bt324.2.2 = true then (laws_FnLedgerSum.l0 k (wrap64 (x9 + 1)) x313000 x313001 x313002 x321000 x321001 bt324.1 bt324.2.1) else (some false))) else (none)) else (if (x321000 == x323000 && (x321001 == x323001)) = true then ((impl_FracCmp.f k x321000 x321001 x313000 x313001).bind fun t328 => (some (decide (t328 ≤ 0)))) else (some false))
end
def laws_FnLedgerSum.f (k : Nat) (l0 : List Int) : Option (Bool) := if (l0.length : Int) > 1048576 then (some true) else ((spec_DrawLedgerSum.f k l0).bind fun bt307 => ((spec_LedgerSum.f k bt307.1 bt307.2.1 bt307.2.2).bind fun bt313 => ((impl_LedgerSum.f k bt307.1 bt307.2.1 bt307.2.2).bind fun bt317 => (if (bt317.2.2 != bt313.2.2) = true then (laws_FnLedgerSum.j0 k bt313.2.2 bt317.2.2 true bt307.1 bt307.2.1 bt307.2.2 bt313.1 bt313.2.1 bt317.1 bt317.2.1) else (if (!(bt317.1 == bt313.1) || (!(bt317.2.1 == bt313.2.1))) = true then (laws_FnLedgerSum.j0 k bt313.2.2 bt317.2.2 true bt307.1 bt307.2.1 bt307.2.2 bt313.1 bt313.2.1 bt317.1 bt317.2.1) else (laws_FnLedgerSum.j0 k bt313.2.2 bt317.2.2 (!bt317.2.2) bt307.1 bt307.2.1 bt307.2.2 bt313.1 bt313.2.1 bt317.1 bt317.2.1))))))
theorem laws_FnLedgerSum.mono_l : ∀ k, (∀ y0 y1 y2 y3 y4 y5 y6 y7 y8 y9, LeO (laws_FnLedgerSum.j0 k y0 y1 y2 y3 y4 y5 y6 y7 y8 y9) (laws_FnLedgerSum.j0 (k + 1) y0 y1 y2 y3 y4 y5 y6 y7 y8 y9)) ∧ (∀ y0 y1 y2 y3 y4 y5 y6 y7, LeO (laws_FnLedgerSum.l0 k y0 y1 y2 y3 y4 y5 y6 y7) (laws_FnLedgerSum.l0 (k + 1) y0 y1 y2 y3 y4 y5 y6 y7))
 | 0 => ⟨fun _ _ _ _ _ _ _ _ _ _ r h => by simp [laws_FnLedgerSum.j0] at h, fun _ _ _ _ _ _ _ _ r h => by simp [laws_FnLedgerSum.l0] at h⟩
 | k + 1 => by
  obtain ⟨ih0, ih1⟩ := laws_FnLedgerSum.mono_l k
  refine ⟨?_, ?_⟩
  ·intro y0 y1 y2 y3 y4 y5 y6 y7 y8 y9
   unfold laws_FnLedgerSum.j0
   repeat' first
   | (with_reducible exact ih0 _ _ _ _ _ _ _ _ _ _)
   | (with_reducible exact ih1 _ _ _ _ _ _ _ _)
   | (with_reducible exact impl_FracCmp.mono _ _ _ _ _)
   | (with_reducible exact impl_FracSum.mono _ _ _ _ _)
   | (with_reducible exact impl_LedgerOk.mono _ _ _ _)
   | (with_reducible exact impl_LedgerSum.mono _ _ _ _)
   | (with_reducible exact spec_DrawLedgerSum.mono _ _)
   | (with_reducible exact spec_LedgerSum.mono _ _ _ _)
   | (with_reducible exact LeO.refl _)
   | (with_reducible exact LeO.none _)
   | (with_reducible refine LeO.ite ?_ ?_)
   | (with_reducible refine LeO.bind ?_ (fun _ => ?_))
   | exact ih0 _ _ _ _ _ _ _ _ _ _
   | exact ih1 _ _ _ _ _ _ _ _
   | exact impl_FracCmp.mono _ _ _ _ _
   | exact impl_FracSum.mono _ _ _ _ _
   | exact impl_LedgerOk.mono _ _ _ _
   | exact impl_LedgerSum.mono _ _ _ _
   | exact spec_DrawLedgerSum.mono _ _
   | exact spec_LedgerSum.mono _ _ _ _
   | exact LeO.none _
   | refine LeO.ite ?_ ?_
   | refine LeO.bind ?_ (fun _ => ?_)
  ·intro y0 y1 y2 y3 y4 y5 y6 y7
   unfold laws_FnLedgerSum.l0
   repeat' first
   | (with_reducible exact ih0 _ _ _ _ _ _ _ _ _ _)
   | (with_reducible exact ih1 _ _ _ _ _ _ _ _)
   | (with_reducible exact impl_FracCmp.mono _ _ _ _ _)
   | (with_reducible exact impl_FracSum.mono _ _ _ _ _)
   | (with_reducible exact impl_LedgerOk.mono _ _ _ _)
   | (with_reducible exact impl_LedgerSum.mono _ _ _ _)
   | (with_reducible exact spec_DrawLedgerSum.mono _ _)
   | (with_reducible exact spec_LedgerSum.mono _ _ _ _)
   | (with_reducible exact LeO.refl _)
   | (with_reducible exact LeO.none _)
   | (with_reducible refine LeO.ite ?_ ?_)
   | (with_reducible refine LeO.bind ?_ (fun _ => ?_))
   | exact ih0 _ _ _ _ _ _ _ _ _ _
   | exact ih1 _ _ _ _ _ _ _ _
   | exact impl_FracCmp.mono _ _ _ _ _
   | exact impl_FracSum.mono _ _ _ _ _
   | exact impl_LedgerOk.mono _ _ _ _
   | exact impl_LedgerSum.mono _ _ _ _
   | exact spec_DrawLedgerSum.mono _ _
   | exact spec_LedgerSum.mono _ _ _ _
   | exact LeO.none _
   | refine LeO.ite ?_ ?_
   | refine LeO.bind ?_ (fun _ => ?_)
theorem laws_FnLedgerSum.mono : ∀ a0 k, LeO (laws_FnLedgerSum.f k a0) (laws_FnLedgerSum.f (k + 1) a0) := by
 intro a0 k
 obtain ⟨ih0, ih1⟩ := laws_FnLedgerSum.mono_l k
 unfold laws_FnLedgerSum.f
 repeat' first
   | (with_reducible exact ih0 _ _ _ _ _ _ _ _ _ _)
   | (with_reducible exact ih1 _ _ _ _ _ _ _ _)
   | (with_reducible exact impl_FracCmp.mono _ _ _ _ _)
   | (with_reducible exact impl_FracSum.mono _ _ _ _ _)
   | (with_reducible exact impl_LedgerOk.mono _ _ _ _)
   | (with_reducible exact impl_LedgerSum.mono _ _ _ _)
   | (with_reducible exact spec_DrawLedgerSum.mono _ _)
   | (with_reducible exact spec_LedgerSum.mono _ _ _ _)
   | (with_reducible exact LeO.refl _)
   | (with_reducible exact LeO.none _)
   | (with_reducible refine LeO.ite ?_ ?_)
   | (with_reducible refine LeO.bind ?_ (fun _ => ?_))
   | exact ih0 _ _ _ _ _ _ _ _ _ _
   | exact ih1 _ _ _ _ _ _ _ _
   | exact impl_FracCmp.mono _ _ _ _ _
   | exact impl_FracSum.mono _ _ _ _ _
   | exact impl_LedgerOk.mono _ _ _ _
   | exact impl_LedgerSum.mono _ _ _ _
   | exact spec_DrawLedgerSum.mono _ _
   | exact spec_LedgerSum.mono _ _ _ _
   | exact LeO.none _
   | refine LeO.ite ?_ ?_
   | refine LeO.bind ?_ (fun _ => ?_)
def laws_FnLedgerSum.T12 : Bool × List (List Nat × List Nat) := (true, [([], []), ([], []), ([1], [1]), ([], []), ([2, 3], [2, 3]), ([4], [4]), ([0, 5], [0, 5]), ([6], [6]), ([7], [7]), ([7], [7]), ([], []), ([10, 8, 6, 0, 1, 2, 3, 4, 5, 6, 7, 8, 10], [8, 10]), ([9, 11, 0, 1, 2, 3, 4, 5, 6, 7, 8, 9, 10, 11], [9])])
def laws_FnLedgerSum.B12 : List Nat := [0, 0, 2, 0, 14, 30, 63, 127, 255, 255, 0, 1535, 4095]
theorem laws_FnLedgerSum.tab12 : rtab .any (opsOf Try.f6 12) = laws_FnLedgerSum.T12 := by kernel_rfl
theorem laws_FnLedgerSum.bits12 : waitsOk laws_FnLedgerSum.T12.2 laws_FnLedgerSum.B12 = true := by kernel_rfl
set_option maxHeartbeats 8000000 in
set_option maxRecDepth 100000 in
theorem laws_FnLedgerSum.calls (k : Nat) (A0 : Option Addr) (c0 : Nat) (l0 : List Int) (r : Bool) (w : World) (hr0 : Kd.C (Kd.int .u8) w A0 l0.length l0) (hc0 : l0.length ≤ c0) (h : laws_FnLedgerSum.f k l0 = some r) (hrt : r = true) :
  Calls Try.prog 6 #[.slice A0 l0.length c0] w fun e w' => e = .returned (.bool r) ∧ Below w.heap.size w w' := by
 have HRT := Aside0.mk hrt
 clear hrt
 have hu32 := Try.underlying32
 have hu29 := Try.underlying29
 have HR0 := Aside0.mk hr0
 have HC0 := Aside0.mk hc0
 clear hr0 hc0
 have HB := yM (Below.refl w.heap.size w)
 have H : (if (l0.length : Int) > 1048576 then (some true) else ((spec_DrawLedgerSum.f k l0).bind fun bt307 => ((spec_LedgerSum.f k bt307.1 bt307.2.1 bt307.2.2).bind fun bt313 => ((impl_LedgerSum.f k bt307.1 bt307.2.1 bt307.2.2).bind fun bt317 => (if (bt317.2.2 != bt313.2.2) = true then (laws_FnLedgerSum.j0 k bt313.2.2 bt317.2.2 true bt307.1 bt307.2.1 bt307.2.2 bt313.1 bt313.2.1 bt317.1 bt317.2.1) else (if (!(bt317.1 == bt313.1) || (!(bt317.2.1 == bt313.2.1))) = true then (laws_FnLedgerSum.j0 k bt313.2.2 bt317.2.2 true bt307.1 bt307.2.1 bt307.2.2 bt313.1 bt313.2.1 bt317.1 bt317.2.1) else (laws_FnLedgerSum.j0 k bt313.2.2 bt317.2.2 (!bt317.2.2) bt307.1 bt307.2.1 bt307.2.2 bt313.1 bt313.2.1 bt317.1 bt317.2.1))))))) = some r := h
 clear h
 by_cases c2 : (l0.length : Int) > 1048576
 ·rw [if_pos c2] at H
  have c2b0 : decide (1048576 < (l0.length : Int)) = true := decide_eq_true c2
  have c2b1 : decide (1048576 < l0.length) = true := decide_eq_true (by omega)
  clear c2
  obtain rfl := Option.some.inj H
  go_enter Try.func6, Try.ntmps6
  go_wp2
  go_ret
  exact ⟨by first | rfl | (simp [errW_none, errW_some] <;> rfl) | (simp [*, errW_none, errW_some] <;> rfl), by repeat (first | (with_reducible first | exact HB.out | apply below_alloc | apply yP | apply below_drew1) | exact HB.out)⟩
 ·rw [if_neg c2] at H
  have c2b0 : decide (1048576 < (l0.length : Int)) = false := decide_eq_false c2
  have c2b1 : decide (1048576 < l0.length) = false := decide_eq_false (by omega)
  clear c2
  replace H := Option.bind_eq_some_iff.mp H
  obtain ⟨⟨t307, t308, t309⟩, A30, H⟩ := H
  replace H : ((spec_LedgerSum.f k t307 t308 t309).bind fun bt313 => ((impl_LedgerSum.f k t307 t308 t309).bind fun bt317 => (if (bt317.2.2 != bt313.2.2) = true then (laws_FnLedgerSum.j0 k bt313.2.2 bt317.2.2 true t307 t308 t309 bt313.1 bt313.2.1 bt317.1 bt317.2.1) else (if (!(bt317.1 == bt313.1) || (!(bt317.2.1 == bt313.2.1))) = true then (laws_FnLedgerSum.j0 k bt313.2.2 bt317.2.2 true t307 t308 t309 bt313.1 bt313.2.1 bt317.1 bt317.2.1) else (laws_FnLedgerSum.j0 k bt313.2.2 bt317.2.2 (!bt317.2.2) t307 t308 t309 bt313.1 bt313.2.1 bt317.1 bt317.2.1))))) = some r := H
  have A3 := Aside0.mk A30
  clear A30
  replace H := Option.bind_eq_some_iff.mp H
  obtain ⟨⟨t313, t314, t315⟩, A40, H⟩ := H
  replace H : ((impl_LedgerSum.f k t307 t308 t309).bind fun bt317 => (if (bt317.2.2 != t315) = true then (laws_FnLedgerSum.j0 k t315 bt317.2.2 true t307 t308 t309 t313 t314 bt317.1 bt317.2.1) else (if (!(bt317.1 == t313) || (!(bt317.2.1 == t314))) = true then (laws_FnLedgerSum.j0 k t315 bt317.2.2 true t307 t308 t309 t313 t314 bt317.1 bt317.2.1) else (laws_FnLedgerSum.j0 k t315 bt317.2.2 (!bt317.2.2) t307 t308 t309 t313 t314 bt317.1 bt317.2.1)))) = some r := H
  have A4 := Aside0.mk A40
  clear A40
  replace H := Option.bind_eq_some_iff.mp H
  obtain ⟨⟨t317, t318, t319⟩, A50, H⟩ := H
  replace H : (if (t319 != t315) = true then (laws_FnLedgerSum.j0 k t315 t319 true t307 t308 t309 t313 t314 t317 t318) else (if (!(t317 == t313) || (!(t318 == t314))) = true then (laws_FnLedgerSum.j0 k t315 t319 true t307 t308 t309 t313 t314 t317 t318) else (laws_FnLedgerSum.j0 k t315 t319 (!t319) t307 t308 t309 t313 t314 t317 t318))) = some r := H
  have A5 := Aside0.mk A50
  clear A50
  have HC6 := Aside0.mk H
  clear H
  go_enter Try.func6, Try.ntmps6
  go_upto_region 6 with (first | ((with_reducible refine gate_callee (f := 23) rfl ?_); refine goesL_ (some 16) rfl rfl Try.func23 (by kernel_rfl) rfl #[.slice A0 l0.length c0] rfl (by (try simp only [List.map_toArray, List.map_cons, List.map_nil]); first | done | rfl | (simp only [List.length_drop, List.length_take]; rfl)) ?_; (with_reducible refine (spec_DrawLedgerSum.calls k _ _ l0 t307 t308 t309 _ ?side1 ?side2 A3.out).mono ?_); (case side1 => repeat (first | exact HR0.out | (with_reducible refine Kd.C_alloc ?_ _) | (with_reducible refine Kd.C_drewN ?_ _) | (with_reducible refine Kd.C_drew ?_))); (case side2 => exact HC0.out); rintro e w7 ⟨v310, rfl, ho0, hb⟩; refine ⟨_, rfl, ?_⟩; have n0_ := yM (Kd.R_lower ho0 (below_size (by repeat (first | (with_reducible first | exact HB.out | apply below_alloc | apply yP | apply below_drew1) | exact HB.out)))); have n1_ := yM (below_step (by repeat (first | (with_reducible first | exact HB.out | apply below_alloc | apply yP | apply below_drew1) | exact HB.out)) hb); clear HB; have HO311 := n0_; have HB := n1_; clear n0_ n1_; (try clear hb); (try clear hb2); (try clear hk); (try clear hi); (try clear ho0)) | ((with_reducible refine gate_dst (N := 3) rfl ?_); refine box_event ?hg (N := 3) ?hd (cs := #[.int .i64 0, .int .i64 0, .slice none 0 0]) (t := 32) ?hr ?_; (case hd => rfl); (case hg => rfl); (case hr => first | (go_simp; done) | (go_simp; rfl)); intro gb312 hg w8 hbox hb; have n0_ := yM (Kd.R_below (by (with_reducible repeat (first | apply Kd.R_alloc | apply Kd.R_drewN | apply Kd.R_drew)); exact HO311.out) hb); have n1_ := yM (below_step (by repeat (first | (with_reducible first | exact HB.out | apply below_alloc | apply yP | apply below_drew1) | exact HB.out)) hb); have n2_ := yM (hbox); have n3_ := yM ((by rw [hg]; exact (below_size (by repeat (first | (with_reducible first | exact HB.out | apply below_alloc | apply yP | apply below_drew1) | exact HB.out))) : w.heap.size ≤ gb312)); have n4_ := yM ((by rw [hg]; exact (below_size (by repeat (first | (with_reducible first | exact HB.out | apply below_alloc | apply yP | apply below_drew1) | exact HB.out))) : w.heap.size ≤ gb312)); clear HO311; clear HB; have HO311 := n0_; have HB := n1_; have BK312 := n2_; have GW312 := n3_; have GE312 := n4_; clear n0_ n1_ n2_ n3_ n4_; clear hb hbox hg; have hcz9_0 : w8.cell? ⟨gb312, 0, none⟩ = some (.int .i64 0) := (blk_cell BK312.out 0).trans rfl; have hcz9_1 : w8.cell? ⟨gb312, 1, none⟩ = some (.int .i64 0) := (blk_cell BK312.out 1).trans rfl; have hcz9_2 : w8.cell? ⟨gb312, 2, none⟩ = some (.slice none 0 0) := (blk_cell BK312.out 2).trans rfl; have hfz9_0 := blk_frozen BK312.out 0; have hfz9_1 := blk_frozen BK312.out 1; have hfz9_2 := blk_frozen BK312.out 2; obtain ⟨Ao10, co10, eo10⟩ := Kd.R_slice HO311.out; subst eo10) | ((with_reducible refine gate_callee (f := 21) rfl ?_); refine goesL_ (some 19) rfl rfl Try.func21 (by kernel_rfl) rfl #[.agg #[.int .i64 t307, .int .i64 t308, .slice Ao10 t309.length co10]] rfl (by (try simp only [List.map_toArray, List.map_cons, List.map_nil]); first | done | rfl | (simp only [List.length_drop, List.length_take]; rfl)) ?_; (with_reducible refine (spec_LedgerSum.calls k t307 t308 _ _ t309 t313 t314 t315 _ ?side1 ?side2 A4.out).mono ?_); (case side1 => refine (Kd.R_reads' (e := 29) (base := w.heap.size) (ok := fun k_ => True) (n := t309.length) (c := co10) ?_).2.2; exact (by (with_reducible repeat (first | apply Kd.R_alloc | apply Kd.R_drewN | apply Kd.R_drew)); exact (Kd.R_mono (Kd.R_far (p := ⟨gb312, 2, none⟩) (Kd.R_far (p := ⟨gb312, 1, none⟩) (Kd.R_far (p := ⟨gb312, 0, none⟩) (Kd.R_types HO311.out BK312.out (by decide)) (fun _ hk => hk.2) (.int .i64 t307)) (fun _ hk => hk.2) (.int .i64 t308)) (fun _ hk => hk.2) (.slice Ao10 t309.length co10)) (fun _ h_ => h_.1)))); (case side2 => exact (Kd.R_reads' HO311.out).2.1); rintro e w11 ⟨rfl, hb⟩; refine ⟨_, rfl, ?_⟩; have n0_ := yM (Kd.R_below (by (with_reducible repeat (first | apply Kd.R_alloc | apply Kd.R_drewN | apply Kd.R_drew)); exact (Kd.R_mono (Kd.R_far (p := ⟨gb312, 2, none⟩) (Kd.R_far (p := ⟨gb312, 1, none⟩) (Kd.R_far (p := ⟨gb312, 0, none⟩) (Kd.R_types HO311.out BK312.out (by decide)) (fun _ hk => hk.2) (.int .i64 t307)) (fun _ hk => hk.2) (.int .i64 t308)) (fun _ hk => hk.2) (.slice Ao10 t309.length co10)) (fun _ h_ => h_.1))) hb); have n1_ := yM (blk_below (g := gb312) (o := .cells #[.int .i64 t307, .int .i64 t308, .slice Ao10 t309.length co10] 32 (0, 0)) (by (with_reducible repeat (first | refine yN ?_ _ | refine yD ?_ | refine yA ?_ _)); refine blk_put (cs := #[.int .i64 t307, .int .i64 t308, .slice none 0 0]) ?_ 2 _ rfl; (with_reducible repeat (first | refine yN ?_ _ | refine yD ?_ | refine yA ?_ _)); refine blk_put (cs := #[.int .i64 t307, .int .i64 0, .slice none 0 0]) ?_ 1 _ rfl; (with_reducible repeat (first | refine yN ?_ _ | refine yD ?_ | refine yA ?_ _)); refine blk_put (cs := #[.int .i64 0, .int .i64 0, .slice none 0 0]) ?_ 0 _ rfl; (with_reducible repeat (first | refine yN ?_ _ | refine yD ?_ | refine yA ?_ _)); exact BK312.out) hb); have n2_ := yM (below_step (by repeat (first | (with_reducible first | exact HB.out | apply below_alloc | apply yP | apply below_drew1 | refine yS ?_ GE312.out) | exact HB.out)) hb); clear HO311; clear BK312; clear HB; have HO311 := n0_; have BK312 := n1_; have HB := n2_; clear n0_ n1_ n2_; (try clear hb); (try clear hb2); (try clear hk); (try clear hi)) | ((with_reducible refine gate_dst (N := 4) rfl ?_); refine box_event ?hg (N := 4) ?hd (cs := #[.int .i64 0, .int .i64 0]) (t := 29) ?hr ?_; (case hd => rfl); (case hg => rfl); (case hr => first | (go_simp; done) | (go_simp; rfl)); intro gb316 hg w12 hbox hb; have n0_ := yM (Kd.R_below (Kd.R_elderB (by (with_reducible repeat (first | apply Kd.R_alloc | apply Kd.R_drewN | apply Kd.R_drew)); exact HO311.out) gb316 (Nat.le_of_eq hg.symm)) hb); have n1_ := yM (blk_below (g := gb312) (o := .cells #[.int .i64 t307, .int .i64 t308, .slice Ao10 t309.length co10] 32 (0, 0)) (by (with_reducible repeat (first | refine yN ?_ _ | refine yD ?_ | refine yA ?_ _)); exact BK312.out) hb); have n2_ := yM (below_step (by repeat (first | (with_reducible first | exact HB.out | apply below_alloc | apply yP | apply below_drew1 | refine yS ?_ GE312.out) | exact HB.out)) hb); have n3_ := yM (hbox); have n4_ := yM ((by rw [hg]; exact (below_size (by repeat (first | (with_reducible first | exact HB.out | apply below_alloc | apply yP | apply below_drew1 | refine yS ?_ GE312.out) | exact HB.out))) : w.heap.size ≤ gb316)); have n5_ := yM ((by rw [hg]; exact (below_size (by repeat (first | (with_reducible first | exact HB.out | apply below_alloc | apply yP | apply below_drew1 | refine yS ?_ GE312.out) | exact HB.out))) : w.heap.size ≤ gb316)); have n6_ := yM ((by rw [hg]; exact Nat.ne_of_lt (blk_lt (g := gb312) (o := .cells #[.int .i64 t307, .int .i64 t308, .slice Ao10 t309.length co10] 32 (0, 0)) (by (with_reducible repeat (first | refine yN ?_ _ | refine yD ?_ | refine yA ?_ _)); exact BK312.out)) : gb312 ≠ gb316)); have n7_ := yM ((by rw [hg]; exact Nat.ne_of_gt (blk_lt (g := gb312) (o := .cells #[.int .i64 t307, .int .i64 t308, .slice Ao10 t309.length co10] 32 (0, 0)) (by (with_reducible repeat (first | refine yN ?_ _ | refine yD ?_ | refine yA ?_ _)); exact BK312.out)) : gb316 ≠ gb312)); clear HO311; clear BK312; clear HB; have HO311 := n0_; have BK312 := n1_; have HB := n2_; have BK316 := n3_; have GW316 := n4_; have GE316 := n5_; have NB312_316 := n6_; have NB316_312 := n7_; clear n0_ n1_ n2_ n3_ n4_ n5_ n6_ n7_; clear hb hbox hg; have hnb13 := NB316_312.out; have hnc13 := NB312_316.out; have hcz14_0 : w12.cell? ⟨gb316, 0, none⟩ = some (.int .i64 0) := (blk_cell BK316.out 0).trans rfl; have hcz14_1 : w12.cell? ⟨gb316, 1, none⟩ = some (.int .i64 0) := (blk_cell BK316.out 1).trans rfl; have hfz14_0 := blk_frozen BK316.out 0; have hfz14_1 := blk_frozen BK316.out 1; have hcz15_0 : w12.cell? ⟨gb312, 0, none⟩ = some (.int .i64 t307) := (blk_cell BK312.out 0).trans rfl; have hcz15_1 : w12.cell? ⟨gb312, 1, none⟩ = some (.int .i64 t308) := (blk_cell BK312.out 1).trans rfl; have hcz15_2 : w12.cell? ⟨gb312, 2, none⟩ = some (.slice Ao10 t309.length co10) := (blk_cell BK312.out 2).trans rfl; have hfz15_0 := blk_frozen BK312.out 0; have hfz15_1 := blk_frozen BK312.out 1; have hfz15_2 := blk_frozen BK312.out 2) | ((with_reducible refine gate_callee (f := 20) rfl ?_); refine goesL_ (some 24) rfl rfl Try.func20 (by kernel_rfl) rfl #[.agg #[.int .i64 t307, .int .i64 t308, .slice Ao10 t309.length co10]] rfl (by (try simp only [List.map_toArray, List.map_cons, List.map_nil]); first | done | rfl | (simp only [List.length_drop, List.length_take]; rfl)) ?_; (with_reducible refine (impl_LedgerSum.calls k t307 t308 _ _ t309 t317 t318 t319 _ ?side1 ?side2 A5.out).mono ?_); (case side1 => refine (Kd.R_reads' (e := 29) (base := w.heap.size) (ok := fun k_ => (True ∧ k_ ≠ gb316)) (n := t309.length) (c := co10) ?_).2.2; exact (by (with_reducible repeat (first | apply Kd.R_alloc | apply Kd.R_drewN | apply Kd.R_drew)); exact (Kd.R_mono (Kd.R_far (p := ⟨gb316, 1, none⟩) (Kd.R_far (p := ⟨gb316, 0, none⟩) (Kd.R_mono HO311.out (fun k_ hk => (⟨hk, hk.2⟩ : _ ∧ k_ ≠ gb316))) (fun _ hk => hk.2) (.int .i64 t313)) (fun _ hk => hk.2) (.int .i64 t314)) (fun _ h_ => h_.1)))); (case side2 => exact (Kd.R_reads' HO311.out).2.1); rintro e w16 ⟨rfl, hb⟩; refine ⟨_, rfl, ?_⟩; have n0_ := yM (Kd.R_below (by (with_reducible repeat (first | apply Kd.R_alloc | apply Kd.R_drewN | apply Kd.R_drew)); exact (Kd.R_mono (Kd.R_far (p := ⟨gb316, 1, none⟩) (Kd.R_far (p := ⟨gb316, 0, none⟩) (Kd.R_mono HO311.out (fun k_ hk => (⟨hk, hk.2⟩ : _ ∧ k_ ≠ gb316))) (fun _ hk => hk.2) (.int .i64 t313)) (fun _ hk => hk.2) (.int .i64 t314)) (fun _ h_ => h_.1))) hb); have n1_ := yM (blk_below (g := gb312) (o := .cells #[.int .i64 t307, .int .i64 t308, .slice Ao10 t309.length co10] 32 (0, 0)) (by (with_reducible repeat (first | refine yN ?_ _ | refine yD ?_ | refine yA ?_ _)); refine blk_far ?_ NB312_316.out _; (with_reducible repeat (first | refine yN ?_ _ | refine yD ?_ | refine yA ?_ _)); refine blk_far ?_ NB312_316.out _; (with_reducible repeat (first | refine yN ?_ _ | refine yD ?_ | refine yA ?_ _)); exact BK312.out) hb); have n2_ := yM (blk_below (g := gb316) (o := .cells #[.int .i64 t313, .int .i64 t314] 29 (0, 0)) (by (with_reducible repeat (first | refine yN ?_ _ | refine yD ?_ | refine yA ?_ _)); refine blk_put (cs := #[.int .i64 t313, .int .i64 0]) ?_ 1 _ rfl; (with_reducible repeat (first | refine yN ?_ _ | refine yD ?_ | refine yA ?_ _)); refine blk_put (cs := #[.int .i64 0, .int .i64 0]) ?_ 0 _ rfl; (with_reducible repeat (first | refine yN ?_ _ | refine yD ?_ | refine yA ?_ _)); exact BK316.out) hb); have n3_ := yM (below_step (by repeat (first | (with_reducible first | exact HB.out | apply below_alloc | apply yP | apply below_drew1 | refine yS ?_ GE312.out | refine yS ?_ GE316.out) | exact HB.out)) hb); clear HO311; clear BK312; clear BK316; clear HB; have HO311 := n0_; have BK312 := n1_; have BK316 := n2_; have HB := n3_; clear n0_ n1_ n2_ n3_; (try clear hb); (try clear hb2); (try clear hk); (try clear hi)) | ((with_reducible refine gate_dst (N := 6) rfl ?_); refine box_event ?hg (N := 6) ?hd (cs := #[.int .i64 0, .int .i64 0]) (t := 29) ?hr ?_; (case hd => rfl); (case hg => rfl); (case hr => first | (go_simp; done) | (go_simp; rfl)); intro gb320 hg w17 hbox hb; have n0_ := yM (Kd.R_below (Kd.R_elderB (by (with_reducible repeat (first | apply Kd.R_alloc | apply Kd.R_drewN | apply Kd.R_drew)); exact HO311.out) gb320 (Nat.le_of_eq hg.symm)) hb); have n1_ := yM (blk_below (g := gb312) (o := .cells #[.int .i64 t307, .int .i64 t308, .slice Ao10 t309.length co10] 32 (0, 0)) (by (with_reducible repeat (first | refine yN ?_ _ | refine yD ?_ | refine yA ?_ _)); exact BK312.out) hb); have n2_ := yM (blk_below (g := gb316) (o := .cells #[.int .i64 t313, .int .i64 t314] 29 (0, 0)) (by (with_reducible repeat (first | refine yN ?_ _ | refine yD ?_ | refine yA ?_ _)); exact BK316.out) hb); have n3_ := yM (below_step (by repeat (first | (with_reducible first | exact HB.out | apply below_alloc | apply yP | apply below_drew1 | refine yS ?_ GE312.out | refine yS ?_ GE316.out) | exact HB.out)) hb); have n4_ := yM (hbox); have n5_ := yM ((by rw [hg]; exact (below_size (by repeat (first | (with_reducible first | exact HB.out | apply below_alloc | apply yP | apply below_drew1 | refine yS ?_ GE312.out | refine yS ?_ GE316.out) | exact HB.out))) : w.heap.size ≤ gb320)); have n6_ := yM ((by rw [hg]; exact (below_size (by repeat (first | (with_reducible first | exact HB.out | apply below_alloc | apply yP | apply below_drew1 | refine yS ?_ GE312.out | refine yS ?_ GE316.out) | exact HB.out))) : w.heap.size ≤ gb320)); have n7_ := yM ((by rw [hg]; exact Nat.ne_of_lt (blk_lt (g := gb312) (o := .cells #[.int .i64 t307, .int .i64 t308, .slice Ao10 t309.length co10] 32 (0, 0)) (by (with_reducible repeat (first | refine yN ?_ _ | refine yD ?_ | refine yA ?_ _)); exact BK312.out)) : gb312 ≠ gb320)); have n8_ := yM ((by rw [hg]; exact Nat.ne_of_gt (blk_lt (g := gb312) (o := .cells #[.int .i64 t307, .int .i64 t308, .slice Ao10 t309.length co10] 32 (0, 0)) (by (with_reducible repeat (first | refine yN ?_ _ | refine yD ?_ | refine yA ?_ _)); exact BK312.out)) : gb320 ≠ gb312)); have n9_ := yM ((by rw [hg]; exact Nat.ne_of_lt (blk_lt (g := gb316) (o := .cells #[.int .i64 t313, .int .i64 t314] 29 (0, 0)) (by (with_reducible repeat (first | refine yN ?_ _ | refine yD ?_ | refine yA ?_ _)); exact BK316.out)) : gb316 ≠ gb320)); have n10_ := yM ((by rw [hg]; exact Nat.ne_of_gt (blk_lt (g := gb316) (o := .cells #[.int .i64 t313, .int .i64 t314] 29 (0, 0)) (by (with_reducible repeat (first | refine yN ?_ _ | refine yD ?_ | refine yA ?_ _)); exact BK316.out)) : gb320 ≠ gb316)); clear HO311; clear BK312; clear BK316; clear HB; have HO311 := n0_; have BK312 := n1_; have BK316 := n2_; have HB := n3_; have BK320 := n4_; have GW320 := n5_; have GE320 := n6_; have NB312_320 := n7_; have NB320_312 := n8_; have NB316_320 := n9_; have NB320_316 := n10_; clear n0_ n1_ n2_ n3_ n4_ n5_ n6_ n7_ n8_ n9_ n10_; clear hb hbox hg; have hnb18 := NB320_312.out; have hnc18 := NB312_320.out; have hnb19 := NB320_316.out; have hnc19 := NB316_320.out; have hcz20_0 : w17.cell? ⟨gb320, 0, none⟩ = some (.int .i64 0) := (blk_cell BK320.out 0).trans rfl; have hcz20_1 : w17.cell? ⟨gb320, 1, none⟩ = some (.int .i64 0) := (blk_cell BK320.out 1).trans rfl; have hfz20_0 := blk_frozen BK320.out 0; have hfz20_1 := blk_frozen BK320.out 1))
  (try simp only [Act.put, setIfInBounds_toArray, set_cons_zero, set_cons_succ])
  go_cut [38] (fun v38 wc => ∃ (kq : Nat) (x38_5 : Bool), v38 = .bool x38_5 ∧ Aside0 (laws_FnLedgerSum.j0 kq t315 t319 x38_5 t307 t308 t309 t313 t314 t317 t318 = some r) ∧ Aside0 (kq ≤ k) ∧ Aside0 (Kd.R k29 29 wc w.heap.size (fun k_ => k_ ≠ gb316 ∧ k_ ≠ gb320) (.slice Ao10 t309.length co10) t309) ∧ Aside0 (wc.heap[gb312]? = some (.cells #[.int .i64 t307, .int .i64 t308, (.slice Ao10 t309.length co10)] 32 (0, 0))) ∧ Aside0 (wc.heap[gb316]? = some (.cells #[.int .i64 t313, .int .i64 t314] 29 (0, 0))) ∧ Aside0 (wc.heap[gb320]? = some (.cells #[.int .i64 t317, .int .i64 t318] 29 (0, 0))) ∧ Aside0 (Below w.heap.size w wc))
  case first =>
   have H := HC6.out
   clear HC6
   by_cases c21 : (t319 != t315) = true
   ·rw [if_pos c21] at H
    have c21b0 : (t319 != t315) = true := c21
    (try (have c21b1 : decide (t319 = t315) = false := by simpa using c21))
    (try (have c21b2 : (t319 == t315) = false := by simpa using c21))
    (try (have c21b3 : ¬ (t319 = t315) := by simpa using c21))
    clear c21
    (first | rw [c21b0] | (simp only [i64_w, i32_w]; rw [c21b0]) | skip)
    have H' := Aside0.mk H
    clear H
    go_wp2
    go_meet
    case rel => exact ⟨_, (true), (by first | rfl | (simp; done) | (simp [*]; done)), H', ⟨by first | omega | exact Nat.le_refl _⟩, ⟨by (with_reducible repeat (first | apply Kd.R_alloc | apply Kd.R_drewN | apply Kd.R_drew)); exact Kd.R_mono (Kd.R_far (p := ⟨gb320, 1, none⟩) (Kd.R_far (p := ⟨gb320, 0, none⟩) (Kd.R_mono HO311.out (fun k_ hk => (⟨hk, hk.2⟩ : _ ∧ k_ ≠ gb320))) (fun _ hk => hk.2) (.int .i64 t317)) (fun _ hk => hk.2) (.int .i64 t318)) (fun _ hk => ⟨hk.1.1.2, hk.1.2⟩)⟩, ⟨by (with_reducible repeat (first | refine yN ?_ _ | refine yD ?_ | refine yA ?_ _)); refine blk_far ?_ NB312_320.out _; (with_reducible repeat (first | refine yN ?_ _ | refine yD ?_ | refine yA ?_ _)); refine blk_far ?_ NB312_320.out _; (with_reducible repeat (first | refine yN ?_ _ | refine yD ?_ | refine yA ?_ _)); exact BK312.out⟩, ⟨by (with_reducible repeat (first | refine yN ?_ _ | refine yD ?_ | refine yA ?_ _)); refine blk_far ?_ NB316_320.out _; (with_reducible repeat (first | refine yN ?_ _ | refine yD ?_ | refine yA ?_ _)); refine blk_far ?_ NB316_320.out _; (with_reducible repeat (first | refine yN ?_ _ | refine yD ?_ | refine yA ?_ _)); exact BK316.out⟩, ⟨by (with_reducible repeat (first | refine yN ?_ _ | refine yD ?_ | refine yA ?_ _)); refine blk_put (cs := #[.int .i64 t317, .int .i64 0]) ?_ 1 _ rfl; (with_reducible repeat (first | refine yN ?_ _ | refine yD ?_ | refine yA ?_ _)); refine blk_put (cs := #[.int .i64 0, .int .i64 0]) ?_ 0 _ rfl; (with_reducible repeat (first | refine yN ?_ _ | refine yD ?_ | refine yA ?_ _)); exact BK320.out⟩, ⟨by repeat (first | (with_reducible first | exact HB.out | apply below_alloc | apply yP | apply below_drew1 | refine yS ?_ GE312.out | refine yS ?_ GE316.out | refine yS ?_ GE320.out) | exact HB.out)⟩⟩
   ·rw [if_neg c21] at H
    have c21b0 : (t319 != t315) = false := by simpa using c21
    (try (have c21b1 : decide (t319 = t315) = true := by simpa using c21))
    (try (have c21b2 : (t319 == t315) = true := by simpa using c21))
    clear c21
    (first | rw [c21b0] | (simp only [i64_w, i32_w]; rw [c21b0]) | skip)
    by_cases c22 : (!(t317 == t313) || (!(t318 == t314))) = true
    ·rw [if_pos c22] at H
     have c22b0 : (!(t317 == t313) || (!(t318 == t314))) = true := c22
     clear c22
     have H' := Aside0.mk H
     clear H
     have hnb23 := NB320_312.out
     have hnc23 := NB312_320.out
     have hnb24 := NB320_316.out
     have hnc24 := NB316_320.out
     have hcz25_0 : w17.cell? ⟨gb320, 0, none⟩ = some (.int .i64 0) := (blk_cell BK320.out 0).trans rfl
     have hcz25_1 : w17.cell? ⟨gb320, 1, none⟩ = some (.int .i64 0) := (blk_cell BK320.out 1).trans rfl
     have hfz25_0 := blk_frozen BK320.out 0
     have hfz25_1 := blk_frozen BK320.out 1
     have hnb26 := NB316_312.out
     have hnc26 := NB312_316.out
     have hcz27_0 : w17.cell? ⟨gb316, 0, none⟩ = some (.int .i64 t313) := (blk_cell BK316.out 0).trans rfl
     have hcz27_1 : w17.cell? ⟨gb316, 1, none⟩ = some (.int .i64 t314) := (blk_cell BK316.out 1).trans rfl
     have hfz27_0 := blk_frozen BK316.out 0
     have hfz27_1 := blk_frozen BK316.out 1
     go_wp2
     go_meet
     case rel => exact ⟨_, (true), (by first | rfl | (simp; done) | (simp [*]; done)), H', ⟨by first | omega | exact Nat.le_refl _⟩, ⟨by (with_reducible repeat (first | apply Kd.R_alloc | apply Kd.R_drewN | apply Kd.R_drew)); exact Kd.R_mono (Kd.R_far (p := ⟨gb320, 1, none⟩) (Kd.R_far (p := ⟨gb320, 0, none⟩) (Kd.R_mono HO311.out (fun k_ hk => (⟨hk, hk.2⟩ : _ ∧ k_ ≠ gb320))) (fun _ hk => hk.2) (.int .i64 t317)) (fun _ hk => hk.2) (.int .i64 t318)) (fun _ hk => ⟨hk.1.1.2, hk.1.2⟩)⟩, ⟨by (with_reducible repeat (first | refine yN ?_ _ | refine yD ?_ | refine yA ?_ _)); refine blk_far ?_ NB312_320.out _; (with_reducible repeat (first | refine yN ?_ _ | refine yD ?_ | refine yA ?_ _)); refine blk_far ?_ NB312_320.out _; (with_reducible repeat (first | refine yN ?_ _ | refine yD ?_ | refine yA ?_ _)); exact BK312.out⟩, ⟨by (with_reducible repeat (first | refine yN ?_ _ | refine yD ?_ | refine yA ?_ _)); refine blk_far ?_ NB316_320.out _; (with_reducible repeat (first | refine yN ?_ _ | refine yD ?_ | refine yA ?_ _)); refine blk_far ?_ NB316_320.out _; (with_reducible repeat (first | refine yN ?_ _ | refine yD ?_ | refine yA ?_ _)); exact BK316.out⟩, ⟨by (with_reducible repeat (first | refine yN ?_ _ | refine yD ?_ | refine yA ?_ _)); refine blk_put (cs := #[.int .i64 t317, .int .i64 0]) ?_ 1 _ rfl; (with_reducible repeat (first | refine yN ?_ _ | refine yD ?_ | refine yA ?_ _)); refine blk_put (cs := #[.int .i64 0, .int .i64 0]) ?_ 0 _ rfl; (with_reducible repeat (first | refine yN ?_ _ | refine yD ?_ | refine yA ?_ _)); exact BK320.out⟩, ⟨by repeat (first | (with_reducible first | exact HB.out | apply below_alloc | apply yP | apply below_drew1 | refine yS ?_ GE312.out | refine yS ?_ GE316.out | refine yS ?_ GE320.out) | exact HB.out)⟩⟩
    ·rw [if_neg c22] at H
     have c22b0 : (!(t317 == t313) || (!(t318 == t314))) = false := by simpa using c22
     clear c22
     have H' := Aside0.mk H
     clear H
     have hnb28 := NB320_312.out
     have hnc28 := NB312_320.out
     have hnb29 := NB320_316.out
     have hnc29 := NB316_320.out
     have hcz30_0 : w17.cell? ⟨gb320, 0, none⟩ = some (.int .i64 0) := (blk_cell BK320.out 0).trans rfl
     have hcz30_1 : w17.cell? ⟨gb320, 1, none⟩ = some (.int .i64 0) := (blk_cell BK320.out 1).trans rfl
     have hfz30_0 := blk_frozen BK320.out 0
     have hfz30_1 := blk_frozen BK320.out 1
     have hnb31 := NB316_312.out
     have hnc31 := NB312_316.out
     have hcz32_0 : w17.cell? ⟨gb316, 0, none⟩ = some (.int .i64 t313) := (blk_cell BK316.out 0).trans rfl
     have hcz32_1 : w17.cell? ⟨gb316, 1, none⟩ = some (.int .i64 t314) := (blk_cell BK316.out 1).trans rfl
     have hfz32_0 := blk_frozen BK316.out 0
     have hfz32_1 := blk_frozen BK316.out 1
     go_wp2
     go_meet
     case rel => exact ⟨_, (!t319), (by first | rfl | (simp; done) | (simp [*]; done)), H', ⟨by first | omega | exact Nat.le_refl _⟩, ⟨by (with_reducible repeat (first | apply Kd.R_alloc | apply Kd.R_drewN | apply Kd.R_drew)); exact Kd.R_mono (Kd.R_far (p := ⟨gb320, 1, none⟩) (Kd.R_far (p := ⟨gb320, 0, none⟩) (Kd.R_mono HO311.out (fun k_ hk => (⟨hk, hk.2⟩ : _ ∧ k_ ≠ gb320))) (fun _ hk => hk.2) (.int .i64 t317)) (fun _ hk => hk.2) (.int .i64 t318)) (fun _ hk => ⟨hk.1.1.2, hk.1.2⟩)⟩, ⟨by (with_reducible repeat (first | refine yN ?_ _ | refine yD ?_ | refine yA ?_ _)); refine blk_far ?_ NB312_320.out _; (with_reducible repeat (first | refine yN ?_ _ | refine yD ?_ | refine yA ?_ _)); refine blk_far ?_ NB312_320.out _; (with_reducible repeat (first | refine yN ?_ _ | refine yD ?_ | refine yA ?_ _)); exact BK312.out⟩, ⟨by (with_reducible repeat (first | refine yN ?_ _ | refine yD ?_ | refine yA ?_ _)); refine blk_far ?_ NB316_320.out _; (with_reducible repeat (first | refine yN ?_ _ | refine yD ?_ | refine yA ?_ _)); refine blk_far ?_ NB316_320.out _; (with_reducible repeat (first | refine yN ?_ _ | refine yD ?_ | refine yA ?_ _)); exact BK316.out⟩, ⟨by (with_reducible repeat (first | refine yN ?_ _ | refine yD ?_ | refine yA ?_ _)); refine blk_put (cs := #[.int .i64 t317, .int .i64 0]) ?_ 1 _ rfl; (with_reducible repeat (first | refine yN ?_ _ | refine yD ?_ | refine yA ?_ _)); refine blk_put (cs := #[.int .i64 0, .int .i64 0]) ?_ 0 _ rfl; (with_reducible repeat (first | refine yN ?_ _ | refine yD ?_ | refine yA ?_ _)); exact BK320.out⟩, ⟨by repeat (first | (with_reducible first | exact HB.out | apply below_alloc | apply yP | apply below_drew1 | refine yS ?_ GE312.out | refine yS ?_ GE316.out | refine yS ?_ GE320.out) | exact HB.out)⟩⟩
  case rest =>
   clear HC6
   try clear c1
   try clear c2
   try clear c2b0
   try clear c2b1
   try clear p2
   try clear c3
   try clear c6
   try clear c13
   try clear c18
   try clear c19
   try clear c20
   try clear c21
   try clear c21b0
   try clear c21b1
   try clear c21b2
   try clear c22
   try clear c22b0
   try clear c23
   try clear c24
   try clear c26
   try clear c28
   try clear c29
   try clear c31
   try clear hcz14_0
   try clear hcz14_1
   try clear hcz15_0
   try clear hcz15_1
   try clear hcz15_2
   try clear hcz20_0
   try clear hcz20_1
   try clear hcz25_0
   try clear hcz25_1
   try clear hcz27_0
   try clear hcz27_1
   try clear hcz30_0
   try clear hcz30_1
   try clear hcz32_0
   try clear hcz32_1
   try clear hcz9_0
   try clear hcz9_1
   try clear hcz9_2
   try clear hfz14_0
   try clear hfz14_1
   try clear hfz15_0
   try clear hfz15_1
   try clear hfz15_2
   try clear hfz20_0
   try clear hfz20_1
   try clear hfz25_0
   try clear hfz25_1
   try clear hfz27_0
   try clear hfz27_1
   try clear hfz30_0
   try clear hfz30_1
   try clear hfz32_0
   try clear hfz32_1
   try clear hfz9_0
   try clear hfz9_1
   try clear hfz9_2
   obtain ⟨kq, x38_5, rfl, HA, HJ5, HO_313002, BK312, BK316, BK320, HB⟩ := hcut
   cases kq with
   | zero => exact absurd HA.out (by simp [laws_FnLedgerSum.j0])
   | succ kj5 =>
    have H := HA.out
    clear HA
    simp only [laws_FnLedgerSum.j0] at H
    by_cases c33 : x38_5 = true
    ·subst c33
     have H1 : (if (t319 == t315) = true then (if (t317 == t313 && (t318 == t314)) = true then (if t319 = true then (some true) else ((impl_LedgerOk.f kj5 t307 t308 t309).bind fun t321 => (some (!t321)))) else (some false)) else (some false)) = some r := by rw [if_pos rfl] at H; exact H
     clear H
     have H := H1
     clear H1
     by_cases c34 : (t319 == t315) = true
     ·rw [if_pos c34] at H
      have c34b0 : (t319 == t315) = true := c34
      (try (have c34b1 : decide (t319 = t315) = true := by simpa using c34))
      (try (have c34b2 : (t319 == t315) = true := by simpa using c34))
      clear c34
      by_cases c35 : (t317 == t313 && (t318 == t314)) = true
      ·rw [if_pos c35] at H
       have c35b0 : (t317 == t313 && (t318 == t314)) = true := c35
       (try (have c35b1 : decide (t317 = t313 && (t318 == t314)) = true := by simpa using c35))
       (try (have c35b2 : (t317 == t313 && (t318 == t314)) = true := by simpa using c35))
       clear c35
       by_cases c36 : t319 = true
       ·subst c36
        have H1 : (some true) = some r := by rw [if_pos rfl] at H; exact H
        clear H
        have H := H1
        clear H1
        obtain rfl := Option.some.inj H
        have hnb37 := NB320_312.out
        have hnc37 := NB312_320.out
        have hnb38 := NB320_316.out
        have hnc38 := NB316_320.out
        have hcz39_0 : wc.cell? ⟨gb320, 0, none⟩ = some (.int .i64 t317) := (blk_cell BK320.out 0).trans rfl
        have hcz39_1 : wc.cell? ⟨gb320, 1, none⟩ = some (.int .i64 t318) := (blk_cell BK320.out 1).trans rfl
        have hfz39_0 := blk_frozen BK320.out 0
        have hfz39_1 := blk_frozen BK320.out 1
        have hnb40 := NB316_312.out
        have hnc40 := NB312_316.out
        have hcz41_0 : wc.cell? ⟨gb316, 0, none⟩ = some (.int .i64 t313) := (blk_cell BK316.out 0).trans rfl
        have hcz41_1 : wc.cell? ⟨gb316, 1, none⟩ = some (.int .i64 t314) := (blk_cell BK316.out 1).trans rfl
        have hfz41_0 := blk_frozen BK316.out 0
        have hfz41_1 := blk_frozen BK316.out 1
        go_wp2
        go_ret
        exact ⟨by first | rfl | (simp [errW_none, errW_some] <;> rfl) | (simp [*, errW_none, errW_some] <;> rfl), by repeat (first | (with_reducible first | exact HB.out | apply below_alloc | apply yP | apply below_drew1 | refine yS ?_ GE312.out | refine yS ?_ GE316.out | refine yS ?_ GE320.out) | exact HB.out)⟩
       ·replace c36 := Bool.eq_false_iff.mpr c36
        subst c36
        have H1 : ((impl_LedgerOk.f kj5 t307 t308 t309).bind fun t321 => (some (!t321))) = some r := by rw [if_neg (show ¬ (false = true) by decide)] at H; exact H
        clear H
        have H := H1
        clear H1
        replace H := Option.bind_eq_some_iff.mp H
        obtain ⟨t321, A420, H⟩ := H
        replace H : (some (!t321)) = some r := H
        have A42 := Aside0.mk A420
        clear A420
        obtain rfl := Option.some.inj H
        have hnb43 := NB320_312.out
        have hnc43 := NB312_320.out
        have hnb44 := NB320_316.out
        have hnc44 := NB316_320.out
        have hcz45_0 : wc.cell? ⟨gb320, 0, none⟩ = some (.int .i64 t317) := (blk_cell BK320.out 0).trans rfl
        have hcz45_1 : wc.cell? ⟨gb320, 1, none⟩ = some (.int .i64 t318) := (blk_cell BK320.out 1).trans rfl
        have hfz45_0 := blk_frozen BK320.out 0
        have hfz45_1 := blk_frozen BK320.out 1
        have hnb46 := NB316_312.out
        have hnc46 := NB312_316.out
        have hcz47_0 : wc.cell? ⟨gb316, 0, none⟩ = some (.int .i64 t313) := (blk_cell BK316.out 0).trans rfl
        have hcz47_1 : wc.cell? ⟨gb316, 1, none⟩ = some (.int .i64 t314) := (blk_cell BK316.out 1).trans rfl
        have hfz47_0 := blk_frozen BK316.out 0
        have hfz47_1 := blk_frozen BK316.out 1
        have hcz48_0 : wc.cell? ⟨gb312, 0, none⟩ = some (.int .i64 t307) := (blk_cell BK312.out 0).trans rfl
        have hcz48_1 : wc.cell? ⟨gb312, 1, none⟩ = some (.int .i64 t308) := (blk_cell BK312.out 1).trans rfl
        have hcz48_2 : wc.cell? ⟨gb312, 2, none⟩ = some (.slice Ao10 t309.length co10) := (blk_cell BK312.out 2).trans rfl
        have hfz48_0 := blk_frozen BK312.out 0
        have hfz48_1 := blk_frozen BK312.out 1
        have hfz48_2 := blk_frozen BK312.out 2
        go_wp2_with (first | (go_at_call 17; (with_reducible refine (impl_LedgerOk.calls kj5 t307 t308 _ _ t309 t321 _ ?side1 ?side2 A42.out).mono ?_); (case side1 => repeat (first | exact (Kd.R_reads' HO_313002.out).2.2 | (with_reducible refine Kd.C_alloc ?_ _) | (with_reducible refine Kd.C_drewN ?_ _) | (with_reducible refine Kd.C_drew ?_))); (case side2 => exact (Kd.R_reads' HO_313002.out).2.1); rintro e w49 ⟨rfl, hb⟩; have n0_ := yM (Kd.R_below (by (with_reducible repeat (first | apply Kd.R_alloc | apply Kd.R_drewN | apply Kd.R_drew)); exact HO_313002.out) hb); have n1_ := yM (blk_below (g := gb312) (o := .cells #[.int .i64 t307, .int .i64 t308, .slice Ao10 t309.length co10] 32 (0, 0)) (by (with_reducible repeat (first | refine yN ?_ _ | refine yD ?_ | refine yA ?_ _)); exact BK312.out) hb); have n2_ := yM (blk_below (g := gb316) (o := .cells #[.int .i64 t313, .int .i64 t314] 29 (0, 0)) (by (with_reducible repeat (first | refine yN ?_ _ | refine yD ?_ | refine yA ?_ _)); exact BK316.out) hb); have n3_ := yM (blk_below (g := gb320) (o := .cells #[.int .i64 t317, .int .i64 t318] 29 (0, 0)) (by (with_reducible repeat (first | refine yN ?_ _ | refine yD ?_ | refine yA ?_ _)); exact BK320.out) hb); have n4_ := yM (below_step (by repeat (first | (with_reducible first | exact HB.out | apply below_alloc | apply yP | apply below_drew1 | refine yS ?_ GE312.out | refine yS ?_ GE316.out | refine yS ?_ GE320.out) | exact HB.out)) hb); clear HO_313002; clear BK312; clear BK316; clear BK320; clear HB; have HO_313002 := n0_; have BK312 := n1_; have BK316 := n2_; have BK320 := n3_; have HB := n4_; clear n0_ n1_ n2_ n3_ n4_; (try clear hb); (try clear hb2); (try clear hk); (try clear hi)))
        go_ret
        exact ⟨by first | rfl | (simp [errW_none, errW_some] <;> rfl) | (simp [*, errW_none, errW_some] <;> rfl), by repeat (first | (with_reducible first | exact HB.out | apply below_alloc | apply yP | apply below_drew1 | refine yS ?_ GE312.out | refine yS ?_ GE316.out | refine yS ?_ GE320.out) | exact HB.out)⟩
      ·rw [if_neg c35] at H
       have c35b0 : (t317 == t313 && (t318 == t314)) = false := by simpa using c35
       (try (have c35b1 : decide (t317 = t313 && (t318 == t314)) = false := by simpa using c35))
       (try (have c35b2 : (t317 == t313 && (t318 == t314)) = false := by simpa using c35))
       (try (have c35b3 : ¬ (t317 = t313 && (t318 == t314)) := by simpa using c35))
       clear c35
       exact absurd (Option.some.inj (H.trans (congrArg some HRT.out))) (by decide)
     ·rw [if_neg c34] at H
      have c34b0 : (t319 == t315) = false := by simpa using c34
      (try (have c34b1 : decide (t319 = t315) = false := by simpa using c34))
      (try (have c34b2 : (t319 == t315) = false := by simpa using c34))
      (try (have c34b3 : ¬ (t319 = t315) := by simpa using c34))
      clear c34
      exact absurd (Option.some.inj (H.trans (congrArg some HRT.out))) (by decide)
    ·replace c33 := Bool.eq_false_iff.mpr c33
     subst c33
     have H1 : (laws_FnLedgerSum.l0 kj5 0 t307 t308 t309 t317 t318 0 1) = some r := by rw [if_neg (show ¬ (false = true) by decide)] at H; exact H
     clear H
     have H := H1
     clear H1
     have H' := Aside0.mk H
     clear H
     go_wp2_with (first | ((with_reducible refine gate_dst (N := 8) rfl ?_); refine box_event ?hg (N := 8) ?hd (cs := #[.int .i64 0, .int .i64 0]) (t := 29) ?hr ?_; (case hd => rfl); (case hg => rfl); (case hr => first | (go_simp; done) | (go_simp; rfl)); intro gb322 hg w50 hbox hb; have n0_ := yM (Kd.R_below (Kd.R_elderB (by (with_reducible repeat (first | apply Kd.R_alloc | apply Kd.R_drewN | apply Kd.R_drew)); exact HO_313002.out) gb322 (Nat.le_of_eq hg.symm)) hb); have n1_ := yM (blk_below (g := gb312) (o := .cells #[.int .i64 t307, .int .i64 t308, .slice Ao10 t309.length co10] 32 (0, 0)) (by (with_reducible repeat (first | refine yN ?_ _ | refine yD ?_ | refine yA ?_ _)); exact BK312.out) hb); have n2_ := yM (blk_below (g := gb316) (o := .cells #[.int .i64 t313, .int .i64 t314] 29 (0, 0)) (by (with_reducible repeat (first | refine yN ?_ _ | refine yD ?_ | refine yA ?_ _)); exact BK316.out) hb); have n3_ := yM (blk_below (g := gb320) (o := .cells #[.int .i64 t317, .int .i64 t318] 29 (0, 0)) (by (with_reducible repeat (first | refine yN ?_ _ | refine yD ?_ | refine yA ?_ _)); exact BK320.out) hb); have n4_ := yM (below_step (by repeat (first | (with_reducible first | exact HB.out | apply below_alloc | apply yP | apply below_drew1 | refine yS ?_ GE312.out | refine yS ?_ GE316.out | refine yS ?_ GE320.out) | exact HB.out)) hb); have n5_ := yM (hbox); have n6_ := yM ((by rw [hg]; exact (below_size (by repeat (first | (with_reducible first | exact HB.out | apply below_alloc | apply yP | apply below_drew1 | refine yS ?_ GE312.out | refine yS ?_ GE316.out | refine yS ?_ GE320.out) | exact HB.out))) : w.heap.size ≤ gb322)); have n7_ := yM ((by rw [hg]; exact (below_size (by repeat (first | (with_reducible first | exact HB.out | apply below_alloc | apply yP | apply below_drew1 | refine yS ?_ GE312.out | refine yS ?_ GE316.out | refine yS ?_ GE320.out) | exact HB.out))) : w.heap.size ≤ gb322)); have n8_ := yM ((by rw [hg]; exact Nat.ne_of_lt (blk_lt (g := gb312) (o := .cells #[.int .i64 t307, .int .i64 t308, .slice Ao10 t309.length co10] 32 (0, 0)) (by (with_reducible repeat (first | refine yN ?_ _ | refine yD ?_ | refine yA ?_ _)); exact BK312.out)) : gb312 ≠ gb322)); have n9_ := yM ((by rw [hg]; exact Nat.ne_of_gt (blk_lt (g := gb312) (o := .cells #[.int .i64 t307, .int .i64 t308, .slice Ao10 t309.length co10] 32 (0, 0)) (by (with_reducible repeat (first | refine yN ?_ _ | refine yD ?_ | refine yA ?_ _)); exact BK312.out)) : gb322 ≠ gb312)); have n10_ := yM ((by rw [hg]; exact Nat.ne_of_lt (blk_lt (g := gb316) (o := .cells #[.int .i64 t313, .int .i64 t314] 29 (0, 0)) (by (with_reducible repeat (first | refine yN ?_ _ | refine yD ?_ | refine yA ?_ _)); exact BK316.out)) : gb316 ≠ gb322)); have n11_ := yM ((by rw [hg]; exact Nat.ne_of_gt (blk_lt (g := gb316) (o := .cells #[.int .i64 t313, .int .i64 t314] 29 (0, 0)) (by (with_reducible repeat (first | refine yN ?_ _ | refine yD ?_ | refine yA ?_ _)); exact BK316.out)) : gb322 ≠ gb316)); have n12_ := yM ((by rw [hg]; exact Nat.ne_of_lt (blk_lt (g := gb320) (o := .cells #[.int .i64 t317, .int .i64 t318] 29 (0, 0)) (by (with_reducible repeat (first | refine yN ?_ _ | refine yD ?_ | refine yA ?_ _)); exact BK320.out)) : gb320 ≠ gb322)); have n13_ := yM ((by rw [hg]; exact Nat.ne_of_gt (blk_lt (g := gb320) (o := .cells #[.int .i64 t317, .int .i64 t318] 29 (0, 0)) (by (with_reducible repeat (first | refine yN ?_ _ | refine yD ?_ | refine yA ?_ _)); exact BK320.out)) : gb322 ≠ gb320)); clear HO_313002; clear BK312; clear BK316; clear BK320; clear HB; have HO_313002 := n0_; have BK312 := n1_; have BK316 := n2_; have BK320 := n3_; have HB := n4_; have BK322 := n5_; have GW322 := n6_; have GE322 := n7_; have NB312_322 := n8_; have NB322_312 := n9_; have NB316_322 := n10_; have NB322_316 := n11_; have NB320_322 := n12_; have NB322_320 := n13_; clear n0_ n1_ n2_ n3_ n4_ n5_ n6_ n7_ n8_ n9_ n10_ n11_ n12_ n13_; clear hb hbox hg; have hnb51 := NB322_312.out; have hnc51 := NB312_322.out; have hnb52 := NB322_316.out; have hnc52 := NB316_322.out; have hnb53 := NB322_320.out; have hnc53 := NB320_322.out; have hcz54_0 : w50.cell? ⟨gb322, 0, none⟩ = some (.int .i64 0) := (blk_cell BK322.out 0).trans rfl; have hcz54_1 : w50.cell? ⟨gb322, 1, none⟩ = some (.int .i64 0) := (blk_cell BK322.out 1).trans rfl; have hfz54_0 := blk_frozen BK322.out 0; have hfz54_1 := blk_frozen BK322.out 1))
     go_loopg [9] kj5 (fun kq v9 w' => ∃ (x9_2 : Int) (x323000_2 : Int) (x323001_2 : Int), v9 = .int .i64 x9_2 ∧ Aside0 (laws_FnLedgerSum.l0 kq x9_2 t307 t308 t309 t317 t318 x323000_2 x323001_2 = some r) ∧ Aside0 (kq ≤ kj5) ∧ Aside0 (Kd.R k29 29 w' w.heap.size (fun k_ => k_ ≠ gb316 ∧ k_ ≠ gb320 ∧ k_ ≠ gb322) (.slice Ao10 t309.length co10) t309) ∧ Aside0 (w'.heap[gb312]? = some (.cells #[.int .i64 t307, .int .i64 t308, (.slice Ao10 t309.length co10)] 32 (0, 0))) ∧ Aside0 (w'.heap[gb316]? = some (.cells #[.int .i64 t313, .int .i64 t314] 29 (0, 0))) ∧ Aside0 (w'.heap[gb320]? = some (.cells #[.int .i64 t317, .int .i64 t318] 29 (0, 0))) ∧ Aside0 (w'.heap[gb322]? = some (.cells #[.int .i64 x323000_2, .int .i64 x323001_2] 29 (0, 0))) ∧ Aside0 (Below w.heap.size w w'))
     case atStart => exact ⟨(0), (0), (1), (by first | rfl | (simp; done) | (simp [*]; done)), H', ⟨Nat.le_refl _⟩, ⟨by (with_reducible repeat (first | apply Kd.R_alloc | apply Kd.R_drewN | apply Kd.R_drew)); exact Kd.R_mono (Kd.R_far (p := ⟨gb322, 1, none⟩) (Kd.R_far (p := ⟨gb322, 0, none⟩) (Kd.R_mono HO_313002.out (fun k_ hk => (⟨hk, hk.2⟩ : _ ∧ k_ ≠ gb322))) (fun _ hk => hk.2) (.int .i64 0)) (fun _ hk => hk.2) (.int .i64 1)) (fun _ hk => ⟨hk.1.1.1, ⟨hk.1.1.2, hk.1.2⟩⟩)⟩, ⟨by (with_reducible repeat (first | refine yN ?_ _ | refine yD ?_ | refine yA ?_ _)); refine blk_far ?_ NB312_322.out _; (with_reducible repeat (first | refine yN ?_ _ | refine yD ?_ | refine yA ?_ _)); refine blk_far ?_ NB312_322.out _; (with_reducible repeat (first | refine yN ?_ _ | refine yD ?_ | refine yA ?_ _)); exact BK312.out⟩, ⟨by (with_reducible repeat (first | refine yN ?_ _ | refine yD ?_ | refine yA ?_ _)); refine blk_far ?_ NB316_322.out _; (with_reducible repeat (first | refine yN ?_ _ | refine yD ?_ | refine yA ?_ _)); refine blk_far ?_ NB316_322.out _; (with_reducible repeat (first | refine yN ?_ _ | refine yD ?_ | refine yA ?_ _)); exact BK316.out⟩, ⟨by (with_reducible repeat (first | refine yN ?_ _ | refine yD ?_ | refine yA ?_ _)); refine blk_far ?_ NB320_322.out _; (with_reducible repeat (first | refine yN ?_ _ | refine yD ?_ | refine yA ?_ _)); refine blk_far ?_ NB320_322.out _; (with_reducible repeat (first | refine yN ?_ _ | refine yD ?_ | refine yA ?_ _)); exact BK320.out⟩, ⟨by (with_reducible repeat (first | refine yN ?_ _ | refine yD ?_ | refine yA ?_ _)); refine blk_put (cs := #[.int .i64 0, .int .i64 0]) ?_ 1 _ rfl; (with_reducible repeat (first | refine yN ?_ _ | refine yD ?_ | refine yA ?_ _)); refine blk_put (cs := #[.int .i64 0, .int .i64 0]) ?_ 0 _ rfl; (with_reducible repeat (first | refine yN ?_ _ | refine yD ?_ | refine yA ?_ _)); exact BK322.out⟩, ⟨by repeat (first | (with_reducible first | exact HB.out | apply below_alloc | apply yP | apply below_drew1 | refine yS ?_ GE312.out | refine yS ?_ GE316.out | refine yS ?_ GE320.out | refine yS ?_ GE322.out) | exact HB.out)⟩⟩
     case round =>
      clear H'
      try clear c1
      try clear c2
      try clear c2b0
      try clear c2b1
      try clear p2
      try clear c3
      try clear c4
      try clear c5
      try clear c6
      try clear c13
      try clear c18
      try clear c19
      try clear c20
      try clear c21
      try clear c21b0
      try clear c21b1
      try clear c21b2
      try clear c22
      try clear c22b0
      try clear c23
      try clear c24
      try clear c26
      try clear c28
      try clear c29
      try clear c31
      try clear c33
      try clear c34
      try clear c34b0
      try clear c34b1
      try clear c34b2
      try clear c35
      try clear c35b0
      try clear c35b1
      try clear c35b2
      try clear c36
      try clear c37
      try clear c38
      try clear c40
      try clear c43
      try clear c44
      try clear c46
      try clear c51
      try clear c52
      try clear c53
      try clear hcz14_0
      try clear hcz14_1
      try clear hcz15_0
      try clear hcz15_1
      try clear hcz15_2
      try clear hcz20_0
      try clear hcz20_1
      try clear hcz25_0
      try clear hcz25_1
      try clear hcz27_0
      try clear hcz27_1
      try clear hcz30_0
      try clear hcz30_1
      try clear hcz32_0
      try clear hcz32_1
      try clear hcz39_0
      try clear hcz39_1
      try clear hcz41_0
      try clear hcz41_1
      try clear hcz45_0
      try clear hcz45_1
      try clear hcz47_0
      try clear hcz47_1
      try clear hcz48_0
      try clear hcz48_1
      try clear hcz48_2
      try clear hcz54_0
      try clear hcz54_1
      try clear hcz9_0
      try clear hcz9_1
      try clear hcz9_2
      try clear hfz14_0
      try clear hfz14_1
      try clear hfz15_0
      try clear hfz15_1
      try clear hfz15_2
      try clear hfz20_0
      try clear hfz20_1
      try clear hfz25_0
      try clear hfz25_1
      try clear hfz27_0
      try clear hfz27_1
      try clear hfz30_0
      try clear hfz30_1
      try clear hfz32_0
      try clear hfz32_1
      try clear hfz39_0
      try clear hfz39_1
      try clear hfz41_0
      try clear hfz41_1
      try clear hfz45_0
      try clear hfz45_1
      try clear hfz47_0
      try clear hfz47_1
      try clear hfz48_0
      try clear hfz48_1
      try clear hfz48_2
      try clear hfz54_0
      try clear hfz54_1
      try clear hfz9_0
      try clear hfz9_1
      try clear hfz9_2
      try clear p2
      obtain ⟨x9_2, x323000_2, x323001_2, rfl, HA, HK2, HO_313002, BK312, BK316, BK320, BK322, HB⟩ := hrel
      cases gk with
      | zero => exact absurd HA.out (by simp [laws_FnLedgerSum.l0])
      | succ k2 =>
       have H := HA.out
       clear HA
       simp only [laws_FnLedgerSum.l0] at H
       by_cases c55 : x9_2 < (t309.length : Int)
       ·rw [if_pos c55] at H
        have c55b0 : decide (x9_2 < (t309.length : Int)) = true := decide_eq_true c55
        clear c55
        by_cases c56 : 0 ≤ x9_2
        ·rw [if_pos c56] at H
         have c56b0 : decide (0 ≤ x9_2) = true := decide_eq_true c56
         clear c56
         replace H := Option.bind_eq_some_iff.mp H
         obtain ⟨⟨t324, t325, t326⟩, A570, H⟩ := H
         replace H : (if t326 = true then (laws_FnLedgerSum.l0 k2 (wrap64 (x9_2 + 1)) t307 t308 t309 t317 t318 t324 t325) else (some false)) = some r := H
         have A57 := Aside0.mk A570
         clear A570
         by_cases c58 : t326 = true
         ·subst c58
          have H1 : (laws_FnLedgerSum.l0 k2 (wrap64 (x9_2 + 1)) t307 t308 t309 t317 t318 t324 t325) = some r := by rw [if_pos rfl] at H; exact H
          clear H
          have H := H1
          clear H1
          have H' := Aside0.mk H
          clear H
          have hnb59 := NB312_316.out
          have hnc59 := NB316_312.out
          have hnb60 := NB312_320.out
          have hnc60 := NB320_312.out
          have hnb61 := NB312_322.out
          have hnc61 := NB322_312.out
          have hcz62_0 : wr.cell? ⟨gb312, 0, none⟩ = some (.int .i64 t307) := (blk_cell BK312.out 0).trans rfl
          have hcz62_1 : wr.cell? ⟨gb312, 1, none⟩ = some (.int .i64 t308) := (blk_cell BK312.out 1).trans rfl
          have hcz62_2 : wr.cell? ⟨gb312, 2, none⟩ = some (.slice Ao10 t309.length co10) := (blk_cell BK312.out 2).trans rfl
          have hfz62_0 := blk_frozen BK312.out 0
          have hfz62_1 := blk_frozen BK312.out 1
          have hfz62_2 := blk_frozen BK312.out 2
          try go_wp2
          have n0_ := yM (Kd.R_drew HO_313002.out)
          have n1_ := yM (yD BK312.out)
          have n2_ := yM (yD BK316.out)
          have n3_ := yM (yD BK320.out)
          have n4_ := yM (yD BK322.out)
          have n5_ := yM (below_drew1 HB.out)
          clear HO_313002
          clear BK312
          clear BK316
          clear BK320
          clear BK322
          clear HB
          have HO_313002 := n0_
          have BK312 := n1_
          have BK316 := n2_
          have BK320 := n3_
          have BK322 := n4_
          have HB := n5_
          clear n0_ n1_ n2_ n3_ n4_ n5_
          have p323 : 0 ≤ (x9_2 : Int) := of_decide_eq_true (by first | (with_reducible assumption) | assumption)
          have q323 : x9_2 < (t309.length : Int) := of_decide_eq_true (by first | (with_reducible assumption) | assumption)
          obtain ⟨ad323, e323, hx323_0, hx323_1⟩ := at_T29 (Kd.R_reads' HO_313002.out).2.2 x9_2 p323 q323
          cases e323
          replace p323 := eq_true p323
          replace q323 := eq_true q323
          refine start_ (n := 13) (S := fun w' => w'.cell? ⟨gb322, 0, none⟩ = some (.int .i64 x323000_2) ∧ w'.cell? ⟨gb322, 1, none⟩ = some (.int .i64 x323001_2) ∧ w'.cell? ⟨gb312, 0, none⟩ = some (.int .i64 t307) ∧ w'.cell? ⟨gb312, 1, none⟩ = some (.int .i64 t308) ∧ w'.cell? ⟨gb312, 2, none⟩ = some (.slice (some ad323) t309.length co10) ∧ w'.cell? (ad323.add ((x9_2).toNat * 2)) = some (.int .i64 ((rd_T29 t309 x9_2).f0)) ∧ w'.cell? ⟨(ad323.add ((x9_2).toNat * 2)).block, (ad323.add ((x9_2).toNat * 2)).off + 1, none⟩ = some (.int .i64 ((rd_T29 t309 x9_2).f1))) (ds := []) #[false, false, false, false, false, false, false, false, false, false, false, false, false] (by kernel_rfl) rfl rfl ⟨(blk_cell BK322.out 0).trans rfl, (blk_cell BK322.out 1).trans rfl, (blk_cell BK312.out 0).trans rfl, (blk_cell BK312.out 1).trans rfl, (blk_cell BK312.out 2).trans rfl, hx323_0, hx323_1⟩ (fun hHeld => ?_); refine with_tabW laws_FnLedgerSum.tab12 laws_FnLedgerSum.bits12 (fun HT_ HW_ => ?_)
          generalize wr.drew = w63 at HO_313002 BK312 BK316 BK320 BK322 HB hx323_0 hx323_1 hHeld ⊢
          refine pure_ (i := 1) (N := some 65) (v := ?_) (a' := ?_) #[false, true, false, false, false, false, false, false, false, false, false, false, false] rfl rfl (any_of HT_.out (by kernel_rfl)) (fun _ _ _ h => h) (Or.inl ⟨by rfl, ?_⟩) ?_ ?_
          rotate_left
          ·intro w'
           go_simp
           with_reducible rfl
          rotate_left
          ·simp only [Act.put, setIfInBounds_toArray, set_cons_zero, set_cons_succ, i64_w, i32_w]
           rfl
          refine pure_ (i := 3) (N := some 67) (v := ?_) (a' := ?_) #[false, true, false, true, false, false, false, false, false, false, false, false, false] rfl rfl (any_of HT_.out (by kernel_rfl)) (fun _ _ _ h => h) (Or.inl ⟨by rfl, ?_⟩) ?_ ?_
          rotate_left
          ·intro w'
           go_simp
           with_reducible rfl
          rotate_left
          ·simp only [Act.put, setIfInBounds_toArray, set_cons_zero, set_cons_succ, i64_w, i32_w]
           rfl
          refine take_ (i := 0) (N := some 64) (v := ?_) (a' := ?_) #[true, true, false, true, false, false, false, false, false, false, false, false, false] rfl rfl (take_ofW HT_.out HW_.out (by kernel_rfl)) (fun _ _ _ h => h) (Or.inl ⟨by rfl, ?_⟩) hHeld ?_ ?_
          rotate_left
          ·rintro w' ⟨s0, s1, s2, s3, s4, s5, s6⟩
           go_simp
           with_reducible rfl
          rotate_left
          ·simp only [Act.put, setIfInBounds_toArray, set_cons_zero, set_cons_succ, i64_w, i32_w]
           rfl
          refine take_ (i := 2) (N := some 66) (v := ?_) (a' := ?_) #[true, true, true, true, false, false, false, false, false, false, false, false, false] rfl rfl (take_ofW HT_.out HW_.out (by kernel_rfl)) (fun _ _ _ h => h) (Or.inl ⟨by rfl, ?_⟩) hHeld ?_ ?_
          rotate_left
          ·rintro w' ⟨s0, s1, s2, s3, s4, s5, s6⟩
           go_simp
           with_reducible rfl
          rotate_left
          ·simp only [Act.put, setIfInBounds_toArray, set_cons_zero, set_cons_succ, i64_w, i32_w]
           rfl
          refine pure_ (i := 4) (N := some 68) (v := ?_) (a' := ?_) #[true, true, true, true, true, false, false, false, false, false, false, false, false] rfl rfl (any_of HT_.out (by kernel_rfl)) (fun _ _ _ h => h) (Or.inl ⟨by rfl, ?_⟩) ?_ ?_
          rotate_left
          ·intro w'
           go_simp
           with_reducible rfl
          rotate_left
          ·simp only [Act.put, setIfInBounds_toArray, set_cons_zero, set_cons_succ, i64_w, i32_w]
           rfl
          refine take_ (i := 5) (N := some 69) (v := ?_) (a' := ?_) #[true, true, true, true, true, true, false, false, false, false, false, false, false] rfl rfl (take_ofW HT_.out HW_.out (by kernel_rfl)) (fun _ _ _ h => h) (Or.inl ⟨by rfl, ?_⟩) hHeld ?_ ?_
          rotate_left
          ·rintro w' ⟨s0, s1, s2, s3, s4, s5, s6⟩
           go_simp
           with_reducible rfl
          rotate_left
          ·simp only [Act.put, setIfInBounds_toArray, set_cons_zero, set_cons_succ, i64_w, i32_w]
           rfl
          refine join_ (σ := Nat) 2 #[true, true, true, true, true, true, true, true, true, true, true, false, false] (fun s_ => [(70, .tuple #[.agg #[.int .i64 t324, .int .i64 t325], .bool true]), (10, .pointer (some ⟨s_, 0, none⟩)), (63, .tuple #[.agg #[.int .i64 t324, .int .i64 t325], .bool true]), (71, .agg #[.int .i64 t324, .int .i64 t325]), (72, .bool true)]) (fun s_ w' => (w'.cell? ⟨gb322, 0, none⟩ = some (.int .i64 x323000_2) ∧ w'.cell? ⟨gb322, 1, none⟩ = some (.int .i64 x323001_2) ∧ w'.cell? ⟨gb312, 0, none⟩ = some (.int .i64 t307) ∧ w'.cell? ⟨gb312, 1, none⟩ = some (.int .i64 t308) ∧ w'.cell? ⟨gb312, 2, none⟩ = some (.slice (some ad323) t309.length co10) ∧ w'.cell? (ad323.add ((x9_2).toNat * 2)) = some (.int .i64 ((rd_T29 t309 x9_2).f0)) ∧ w'.cell? ⟨(ad323.add ((x9_2).toNat * 2)).block, (ad323.add ((x9_2).toNat * 2)).off + 1, none⟩ = some (.int .i64 ((rd_T29 t309 x9_2).f1))) ∧ (Kd.R k29 29 w' w.heap.size (fun k_ => k_ ≠ gb316 ∧ k_ ≠ gb320 ∧ k_ ≠ gb322 ∧ k_ ≠ s_) (.slice (some ad323) t309.length co10) t309) ∧ (w'.heap[gb312]? = some (.cells #[.int .i64 t307, .int .i64 t308, .slice (some ad323) t309.length co10] 32 (0, 0))) ∧ (w'.heap[gb316]? = some (.cells #[.int .i64 t313, .int .i64 t314] 29 (0, 0))) ∧ (w'.heap[gb320]? = some (.cells #[.int .i64 t317, .int .i64 t318] 29 (0, 0))) ∧ (w'.heap[gb322]? = some (.cells #[.int .i64 x323000_2, .int .i64 x323001_2] 29 (0, 0))) ∧ (w'.heap[s_]? = some (.cells #[.int .i64 0, .int .i64 0] 29 (0, 0))) ∧ (w.heap.size ≤ s_) ∧ (w.heap.size ≤ s_) ∧ (gb312 ≠ s_) ∧ (s_ ≠ gb312) ∧ (gb316 ≠ s_) ∧ (s_ ≠ gb316) ∧ (gb320 ≠ s_) ∧ (s_ ≠ gb320) ∧ (gb322 ≠ s_) ∧ (s_ ≠ gb322) ∧ (Below w.heap.size w w')) ?_ ?_
          rotate_left
          ·intro hCont
           refine two_ (i := 6) (j := 10) (Ni := some 70) (Nj := some 10) #[true, true, true, true, true, true, true, false, false, false, false, false, false] #[true, true, true, true, true, true, false, false, false, false, true, false, false] rfl rfl rfl rfl (two_of HT_.out (by kernel_rfl)) (by decide) (by decide) (fun K hK => ?_) (fun K hK => ?_)
           ·skip
            refine goes_ Try.func24 (by kernel_rfl) rfl #[.agg #[.int .i64 x323000_2, .int .i64 x323001_2], .agg #[.int .i64 ((rd_T29 t309 x9_2).f0), .int .i64 ((rd_T29 t309 x9_2).f1)]] (by rfl) rfl rfl (by (try simp only [List.map_toArray, List.map_cons, List.map_nil]); first | done | rfl | (simp only [List.length_drop, List.length_take]; rfl)) ?_
            with_reducible refine (impl_FracSum.calls k2 x323000_2 x323001_2 ((rd_T29 t309 x9_2).f0) ((rd_T29 t309 x9_2).f1) t324 t325 true _ A57.out).mono ?_
            rintro e w64 ⟨rfl, hb⟩
            have HS5_ := (hb.cell (World.block_lt_of_cell? _ _ (hHeld.2.2.2.2.2.1))).trans (hHeld.2.2.2.2.2.1)
            have HS6_ := (hb.cell (World.block_lt_of_cell? _ _ (hHeld.2.2.2.2.2.2))).trans (hHeld.2.2.2.2.2.2)
            refine ⟨_, rfl, ?_⟩
            have n0_ := yM (Kd.R_below (by (with_reducible repeat (first | apply Kd.R_alloc | apply Kd.R_drewN | apply Kd.R_drew)); exact HO_313002.out) hb)
            have n1_ := yM (blk_below (g := gb312) (o := .cells #[.int .i64 t307, .int .i64 t308, .slice (some ad323) t309.length co10] 32 (0, 0)) (by (with_reducible repeat (first | refine yN ?_ _ | refine yD ?_ | refine yA ?_ _)); exact BK312.out) hb)
            have n2_ := yM (blk_below (g := gb316) (o := .cells #[.int .i64 t313, .int .i64 t314] 29 (0, 0)) (by (with_reducible repeat (first | refine yN ?_ _ | refine yD ?_ | refine yA ?_ _)); exact BK316.out) hb)
            have n3_ := yM (blk_below (g := gb320) (o := .cells #[.int .i64 t317, .int .i64 t318] 29 (0, 0)) (by (with_reducible repeat (first | refine yN ?_ _ | refine yD ?_ | refine yA ?_ _)); exact BK320.out) hb)
            have n4_ := yM (blk_below (g := gb322) (o := .cells #[.int .i64 x323000_2, .int .i64 x323001_2] 29 (0, 0)) (by (with_reducible repeat (first | refine yN ?_ _ | refine yD ?_ | refine yA ?_ _)); exact BK322.out) hb)
            have n5_ := yM (below_step (by repeat (first | (with_reducible first | exact HB.out | apply below_alloc | apply yP | apply below_drew1 | refine yS ?_ GE312.out | refine yS ?_ GE316.out | refine yS ?_ GE320.out | refine yS ?_ GE322.out) | exact HB.out)) hb)
            clear HO_313002
            clear BK312
            clear BK316
            clear BK320
            clear BK322
            clear HB
            have HO_313002 := n0_
            have BK312 := n1_
            have BK316 := n2_
            have BK320 := n3_
            have BK322 := n4_
            have HB := n5_
            clear n0_ n1_ n2_ n3_ n4_ n5_
            (try clear hb)
            (try clear hb2)
            (try clear hk)
            (try clear hi)
            refine hK.out _ _ ⟨(blk_cell BK322.out 0).trans rfl, (blk_cell BK322.out 1).trans rfl, (blk_cell BK312.out 0).trans rfl, (blk_cell BK312.out 1).trans rfl, (blk_cell BK312.out 2).trans rfl, HS5_, HS6_⟩ (fun hHeld => ?_)
            clear hK K
            refine norm_ (a' := ?_) ?_ ?_
            rotate_left
            ·show Act.put _ (some 70) _ = _
             simp only [Act.put, setIfInBounds_toArray, set_cons_zero, set_cons_succ, i64_w, i32_w]
             rfl
            refine pure_ (i := 7) (N := some 63) (v := ?_) (a' := ?_) #[true, true, true, true, true, true, true, true, false, false, false, false, false] rfl rfl (any_of HT_.out (by kernel_rfl)) (fun _ _ _ h => h) (Or.inl ⟨by rfl, ?_⟩) ?_ ?_
            rotate_left
            ·intro w'
             go_simp
             with_reducible rfl
            rotate_left
            ·simp only [Act.put, setIfInBounds_toArray, set_cons_zero, set_cons_succ, i64_w, i32_w]
             rfl
            refine pure_ (i := 8) (N := some 71) (v := ?_) (a' := ?_) #[true, true, true, true, true, true, true, true, true, false, false, false, false] rfl rfl (any_of HT_.out (by kernel_rfl)) (fun _ _ _ h => h) (Or.inl ⟨by rfl, ?_⟩) ?_ ?_
            rotate_left
            ·intro w'
             go_simp
             with_reducible rfl
            rotate_left
            ·simp only [Act.put, setIfInBounds_toArray, set_cons_zero, set_cons_succ, i64_w, i32_w]
             rfl
            refine pure_ (i := 9) (N := some 72) (v := ?_) (a' := ?_) #[true, true, true, true, true, true, true, true, true, true, false, false, false] rfl rfl (any_of HT_.out (by kernel_rfl)) (fun _ _ _ h => h) (Or.inl ⟨by rfl, ?_⟩) ?_ ?_
            rotate_left
            ·intro w'
             go_simp
             with_reducible rfl
            rotate_left
            ·simp only [Act.put, setIfInBounds_toArray, set_cons_zero, set_cons_succ, i64_w, i32_w]
             rfl
            refine one_ (i := 10) (N := some 10) #[true, true, true, true, true, true, true, true, true, true, true, false, false] rfl rfl (one_of HT_.out (by kernel_rfl)) (by decide) (fun K hK => ?_)
            refine box_step ?hg (N := 10) ?hd (cs := #[.int .i64 0, .int .i64 0]) (t := 29) ?hr ?_; (case hd => rfl); (case hg => rfl); (case hr => first | (go_simp; done) | (go_simp; rfl))
            intro gb327 hg w65 hbox hb
            have HS5_ := (hb.cell (World.block_lt_of_cell? _ _ (hHeld.2.2.2.2.2.1))).trans (hHeld.2.2.2.2.2.1)
            have HS6_ := (hb.cell (World.block_lt_of_cell? _ _ (hHeld.2.2.2.2.2.2))).trans (hHeld.2.2.2.2.2.2)
            have n0_ := yM (Kd.R_below (Kd.R_elderB (by (with_reducible repeat (first | apply Kd.R_alloc | apply Kd.R_drewN | apply Kd.R_drew)); exact HO_313002.out) gb327 (Nat.le_of_eq hg.symm)) hb)
            have n1_ := yM (blk_below (g := gb312) (o := .cells #[.int .i64 t307, .int .i64 t308, .slice (some ad323) t309.length co10] 32 (0, 0)) (by (with_reducible repeat (first | refine yN ?_ _ | refine yD ?_ | refine yA ?_ _)); exact BK312.out) hb)
            have n2_ := yM (blk_below (g := gb316) (o := .cells #[.int .i64 t313, .int .i64 t314] 29 (0, 0)) (by (with_reducible repeat (first | refine yN ?_ _ | refine yD ?_ | refine yA ?_ _)); exact BK316.out) hb)
            have n3_ := yM (blk_below (g := gb320) (o := .cells #[.int .i64 t317, .int .i64 t318] 29 (0, 0)) (by (with_reducible repeat (first | refine yN ?_ _ | refine yD ?_ | refine yA ?_ _)); exact BK320.out) hb)
            have n4_ := yM (blk_below (g := gb322) (o := .cells #[.int .i64 x323000_2, .int .i64 x323001_2] 29 (0, 0)) (by (with_reducible repeat (first | refine yN ?_ _ | refine yD ?_ | refine yA ?_ _)); exact BK322.out) hb)
            have n5_ := yM (below_step (by repeat (first | (with_reducible first | exact HB.out | apply below_alloc | apply yP | apply below_drew1 | refine yS ?_ GE312.out | refine yS ?_ GE316.out | refine yS ?_ GE320.out | refine yS ?_ GE322.out) | exact HB.out)) hb)
            have n6_ := yM (hbox)
            have n7_ := yM ((by rw [hg]; exact (below_size (by repeat (first | (with_reducible first | exact HB.out | apply below_alloc | apply yP | apply below_drew1 | refine yS ?_ GE312.out | refine yS ?_ GE316.out | refine yS ?_ GE320.out | refine yS ?_ GE322.out) | exact HB.out))) : w.heap.size ≤ gb327))
            have n8_ := yM ((by rw [hg]; exact (below_size (by repeat (first | (with_reducible first | exact HB.out | apply below_alloc | apply yP | apply below_drew1 | refine yS ?_ GE312.out | refine yS ?_ GE316.out | refine yS ?_ GE320.out | refine yS ?_ GE322.out) | exact HB.out))) : w.heap.size ≤ gb327))
            have n9_ := yM ((by rw [hg]; exact Nat.ne_of_lt (blk_lt (g := gb312) (o := .cells #[.int .i64 t307, .int .i64 t308, .slice (some ad323) t309.length co10] 32 (0, 0)) (by (with_reducible repeat (first | refine yN ?_ _ | refine yD ?_ | refine yA ?_ _)); exact BK312.out)) : gb312 ≠ gb327))
            have n10_ := yM ((by rw [hg]; exact Nat.ne_of_gt (blk_lt (g := gb312) (o := .cells #[.int .i64 t307, .int .i64 t308, .slice (some ad323) t309.length co10] 32 (0, 0)) (by (with_reducible repeat (first | refine yN ?_ _ | refine yD ?_ | refine yA ?_ _)); exact BK312.out)) : gb327 ≠ gb312))
            have n11_ := yM ((by rw [hg]; exact Nat.ne_of_lt (blk_lt (g := gb316) (o := .cells #[.int .i64 t313, .int .i64 t314] 29 (0, 0)) (by (with_reducible repeat (first | refine yN ?_ _ | refine yD ?_ | refine yA ?_ _)); exact BK316.out)) : gb316 ≠ gb327))
            have n12_ := yM ((by rw [hg]; exact Nat.ne_of_gt (blk_lt (g := gb316) (o := .cells #[.int .i64 t313, .int .i64 t314] 29 (0, 0)) (by (with_reducible repeat (first | refine yN ?_ _ | refine yD ?_ | refine yA ?_ _)); exact BK316.out)) : gb327 ≠ gb316))
            have n13_ := yM ((by rw [hg]; exact Nat.ne_of_lt (blk_lt (g := gb320) (o := .cells #[.int .i64 t317, .int .i64 t318] 29 (0, 0)) (by (with_reducible repeat (first | refine yN ?_ _ | refine yD ?_ | refine yA ?_ _)); exact BK320.out)) : gb320 ≠ gb327))
            have n14_ := yM ((by rw [hg]; exact Nat.ne_of_gt (blk_lt (g := gb320) (o := .cells #[.int .i64 t317, .int .i64 t318] 29 (0, 0)) (by (with_reducible repeat (first | refine yN ?_ _ | refine yD ?_ | refine yA ?_ _)); exact BK320.out)) : gb327 ≠ gb320))
            have n15_ := yM ((by rw [hg]; exact Nat.ne_of_lt (blk_lt (g := gb322) (o := .cells #[.int .i64 x323000_2, .int .i64 x323001_2] 29 (0, 0)) (by (with_reducible repeat (first | refine yN ?_ _ | refine yD ?_ | refine yA ?_ _)); exact BK322.out)) : gb322 ≠ gb327))
            have n16_ := yM ((by rw [hg]; exact Nat.ne_of_gt (blk_lt (g := gb322) (o := .cells #[.int .i64 x323000_2, .int .i64 x323001_2] 29 (0, 0)) (by (with_reducible repeat (first | refine yN ?_ _ | refine yD ?_ | refine yA ?_ _)); exact BK322.out)) : gb327 ≠ gb322))
            clear HO_313002
            clear BK312
            clear BK316
            clear BK320
            clear BK322
            clear HB
            have HO_313002 := n0_
            have BK312 := n1_
            have BK316 := n2_
            have BK320 := n3_
            have BK322 := n4_
            have HB := n5_
            have BK327 := n6_
            have GW327 := n7_
            have GE327 := n8_
            have NB312_327 := n9_
            have NB327_312 := n10_
            have NB316_327 := n11_
            have NB327_316 := n12_
            have NB320_327 := n13_
            have NB327_320 := n14_
            have NB322_327 := n15_
            have NB327_322 := n16_
            clear n0_ n1_ n2_ n3_ n4_ n5_ n6_ n7_ n8_ n9_ n10_ n11_ n12_ n13_ n14_ n15_ n16_
            clear hb hbox hg
            refine hK.out _ _ ⟨(blk_cell BK322.out 0).trans rfl, (blk_cell BK322.out 1).trans rfl, (blk_cell BK312.out 0).trans rfl, (blk_cell BK312.out 1).trans rfl, (blk_cell BK312.out 2).trans rfl, HS5_, HS6_⟩ (fun hHeld => ?_)
            clear hK K
            refine norm_ (a' := ?_) ?_ ?_
            rotate_left
            ·show Act.put _ (some 10) _ = _
             simp only [Act.put, setIfInBounds_toArray, set_cons_zero, set_cons_succ, i64_w, i32_w]
             rfl
            exact norm_ (by simp only [putAll, Act.put, setIfInBounds_toArray, set_cons_zero, set_cons_succ]) (hCont (gb327) _ ⟨hHeld, (by (with_reducible repeat (first | apply Kd.R_alloc | apply Kd.R_drewN | apply Kd.R_drew)); exact Kd.R_mono HO_313002.out (fun _ hk => ⟨hk.1.1, ⟨hk.1.2.1, ⟨hk.1.2.2, hk.2⟩⟩⟩)), (by (with_reducible repeat (first | refine yN ?_ _ | refine yD ?_ | refine yA ?_ _)); exact BK312.out), (by (with_reducible repeat (first | refine yN ?_ _ | refine yD ?_ | refine yA ?_ _)); exact BK316.out), (by (with_reducible repeat (first | refine yN ?_ _ | refine yD ?_ | refine yA ?_ _)); exact BK320.out), (by (with_reducible repeat (first | refine yN ?_ _ | refine yD ?_ | refine yA ?_ _)); exact BK322.out), (by (with_reducible repeat (first | refine yN ?_ _ | refine yD ?_ | refine yA ?_ _)); exact BK327.out), GW327.out, GE327.out, NB312_327.out, NB327_312.out, NB316_327.out, NB327_316.out, NB320_327.out, NB327_320.out, NB322_327.out, NB327_322.out, (by repeat (first | (with_reducible first | exact HB.out | apply below_alloc | apply yP | apply below_drew1 | refine yS ?_ GE312.out | refine yS ?_ GE316.out | refine yS ?_ GE320.out | refine yS ?_ GE322.out | refine yS ?_ GE327.out) | exact HB.out))⟩)
           ·skip
            refine box_step ?hg (N := 10) ?hd (cs := #[.int .i64 0, .int .i64 0]) (t := 29) ?hr ?_; (case hd => rfl); (case hg => rfl); (case hr => first | (go_simp; done) | (go_simp; rfl))
            intro gb327 hg w64 hbox hb
            have HS5_ := (hb.cell (World.block_lt_of_cell? _ _ (hHeld.2.2.2.2.2.1))).trans (hHeld.2.2.2.2.2.1)
            have HS6_ := (hb.cell (World.block_lt_of_cell? _ _ (hHeld.2.2.2.2.2.2))).trans (hHeld.2.2.2.2.2.2)
            have n0_ := yM (Kd.R_below (Kd.R_elderB (by (with_reducible repeat (first | apply Kd.R_alloc | apply Kd.R_drewN | apply Kd.R_drew)); exact HO_313002.out) gb327 (Nat.le_of_eq hg.symm)) hb)
            have n1_ := yM (blk_below (g := gb312) (o := .cells #[.int .i64 t307, .int .i64 t308, .slice (some ad323) t309.length co10] 32 (0, 0)) (by (with_reducible repeat (first | refine yN ?_ _ | refine yD ?_ | refine yA ?_ _)); exact BK312.out) hb)
            have n2_ := yM (blk_below (g := gb316) (o := .cells #[.int .i64 t313, .int .i64 t314] 29 (0, 0)) (by (with_reducible repeat (first | refine yN ?_ _ | refine yD ?_ | refine yA ?_ _)); exact BK316.out) hb)
            have n3_ := yM (blk_below (g := gb320) (o := .cells #[.int .i64 t317, .int .i64 t318] 29 (0, 0)) (by (with_reducible repeat (first | refine yN ?_ _ | refine yD ?_ | refine yA ?_ _)); exact BK320.out) hb)
            have n4_ := yM (blk_below (g := gb322) (o := .cells #[.int .i64 x323000_2, .int .i64 x323001_2] 29 (0, 0)) (by (with_reducible repeat (first | refine yN ?_ _ | refine yD ?_ | refine yA ?_ _)); exact BK322.out) hb)
            have n5_ := yM (below_step (by repeat (first | (with_reducible first | exact HB.out | apply below_alloc | apply yP | apply below_drew1 | refine yS ?_ GE312.out | refine yS ?_ GE316.out | refine yS ?_ GE320.out | refine yS ?_ GE322.out) | exact HB.out)) hb)
            have n6_ := yM (hbox)
            have n7_ := yM ((by rw [hg]; exact (below_size (by repeat (first | (with_reducible first | exact HB.out | apply below_alloc | apply yP | apply below_drew1 | refine yS ?_ GE312.out | refine yS ?_ GE316.out | refine yS ?_ GE320.out | refine yS ?_ GE322.out) | exact HB.out))) : w.heap.size ≤ gb327))
            have n8_ := yM ((by rw [hg]; exact (below_size (by repeat (first | (with_reducible first | exact HB.out | apply below_alloc | apply yP | apply below_drew1 | refine yS ?_ GE312.out | refine yS ?_ GE316.out | refine yS ?_ GE320.out | refine yS ?_ GE322.out) | exact HB.out))) : w.heap.size ≤ gb327))
            have n9_ := yM ((by rw [hg]; exact Nat.ne_of_lt (blk_lt (g := gb312) (o := .cells #[.int .i64 t307, .int .i64 t308, .slice (some ad323) t309.length co10] 32 (0, 0)) (by (with_reducible repeat (first | refine yN ?_ _ | refine yD ?_ | refine yA ?_ _)); exact BK312.out)) : gb312 ≠ gb327))
            have n10_ := yM ((by rw [hg]; exact Nat.ne_of_gt (blk_lt (g := gb312) (o := .cells #[.int .i64 t307, .int .i64 t308, .slice (some ad323) t309.length co10] 32 (0, 0)) (by (with_reducible repeat (first | refine yN ?_ _ | refine yD ?_ | refine yA ?_ _)); exact BK312.out)) : gb327 ≠ gb312))
            have n11_ := yM ((by rw [hg]; exact Nat.ne_of_lt (blk_lt (g := gb316) (o := .cells #[.int .i64 t313, .int .i64 t314] 29 (0, 0)) (by (with_reducible repeat (first | refine yN ?_ _ | refine yD ?_ | refine yA ?_ _)); exact BK316.out)) : gb316 ≠ gb327))
            have n12_ := yM ((by rw [hg]; exact Nat.ne_of_gt (blk_lt (g := gb316) (o := .cells #[.int .i64 t313, .int .i64 t314] 29 (0, 0)) (by (with_reducible repeat (first | refine yN ?_ _ | refine yD ?_ | refine yA ?_ _)); exact BK316.out)) : gb327 ≠ gb316))
            have n13_ := yM ((by rw [hg]; exact Nat.ne_of_lt (blk_lt (g := gb320) (o := .cells #[.int .i64 t317, .int .i64 t318] 29 (0, 0)) (by (with_reducible repeat (first | refine yN ?_ _ | refine yD ?_ | refine yA ?_ _)); exact BK320.out)) : gb320 ≠ gb327))
            have n14_ := yM ((by rw [hg]; exact Nat.ne_of_gt (blk_lt (g := gb320) (o := .cells #[.int .i64 t317, .int .i64 t318] 29 (0, 0)) (by (with_reducible repeat (first | refine yN ?_ _ | refine yD ?_ | refine yA ?_ _)); exact BK320.out)) : gb327 ≠ gb320))
            have n15_ := yM ((by rw [hg]; exact Nat.ne_of_lt (blk_lt (g := gb322) (o := .cells #[.int .i64 x323000_2, .int .i64 x323001_2] 29 (0, 0)) (by (with_reducible repeat (first | refine yN ?_ _ | refine yD ?_ | refine yA ?_ _)); exact BK322.out)) : gb322 ≠ gb327))
            have n16_ := yM ((by rw [hg]; exact Nat.ne_of_gt (blk_lt (g := gb322) (o := .cells #[.int .i64 x323000_2, .int .i64 x323001_2] 29 (0, 0)) (by (with_reducible repeat (first | refine yN ?_ _ | refine yD ?_ | refine yA ?_ _)); exact BK322.out)) : gb327 ≠ gb322))
            clear HO_313002
            clear BK312
            clear BK316
            clear BK320
            clear BK322
            clear HB
            have HO_313002 := n0_
            have BK312 := n1_
            have BK316 := n2_
            have BK320 := n3_
            have BK322 := n4_
            have HB := n5_
            have BK327 := n6_
            have GW327 := n7_
            have GE327 := n8_
            have NB312_327 := n9_
            have NB327_312 := n10_
            have NB316_327 := n11_
            have NB327_316 := n12_
            have NB320_327 := n13_
            have NB327_320 := n14_
            have NB322_327 := n15_
            have NB327_322 := n16_
            clear n0_ n1_ n2_ n3_ n4_ n5_ n6_ n7_ n8_ n9_ n10_ n11_ n12_ n13_ n14_ n15_ n16_
            clear hb hbox hg
            refine hK.out _ _ ⟨(blk_cell BK322.out 0).trans rfl, (blk_cell BK322.out 1).trans rfl, (blk_cell BK312.out 0).trans rfl, (blk_cell BK312.out 1).trans rfl, (blk_cell BK312.out 2).trans rfl, HS5_, HS6_⟩ (fun hHeld => ?_)
            clear hK K
            refine norm_ (a' := ?_) ?_ ?_
            rotate_left
            ·show Act.put _ (some 10) _ = _
             simp only [Act.put, setIfInBounds_toArray, set_cons_zero, set_cons_succ, i64_w, i32_w]
             rfl
            refine one_ (i := 6) (N := some 70) #[true, true, true, true, true, true, true, false, false, false, true, false, false] rfl rfl (one_of HT_.out (by kernel_rfl)) (by decide) (fun K hK => ?_)
            refine goes_ Try.func24 (by kernel_rfl) rfl #[.agg #[.int .i64 x323000_2, .int .i64 x323001_2], .agg #[.int .i64 ((rd_T29 t309 x9_2).f0), .int .i64 ((rd_T29 t309 x9_2).f1)]] (by rfl) rfl rfl (by (try simp only [List.map_toArray, List.map_cons, List.map_nil]); first | done | rfl | (simp only [List.length_drop, List.length_take]; rfl)) ?_
            with_reducible refine (impl_FracSum.calls k2 x323000_2 x323001_2 ((rd_T29 t309 x9_2).f0) ((rd_T29 t309 x9_2).f1) t324 t325 true _ A57.out).mono ?_
            rintro e w65 ⟨rfl, hb⟩
            have HS5_ := (hb.cell (World.block_lt_of_cell? _ _ (hHeld.2.2.2.2.2.1))).trans (hHeld.2.2.2.2.2.1)
            have HS6_ := (hb.cell (World.block_lt_of_cell? _ _ (hHeld.2.2.2.2.2.2))).trans (hHeld.2.2.2.2.2.2)
            refine ⟨_, rfl, ?_⟩
            have n0_ := yM (Kd.R_below (by (with_reducible repeat (first | apply Kd.R_alloc | apply Kd.R_drewN | apply Kd.R_drew)); exact HO_313002.out) hb)
            have n1_ := yM (blk_below (g := gb312) (o := .cells #[.int .i64 t307, .int .i64 t308, .slice (some ad323) t309.length co10] 32 (0, 0)) (by (with_reducible repeat (first | refine yN ?_ _ | refine yD ?_ | refine yA ?_ _)); exact BK312.out) hb)
            have n2_ := yM (blk_below (g := gb316) (o := .cells #[.int .i64 t313, .int .i64 t314] 29 (0, 0)) (by (with_reducible repeat (first | refine yN ?_ _ | refine yD ?_ | refine yA ?_ _)); exact BK316.out) hb)
            have n3_ := yM (blk_below (g := gb320) (o := .cells #[.int .i64 t317, .int .i64 t318] 29 (0, 0)) (by (with_reducible repeat (first | refine yN ?_ _ | refine yD ?_ | refine yA ?_ _)); exact BK320.out) hb)
            have n4_ := yM (blk_below (g := gb322) (o := .cells #[.int .i64 x323000_2, .int .i64 x323001_2] 29 (0, 0)) (by (with_reducible repeat (first | refine yN ?_ _ | refine yD ?_ | refine yA ?_ _)); exact BK322.out) hb)
            have n5_ := yM (blk_below (g := gb327) (o := .cells #[.int .i64 0, .int .i64 0] 29 (0, 0)) (by (with_reducible repeat (first | refine yN ?_ _ | refine yD ?_ | refine yA ?_ _)); exact BK327.out) hb)
            have n6_ := yM (below_step (by repeat (first | (with_reducible first | exact HB.out | apply below_alloc | apply yP | apply below_drew1 | refine yS ?_ GE312.out | refine yS ?_ GE316.out | refine yS ?_ GE320.out | refine yS ?_ GE322.out | refine yS ?_ GE327.out) | exact HB.out)) hb)
            clear HO_313002
            clear BK312
            clear BK316
            clear BK320
            clear BK322
            clear BK327
            clear HB
            have HO_313002 := n0_
            have BK312 := n1_
            have BK316 := n2_
            have BK320 := n3_
            have BK322 := n4_
            have BK327 := n5_
            have HB := n6_
            clear n0_ n1_ n2_ n3_ n4_ n5_ n6_
            (try clear hb)
            (try clear hb2)
            (try clear hk)
            (try clear hi)
            refine hK.out _ _ ⟨(blk_cell BK322.out 0).trans rfl, (blk_cell BK322.out 1).trans rfl, (blk_cell BK312.out 0).trans rfl, (blk_cell BK312.out 1).trans rfl, (blk_cell BK312.out 2).trans rfl, HS5_, HS6_⟩ (fun hHeld => ?_)
            clear hK K
            refine norm_ (a' := ?_) ?_ ?_
            rotate_left
            ·show Act.put _ (some 70) _ = _
             simp only [Act.put, setIfInBounds_toArray, set_cons_zero, set_cons_succ, i64_w, i32_w]
             rfl
            refine pure_ (i := 7) (N := some 63) (v := ?_) (a' := ?_) #[true, true, true, true, true, true, true, true, false, false, true, false, false] rfl rfl (any_of HT_.out (by kernel_rfl)) (fun _ _ _ h => h) (Or.inl ⟨by rfl, ?_⟩) ?_ ?_
            rotate_left
            ·intro w'
             go_simp
             with_reducible rfl
            rotate_left
            ·simp only [Act.put, setIfInBounds_toArray, set_cons_zero, set_cons_succ, i64_w, i32_w]
             rfl
            refine pure_ (i := 8) (N := some 71) (v := ?_) (a' := ?_) #[true, true, true, true, true, true, true, true, true, false, true, false, false] rfl rfl (any_of HT_.out (by kernel_rfl)) (fun _ _ _ h => h) (Or.inl ⟨by rfl, ?_⟩) ?_ ?_
            rotate_left
            ·intro w'
             go_simp
             with_reducible rfl
            rotate_left
            ·simp only [Act.put, setIfInBounds_toArray, set_cons_zero, set_cons_succ, i64_w, i32_w]
             rfl
            refine pure_ (i := 9) (N := some 72) (v := ?_) (a' := ?_) #[true, true, true, true, true, true, true, true, true, true, true, false, false] rfl rfl (any_of HT_.out (by kernel_rfl)) (fun _ _ _ h => h) (Or.inl ⟨by rfl, ?_⟩) ?_ ?_
            rotate_left
            ·intro w'
             go_simp
             with_reducible rfl
            rotate_left
            ·simp only [Act.put, setIfInBounds_toArray, set_cons_zero, set_cons_succ, i64_w, i32_w]
             rfl
            exact norm_ (by simp only [putAll, Act.put, setIfInBounds_toArray, set_cons_zero, set_cons_succ]) (hCont (gb327) _ ⟨hHeld, (by (with_reducible repeat (first | apply Kd.R_alloc | apply Kd.R_drewN | apply Kd.R_drew)); exact Kd.R_mono HO_313002.out (fun _ hk => ⟨hk.1.1, ⟨hk.1.2.1, ⟨hk.1.2.2, hk.2⟩⟩⟩)), (by (with_reducible repeat (first | refine yN ?_ _ | refine yD ?_ | refine yA ?_ _)); exact BK312.out), (by (with_reducible repeat (first | refine yN ?_ _ | refine yD ?_ | refine yA ?_ _)); exact BK316.out), (by (with_reducible repeat (first | refine yN ?_ _ | refine yD ?_ | refine yA ?_ _)); exact BK320.out), (by (with_reducible repeat (first | refine yN ?_ _ | refine yD ?_ | refine yA ?_ _)); exact BK322.out), (by (with_reducible repeat (first | refine yN ?_ _ | refine yD ?_ | refine yA ?_ _)); exact BK327.out), GW327.out, GE327.out, NB312_327.out, NB327_312.out, NB316_327.out, NB327_316.out, NB320_327.out, NB327_320.out, NB322_327.out, NB327_322.out, (by repeat (first | (with_reducible first | exact HB.out | apply below_alloc | apply yP | apply below_drew1 | refine yS ?_ GE312.out | refine yS ?_ GE316.out | refine yS ?_ GE320.out | refine yS ?_ GE322.out | refine yS ?_ GE327.out) | exact HB.out))⟩)
          rintro gb327 w66 ⟨hS_, h0_, h1_, h2_, h3_, h4_, h5_, h6_, h7_, h8_, h9_, h10_, h11_, h12_, h13_, h14_, h15_, h16_⟩
          have n0_ : Aside0 (Kd.R k29 29 w66 w.heap.size (fun k_ => k_ ≠ gb316 ∧ k_ ≠ gb320 ∧ k_ ≠ gb322 ∧ k_ ≠ gb327) (.slice (some ad323) t309.length co10) t309) := ⟨h0_⟩
          have n1_ : Aside0 (w66.heap[gb312]? = some (.cells #[.int .i64 t307, .int .i64 t308, .slice (some ad323) t309.length co10] 32 (0, 0))) := ⟨h1_⟩
          have n2_ : Aside0 (w66.heap[gb316]? = some (.cells #[.int .i64 t313, .int .i64 t314] 29 (0, 0))) := ⟨h2_⟩
          have n3_ : Aside0 (w66.heap[gb320]? = some (.cells #[.int .i64 t317, .int .i64 t318] 29 (0, 0))) := ⟨h3_⟩
          have n4_ : Aside0 (w66.heap[gb322]? = some (.cells #[.int .i64 x323000_2, .int .i64 x323001_2] 29 (0, 0))) := ⟨h4_⟩
          have n5_ : Aside0 (w66.heap[gb327]? = some (.cells #[.int .i64 0, .int .i64 0] 29 (0, 0))) := ⟨h5_⟩
          have n6_ : Aside0 (w.heap.size ≤ gb327) := ⟨h6_⟩
          have n7_ : Aside0 (w.heap.size ≤ gb327) := ⟨h7_⟩
          have n8_ : Aside0 (gb312 ≠ gb327) := ⟨h8_⟩
          have n9_ : Aside0 (gb327 ≠ gb312) := ⟨h9_⟩
          have n10_ : Aside0 (gb316 ≠ gb327) := ⟨h10_⟩
          have n11_ : Aside0 (gb327 ≠ gb316) := ⟨h11_⟩
          have n12_ : Aside0 (gb320 ≠ gb327) := ⟨h12_⟩
          have n13_ : Aside0 (gb327 ≠ gb320) := ⟨h13_⟩
          have n14_ : Aside0 (gb322 ≠ gb327) := ⟨h14_⟩
          have n15_ : Aside0 (gb327 ≠ gb322) := ⟨h15_⟩
          have n16_ : Aside0 (Below w.heap.size w w66) := ⟨h16_⟩
          clear HO_313002
          clear BK312
          clear BK316
          clear BK320
          clear BK322
          clear HB
          clear h0_ h1_ h2_ h3_ h4_ h5_ h6_ h7_ h8_ h9_ h10_ h11_ h12_ h13_ h14_ h15_ h16_
          have HO_313002 := n0_
          have BK312 := n1_
          have BK316 := n2_
          have BK320 := n3_
          have BK322 := n4_
          have BK327 := n5_
          have GW327 := n6_
          have GE327 := n7_
          have NB312_327 := n8_
          have NB327_312 := n9_
          have NB316_327 := n10_
          have NB327_316 := n11_
          have NB320_327 := n12_
          have NB327_320 := n13_
          have NB322_327 := n14_
          have NB327_322 := n15_
          have HB := n16_
          clear n0_ n1_ n2_ n3_ n4_ n5_ n6_ n7_ n8_ n9_ n10_ n11_ n12_ n13_ n14_ n15_ n16_
          have hHeld : w66.cell? ⟨gb322, 0, none⟩ = some (.int .i64 x323000_2) ∧ w66.cell? ⟨gb322, 1, none⟩ = some (.int .i64 x323001_2) ∧ w66.cell? ⟨gb312, 0, none⟩ = some (.int .i64 t307) ∧ w66.cell? ⟨gb312, 1, none⟩ = some (.int .i64 t308) ∧ w66.cell? ⟨gb312, 2, none⟩ = some (.slice (some ad323) t309.length co10) ∧ w66.cell? (ad323.add ((x9_2).toNat * 2)) = some (.int .i64 ((rd_T29 t309 x9_2).f0)) ∧ w66.cell? ⟨(ad323.add ((x9_2).toNat * 2)).block, (ad323.add ((x9_2).toNat * 2)).off + 1, none⟩ = some (.int .i64 ((rd_T29 t309 x9_2).f1)) := hS_
          refine norm_ (a' := ?_) ?_ ?_
          rotate_left
          ·simp only [putAll, Act.put, setIfInBounds_toArray, set_cons_zero, set_cons_succ]
           rfl
          refine one_ (i := 11) (N := none) #[true, true, true, true, true, true, true, true, true, true, true, true, false] rfl rfl (one_of HT_.out (by kernel_rfl)) (by decide) (fun K hK => ?_)
          have hs67 : w66.cell? ⟨gb327, 0, none⟩ = some (.int .i64 0) := (blk_cell BK327.out 0).trans rfl
          have hfs67 := blk_frozen BK327.out 0
          have hns67_0 := NB312_327.out
          have hns67_1 := NB316_327.out
          have hns67_2 := NB320_327.out
          have hns67_3 := NB322_327.out
          have hms67_0 := NB327_312.out
          have hms67_1 := NB327_316.out
          have hms67_2 := NB327_320.out
          have hms67_3 := NB327_322.out
          have hs68 : w66.cell? ⟨gb327, 1, none⟩ = some (.int .i64 0) := (blk_cell BK327.out 1).trans rfl
          have hfs68 := blk_frozen BK327.out 1
          have hns68_0 := NB312_327.out
          have hns68_1 := NB316_327.out
          have hns68_2 := NB320_327.out
          have hns68_3 := NB322_327.out
          have hms68_0 := NB327_312.out
          have hms68_1 := NB327_316.out
          have hms68_2 := NB327_320.out
          have hms68_3 := NB327_322.out
          refine skip_ (w1 := ?_) (by rfl) rfl ?_ ?_
          rotate_left
          ·go_simp
           rfl
          refine hK.out _ _ ⟨((cell_far (p := ⟨gb327, _, none⟩) NB322_327.out _).trans (((cell_far (p := ⟨gb327, _, none⟩) NB322_327.out _).trans (hHeld.1)))), ((cell_far (p := ⟨gb327, _, none⟩) NB322_327.out _).trans (((cell_far (p := ⟨gb327, _, none⟩) NB322_327.out _).trans (hHeld.2.1)))), ((cell_far (p := ⟨gb327, _, none⟩) NB312_327.out _).trans (((cell_far (p := ⟨gb327, _, none⟩) NB312_327.out _).trans (hHeld.2.2.1)))), ((cell_far (p := ⟨gb327, _, none⟩) NB312_327.out _).trans (((cell_far (p := ⟨gb327, _, none⟩) NB312_327.out _).trans (hHeld.2.2.2.1)))), ((cell_far (p := ⟨gb327, _, none⟩) NB312_327.out _).trans (((cell_far (p := ⟨gb327, _, none⟩) NB312_327.out _).trans (hHeld.2.2.2.2.1)))), ((cell_far (p := ⟨gb327, _, none⟩) (by first | exact Kd.own_blk (Kd.R_away HO_313002.out (fun _ hk => hk.2.2.2)) | (rw [add_block]; exact Kd.own_blk (Kd.R_away HO_313002.out (fun _ hk => hk.2.2.2))) | (show (Addr.add _ _).block ≠ _; rw [add_block]; exact Kd.own_blk (Kd.R_away HO_313002.out (fun _ hk => hk.2.2.2))) | (dsimp only; exact Kd.own_blk (Kd.R_away HO_313002.out (fun _ hk => hk.2.2.2)))) _).trans (((cell_far (p := ⟨gb327, _, none⟩) (by first | exact Kd.own_blk (Kd.R_away HO_313002.out (fun _ hk => hk.2.2.2)) | (rw [add_block]; exact Kd.own_blk (Kd.R_away HO_313002.out (fun _ hk => hk.2.2.2))) | (show (Addr.add _ _).block ≠ _; rw [add_block]; exact Kd.own_blk (Kd.R_away HO_313002.out (fun _ hk => hk.2.2.2))) | (dsimp only; exact Kd.own_blk (Kd.R_away HO_313002.out (fun _ hk => hk.2.2.2)))) _).trans (hHeld.2.2.2.2.2.1)))), ((cell_far (p := ⟨gb327, _, none⟩) (by first | exact Kd.own_blk (Kd.R_away HO_313002.out (fun _ hk => hk.2.2.2)) | (rw [add_block]; exact Kd.own_blk (Kd.R_away HO_313002.out (fun _ hk => hk.2.2.2))) | (show (Addr.add _ _).block ≠ _; rw [add_block]; exact Kd.own_blk (Kd.R_away HO_313002.out (fun _ hk => hk.2.2.2))) | (dsimp only; exact Kd.own_blk (Kd.R_away HO_313002.out (fun _ hk => hk.2.2.2)))) _).trans (((cell_far (p := ⟨gb327, _, none⟩) (by first | exact Kd.own_blk (Kd.R_away HO_313002.out (fun _ hk => hk.2.2.2)) | (rw [add_block]; exact Kd.own_blk (Kd.R_away HO_313002.out (fun _ hk => hk.2.2.2))) | (show (Addr.add _ _).block ≠ _; rw [add_block]; exact Kd.own_blk (Kd.R_away HO_313002.out (fun _ hk => hk.2.2.2))) | (dsimp only; exact Kd.own_blk (Kd.R_away HO_313002.out (fun _ hk => hk.2.2.2)))) _).trans (hHeld.2.2.2.2.2.2))))⟩ (fun hHeld => ?_)
          clear hK K
          refine pure_ (i := 12) (N := some 11) (v := ?_) (a' := ?_) #[true, true, true, true, true, true, true, true, true, true, true, true, true] rfl rfl (any_of HT_.out (by kernel_rfl)) (fun _ _ _ h => h) (Or.inl ⟨by rfl, ?_⟩) ?_ ?_
          rotate_left
          ·intro w'
           go_simp
           with_reducible rfl
          rotate_left
          ·simp only [Act.put, setIfInBounds_toArray, set_cons_zero, set_cons_succ, i64_w, i32_w]
           rfl
          refine done_ (done_of HT_.out (by kernel_rfl)) ?_
          have hnb69 := NB327_312.out
          have hnc69 := NB312_327.out
          have hnb70 := NB327_316.out
          have hnc70 := NB316_327.out
          have hnb71 := NB327_320.out
          have hnc71 := NB320_327.out
          have hnb72 := NB327_322.out
          have hnc72 := NB322_327.out
          have hcz73_0 : w66.cell? ⟨gb327, 0, none⟩ = some (.int .i64 0) := (blk_cell BK327.out 0).trans rfl
          have hcz73_1 : w66.cell? ⟨gb327, 1, none⟩ = some (.int .i64 0) := (blk_cell BK327.out 1).trans rfl
          have hfz73_0 := blk_frozen BK327.out 0
          have hfz73_1 := blk_frozen BK327.out 1
          have hnb74 := NB322_316.out
          have hnc74 := NB316_322.out
          have hnb75 := NB322_320.out
          have hnc75 := NB320_322.out
          have hcz76_0 : w66.cell? ⟨gb322, 0, none⟩ = some (.int .i64 x323000_2) := (blk_cell BK322.out 0).trans rfl
          have hcz76_1 : w66.cell? ⟨gb322, 1, none⟩ = some (.int .i64 x323001_2) := (blk_cell BK322.out 1).trans rfl
          have hfz76_0 := blk_frozen BK322.out 0
          have hfz76_1 := blk_frozen BK322.out 1
          try go_wp2
          go_roundg k2
          case measure => have := HJ5.out; have := HK2.out; omega
          case rel => exact ⟨(wrap64 (x9_2 + 1)), (t324), (t325), (by first | rfl | (simp; done) | (simp [*]; done)), H', ⟨by have := HJ5.out; have := HK2.out; omega⟩, ⟨by (with_reducible repeat (first | apply Kd.R_alloc | apply Kd.R_drewN | apply Kd.R_drew)); exact Kd.R_mono (Kd.R_far (p := ⟨gb322, 1, none⟩) (Kd.R_far (p := ⟨gb322, 0, none⟩) (Kd.R_far (p := ⟨gb327, 1, none⟩) (Kd.R_far (p := ⟨gb327, 0, none⟩) (Kd.R_mono (Kd.R_mono HO_313002.out (fun k_ hk => (⟨hk, hk.2.2.2⟩ : _ ∧ k_ ≠ gb327))) (fun k_ hk => (⟨hk, hk.1.2.2.1⟩ : _ ∧ k_ ≠ gb322))) (fun _ hk => hk.1.2) (.int .i64 t324)) (fun _ hk => hk.1.2) (.int .i64 t325)) (fun _ hk => hk.2) (.int .i64 t324)) (fun _ hk => hk.2) (.int .i64 t325)) (fun _ hk => ⟨hk.1.1.1, ⟨hk.1.1.2.1, hk.1.1.2.2.1⟩⟩)⟩, ⟨by (with_reducible repeat (first | refine yN ?_ _ | refine yD ?_ | refine yA ?_ _)); refine blk_far ?_ NB312_322.out _; (with_reducible repeat (first | refine yN ?_ _ | refine yD ?_ | refine yA ?_ _)); refine blk_far ?_ NB312_322.out _; (with_reducible repeat (first | refine yN ?_ _ | refine yD ?_ | refine yA ?_ _)); refine blk_far ?_ NB312_327.out _; (with_reducible repeat (first | refine yN ?_ _ | refine yD ?_ | refine yA ?_ _)); refine blk_far ?_ NB312_327.out _; (with_reducible repeat (first | refine yN ?_ _ | refine yD ?_ | refine yA ?_ _)); exact BK312.out⟩, ⟨by (with_reducible repeat (first | refine yN ?_ _ | refine yD ?_ | refine yA ?_ _)); refine blk_far ?_ NB316_322.out _; (with_reducible repeat (first | refine yN ?_ _ | refine yD ?_ | refine yA ?_ _)); refine blk_far ?_ NB316_322.out _; (with_reducible repeat (first | refine yN ?_ _ | refine yD ?_ | refine yA ?_ _)); refine blk_far ?_ NB316_327.out _; (with_reducible repeat (first | refine yN ?_ _ | refine yD ?_ | refine yA ?_ _)); refine blk_far ?_ NB316_327.out _; (with_reducible repeat (first | refine yN ?_ _ | refine yD ?_ | refine yA ?_ _)); exact BK316.out⟩, ⟨by (with_reducible repeat (first | refine yN ?_ _ | refine yD ?_ | refine yA ?_ _)); refine blk_far ?_ NB320_322.out _; (with_reducible repeat (first | refine yN ?_ _ | refine yD ?_ | refine yA ?_ _)); refine blk_far ?_ NB320_322.out _; (with_reducible repeat (first | refine yN ?_ _ | refine yD ?_ | refine yA ?_ _)); refine blk_far ?_ NB320_327.out _; (with_reducible repeat (first | refine yN ?_ _ | refine yD ?_ | refine yA ?_ _)); refine blk_far ?_ NB320_327.out _; (with_reducible repeat (first | refine yN ?_ _ | refine yD ?_ | refine yA ?_ _)); exact BK320.out⟩, ⟨by (with_reducible repeat (first | refine yN ?_ _ | refine yD ?_ | refine yA ?_ _)); refine blk_put (cs := #[.int .i64 t324, .int .i64 x323001_2]) ?_ 1 _ rfl; (with_reducible repeat (first | refine yN ?_ _ | refine yD ?_ | refine yA ?_ _)); refine blk_put (cs := #[.int .i64 x323000_2, .int .i64 x323001_2]) ?_ 0 _ rfl; (with_reducible repeat (first | refine yN ?_ _ | refine yD ?_ | refine yA ?_ _)); refine blk_far ?_ NB322_327.out _; (with_reducible repeat (first | refine yN ?_ _ | refine yD ?_ | refine yA ?_ _)); refine blk_far ?_ NB322_327.out _; (with_reducible repeat (first | refine yN ?_ _ | refine yD ?_ | refine yA ?_ _)); exact BK322.out⟩, ⟨by repeat (first | (with_reducible first | exact HB.out | apply below_alloc | apply yP | apply below_drew1 | refine yS ?_ GE312.out | refine yS ?_ GE316.out | refine yS ?_ GE320.out | refine yS ?_ GE322.out | refine yS ?_ GE327.out) | exact HB.out)⟩⟩
         ·replace c58 := Bool.eq_false_iff.mpr c58
          subst c58
          have H1 : (some false) = some r := by rw [if_neg (show ¬ (false = true) by decide)] at H; exact H
          clear H
          have H := H1
          clear H1
          exact absurd (Option.some.inj (H.trans (congrArg some HRT.out))) (by decide)
        ·rw [if_neg c56] at H
         exact absurd H (by simp)
       ·rw [if_neg c55] at H
        have c55b0 : decide (x9_2 < (t309.length : Int)) = false := decide_eq_false c55
        clear c55
        by_cases c77 : (t317 == x323000_2 && (t318 == x323001_2)) = true
        ·rw [if_pos c77] at H
         have c77b0 : (t317 == x323000_2 && (t318 == x323001_2)) = true := c77
         (try (have c77b1 : decide (t317 = x323000_2 && (t318 == x323001_2)) = true := by simpa using c77))
         (try (have c77b2 : (t317 == x323000_2 && (t318 == x323001_2)) = true := by simpa using c77))
         clear c77
         replace H := Option.bind_eq_some_iff.mp H
         obtain ⟨t328, A780, H⟩ := H
         replace H : (some (decide (t328 ≤ 0))) = some r := H
         have A78 := Aside0.mk A780
         clear A780
         obtain rfl := Option.some.inj H
         have hnb79 := NB312_316.out
         have hnc79 := NB316_312.out
         have hnb80 := NB312_320.out
         have hnc80 := NB320_312.out
         have hnb81 := NB312_322.out
         have hnc81 := NB322_312.out
         have hcz82_0 : wr.cell? ⟨gb312, 0, none⟩ = some (.int .i64 t307) := (blk_cell BK312.out 0).trans rfl
         have hcz82_1 : wr.cell? ⟨gb312, 1, none⟩ = some (.int .i64 t308) := (blk_cell BK312.out 1).trans rfl
         have hcz82_2 : wr.cell? ⟨gb312, 2, none⟩ = some (.slice Ao10 t309.length co10) := (blk_cell BK312.out 2).trans rfl
         have hfz82_0 := blk_frozen BK312.out 0
         have hfz82_1 := blk_frozen BK312.out 1
         have hfz82_2 := blk_frozen BK312.out 2
         have hnb83 := NB320_316.out
         have hnc83 := NB316_320.out
         have hnb84 := NB320_322.out
         have hnc84 := NB322_320.out
         have hcz85_0 : wr.cell? ⟨gb320, 0, none⟩ = some (.int .i64 t317) := (blk_cell BK320.out 0).trans rfl
         have hcz85_1 : wr.cell? ⟨gb320, 1, none⟩ = some (.int .i64 t318) := (blk_cell BK320.out 1).trans rfl
         have hfz85_0 := blk_frozen BK320.out 0
         have hfz85_1 := blk_frozen BK320.out 1
         have hnb86 := NB322_316.out
         have hnc86 := NB316_322.out
         have hcz87_0 : wr.cell? ⟨gb322, 0, none⟩ = some (.int .i64 x323000_2) := (blk_cell BK322.out 0).trans rfl
         have hcz87_1 : wr.cell? ⟨gb322, 1, none⟩ = some (.int .i64 x323001_2) := (blk_cell BK322.out 1).trans rfl
         have hfz87_0 := blk_frozen BK322.out 0
         have hfz87_1 := blk_frozen BK322.out 1
         go_wp2_with (first | (go_at_call 25; (with_reducible refine (impl_FracCmp.calls k2 t317 t318 t307 t308 t328 _ A78.out).mono ?_); rintro e w88 ⟨rfl, hb⟩; have n0_ := yM (Kd.R_below (by (with_reducible repeat (first | apply Kd.R_alloc | apply Kd.R_drewN | apply Kd.R_drew)); exact HO_313002.out) hb); have n1_ := yM (blk_below (g := gb312) (o := .cells #[.int .i64 t307, .int .i64 t308, .slice Ao10 t309.length co10] 32 (0, 0)) (by (with_reducible repeat (first | refine yN ?_ _ | refine yD ?_ | refine yA ?_ _)); exact BK312.out) hb); have n2_ := yM (blk_below (g := gb316) (o := .cells #[.int .i64 t313, .int .i64 t314] 29 (0, 0)) (by (with_reducible repeat (first | refine yN ?_ _ | refine yD ?_ | refine yA ?_ _)); exact BK316.out) hb); have n3_ := yM (blk_below (g := gb320) (o := .cells #[.int .i64 t317, .int .i64 t318] 29 (0, 0)) (by (with_reducible repeat (first | refine yN ?_ _ | refine yD ?_ | refine yA ?_ _)); exact BK320.out) hb); have n4_ := yM (blk_below (g := gb322) (o := .cells #[.int .i64 x323000_2, .int .i64 x323001_2] 29 (0, 0)) (by (with_reducible repeat (first | refine yN ?_ _ | refine yD ?_ | refine yA ?_ _)); exact BK322.out) hb); have n5_ := yM (below_step (by repeat (first | (with_reducible first | exact HB.out | apply below_alloc | apply yP | apply below_drew1 | refine yS ?_ GE312.out | refine yS ?_ GE316.out | refine yS ?_ GE320.out | refine yS ?_ GE322.out) | exact HB.out)) hb); clear HO_313002; clear BK312; clear BK316; clear BK320; clear BK322; clear HB; have HO_313002 := n0_; have BK312 := n1_; have BK316 := n2_; have BK320 := n3_; have BK322 := n4_; have HB := n5_; clear n0_ n1_ n2_ n3_ n4_ n5_; (try clear hb); (try clear hb2); (try clear hk); (try clear hi)))
         go_ret
         exact ⟨by first | rfl | (simp [errW_none, errW_some] <;> rfl) | (simp [*, errW_none, errW_some] <;> rfl), by repeat (first | (with_reducible first | exact HB.out | apply below_alloc | apply yP | apply below_drew1 | refine yS ?_ GE312.out | refine yS ?_ GE316.out | refine yS ?_ GE320.out | refine yS ?_ GE322.out) | exact HB.out)⟩
        ·rw [if_neg c77] at H
         have c77b0 : (t317 == x323000_2 && (t318 == x323001_2)) = false := by simpa using c77
         (try (have c77b1 : decide (t317 = x323000_2 && (t318 == x323001_2)) = false := by simpa using c77))
         (try (have c77b2 : (t317 == x323000_2 && (t318 == x323001_2)) = false := by simpa using c77))
         (try (have c77b3 : ¬ (t317 = x323000_2 && (t318 == x323001_2)) := by simpa using c77))
         clear c77
         exact absurd (Option.some.inj (H.trans (congrArg some HRT.out))) (by decide)

/-- THE ONE PURE STATEMENT of laws_FnLedgerSum: yours. -/
def laws_FnLedgerSum.Pure : Prop := ∀ (l0 : List Int), l0.length ≤ maxLen → l0.length * 1 ≤ 140737488351232 → (∀ x ∈ l0, (Lit.int .u8 x).wf = true) → ∃ k, laws_FnLedgerSum.f k l0 = some true
theorem laws_FnLedgerSum.walk (P : laws_FnLedgerSum.Pure) (a0 : Option Addr) (len0 cap0 : Nat) (z0 : List Int) (w : World) (w0 : (a0 = none ∧ len0 = 0 ∧ cap0 = 0 ∧ z0 = []) ∨ ∃ x, a0 = some x ∧ len0 ≤ cap0 ∧ cap0 ≤ maxLen ∧ z0.length = cap0 ∧ (∀ i, i < z0.length → w.cell? (x.add i) = some (.int .u8 (z0.getD i 0))) ∧ ∀ n ∈ z0, (Lit.int .u8 n).wf = true) (y0 : len0 * 1 ≤ 140737488351232) :
  Calls Try.prog 6 #[.slice a0 len0 cap0] w fun e w' => e = .returned (.bool true) ∧ Below w.heap.size w w' := by
 obtain ⟨l0, rfl, hr0, hm0, hw0, hc0⟩ := ReadsInt.ofRowC w0
 obtain ⟨k, h⟩ := P l0 hm0 y0 hw0
 refine (laws_FnLedgerSum.calls k _ _ l0 true w (Kd.C_of_reads (d := (0 : Int)) (h1 := fun _ => rfl) hr0) hc0 h rfl).mono ?_
 rintro e w' ⟨rfl, hd⟩
 exact ⟨rfl, hd⟩

end Go.Proofs.Ytncngkfgalokoaa.PLed
