-- Written by a program of this session over the kit's printer, with contracts proved by hand; Lean checks it.
import Derived.Test.YtncngkfgalokoaaPLedx0
import Derived.Test.YtncngkfgalokoaaPLedx1
import Derived.Test.YtncngkfgalokoaaPLedx4
import Derived.Test.YtncngkfgalokoaaPLedx5
import Derived.Test.YtncngkfgalokoaaPLedx7
import Derived.Test.YtncngkfgalokoaaPLedx8
-- half its indentation
namespace Go.Proofs.Ytncngkfgalokoaa.PLed
open Go.RowKit Go.Proofs.YtncngkfgalokoaaW.PrintWords Go.Proofs.YtncngkfgalokoaaW.PrintLast Go.Proofs.YtncngkfgalokoaaW.PrintMore
attribute [local go_sem] max2_int min2_int max_two min_two max_three min_three max_four min_four   -- for this text's walks alone
set_option linter.unusedVariables false
set_option linter.unusedSimpArgs false

attribute [local go_sem high] eqA29
open List (setIfInBounds_toArray set_cons_zero set_cons_succ)
/-! ### spec_DrawLedgerPay: function 26 -/
def spec_DrawLedgerPay.f (k : Nat) (l0 : List Int) : Option (Int × Int × (List (S29)) × Int × Int) := (spec_l6Open.f l0).bind fun bt331 => ((spec_l92Ledger.f k bt331.1 bt331.2).bind fun bt334 => ((spec_l92Frac.f k bt331.1 bt334.2.2.2).bind fun bt340 => (some (bt334.1, bt334.2.1, bt334.2.2.1, bt340.1, bt340.2.1))))
theorem spec_DrawLedgerPay.mono : ∀ a0 k, LeO (spec_DrawLedgerPay.f k a0) (spec_DrawLedgerPay.f (k + 1) a0) := by
 intro a0 k
 unfold spec_DrawLedgerPay.f
 repeat' first
   | (with_reducible exact spec_l92Frac.mono _ _ _)
   | (with_reducible exact spec_l92Ledger.mono _ _ _)
   | (with_reducible exact LeO.refl _)
   | (with_reducible exact LeO.none _)
   | (with_reducible refine LeO.ite ?_ ?_)
   | (with_reducible refine LeO.bind ?_ (fun _ => ?_))
   | exact spec_l92Frac.mono _ _ _
   | exact spec_l92Ledger.mono _ _ _
   | exact LeO.none _
   | refine LeO.ite ?_ ?_
   | refine LeO.bind ?_ (fun _ => ?_)
set_option maxHeartbeats 8000000 in
set_option maxRecDepth 100000 in
theorem spec_DrawLedgerPay.calls (k : Nat) (A0 : Option Addr) (c0 : Nat) (l0 : List Int) (r1 : Int) (r2 : Int) (r3 : List (S29)) (r4 : Int) (r5 : Int) (w : World) (hr0 : Kd.C (Kd.int .u8) w A0 l0.length l0) (hc0 : l0.length ≤ c0) (h : spec_DrawLedgerPay.f k l0 = some (r1, r2, r3, r4, r5)) :
  Calls Try.prog 26 #[.slice A0 l0.length c0] w fun e w' => ∃ v2_ : Value, e = .returned (.tuple #[.agg #[.int .i64 r1, .int .i64 r2, v2_], .agg #[.int .i64 r4, .int .i64 r5]]) ∧ Kd.R k29 29 w' w.heap.size (fun _ => True) v2_ r3 ∧ Below w.heap.size w w' := by
 have hu32 := Try.underlying32
 have hu29 := Try.underlying29
 have HR0 := Aside0.mk hr0
 have HC0 := Aside0.mk hc0
 clear hr0 hc0
 have HB := yM (Below.refl w.heap.size w)
 have H : ((spec_l6Open.f l0).bind fun bt331 => ((spec_l92Ledger.f k bt331.1 bt331.2).bind fun bt334 => ((spec_l92Frac.f k bt331.1 bt334.2.2.2).bind fun bt340 => (some (bt334.1, bt334.2.1, bt334.2.2.1, bt340.1, bt340.2.1))))) = some (r1, r2, r3, r4, r5) := h
 clear h
 replace H := Option.bind_eq_some_iff.mp H
 obtain ⟨⟨t331, t332⟩, A20, H⟩ := H
 replace H : ((spec_l92Ledger.f k t331 t332).bind fun bt334 => ((spec_l92Frac.f k t331 bt334.2.2.2).bind fun bt340 => (some (bt334.1, bt334.2.1, bt334.2.2.1, bt340.1, bt340.2.1)))) = some (r1, r2, r3, r4, r5) := H
 have A2 := Aside0.mk A20
 clear A20
 replace H := Option.bind_eq_some_iff.mp H
 obtain ⟨⟨t334, t335, t336, t339⟩, A30, H⟩ := H
 replace H : ((spec_l92Frac.f k t331 t339).bind fun bt340 => (some (t334, t335, t336, bt340.1, bt340.2.1))) = some (r1, r2, r3, r4, r5) := H
 have A3 := Aside0.mk A30
 clear A30
 replace H := Option.bind_eq_some_iff.mp H
 obtain ⟨⟨t340, t341, t342⟩, A40, H⟩ := H
 replace H : (some (t334, t335, t336, t340, t341)) = some (r1, r2, r3, r4, r5) := H
 have A4 := Aside0.mk A40
 clear A40
 simp only [Option.some.injEq, Prod.mk.injEq] at H
 obtain ⟨rfl, rfl, rfl, rfl, rfl⟩ := H
 go_enter Try.func26, Try.ntmps26
 go_wp2_with (first | ((with_reducible refine gate_dst (N := 2) rfl ?_); refine box_event ?hg (N := 2) ?hd (cs := #[.int .i64 0, .int .i64 0, .slice none 0 0]) (t := 32) ?hr ?_; (case hd => rfl); (case hg => rfl); (case hr => first | (go_simp; done) | (go_simp; rfl)); intro gb329 hg w5 hbox hb; have n0_ := yM (below_step (by repeat (first | (with_reducible first | exact HB.out | apply below_alloc | apply yP | apply below_drew1) | exact HB.out)) hb); have n1_ := yM (hbox); have n2_ := yM ((by rw [hg]; exact (below_size (by repeat (first | (with_reducible first | exact HB.out | apply below_alloc | apply yP | apply below_drew1) | exact HB.out))) : w.heap.size ≤ gb329)); have n3_ := yM ((by rw [hg]; exact (below_size (by repeat (first | (with_reducible first | exact HB.out | apply below_alloc | apply yP | apply below_drew1) | exact HB.out))) : w.heap.size ≤ gb329)); clear HB; have HB := n0_; have BK329 := n1_; have GW329 := n2_; have GE329 := n3_; clear n0_ n1_ n2_ n3_; clear hb hbox hg) | ((with_reducible refine gate_dst (N := 3) rfl ?_); refine box_event ?hg (N := 3) ?hd (cs := #[.int .i64 0, .int .i64 0]) (t := 29) ?hr ?_; (case hd => rfl); (case hg => rfl); (case hr => first | (go_simp; done) | (go_simp; rfl)); intro gb330 hg w6 hbox hb; have n0_ := yM (blk_below (g := gb329) (o := .cells #[.int .i64 0, .int .i64 0, .slice none 0 0] 32 (0, 0)) (by (with_reducible repeat (first | refine yN ?_ _ | refine yD ?_ | refine yA ?_ _)); exact BK329.out) hb); have n1_ := yM (below_step (by repeat (first | (with_reducible first | exact HB.out | apply below_alloc | apply yP | apply below_drew1 | refine yS ?_ GE329.out) | exact HB.out)) hb); have n2_ := yM (hbox); have n3_ := yM ((by rw [hg]; exact (below_size (by repeat (first | (with_reducible first | exact HB.out | apply below_alloc | apply yP | apply below_drew1 | refine yS ?_ GE329.out) | exact HB.out))) : w.heap.size ≤ gb330)); have n4_ := yM ((by rw [hg]; exact (below_size (by repeat (first | (with_reducible first | exact HB.out | apply below_alloc | apply yP | apply below_drew1 | refine yS ?_ GE329.out) | exact HB.out))) : w.heap.size ≤ gb330)); have n5_ := yM ((by rw [hg]; exact Nat.ne_of_lt (blk_lt (g := gb329) (o := .cells #[.int .i64 0, .int .i64 0, .slice none 0 0] 32 (0, 0)) (by (with_reducible repeat (first | refine yN ?_ _ | refine yD ?_ | refine yA ?_ _)); exact BK329.out)) : gb329 ≠ gb330)); have n6_ := yM ((by rw [hg]; exact Nat.ne_of_gt (blk_lt (g := gb329) (o := .cells #[.int .i64 0, .int .i64 0, .slice none 0 0] 32 (0, 0)) (by (with_reducible repeat (first | refine yN ?_ _ | refine yD ?_ | refine yA ?_ _)); exact BK329.out)) : gb330 ≠ gb329)); clear BK329; clear HB; have BK329 := n0_; have HB := n1_; have BK330 := n2_; have GW330 := n3_; have GE330 := n4_; have NB329_330 := n5_; have NB330_329 := n6_; clear n0_ n1_ n2_ n3_ n4_ n5_ n6_; clear hb hbox hg) | ((with_reducible refine gate_callee (f := 41) rfl ?_); refine goesL_ (some 6) rfl rfl Try.func41 (by kernel_rfl) rfl #[.slice A0 l0.length c0] rfl (by (try simp only [List.map_toArray, List.map_cons, List.map_nil]); first | done | rfl | (simp only [List.length_drop, List.length_take]; rfl)) ?_; (with_reducible refine (spec_l6Open.calls _ _ l0 t331 t332 w _ ?side1 ?side2 ?side3 A2.out).mono ?_); (case side1 => repeat (first | (with_reducible first | exact HB.out | apply below_alloc | apply yP | apply below_drew1 | refine yS ?_ GE329.out | refine yS ?_ GE330.out) | exact HB.out)); (case side2 => exact HR0.out); (case side3 => exact HC0.out); rintro e w7 ⟨g333, rfl, hi, hb, hb2⟩; refine ⟨_, rfl, ?_⟩; have n0_ := yM (blk_below (g := gb329) (o := .cells #[.int .i64 0, .int .i64 0, .slice none 0 0] 32 (0, 0)) (by (with_reducible repeat (first | refine yN ?_ _ | refine yD ?_ | refine yA ?_ _)); exact BK329.out) hb2); have n1_ := yM (blk_below (g := gb330) (o := .cells #[.int .i64 0, .int .i64 0] 29 (0, 0)) (by (with_reducible repeat (first | refine yN ?_ _ | refine yD ?_ | refine yA ?_ _)); exact BK330.out) hb2); have n2_ := yM (hb); have n3_ := yM (hi); have n4_ := yM (IsS73.ne_blk hi (blk_below (g := gb329) (o := .cells #[.int .i64 0, .int .i64 0, .slice none 0 0] 32 (0, 0)) (by (with_reducible repeat (first | refine yN ?_ _ | refine yD ?_ | refine yA ?_ _)); exact BK329.out) hb2) (by decide)); have n5_ := yM (Ne.symm (IsS73.ne_blk hi (blk_below (g := gb329) (o := .cells #[.int .i64 0, .int .i64 0, .slice none 0 0] 32 (0, 0)) (by (with_reducible repeat (first | refine yN ?_ _ | refine yD ?_ | refine yA ?_ _)); exact BK329.out) hb2) (by decide))); have n6_ := yM (IsS73.ne_blk hi (blk_below (g := gb330) (o := .cells #[.int .i64 0, .int .i64 0] 29 (0, 0)) (by (with_reducible repeat (first | refine yN ?_ _ | refine yD ?_ | refine yA ?_ _)); exact BK330.out) hb2) (by decide)); have n7_ := yM (Ne.symm (IsS73.ne_blk hi (blk_below (g := gb330) (o := .cells #[.int .i64 0, .int .i64 0] 29 (0, 0)) (by (with_reducible repeat (first | refine yN ?_ _ | refine yD ?_ | refine yA ?_ _)); exact BK330.out) hb2) (by decide))); clear BK329; clear BK330; clear HB; have BK329 := n0_; have BK330 := n1_; have HB := n2_; have HI333 := n3_; have NB333_329 := n4_; have NB329_333 := n5_; have NB333_330 := n6_; have NB330_333 := n7_; clear n0_ n1_ n2_ n3_ n4_ n5_ n6_ n7_; (try clear hb); (try clear hb2); (try clear hk); (try clear hi)) | ((with_reducible refine gate_callee (f := 42) rfl ?_); refine goesL_ (some 8) rfl rfl Try.func42 (by kernel_rfl) rfl #[.pointer (some ⟨g333, 0, none⟩)] rfl (by (try simp only [List.map_toArray, List.map_cons, List.map_nil]); first | done | rfl | (simp only [List.length_drop, List.length_take]; rfl)) ?_; (with_reducible refine (spec_l92Ledger.calls k g333 t331 t332 t334 t335 t336 t339 w _ ?side1 ?side2 A3.out).mono ?_); (case side1 => repeat (first | (with_reducible first | exact HI333.out | apply yO | apply yL | apply yT | apply yJ | refine yI ?_ NB333_329.out _ | refine yI ?_ NB333_330.out _) | exact HI333.out)); (case side2 => repeat (first | (with_reducible first | exact HB.out | apply below_alloc | apply yP | apply below_drew1 | refine yS ?_ (IsS73.ge HI333.out) | refine yS ?_ GE329.out | refine yS ?_ GE330.out) | exact HB.out)); rintro e w8 ⟨v337, rfl, ho0, hi, hb, hk⟩; refine ⟨_, rfl, ?_⟩; have n0_ := yM (KeepBut.blk hk (g' := gb329) (o := .cells #[.int .i64 0, .int .i64 0, .slice none 0 0] 32 (0, 0)) (by (with_reducible repeat (first | refine yN ?_ _ | refine yD ?_ | refine yA ?_ _)); exact BK329.out) NB329_333.out (by simp)); have n1_ := yM (KeepBut.blk hk (g' := gb330) (o := .cells #[.int .i64 0, .int .i64 0] 29 (0, 0)) (by (with_reducible repeat (first | refine yN ?_ _ | refine yD ?_ | refine yA ?_ _)); exact BK330.out) NB330_333.out (by simp)); have n2_ := yM (Kd.R_lower (Kd.R_newB ho0 (g := gb330) (o := .cells #[.int .i64 0, .int .i64 0] 29 (0, 0)) (by (with_reducible repeat (first | refine yN ?_ _ | refine yD ?_ | refine yA ?_ _)); exact BK330.out)) (below_size (by repeat (first | (with_reducible first | exact HB.out | apply below_alloc | apply yP | apply below_drew1 | refine yS ?_ (IsS73.ge HI333.out) | refine yS ?_ GE329.out | refine yS ?_ GE330.out) | exact HB.out)))); have n3_ := yM (hb); have n4_ := yM (hi); clear BK329; clear BK330; clear HB; clear HI333; have BK329 := n0_; have BK330 := n1_; have HO338 := n2_; have HB := n3_; have HI333 := n4_; clear n0_ n1_ n2_ n3_ n4_; (try clear hb); (try clear hb2); (try clear hk); (try clear hi); (try clear ho0)) | ((with_reducible refine gate_callee (f := 44) rfl ?_); refine goesL_ (some 10) rfl rfl Try.func44 (by kernel_rfl) rfl #[.pointer (some ⟨g333, 0, none⟩)] rfl (by (try simp only [List.map_toArray, List.map_cons, List.map_nil]); first | done | rfl | (simp only [List.length_drop, List.length_take]; rfl)) ?_; (with_reducible refine (spec_l92Frac.calls k g333 t331 t339 t340 t341 t342 w _ ?side1 ?side2 A4.out).mono ?_); (case side1 => repeat (first | (with_reducible first | exact HI333.out | apply yO | apply yL | apply yT | apply yJ | refine yI ?_ NB333_329.out _ | refine yI ?_ NB333_330.out _) | exact HI333.out)); (case side2 => repeat (first | (with_reducible first | exact HB.out | apply below_alloc | apply yP | apply below_drew1 | refine yS ?_ (IsS73.ge HI333.out) | refine yS ?_ GE329.out | refine yS ?_ GE330.out) | exact HB.out)); rintro e w9 ⟨rfl, hi, hb, hk⟩; refine ⟨_, rfl, ?_⟩; have n0_ := yM (KeepBut.blk hk (g' := gb329) (o := .cells #[.int .i64 0, .int .i64 0, .slice none 0 0] 32 (0, 0)) (by (with_reducible repeat (first | refine yN ?_ _ | refine yD ?_ | refine yA ?_ _)); exact BK329.out) NB329_333.out (by simp)); have n1_ := yM (KeepBut.blk hk (g' := gb330) (o := .cells #[.int .i64 0, .int .i64 0] 29 (0, 0)) (by (with_reducible repeat (first | refine yN ?_ _ | refine yD ?_ | refine yA ?_ _)); exact BK330.out) NB330_333.out (by simp)); have n2_ := yM (Kd.R_mono (Kd.R_keep (IsS73.apart (show IsS73 w _ g333 t331 t339 from by repeat (first | (with_reducible first | exact HI333.out | apply yO | apply yL | apply yT | apply yJ | refine yI ?_ NB333_329.out _ | refine yI ?_ NB333_330.out _) | exact HI333.out)) (by (with_reducible repeat (first | apply Kd.R_alloc | apply Kd.R_drewN | apply Kd.R_drew)); exact HO338.out) (by decide)) hk (fun _ h => h.2)) (fun _ h => h.1)); have n3_ := yM (hb); have n4_ := yM (hi); clear BK329; clear BK330; clear HO338; clear HB; clear HI333; have BK329 := n0_; have BK330 := n1_; have HO338 := n2_; have HB := n3_; have HI333 := n4_; clear n0_ n1_ n2_ n3_ n4_; (try clear hb); (try clear hb2); (try clear hk); (try clear hi); have hnb10 := NB329_330.out; have hnc10 := NB330_329.out; have hnb11 := NB329_333.out; have hnc11 := NB333_329.out; have hcz12_0 : w9.cell? ⟨gb329, 0, none⟩ = some (.int .i64 0) := (blk_cell BK329.out 0).trans rfl; have hcz12_1 : w9.cell? ⟨gb329, 1, none⟩ = some (.int .i64 0) := (blk_cell BK329.out 1).trans rfl; have hcz12_2 : w9.cell? ⟨gb329, 2, none⟩ = some (.slice none 0 0) := (blk_cell BK329.out 2).trans rfl; have hfz12_0 := blk_frozen BK329.out 0; have hfz12_1 := blk_frozen BK329.out 1; have hfz12_2 := blk_frozen BK329.out 2; obtain ⟨Ao13, co13, eo13⟩ := Kd.R_slice HO338.out; subst eo13; have hnb14 := NB330_333.out; have hnc14 := NB333_330.out; have hcz15_0 : w9.cell? ⟨gb330, 0, none⟩ = some (.int .i64 0) := (blk_cell BK330.out 0).trans rfl; have hcz15_1 : w9.cell? ⟨gb330, 1, none⟩ = some (.int .i64 0) := (blk_cell BK330.out 1).trans rfl; have hfz15_0 := blk_frozen BK330.out 0; have hfz15_1 := blk_frozen BK330.out 1))
 refine bodyPost_ret (results_cc rfl _ _ gb329 gb330 32 29 #[.int .i64 t334, .int .i64 t335, .slice Ao13 t336.length co13] #[.int .i64 t340, .int .i64 t341] (0, 0) (0, 0) _ _ rfl (by (with_reducible repeat (first | refine yN ?_ _ | refine yD ?_ | refine yA ?_ _)); refine blk_far ?_ NB329_330.out _; (with_reducible repeat (first | refine yN ?_ _ | refine yD ?_ | refine yA ?_ _)); refine blk_far ?_ NB329_330.out _; (with_reducible repeat (first | refine yN ?_ _ | refine yD ?_ | refine yA ?_ _)); refine blk_put (cs := #[.int .i64 t334, .int .i64 t335, .slice none 0 0]) ?_ 2 _ rfl; (with_reducible repeat (first | refine yN ?_ _ | refine yD ?_ | refine yA ?_ _)); refine blk_put (cs := #[.int .i64 t334, .int .i64 0, .slice none 0 0]) ?_ 1 _ rfl; (with_reducible repeat (first | refine yN ?_ _ | refine yD ?_ | refine yA ?_ _)); refine blk_put (cs := #[.int .i64 0, .int .i64 0, .slice none 0 0]) ?_ 0 _ rfl; (with_reducible repeat (first | refine yN ?_ _ | refine yD ?_ | refine yA ?_ _)); exact BK329.out) Try.underlying32 rfl (by kernel_rfl) rfl (by (with_reducible repeat (first | refine yN ?_ _ | refine yD ?_ | refine yA ?_ _)); refine blk_put (cs := #[.int .i64 t340, .int .i64 0]) ?_ 1 _ rfl; (with_reducible repeat (first | refine yN ?_ _ | refine yD ?_ | refine yA ?_ _)); refine blk_put (cs := #[.int .i64 0, .int .i64 0]) ?_ 0 _ rfl; (with_reducible repeat (first | refine yN ?_ _ | refine yD ?_ | refine yA ?_ _)); refine blk_far ?_ NB330_329.out _; (with_reducible repeat (first | refine yN ?_ _ | refine yD ?_ | refine yA ?_ _)); refine blk_far ?_ NB330_329.out _; (with_reducible repeat (first | refine yN ?_ _ | refine yD ?_ | refine yA ?_ _)); refine blk_far ?_ NB330_329.out _; (with_reducible repeat (first | refine yN ?_ _ | refine yD ?_ | refine yA ?_ _)); exact BK330.out) Try.underlying29 rfl (by kernel_rfl)) rfl ?_
 exact ⟨_, by first | rfl | (simp [errW_none, errW_some] <;> rfl) | (simp [*, errW_none, errW_some] <;> rfl), by (with_reducible repeat (first | apply Kd.R_alloc | apply Kd.R_drewN | apply Kd.R_drew)); exact Kd.R_mono (Kd.R_far (p := ⟨gb330, 1, none⟩) (Kd.R_far (p := ⟨gb330, 0, none⟩) (Kd.R_far (p := ⟨gb329, 2, none⟩) (Kd.R_far (p := ⟨gb329, 1, none⟩) (Kd.R_far (p := ⟨gb329, 0, none⟩) (Kd.R_mono (Kd.R_types HO338.out BK329.out (by decide)) (fun k_ hk => (⟨hk, hk.1.2⟩ : _ ∧ k_ ≠ gb330))) (fun _ hk => hk.1.2) (.int .i64 t334)) (fun _ hk => hk.1.2) (.int .i64 t335)) (fun _ hk => hk.1.2) (.slice Ao13 t336.length co13)) (fun _ hk => hk.2) (.int .i64 t340)) (fun _ hk => hk.2) (.int .i64 t341)) (fun _ hk => trivial), by repeat (first | (with_reducible first | exact HB.out | apply below_alloc | apply yP | apply below_drew1 | refine yS ?_ (IsS73.ge HI333.out) | refine yS ?_ GE329.out | refine yS ?_ GE330.out) | exact HB.out)⟩

/-! ### impl_LedgerPay: function 28 -/
-- The numbers of functions and types are those of the seat of the ledgers.
namespace PayGiv
theorem pay_cell {w : World} {b : Nat} {cs : Array Value} {T : TypeId} {fr : Nat × Nat} (hb : w.heap[b]? = some (.cells cs T fr)) (j : Nat) : w.cell? ⟨b, j, none⟩ = cs[j]? := by simp [World.cell?, hb]
theorem pay_new (w : World) (A : Obj) : (w.alloc A).heap[w.heap.size]? = some A := by
 show (w.heap.push _)[w.heap.size]? = _
 rw [Array.getElem?_push, if_pos rfl]
theorem lclip_calls (A : Option Addr) (n cap : Nat) (w : World) (hn : n ≤ cap) :
  Calls Try.prog 51 #[.slice A n cap] w fun e w' => e = .returned (.slice A n n) ∧ w' = w := by
 obtain ⟨i9, hi9, hz9, hsz9, _⟩ := info_parts info29
 go_enter Try.func51, Try.ntmps51
 go_wp2
 go_ret
 exact ⟨rfl, rfl⟩
theorem kd_empty (w : World) (ok : Nat → Prop) (hok : ok w.heap.size) : Kd.R k29 29 (w.alloc (.cells #[] 29)) w.heap.size ok (.slice (some ⟨w.heap.size, 0, none⟩) 0 0) [] := by
 refine ⟨fun k hk => ?_, [], ⟨by simp, .inr ⟨w.heap.size, 0, #[], rfl, Nat.le_refl _, pay_new w _, Nat.le_refl _, by simp [maxLen], by simp, by simp⟩⟩, Reps.none _ _⟩
 have : w.heap.size = k := by simpa [Value.ownBlock] using hk
 subst this
 exact hok
/-- The cells of a row of fractions. -/
def fcs (l : List S29) : List Value := l.flatMap fun z => [.int .i64 z.f0, .int .i64 z.f1]
theorem fcs_length (l : List S29) : (fcs l).length = l.length * 2 := by
 induction l with
 | nil => rfl
 | cons z zs ih => simp only [fcs, List.flatMap_cons, List.length_append, List.length_cons, List.length_nil] at *; omega
theorem fcs_get (l : List S29) : ∀ j (hj : j < l.length), (fcs l)[j * 2]? = some (.int .i64 (l[j]).f0) ∧ (fcs l)[j * 2 + 1]? = some (.int .i64 (l[j]).f1) := by
 induction l with
 | nil => intro j hj; simp at hj
 | cons z zs ih =>
  intro j hj
  have e : fcs (z :: zs) = .int .i64 z.f0 :: .int .i64 z.f1 :: fcs zs := rfl
  rw [e]
  cases j with
  | zero => exact ⟨rfl, rfl⟩
  | succ j =>
   have h := ih j (by simpa using hj)
   have e1 : (j + 1) * 2 = j * 2 + 1 + 1 := by omega
   rw [e1]
   simpa using h
theorem fcs_read {w : World} {A : Option Addr} {l : List S29} (h : Kd.C k29 w A l.length l) (ad : Addr) (hA : A = some ad) : ∀ j u, (fcs l)[j]? = some u → w.cell? (ad.add j) = some u := by
 intro j u hu
 have hj : j < (fcs l).length := (List.getElem?_eq_some_iff.1 hu).1
 rw [fcs_length] at hj
 obtain ⟨ad', e, hc⟩ := h.2.2 (by omega)
 rw [hA] at e
 obtain rfl := Option.some.inj e
 have hq : j / 2 < l.length := by omega
 obtain ⟨c, hl, hK, hcc⟩ := hc (j / 2) l[j / 2] (List.getElem?_eq_getElem hq)
 obtain rfl := k29_open hK
 have hg := fcs_get l (j / 2) hq
 have hm : j = j / 2 * 2 ∨ j = j / 2 * 2 + 1 := by omega
 rcases hm with hm | hm
 ·rw [hm, hg.1] at hu
  rw [hm]
  exact hcc 0 u (by simpa using hu)
 ·rw [hm, hg.2] at hu
  rw [hm]
  exact hcc 1 u (by simpa using hu)
theorem fcs_one (l : List S29) : ∀ u ∈ fcs l, u.oneCell' = true := by
 intro u hu
 unfold fcs at hu
 obtain ⟨z, _, hz⟩ := List.mem_flatMap.1 hu
 rcases List.mem_cons.1 hz with rfl | hz
 ·rfl
 ·obtain rfl := List.mem_singleton.1 hz
  rfl
theorem fcs_own {w : World} {base : Nat} {v : Value} {l : List S29} (ok : Nat → Prop) (h : w.ownsRow base 29 2 v l.length (fcs l)) (hok : ∀ k, v.ownBlock = some k → ok k) : Kd.R k29 29 w base ok v l := by
 refine ⟨hok, fcs l, h, ⟨by rw [fcs_length]; rfl, fun j p hp => ?_⟩⟩
 obtain ⟨hj, rfl⟩ := List.getElem?_eq_some_iff.1 hp
 have hg := fcs_get l j hj
 have e : ((fcs l).drop (j * k29.sz)).take k29.sz = [.int .i64 (l[j]).f0, .int .i64 (l[j]).f1] := by
  show ((fcs l).drop (j * 2)).take 2 = _
  apply List.ext_getElem?
  intro i
  rw [List.getElem?_take, List.getElem?_drop]
  rcases i with _ | _ | i
  ·simpa using hg.1
  ·simpa using hg.2
  ·rw [if_neg (by omega)]; rfl
 rw [e]
 exact k29_mkM _ _ _ _
theorem lclone_calls (A : Option Addr) (cap : Nat) (l : List S29) (w : World) (h : Kd.C k29 w A l.length l) (hl : l.length ≤ 1000) :
  Calls Try.prog 60 #[.slice A l.length cap] w fun e w' => ∃ A' c', e = .returned (.slice A' l.length c') ∧ l.length ≤ c' ∧ Kd.F k29 w' (fun k => w.heap.size ≤ k) A' l.length l ∧ (A' = none → l.length = 0) ∧ Below w.heap.size w w' := by
 have hsz := fcs_length l
 obtain ⟨i9, hi9, hz9, hsz9, hby9⟩ := info_parts info29
 have heq := fun (W : World) a n c => Lib.run_eql_slice_nil (P := Try.prog) W 30 29 a n c 0 0 Try.underlying30
 cases A with
 | none =>
  have h0 : l = [] := by
   cases l with
   | nil => rfl
   | cons z zs =>
    obtain ⟨ad, e, _⟩ := h.2.2 (by simp)
    cases e
  subst h0
  clear h hl hsz
  go_enter Try.func60, Try.ntmps60
  go_wp2
  go_ret
  exact ⟨none, 0, rfl, Nat.le_refl _, Kd.F_nil _ _ _, fun _ => trivial, Below.refl _ _⟩
 | some ad =>
  by_cases h0 : l = []
  ·subst h0
   clear h hl hsz
   go_enter Try.func60, Try.ntmps60
   go_wp2
   go_ret
   have hR := kd_empty w (fun k => w.heap.size ≤ k) (Nat.le_refl _)
   exact ⟨_, 0, rfl, Nat.le_refl _, (Kd.V_at (Kd.R_V (base' := w.heap.size) hR)).2.2, fun _ => trivial, (Below.refl _ w).alloc (Nat.le_refl _) _⟩
  ·have hpos : 0 < l.length := List.length_pos_iff.2 h0
   have HR := Go.Lib.hid (fcs_read h ad rfl)
   have HSZ := Go.Lib.hid hsz
   clear h hsz
   go_enter Try.func60, Try.ntmps60
   go_wp2_with (at_builtin; refine wpList_append_grows _ rfl _ _ 30 rfl 29 i9 (.agg #[.int .i64 0, .int .i64 0]) 2 16 Try.underlying30 hi9 hz9 hsz9 hby9 rfl (by decide) (some ⟨w.heap.size, 0, none⟩) 0 0 [] rfl (fun h => by cases h) rfl (fun b hb j u hu => by simp at hu) ad l.length cap (fcs l) rfl HSZ.out (fun j u hu => pw_cell_below ((Below.refl _ w).alloc (Nat.le_refl _) _) (HR.out j u hu)) (fcs_one l) (by omega) (by simp only [maxLen]; omega) (by omega) ?_; intro v' w' hown hgr; have HO := Go.Lib.hid hown; have HG := Go.Lib.hid hgr; clear hown hgr)
   go_ret
   have hown := HO.out
   rw [Nat.zero_add, List.nil_append] at hown
   have hbw : Below w.heap.size w w' := pw_below_grown ((Below.refl _ w).alloc (Nat.le_refl _) _) none (by simp) HG.out (fun k hk => by cases hk)
   have hR := fcs_own (fun k => w.heap.size ≤ k) (own_weaken (base' := w.heap.size) hown (by simp)) (fun k hk => by have := own_base hown k hk; simp at this; omega)
   obtain ⟨A', c', rfl, hle, hF⟩ := Kd.R_V (base' := w.heap.size) hR
   refine ⟨A', c', rfl, hle, hF, fun hA => ?_, hbw⟩
   subst hA
   obtain ⟨ad', e, _⟩ := (Kd.F_now hF).2.2 hpos
   cases e
theorem pay_two (w : World) (A B : Obj) : ((w.alloc A).alloc B).heap[w.heap.size]? = some A ∧ ((w.alloc A).alloc B).heap[w.heap.size + 1]? = some B := by
 constructor
 ·rw [Below.heap_alloc _ _ _ (by simp)]
  exact pay_new w A
 ·show ((w.alloc A).heap.push _)[w.heap.size + 1]? = _
  rw [Array.getElem?_push, if_pos (by simp)]
theorem pay_frozen {w : World} {b : Nat} {cs : Array Value} {T : TypeId} (hb : w.heap[b]? = some (.cells cs T (0, 0))) (j : Nat) : w.frozen? ⟨b, j, none⟩ = false := by simp [World.frozen?, hb]
theorem pay_lt {w : World} {g : Nat} {o : Obj} (hg : w.heap[g]? = some o) : g < w.heap.size := (Array.getElem?_eq_some_iff.1 hg).1
theorem pay_put3 {W : World} {b : Nat} {T : TypeId} {x y z : Value} (h : W.heap[b]? = some (.cells #[x, y, z] T (0, 0))) (u v t : Value) : (((W.setCell ⟨b, 0, none⟩ u).setCell ⟨b, 1, none⟩ v).setCell ⟨b, 2, none⟩ t).heap[b]? = some (.cells #[u, v, t] T (0, 0)) := by
 refine blk_put (cs := #[u, v, z]) ?_ 2 _ rfl
 refine blk_put (cs := #[u, y, z]) ?_ 1 _ rfl
 exact blk_put (cs := #[x, y, z]) h 0 _ rfl
theorem pay_below3 {W W' : World} {m b : Nat} (h : Below m W W') (hb : m ≤ b) (u v t : Value) : Below m W (((W'.setCell ⟨b, 0, none⟩ u).setCell ⟨b, 1, none⟩ v).setCell ⟨b, 2, none⟩ t) := ((h.setCell (p := ⟨b, 0, none⟩) hb u).setCell (p := ⟨b, 1, none⟩) hb v).setCell (p := ⟨b, 2, none⟩) hb t
/-- The two boxes with which 'copied' begins. -/
structure CBox (w : World) (a0 a1 : Int) (sl : Value) (W : World) : Prop where
 b0 : W.heap[w.heap.size]? = some (.cells #[.int .i64 a0, .int .i64 a1, sl] 32 (0, 0))
 b1 : W.heap[w.heap.size + 1]? = some (.cells #[.int .i64 0, .int .i64 0, .slice none 0 0] 32 (0, 0))
 bel : Below w.heap.size w W
theorem CBox.start (w : World) (a0 a1 : Int) (sl : Value) : CBox w a0 a1 sl ((w.alloc (.cells #[.int .i64 a0, .int .i64 a1, sl] 32)).alloc (.cells #[.int .i64 0, .int .i64 0, .slice none 0 0] 32)) :=
 ⟨(pay_two w _ _).1, (pay_two w _ _).2, ((Below.refl _ w).alloc (Nat.le_refl _) _).alloc (by simp) _⟩
theorem CBox.step {w W W' : World} {a0 a1 : Int} {sl : Value} (h : CBox w a0 a1 sl W) (hb : Below W.heap.size W W') : CBox w a0 a1 sl W' :=
 ⟨(hb.block _ (pay_lt h.b0)).trans h.b0, (hb.block _ (pay_lt h.b1)).trans h.b1, h.bel.trans (hb.mono h.bel.size)⟩
theorem CBox.cells {w W : World} {a0 a1 : Int} {sl : Value} (h : CBox w a0 a1 sl W) :
  W.cell? ⟨w.heap.size, 0, none⟩ = some (.int .i64 a0) ∧ W.cell? ⟨w.heap.size, 1, none⟩ = some (.int .i64 a1) ∧ W.cell? ⟨w.heap.size, 2, none⟩ = some sl ∧
  W.cell? ⟨w.heap.size + 1, 0, none⟩ = some (.int .i64 0) ∧ W.cell? ⟨w.heap.size + 1, 1, none⟩ = some (.int .i64 0) ∧ W.cell? ⟨w.heap.size + 1, 2, none⟩ = some (.slice none 0 0) ∧ W.frozen? ⟨w.heap.size + 1, 0, none⟩ = false ∧ W.frozen? ⟨w.heap.size + 1, 1, none⟩ = false ∧ W.frozen? ⟨w.heap.size + 1, 2, none⟩ = false :=
 ⟨pay_cell h.b0 0, pay_cell h.b0 1, pay_cell h.b0 2, pay_cell h.b1 0, pay_cell h.b1 1, pay_cell h.b1 2, pay_frozen h.b1 0, pay_frozen h.b1 1, pay_frozen h.b1 2⟩
theorem lF_below {W : World} {ok : Nat → Prop} {A : Option Addr} {n : Nat} {xs : List S29} {b : Nat} (h : Kd.F k29 W ok A n xs) (hok : ∀ k, ok k → k ≠ b) (u v t : Value) : Kd.F k29 (((W.setCell ⟨b, 0, none⟩ u).setCell ⟨b, 1, none⟩ v).setCell ⟨b, 2, none⟩ t) ok A n xs :=
 Kd.F_far (p := ⟨b, 2, none⟩) (Kd.F_far (p := ⟨b, 1, none⟩) (Kd.F_far (p := ⟨b, 0, none⟩) h hok u) hok v) hok t
set_option maxHeartbeats 4000000 in
theorem lcopied_calls (a0 a1 : Int) (A : Option Addr) (cap : Nat) (l : List S29) (w : World) (h : Kd.C k29 w A l.length l) (hl : l.length ≤ 1000) :
  Calls Try.prog 50 #[.agg #[.int .i64 a0, .int .i64 a1, .slice A l.length cap]] w fun e w' => ∃ A', e = .returned (.agg #[.int .i64 a0, .int .i64 a1, .slice A' l.length l.length]) ∧ Kd.F k29 w' (fun k => w.heap.size ≤ k) A' l.length l ∧ (A' = none → l.length = 0) ∧ Below w.heap.size w w' := by
 have HR := Go.Lib.hid h
 have HL := Go.Lib.hid hl
 have HS := Go.Lib.hid (CBox.start w a0 a1 (.slice A l.length cap))
 clear h hl
 go_enter Try.func50, Try.ntmps50
 go_wp2
 go_region_with (first | (go_at_call 60; refine (lclone_calls A cap l _ (Kd.C_below HR.out (by repeat (first | exact Below.refl _ _ | apply yP | apply below_drew1 | apply below_alloc))) HL.out).mono ?_; rintro e w4 ⟨A4, c4, rfl, hle, hF, hA, hb4⟩; have HF := Go.Lib.hid hF; have HA := Go.Lib.hid hA; clear hF hA; have hcb := HS.out.step (below_then (by repeat (first | exact Below.refl _ _ | apply yP | apply below_drew1)) (by simp) hb4); obtain ⟨x0, x1, x2, x3, x4, x5, y3, y4, y5⟩ := hcb.cells) | (go_at_call 51; refine (lclip_calls A4 _ c4 _ hle).mono ?_; rintro e w5 ⟨rfl, rfl⟩))
 all_goals go_wp2
 all_goals (refine bodyPost_ret (results_cell_row rfl _ _ (w.heap.size + 1) 32 #[.int .i64 a0, .int .i64 a1, .slice A4 l.length l.length] (0, 0) _ rfl (pay_put3 hcb.b1 _ _ _) Try.underlying32 rfl (by kernel_rfl)) rfl ?_)
 all_goals exact ⟨A4, rfl, Kd.F_mono (lF_below (b := w.heap.size + 1) HF.out (fun k hk => by simp at hk; omega) _ _ _) (fun k hk => by simp at hk; omega), HA.out, pay_below3 hcb.bel (by omega) _ _ _⟩
theorem below_grown {w w1 : World} (h : w.grownBy w1 none) : Below w.heap.size w w1 := ⟨h.os, h.tape, h.output, h.size, fun i hi => h.block i hi (by simp)⟩
theorem pay_three (w : World) (A B C : Obj) : (((w.alloc A).alloc B).alloc C).heap[w.heap.size]? = some A ∧ (((w.alloc A).alloc B).alloc C).heap[w.heap.size + 1]? = some B ∧ (((w.alloc A).alloc B).alloc C).heap[w.heap.size + 2]? = some C := by
 obtain ⟨h1, h2⟩ := pay_two w A B
 refine ⟨?_, ?_, ?_⟩
 ·rw [Below.heap_alloc _ _ _ (pay_lt h1)]; exact h1
 ·rw [Below.heap_alloc _ _ _ (pay_lt h2)]; exact h2
 ·have := pay_new ((w.alloc A).alloc B) C
  simpa using this
/-- The three boxes with which 'LedgerPay' begins. -/
structure PBox (w : World) (a0 a1 : Int) (sl : Value) (x0 x1 : Int) (W : World) : Prop where
 b0 : W.heap[w.heap.size]? = some (.cells #[.int .i64 a0, .int .i64 a1, sl] 32 (0, 0))
 b1 : W.heap[w.heap.size + 1]? = some (.cells #[.int .i64 x0, .int .i64 x1] 29 (0, 0))
 b2 : W.heap[w.heap.size + 2]? = some (.cells #[.int .i64 0, .int .i64 0, .slice none 0 0] 32 (0, 0))
 bel : Below w.heap.size w W
theorem PBox.start (w : World) (a0 a1 : Int) (sl : Value) (x0 x1 : Int) : PBox w a0 a1 sl x0 x1 (((w.alloc (.cells #[.int .i64 a0, .int .i64 a1, sl] 32)).alloc (.cells #[.int .i64 x0, .int .i64 x1] 29)).alloc (.cells #[.int .i64 0, .int .i64 0, .slice none 0 0] 32)) :=
 ⟨(pay_three w _ _ _).1, (pay_three w _ _ _).2.1, (pay_three w _ _ _).2.2, (((Below.refl _ w).alloc (Nat.le_refl _) _).alloc (by simp) _).alloc (by simp; omega) _⟩
theorem PBox.step {w W W' : World} {a0 a1 : Int} {sl : Value} {x0 x1 : Int} (h : PBox w a0 a1 sl x0 x1 W) (hb : Below W.heap.size W W') : PBox w a0 a1 sl x0 x1 W' :=
 ⟨(hb.block _ (pay_lt h.b0)).trans h.b0, (hb.block _ (pay_lt h.b1)).trans h.b1, (hb.block _ (pay_lt h.b2)).trans h.b2, h.bel.trans (hb.mono h.bel.size)⟩
theorem PBox.cells {w W : World} {a0 a1 : Int} {sl : Value} {x0 x1 : Int} (h : PBox w a0 a1 sl x0 x1 W) :
  W.cell? ⟨w.heap.size, 0, none⟩ = some (.int .i64 a0) ∧ W.cell? ⟨w.heap.size, 1, none⟩ = some (.int .i64 a1) ∧ W.cell? ⟨w.heap.size, 2, none⟩ = some sl ∧
  W.cell? ⟨w.heap.size + 1, 0, none⟩ = some (.int .i64 x0) ∧ W.cell? ⟨w.heap.size + 1, 1, none⟩ = some (.int .i64 x1) ∧
  W.cell? ⟨w.heap.size + 2, 0, none⟩ = some (.int .i64 0) ∧ W.cell? ⟨w.heap.size + 2, 1, none⟩ = some (.int .i64 0) ∧ W.cell? ⟨w.heap.size + 2, 2, none⟩ = some (.slice none 0 0) ∧ W.frozen? ⟨w.heap.size + 2, 0, none⟩ = false ∧ W.frozen? ⟨w.heap.size + 2, 1, none⟩ = false ∧ W.frozen? ⟨w.heap.size + 2, 2, none⟩ = false :=
 ⟨pay_cell h.b0 0, pay_cell h.b0 1, pay_cell h.b0 2, pay_cell h.b1 0, pay_cell h.b1 1, pay_cell h.b2 0, pay_cell h.b2 1, pay_cell h.b2 2, pay_frozen h.b2 0, pay_frozen h.b2 1, pay_frozen h.b2 2⟩
theorem PBox.far {w W : World} {a0 a1 : Int} {sl : Value} {x0 x1 : Int} (h : PBox w a0 a1 sl x0 x1 W) (O : Nat) (hO : w.heap.size + 2 < O) (v : Value) : PBox w a0 a1 sl x0 x1 (W.setCell ⟨O, 2, none⟩ v) :=
 ⟨by rw [Below.heap_setCell _ _ _ _ (by show w.heap.size ≠ O; omega)]; exact h.b0, by rw [Below.heap_setCell _ _ _ _ (by show w.heap.size + 1 ≠ O; omega)]; exact h.b1,
 by rw [Below.heap_setCell _ _ _ _ (by show w.heap.size + 2 ≠ O; omega)]; exact h.b2, h.bel.setCell (p := ⟨O, 2, none⟩) (by show w.heap.size ≤ O; omega) v⟩
theorem pay_box (w : World) (o : Obj) (x0 x1 : Int) : ∀ j u, [Value.int .i64 x0, Value.int .i64 x1][j]? = some u → ((w.alloc o).alloc (.cells #[.int .i64 x0, .int .i64 x1] 29)).cell? ((⟨w.heap.size + 1, 0, none⟩ : Addr).add j) = some u := by
 have hy := (pay_two w o (.cells #[.int .i64 x0, .int .i64 x1] 29)).2
 intro j u hu
 rcases j with _ | _ | j
 ·rw [show (⟨w.heap.size + 1, 0, none⟩ : Addr).add 0 = ⟨w.heap.size + 1, 0, none⟩ from rfl, pay_cell hy 0]; exact hu
 ·rw [show (⟨w.heap.size + 1, 0, none⟩ : Addr).add 1 = ⟨w.heap.size + 1, 1, none⟩ from rfl, pay_cell hy 1]; exact hu
 ·simp at hu
theorem pay_onec (x0 x1 : Int) : ∀ u ∈ [Value.int .i64 x0, Value.int .i64 x1], u.oneCell' = true := by
 intro u hu
 rcases List.mem_cons.1 hu with rfl | hu
 ·rfl
 ·obtain rfl := List.mem_singleton.1 hu
  rfl
theorem fcs_snoc (l : List S29) (x0 x1 : Int) : fcs (l ++ [⟨x0, x1⟩]) = fcs l ++ [.int .i64 x0, .int .i64 x1] := by simp [fcs]
theorem lp_app {w w6 w7 : World} {a0 a1 x0 x1 : Int} {sl : Value} {l l2 : List S29} {A6 : Option Addr} {v7 : Value} (HP6 : PBox w a0 a1 sl x0 x1 w6) (hl2 : l2 = l ++ [⟨x0, x1⟩])
  (hown : w7.ownsRow ((w6.alloc (.cells #[.int .i64 a0, .int .i64 a1, .slice A6 l.length l.length] 32)).alloc (.cells #[.int .i64 x0, .int .i64 x1] 29)).heap.size 29 2 v7 (l.length + 1) (fcs l ++ [.int .i64 x0, .int .i64 x1]))
  (hgr : ((w6.alloc (.cells #[.int .i64 a0, .int .i64 a1, .slice A6 l.length l.length] 32)).alloc (.cells #[.int .i64 x0, .int .i64 x1] 29)).grownBy w7 none) :
  ∃ A7 c7, v7 = .slice A7 l2.length c7 ∧ l2.length ≤ c7 ∧ Kd.F k29 w7 (fun k => w6.heap.size + 2 ≤ k) A7 l2.length l2 ∧ PBox w a0 a1 sl x0 x1 w7 ∧ w7.heap[w6.heap.size]? = some (.cells #[.int .i64 a0, .int .i64 a1, .slice A6 l.length l.length] 32 (0, 0)) := by
 have hbw7 := below_grown hgr
 have hO7 := (hbw7.block _ (pay_lt (pay_two w6 _ _).1)).trans (pay_two w6 (.cells #[.int .i64 a0, .int .i64 a1, .slice A6 l.length l.length] 32) (.cells #[.int .i64 x0, .int .i64 x1] 29)).1
 have hown2 : w7.ownsRow ((w6.alloc (.cells #[.int .i64 a0, .int .i64 a1, .slice A6 l.length l.length] 32)).alloc (.cells #[.int .i64 x0, .int .i64 x1] 29)).heap.size 29 2 v7 l2.length (fcs l2) := by
  rw [hl2, List.length_append, fcs_snoc]; exact hown
 have hsz : ((w6.alloc (.cells #[.int .i64 a0, .int .i64 a1, .slice A6 l.length l.length] 32)).alloc (.cells #[.int .i64 x0, .int .i64 x1] 29)).heap.size = w6.heap.size + 2 := by simp
 have hR7 := fcs_own (fun k => w6.heap.size + 2 ≤ k) hown2 (fun k hk => by have := own_base hown2 k hk; omega)
 obtain ⟨A7, c7, e7, hle7, hF7⟩ := Kd.R_V (base' := w6.heap.size) hR7
 exact ⟨A7, c7, e7, hle7, hF7, (HP6.step (((Below.refl _ w6).alloc (Nat.le_refl _) _).alloc (by simp) _)).step hbw7, hO7⟩
section
variable {okf : Int → Int → List S29 → Option Bool} (hok : ∀ (a0 a1 : Int) (A : Option Addr) (c : Nat) (l : List S29) (r : Bool) (w : World), Kd.C k29 w A l.length l → l.length ≤ c → okf a0 a1 l = some r → Calls Try.prog 17 #[.agg #[.int .i64 a0, .int .i64 a1, .slice A l.length c]] w fun e w' => e = .returned (.bool r) ∧ Below w.heap.size w w')
include hok
theorem lp_no1 (a0 a1 x0 x1 : Int) (A : Option Addr) (c : Nat) (l : List S29) (w : World) (hr : Kd.C k29 w A l.length l) (hc : l.length ≤ c) (h1 : okf a0 a1 l = some false) :
  Calls Try.prog 28 #[.agg #[.int .i64 a0, .int .i64 a1, .slice A l.length c], .agg #[.int .i64 x0, .int .i64 x1]] w fun e w' => e = .returned (.tuple #[.agg #[.int .i64 0, .int .i64 0, .slice none 0 0], .bool false]) ∧ Below w.heap.size w w' := by
 have HR := Go.Lib.hid hr
 have HC := Go.Lib.hid hc
 have H1 := Go.Lib.hid h1
 have HOK := Go.Lib.hid hok
 have HS := Go.Lib.hid (PBox.start w a0 a1 (.slice A l.length c) x0 x1)
 clear hr hc h1 hok
 go_enter Try.func28, Try.ntmps28
 go_wp2_with (go_at_call 17; refine (HOK.out a0 a1 A c l false _ (Kd.C_below HR.out HS.out.bel) HC.out H1.out).mono ?_; rintro e w4 ⟨rfl, hb4⟩; have hpb := HS.out.step hb4; obtain ⟨c0, c1, c2, d0, d1, e0, e1, e2, f0, f1, f2⟩ := hpb.cells)
 refine bodyPost_ret (results_ct rfl _ _ (w.heap.size + 2) 32 #[.int .i64 0, .int .i64 0, .slice none 0 0] (0, 0) _ rfl (pay_put3 hpb.b2 _ _ _) Try.underlying32 rfl (by kernel_rfl)) rfl ?_
 exact ⟨rfl, pay_below3 hpb.bel (by omega) _ _ _⟩
theorem lp_no2 (k : Nat) (a0 a1 x0 x1 : Int) (A : Option Addr) (c : Nat) (l : List S29) (w : World) (hr : Kd.C k29 w A l.length l) (hc : l.length ≤ c) (h1 : okf a0 a1 l = some true) (h2 : impl_FracOk.f k x0 x1 = some false) :
  Calls Try.prog 28 #[.agg #[.int .i64 a0, .int .i64 a1, .slice A l.length c], .agg #[.int .i64 x0, .int .i64 x1]] w fun e w' => e = .returned (.tuple #[.agg #[.int .i64 0, .int .i64 0, .slice none 0 0], .bool false]) ∧ Below w.heap.size w w' := by
 have HR := Go.Lib.hid hr
 have HC := Go.Lib.hid hc
 have H1 := Go.Lib.hid h1
 have H2 := Go.Lib.hid h2
 have HOK := Go.Lib.hid hok
 have HS := Go.Lib.hid (PBox.start w a0 a1 (.slice A l.length c) x0 x1)
 clear hr hc h1 h2 hok
 go_enter Try.func28, Try.ntmps28
 go_wp2_with (first | (go_at_call 17; refine (HOK.out a0 a1 A c l true _ (Kd.C_below HR.out HS.out.bel) HC.out H1.out).mono ?_; rintro e w4 ⟨rfl, hb4⟩; have HP4 := Go.Lib.hid (HS.out.step hb4); obtain ⟨-, -, -, d0, d1, -⟩ := HP4.out.cells; clear hb4) | (go_at_call 45; refine (impl_FracOk.calls k x0 x1 false _ H2.out).mono ?_; rintro e w5 ⟨rfl, hb5⟩; have hpb := HP4.out.step hb5; obtain ⟨c0, c1, c2, d0, d1, e0, e1, e2, f0, f1, f2⟩ := hpb.cells))
 refine bodyPost_ret (results_ct rfl _ _ (w.heap.size + 2) 32 #[.int .i64 0, .int .i64 0, .slice none 0 0] (0, 0) _ rfl (pay_put3 hpb.b2 _ _ _) Try.underlying32 rfl (by kernel_rfl)) rfl ?_
 exact ⟨rfl, pay_below3 hpb.bel (by omega) _ _ _⟩
set_option maxHeartbeats 4000000 in
theorem lp_yes (k : Nat) (a0 a1 x0 x1 : Int) (A : Option Addr) (c : Nat) (l : List S29) (w : World) (hr : Kd.C k29 w A l.length l) (hc : l.length ≤ c) (hl : l.length ≤ 100) (h1 : okf a0 a1 l = some true) (h2 : impl_FracOk.f k x0 x1 = some true) (h3 : okf a0 a1 (l ++ [⟨x0, x1⟩]) = some true) :
  Calls Try.prog 28 #[.agg #[.int .i64 a0, .int .i64 a1, .slice A l.length c], .agg #[.int .i64 x0, .int .i64 x1]] w fun e w' => ∃ v2_, e = .returned (.tuple #[.agg #[.int .i64 a0, .int .i64 a1, v2_], .bool true]) ∧ Kd.V k29 29 w' w.heap.size (fun k_ => w.heap.size ≤ k_) v2_ (l ++ [⟨x0, x1⟩]) ∧ Below w.heap.size w w' := by
 obtain ⟨i9, hi9, hz9, hsz9, hby9⟩ := info_parts info29
 obtain ⟨l2, hl2⟩ : ∃ l2, l2 = l ++ [(⟨x0, x1⟩ : S29)] := ⟨_, rfl⟩
 rw [← hl2] at h3 ⊢
 have HL2 := Go.Lib.hid hl2
 have HL := Go.Lib.hid hl
 have HR := Go.Lib.hid hr
 have HC := Go.Lib.hid hc
 have H1 := Go.Lib.hid h1
 have H2 := Go.Lib.hid h2
 have H3 := Go.Lib.hid h3
 have HOK := Go.Lib.hid hok
 have HS := Go.Lib.hid (PBox.start w a0 a1 (.slice A l.length c) x0 x1)
 clear hr hc h1 h2 h3 hok hl2 hl
 go_enter Try.func28, Try.ntmps28
 go_wp2_with (first | (go_at_call 17; refine (HOK.out a0 a1 A7 l2.length l2 true _ (Kd.F_now (Kd.F_far (p := ⟨w6.heap.size, 2, none⟩) HF7.out (fun k hk => by simp at hk ⊢; omega) _)) (Nat.le_refl _) H3.out).mono ?_; rintro e w9 ⟨rfl, hb9⟩; clear o0 o1 o2 q2; have hP9 := (HP7.out.far w6.heap.size hlt6 (.slice A7 l2.length l2.length)).step hb9; have hO9 := (hb9.block w6.heap.size (pay_lt (blk_put (cs := #[.int .i64 a0, .int .i64 a1, .slice A6 l.length l.length]) HO7.out 2 (.slice A7 l2.length l2.length) rfl))).trans (blk_put (cs := #[.int .i64 a0, .int .i64 a1, .slice A6 l.length l.length]) HO7.out 2 (.slice A7 l2.length l2.length) rfl); obtain ⟨-, -, -, -, -, e0, e1, e2, f0, f1, f2⟩ := hP9.cells; have o0 := pay_cell hO9 0; have o1 := pay_cell hO9 1; have o2 := pay_cell hO9 2; simp only [List.getElem?_toArray, setIfInBounds_toArray, set_cons_zero, set_cons_succ, List.getElem?_cons_zero, List.getElem?_cons_succ] at o0 o1 o2; have hF9 := Kd.F_below (Kd.F_far (p := ⟨w6.heap.size, 2, none⟩) HF7.out (fun k hk => by simp at hk ⊢; omega) (.slice A7 l2.length l2.length)) hb9; have HP9 := Go.Lib.hid hP9; have HF9 := Go.Lib.hid hF9; clear hb9 hP9 hO9 hF9) | (go_at_call 17; refine (HOK.out a0 a1 A c l true _ (Kd.C_below HR.out HS.out.bel) HC.out H1.out).mono ?_; rintro e w4 ⟨rfl, hb4⟩; have HP4 := Go.Lib.hid (HS.out.step hb4); obtain ⟨-, -, -, d0, d1, -⟩ := HP4.out.cells; clear hb4) | (go_at_call 45; refine (impl_FracOk.calls k x0 x1 true _ H2.out).mono ?_; rintro e w5 ⟨rfl, hb5⟩; clear d0 d1; have HP5 := Go.Lib.hid (HP4.out.step hb5); obtain ⟨c0, c1, c2, -⟩ := HP5.out.cells; clear hb5) | (go_at_call 50; refine (lcopied_calls a0 a1 A c l _ (Kd.C_below HR.out HP5.out.bel) (by have := HL.out; omega)).mono ?_; rintro e w6 ⟨A6, rfl, hF6, hA6, hb6⟩; clear c0 c1 c2; have HP6 := Go.Lib.hid (HP5.out.step hb6); have d0 := fun o => pay_cell (HP6.out.step ((Below.refl _ w6).alloc (Nat.le_refl _) o)).b1 0; have d1 := fun o => pay_cell (HP6.out.step ((Below.refl _ w6).alloc (Nat.le_refl _) o)).b1 1; simp only [List.getElem?_toArray, List.getElem?_cons_zero, List.getElem?_cons_succ] at d0 d1; have HF6 := Go.Lib.hid hF6; have HA6 := Go.Lib.hid hA6; clear hF6 hA6 hb6) | (at_builtin; refine wpList_append_grows _ rfl _ _ 30 rfl 29 i9 (.agg #[.int .i64 0, .int .i64 0]) 2 16 Try.underlying30 hi9 hz9 hsz9 hby9 rfl (by decide) A6 l.length l.length (fcs l) rfl (fun h => ⟨HA6.out h, HA6.out h⟩) (fcs_length l) (fun b hb => fcs_read (Kd.C_below (Kd.F_now HF6.out) ((below_alloc (Below.refl _ w6) _).alloc (by simp) _)) b hb) ⟨w6.heap.size + 1, 0, none⟩ 1 1 [.int .i64 x0, .int .i64 x1] rfl rfl (pay_box w6 _ x0 x1) (pay_onec x0 x1) (by omega) (by simp only [maxLen]; have := HL.out; omega) (by have := HL.out; omega) ?_; intro v7 w7 hown hgr; obtain ⟨A7, c7, rfl, hle7, hF7, hP7, hO7⟩ := lp_app HP6.out HL2.out hown hgr; clear hown hgr d0 d1; have o0 := pay_cell hO7 0; have o1 := pay_cell hO7 1; have o2 := pay_cell hO7 2; have q2 := pay_frozen hO7 2; simp only [List.getElem?_toArray, List.getElem?_cons_zero, List.getElem?_cons_succ] at o0 o1 o2; have hlt6 := pay_lt HP6.out.b2; have HP7 := Go.Lib.hid hP7; have HO7 := Go.Lib.hid hO7; have HF7 := Go.Lib.hid hF7; clear hP7 hO7 hF7) | (go_at_call 51; refine (lclip_calls A7 l2.length c7 _ hle7).mono ?_; rintro e w8 ⟨rfl, rfl⟩))
 refine bodyPost_ret (results_ct rfl _ _ (w.heap.size + 2) 32 #[.int .i64 a0, .int .i64 a1, .slice A7 l2.length l2.length] (0, 0) _ rfl (pay_put3 HP9.out.b2 _ _ _) Try.underlying32 rfl (by kernel_rfl)) rfl ?_
 exact ⟨_, rfl, Kd.V_mk (Nat.le_refl _) (Kd.F_mono (lF_below (b := w.heap.size + 2) HF9.out (fun k hk => by (try simp at hk); omega) _ _ _) (fun k hk => by (try simp at hk); omega)), pay_below3 HP9.out.bel (by omega) _ _ _⟩
set_option maxHeartbeats 4000000 in
theorem lp_back (k : Nat) (a0 a1 x0 x1 : Int) (A : Option Addr) (c : Nat) (l : List S29) (w : World) (hr : Kd.C k29 w A l.length l) (hc : l.length ≤ c) (hl : l.length ≤ 100) (h1 : okf a0 a1 l = some true) (h2 : impl_FracOk.f k x0 x1 = some true) (h3 : okf a0 a1 (l ++ [⟨x0, x1⟩]) = some false) :
  Calls Try.prog 28 #[.agg #[.int .i64 a0, .int .i64 a1, .slice A l.length c], .agg #[.int .i64 x0, .int .i64 x1]] w fun e w' => ∃ v2_, e = .returned (.tuple #[.agg #[.int .i64 a0, .int .i64 a1, v2_], .bool false]) ∧ Kd.V k29 29 w' w.heap.size (fun k_ => w.heap.size ≤ k_) v2_ (l) ∧ Below w.heap.size w w' := by
 obtain ⟨i9, hi9, hz9, hsz9, hby9⟩ := info_parts info29
 obtain ⟨l2, hl2⟩ : ∃ l2, l2 = l ++ [(⟨x0, x1⟩ : S29)] := ⟨_, rfl⟩
 rw [← hl2] at h3
 have HL2 := Go.Lib.hid hl2
 have HL := Go.Lib.hid hl
 have HR := Go.Lib.hid hr
 have HC := Go.Lib.hid hc
 have H1 := Go.Lib.hid h1
 have H2 := Go.Lib.hid h2
 have H3 := Go.Lib.hid h3
 have HOK := Go.Lib.hid hok
 have HS := Go.Lib.hid (PBox.start w a0 a1 (.slice A l.length c) x0 x1)
 clear hr hc h1 h2 h3 hok hl2 hl
 go_enter Try.func28, Try.ntmps28
 go_wp2_with (first | (go_at_call 17; refine (HOK.out a0 a1 A7 l2.length l2 false _ (Kd.F_now (Kd.F_far (p := ⟨w6.heap.size, 2, none⟩) HF7.out (fun k hk => by simp at hk ⊢; omega) _)) (Nat.le_refl _) H3.out).mono ?_; rintro e w9 ⟨rfl, hb9⟩; clear o0 o1 o2 q2; have hP9 := (HP7.out.far w6.heap.size hlt6 (.slice A7 l2.length l2.length)).step hb9; have hO9 := (hb9.block w6.heap.size (pay_lt (blk_put (cs := #[.int .i64 a0, .int .i64 a1, .slice A6 l.length l.length]) HO7.out 2 (.slice A7 l2.length l2.length) rfl))).trans (blk_put (cs := #[.int .i64 a0, .int .i64 a1, .slice A6 l.length l.length]) HO7.out 2 (.slice A7 l2.length l2.length) rfl); obtain ⟨c0, c1, c2, -⟩ := hP9.cells; have HP9 := Go.Lib.hid hP9; clear hb9 hP9 hO9) | (go_at_call 50; refine (lcopied_calls a0 a1 A c l _ (Kd.C_below HR.out HP9.out.bel) (by have := HL.out; omega)).mono ?_; rintro e w10 ⟨A10, rfl, hF10, hA10, hb10⟩; have hP10 := HP9.out.step hb10; obtain ⟨-, -, -, -, -, e0, e1, e2, f0, f1, f2⟩ := hP10.cells; have hbel9 := HP9.out.bel.size; have hlt9 := pay_lt HP9.out.b2; have HF10 := Go.Lib.hid hF10; have HP10 := Go.Lib.hid hP10; clear hF10 hA10 hb10 hP10) | (go_at_call 17; refine (HOK.out a0 a1 A c l true _ (Kd.C_below HR.out HS.out.bel) HC.out H1.out).mono ?_; rintro e w4 ⟨rfl, hb4⟩; have HP4 := Go.Lib.hid (HS.out.step hb4); obtain ⟨-, -, -, d0, d1, -⟩ := HP4.out.cells; clear hb4) | (go_at_call 45; refine (impl_FracOk.calls k x0 x1 true _ H2.out).mono ?_; rintro e w5 ⟨rfl, hb5⟩; clear d0 d1; have HP5 := Go.Lib.hid (HP4.out.step hb5); obtain ⟨c0, c1, c2, -⟩ := HP5.out.cells; clear hb5) | (go_at_call 50; refine (lcopied_calls a0 a1 A c l _ (Kd.C_below HR.out HP5.out.bel) (by have := HL.out; omega)).mono ?_; rintro e w6 ⟨A6, rfl, hF6, hA6, hb6⟩; clear c0 c1 c2; have HP6 := Go.Lib.hid (HP5.out.step hb6); have d0 := fun o => pay_cell (HP6.out.step ((Below.refl _ w6).alloc (Nat.le_refl _) o)).b1 0; have d1 := fun o => pay_cell (HP6.out.step ((Below.refl _ w6).alloc (Nat.le_refl _) o)).b1 1; simp only [List.getElem?_toArray, List.getElem?_cons_zero, List.getElem?_cons_succ] at d0 d1; have HF6 := Go.Lib.hid hF6; have HA6 := Go.Lib.hid hA6; clear hF6 hA6 hb6) | (at_builtin; refine wpList_append_grows _ rfl _ _ 30 rfl 29 i9 (.agg #[.int .i64 0, .int .i64 0]) 2 16 Try.underlying30 hi9 hz9 hsz9 hby9 rfl (by decide) A6 l.length l.length (fcs l) rfl (fun h => ⟨HA6.out h, HA6.out h⟩) (fcs_length l) (fun b hb => fcs_read (Kd.C_below (Kd.F_now HF6.out) ((below_alloc (Below.refl _ w6) _).alloc (by simp) _)) b hb) ⟨w6.heap.size + 1, 0, none⟩ 1 1 [.int .i64 x0, .int .i64 x1] rfl rfl (pay_box w6 _ x0 x1) (pay_onec x0 x1) (by omega) (by simp only [maxLen]; have := HL.out; omega) (by have := HL.out; omega) ?_; intro v7 w7 hown hgr; obtain ⟨A7, c7, rfl, hle7, hF7, hP7, hO7⟩ := lp_app HP6.out HL2.out hown hgr; clear hown hgr d0 d1; have o0 := pay_cell hO7 0; have o1 := pay_cell hO7 1; have o2 := pay_cell hO7 2; have q2 := pay_frozen hO7 2; simp only [List.getElem?_toArray, List.getElem?_cons_zero, List.getElem?_cons_succ] at o0 o1 o2; have hlt6 := pay_lt HP6.out.b2; have HP7 := Go.Lib.hid hP7; have HO7 := Go.Lib.hid hO7; have HF7 := Go.Lib.hid hF7; clear hP7 hO7 hF7) | (go_at_call 51; refine (lclip_calls A7 l2.length c7 _ hle7).mono ?_; rintro e w8 ⟨rfl, rfl⟩))
 refine bodyPost_ret (results_ct rfl _ _ (w.heap.size + 2) 32 #[.int .i64 a0, .int .i64 a1, .slice A10 l.length l.length] (0, 0) _ rfl (pay_put3 HP10.out.b2 _ _ _) Try.underlying32 rfl (by kernel_rfl)) rfl ?_
 exact ⟨_, rfl, Kd.V_mk (Nat.le_refl _) (Kd.F_mono (lF_below (b := w.heap.size + 2) HF10.out (fun k hk => by (try simp at hk); omega) _ _ _) (fun k hk => by (try simp at hk); omega)), pay_below3 HP10.out.bel (by omega) _ _ _⟩
end
end PayGiv
def impl_LedgerPay.f (k : Nat) (a0_0 a0_1 : Int) (l0_2 : List (S29)) (a1_0 a1_1 : Int) : Option (Int × Int × (List (S29)) × Bool) := (impl_LedgerOk.f k a0_0 a0_1 l0_2).bind fun t => if t = true then ((impl_FracOk.f k a1_0 a1_1).bind fun u => if u = true then (if l0_2.length ≤ 100 then ((impl_LedgerOk.f k a0_0 a0_1 (l0_2 ++ [(⟨a1_0, a1_1⟩ : S29)])).bind fun v => if v = true then some (a0_0, a0_1, l0_2 ++ [(⟨a1_0, a1_1⟩ : S29)], true) else some (a0_0, a0_1, l0_2, false)) else none) else some (0, 0, [], false)) else some (0, 0, [], false)
theorem impl_LedgerPay.mono : ∀ a0 a1 a2 a3 a4 k, LeO (impl_LedgerPay.f k a0 a1 a2 a3 a4) (impl_LedgerPay.f (k + 1) a0 a1 a2 a3 a4) := by
 intro a0 a1 a2 a3 a4 k
 unfold impl_LedgerPay.f
 exact LeO.bind (impl_LedgerOk.mono _ _ _ _) (fun t => LeO.ite (LeO.bind (impl_FracOk.mono _ _ _) (fun u => LeO.ite (LeO.ite (LeO.bind (impl_LedgerOk.mono _ _ _ _) (fun v => LeO.refl _)) (LeO.refl _)) (LeO.refl _))) (LeO.refl _))
theorem impl_LedgerPay.calls (k : Nat) (a0_0 : Int) (a0_1 : Int) (A0_2 : Option Addr) (c0_2 : Nat) (l0_2 : List (S29)) (a1_0 : Int) (a1_1 : Int) (r1 : Int) (r2 : Int) (r3 : List (S29)) (r4 : Bool) (w : World) (hr0_2 : Kd.C k29 w A0_2 l0_2.length l0_2) (hc0_2 : l0_2.length ≤ c0_2) (h : impl_LedgerPay.f k a0_0 a0_1 l0_2 a1_0 a1_1 = some (r1, r2, r3, r4)) :
  Calls Try.prog 28 #[.agg #[.int .i64 a0_0, .int .i64 a0_1, .slice A0_2 l0_2.length c0_2], .agg #[.int .i64 a1_0, .int .i64 a1_1]] w fun e w' => ∃ v2_ : Value, e = .returned (.tuple #[.agg #[.int .i64 r1, .int .i64 r2, v2_], .bool r4]) ∧ Kd.V k29 29 w' w.heap.size (fun k_ => (w.heap.size ≤ k_)) v2_ r3 ∧ Below w.heap.size w w' := by
 have hok : ∀ (a0 a1 : Int) (A : Option Addr) (c : Nat) (l : List S29) (r : Bool) (w : World), Kd.C k29 w A l.length l → l.length ≤ c → impl_LedgerOk.f k a0 a1 l = some r → Calls Try.prog 17 #[.agg #[.int .i64 a0, .int .i64 a1, .slice A l.length c]] w fun e w' => e = .returned (.bool r) ∧ Below w.heap.size w w' :=
  fun a0 a1 A c l r w h1 h2 h3 => impl_LedgerOk.calls k a0 a1 A c l r w h1 h2 h3
 unfold impl_LedgerPay.f at h
 obtain ⟨t, ht, h⟩ := Option.bind_eq_some_iff.1 h
 cases t
 ·obtain ⟨rfl, rfl, rfl, rfl⟩ : 0 = r1 ∧ 0 = r2 ∧ [] = r3 ∧ false = r4 := by simpa using h
  exact (PayGiv.lp_no1 hok a0_0 a0_1 a1_0 a1_1 A0_2 c0_2 l0_2 w hr0_2 hc0_2 ht).mono fun e w' ⟨he, hb⟩ => ⟨_, he, Kd.V_nil _ _ _ _ _, hb⟩
 ·rw [if_pos rfl] at h
  obtain ⟨u, hu, h⟩ := Option.bind_eq_some_iff.1 h
  cases u
  ·obtain ⟨rfl, rfl, rfl, rfl⟩ : 0 = r1 ∧ 0 = r2 ∧ [] = r3 ∧ false = r4 := by simpa using h
   exact (PayGiv.lp_no2 hok k a0_0 a0_1 a1_0 a1_1 A0_2 c0_2 l0_2 w hr0_2 hc0_2 ht hu).mono fun e w' ⟨he, hb⟩ => ⟨_, he, Kd.V_nil _ _ _ _ _, hb⟩
  ·rw [if_pos rfl] at h
   split at h
   ·rename_i hl
    obtain ⟨v, hv, h⟩ := Option.bind_eq_some_iff.1 h
    cases v
    ·obtain ⟨rfl, rfl, rfl, rfl⟩ : a0_0 = r1 ∧ a0_1 = r2 ∧ l0_2 = r3 ∧ false = r4 := by simpa using h
     exact PayGiv.lp_back hok k a0_0 a0_1 a1_0 a1_1 A0_2 c0_2 l0_2 w hr0_2 hc0_2 hl ht hu hv
    ·obtain ⟨rfl, rfl, rfl, rfl⟩ : a0_0 = r1 ∧ a0_1 = r2 ∧ l0_2 ++ [(⟨a1_0, a1_1⟩ : S29)] = r3 ∧ true = r4 := by simpa using h
     exact PayGiv.lp_yes hok k a0_0 a0_1 a1_0 a1_1 A0_2 c0_2 l0_2 w hr0_2 hc0_2 hl ht hu hv
   ·cases h

/-! ### impl_LedgerCan: function 33 -/
def impl_LedgerCan.f (k : Nat) (a0_0 : Int) (a0_1 : Int) (l0_2 : List (S29)) (a1_0 : Int) (a1_1 : Int) : Option (Bool) := (impl_LedgerPay.f k a0_0 a0_1 l0_2 a1_0 a1_1).bind fun bt425 => (some bt425.2.2.2)
theorem impl_LedgerCan.mono : ∀ a0 a1 a2 a3 a4 k, LeO (impl_LedgerCan.f k a0 a1 a2 a3 a4) (impl_LedgerCan.f (k + 1) a0 a1 a2 a3 a4) := by
 intro a0 a1 a2 a3 a4 k
 unfold impl_LedgerCan.f
 repeat' first
   | (with_reducible exact impl_LedgerPay.mono _ _ _ _ _ _)
   | (with_reducible exact LeO.refl _)
   | (with_reducible exact LeO.none _)
   | (with_reducible refine LeO.ite ?_ ?_)
   | (with_reducible refine LeO.bind ?_ (fun _ => ?_))
   | exact impl_LedgerPay.mono _ _ _ _ _ _
   | exact LeO.none _
   | refine LeO.ite ?_ ?_
   | refine LeO.bind ?_ (fun _ => ?_)
set_option maxHeartbeats 8000000 in
set_option maxRecDepth 100000 in
theorem impl_LedgerCan.calls (k : Nat) (a0_0 : Int) (a0_1 : Int) (A0_2 : Option Addr) (c0_2 : Nat) (l0_2 : List (S29)) (a1_0 : Int) (a1_1 : Int) (r : Bool) (w : World) (hr0_2 : Kd.C k29 w A0_2 l0_2.length l0_2) (hc0_2 : l0_2.length ≤ c0_2) (h : impl_LedgerCan.f k a0_0 a0_1 l0_2 a1_0 a1_1 = some r) :
  Calls Try.prog 33 #[.agg #[.int .i64 a0_0, .int .i64 a0_1, .slice A0_2 l0_2.length c0_2], .agg #[.int .i64 a1_0, .int .i64 a1_1]] w fun e w' => e = .returned (.bool r) ∧ Below w.heap.size w w' := by
 have hu32 := Try.underlying32
 have hu29 := Try.underlying29
 have HR0_2 := Aside0.mk hr0_2
 have HC0_2 := Aside0.mk hc0_2
 clear hr0_2 hc0_2
 have HB := yM (Below.refl w.heap.size w)
 have H : ((impl_LedgerPay.f k a0_0 a0_1 l0_2 a1_0 a1_1).bind fun bt425 => (some bt425.2.2.2)) = some r := h
 clear h
 replace H := Option.bind_eq_some_iff.mp H
 obtain ⟨⟨t425, t426, t427, t430⟩, A30, H⟩ := H
 replace H : (some t430) = some r := H
 have A3 := Aside0.mk A30
 clear A30
 obtain rfl := Option.some.inj H
 go_enter Try.func33, Try.ntmps33
 go_wp2_with (first | ((with_reducible refine gate_dst (N := 2) rfl ?_); refine box_event ?hg (N := 2) ?hd (cs := #[.int .i64 a0_0, .int .i64 a0_1, .slice A0_2 l0_2.length c0_2]) (t := 32) ?hr ?_; (case hd => rfl); (case hg => rfl); (case hr => first | (go_simp; done) | (go_simp; rfl)); intro gb423 hg w4 hbox hb; have n0_ := yM (below_step (by repeat (first | (with_reducible first | exact HB.out | apply below_alloc | apply yP | apply below_drew1) | exact HB.out)) hb); have n1_ := yM (hbox); have n2_ := yM ((by rw [hg]; exact (below_size (by repeat (first | (with_reducible first | exact HB.out | apply below_alloc | apply yP | apply below_drew1) | exact HB.out))) : w.heap.size ≤ gb423)); have n3_ := yM ((by rw [hg]; exact (below_size (by repeat (first | (with_reducible first | exact HB.out | apply below_alloc | apply yP | apply below_drew1) | exact HB.out))) : w.heap.size ≤ gb423)); clear HB; have HB := n0_; have BK423 := n1_; have GW423 := n2_; have GE423 := n3_; clear n0_ n1_ n2_ n3_; clear hb hbox hg) | ((with_reducible refine gate_dst (N := 3) rfl ?_); refine box_event ?hg (N := 3) ?hd (cs := #[.int .i64 a1_0, .int .i64 a1_1]) (t := 29) ?hr ?_; (case hd => rfl); (case hg => rfl); (case hr => first | (go_simp; done) | (go_simp; rfl)); intro gb424 hg w5 hbox hb; have n0_ := yM (blk_below (g := gb423) (o := .cells #[.int .i64 a0_0, .int .i64 a0_1, .slice A0_2 l0_2.length c0_2] 32 (0, 0)) (by (with_reducible repeat (first | refine yN ?_ _ | refine yD ?_ | refine yA ?_ _)); exact BK423.out) hb); have n1_ := yM (below_step (by repeat (first | (with_reducible first | exact HB.out | apply below_alloc | apply yP | apply below_drew1 | refine yS ?_ GE423.out) | exact HB.out)) hb); have n2_ := yM (hbox); have n3_ := yM ((by rw [hg]; exact (below_size (by repeat (first | (with_reducible first | exact HB.out | apply below_alloc | apply yP | apply below_drew1 | refine yS ?_ GE423.out) | exact HB.out))) : w.heap.size ≤ gb424)); have n4_ := yM ((by rw [hg]; exact (below_size (by repeat (first | (with_reducible first | exact HB.out | apply below_alloc | apply yP | apply below_drew1 | refine yS ?_ GE423.out) | exact HB.out))) : w.heap.size ≤ gb424)); have n5_ := yM ((by rw [hg]; exact Nat.ne_of_lt (blk_lt (g := gb423) (o := .cells #[.int .i64 a0_0, .int .i64 a0_1, .slice A0_2 l0_2.length c0_2] 32 (0, 0)) (by (with_reducible repeat (first | refine yN ?_ _ | refine yD ?_ | refine yA ?_ _)); exact BK423.out)) : gb423 ≠ gb424)); have n6_ := yM ((by rw [hg]; exact Nat.ne_of_gt (blk_lt (g := gb423) (o := .cells #[.int .i64 a0_0, .int .i64 a0_1, .slice A0_2 l0_2.length c0_2] 32 (0, 0)) (by (with_reducible repeat (first | refine yN ?_ _ | refine yD ?_ | refine yA ?_ _)); exact BK423.out)) : gb424 ≠ gb423)); clear BK423; clear HB; have BK423 := n0_; have HB := n1_; have BK424 := n2_; have GW424 := n3_; have GE424 := n4_; have NB423_424 := n5_; have NB424_423 := n6_; clear n0_ n1_ n2_ n3_ n4_ n5_ n6_; clear hb hbox hg; have hnb6 := NB423_424.out; have hnc6 := NB424_423.out; have hcz7_0 : w5.cell? ⟨gb423, 0, none⟩ = some (.int .i64 a0_0) := (blk_cell BK423.out 0).trans rfl; have hcz7_1 : w5.cell? ⟨gb423, 1, none⟩ = some (.int .i64 a0_1) := (blk_cell BK423.out 1).trans rfl; have hcz7_2 : w5.cell? ⟨gb423, 2, none⟩ = some (.slice A0_2 l0_2.length c0_2) := (blk_cell BK423.out 2).trans rfl; have hfz7_0 := blk_frozen BK423.out 0; have hfz7_1 := blk_frozen BK423.out 1; have hfz7_2 := blk_frozen BK423.out 2; have hcz8_0 : w5.cell? ⟨gb424, 0, none⟩ = some (.int .i64 a1_0) := (blk_cell BK424.out 0).trans rfl; have hcz8_1 : w5.cell? ⟨gb424, 1, none⟩ = some (.int .i64 a1_1) := (blk_cell BK424.out 1).trans rfl; have hfz8_0 := blk_frozen BK424.out 0; have hfz8_1 := blk_frozen BK424.out 1) | ((with_reducible refine gate_callee (f := 28) rfl ?_); refine goesL_ (some 10) rfl rfl Try.func28 (by kernel_rfl) rfl #[.agg #[.int .i64 a0_0, .int .i64 a0_1, .slice A0_2 l0_2.length c0_2], .agg #[.int .i64 a1_0, .int .i64 a1_1]] rfl (by (try simp only [List.map_toArray, List.map_cons, List.map_nil]); first | done | rfl | (simp only [List.length_drop, List.length_take]; rfl)) ?_; (with_reducible refine (impl_LedgerPay.calls k a0_0 a0_1 _ _ l0_2 a1_0 a1_1 t425 t426 t427 t430 _ ?side1 ?side2 A3.out).mono ?_); (case side1 => repeat (first | exact (Kd.C_below HR0_2.out HB.out) | (with_reducible refine Kd.C_alloc ?_ _) | (with_reducible refine Kd.C_drewN ?_ _) | (with_reducible refine Kd.C_drew ?_))); (case side2 => exact HC0_2.out); rintro e w9 ⟨v428, rfl, ho0, hb⟩; refine ⟨_, rfl, ?_⟩; have n0_ := yM (Kd.V_lower (Kd.V_mono (ok' := fun k_ => k_ ≠ gb423 ∧ k_ ≠ gb424) ho0 (fun k_ hk_ => ⟨(Kd.freshB (g := gb423) (o := .cells #[.int .i64 a0_0, .int .i64 a0_1, .slice A0_2 l0_2.length c0_2] 32 (0, 0)) (by (with_reducible repeat (first | refine yN ?_ _ | refine yD ?_ | refine yA ?_ _)); exact BK423.out) k_ hk_), (Kd.freshB (g := gb424) (o := .cells #[.int .i64 a1_0, .int .i64 a1_1] 29 (0, 0)) (by (with_reducible repeat (first | refine yN ?_ _ | refine yD ?_ | refine yA ?_ _)); exact BK424.out) k_ hk_)⟩)) (below_size (by repeat (first | (with_reducible first | exact HB.out | apply below_alloc | apply yP | apply below_drew1 | refine yS ?_ GE423.out | refine yS ?_ GE424.out) | exact HB.out)))); have n1_ := yM (blk_below (g := gb423) (o := .cells #[.int .i64 a0_0, .int .i64 a0_1, .slice A0_2 l0_2.length c0_2] 32 (0, 0)) (by (with_reducible repeat (first | refine yN ?_ _ | refine yD ?_ | refine yA ?_ _)); exact BK423.out) hb); have n2_ := yM (blk_below (g := gb424) (o := .cells #[.int .i64 a1_0, .int .i64 a1_1] 29 (0, 0)) (by (with_reducible repeat (first | refine yN ?_ _ | refine yD ?_ | refine yA ?_ _)); exact BK424.out) hb); have n3_ := yM (below_step (by repeat (first | (with_reducible first | exact HB.out | apply below_alloc | apply yP | apply below_drew1 | refine yS ?_ GE423.out | refine yS ?_ GE424.out) | exact HB.out)) hb); clear BK423; clear BK424; clear HB; have HO429 := n0_; have BK423 := n1_; have BK424 := n2_; have HB := n3_; clear n0_ n1_ n2_ n3_; (try clear hb); (try clear hb2); (try clear hk); (try clear hi); (try clear ho0)) | ((with_reducible refine gate_dst (N := 5) rfl ?_); refine box_event ?hg (N := 5) ?hd (cs := #[.int .i64 0, .int .i64 0, .slice none 0 0]) (t := 32) ?hr ?_; (case hd => rfl); (case hg => rfl); (case hr => first | (go_simp; done) | (go_simp; rfl)); intro gb431 hg w10 hbox hb; have n0_ := yM (Kd.V_below (Kd.V_elderB (by (with_reducible repeat (first | apply Kd.V_alloc | apply Kd.V_drewN | apply Kd.V_drew)); exact HO429.out) gb431 (Nat.le_of_eq hg.symm)) hb); have n1_ := yM (blk_below (g := gb423) (o := .cells #[.int .i64 a0_0, .int .i64 a0_1, .slice A0_2 l0_2.length c0_2] 32 (0, 0)) (by (with_reducible repeat (first | refine yN ?_ _ | refine yD ?_ | refine yA ?_ _)); exact BK423.out) hb); have n2_ := yM (blk_below (g := gb424) (o := .cells #[.int .i64 a1_0, .int .i64 a1_1] 29 (0, 0)) (by (with_reducible repeat (first | refine yN ?_ _ | refine yD ?_ | refine yA ?_ _)); exact BK424.out) hb); have n3_ := yM (below_step (by repeat (first | (with_reducible first | exact HB.out | apply below_alloc | apply yP | apply below_drew1 | refine yS ?_ GE423.out | refine yS ?_ GE424.out) | exact HB.out)) hb); have n4_ := yM (hbox); have n5_ := yM ((by rw [hg]; exact (below_size (by repeat (first | (with_reducible first | exact HB.out | apply below_alloc | apply yP | apply below_drew1 | refine yS ?_ GE423.out | refine yS ?_ GE424.out) | exact HB.out))) : w.heap.size ≤ gb431)); have n6_ := yM ((by rw [hg]; exact (below_size (by repeat (first | (with_reducible first | exact HB.out | apply below_alloc | apply yP | apply below_drew1 | refine yS ?_ GE423.out | refine yS ?_ GE424.out) | exact HB.out))) : w.heap.size ≤ gb431)); have n7_ := yM ((by rw [hg]; exact Nat.ne_of_lt (blk_lt (g := gb423) (o := .cells #[.int .i64 a0_0, .int .i64 a0_1, .slice A0_2 l0_2.length c0_2] 32 (0, 0)) (by (with_reducible repeat (first | refine yN ?_ _ | refine yD ?_ | refine yA ?_ _)); exact BK423.out)) : gb423 ≠ gb431)); have n8_ := yM ((by rw [hg]; exact Nat.ne_of_gt (blk_lt (g := gb423) (o := .cells #[.int .i64 a0_0, .int .i64 a0_1, .slice A0_2 l0_2.length c0_2] 32 (0, 0)) (by (with_reducible repeat (first | refine yN ?_ _ | refine yD ?_ | refine yA ?_ _)); exact BK423.out)) : gb431 ≠ gb423)); have n9_ := yM ((by rw [hg]; exact Nat.ne_of_lt (blk_lt (g := gb424) (o := .cells #[.int .i64 a1_0, .int .i64 a1_1] 29 (0, 0)) (by (with_reducible repeat (first | refine yN ?_ _ | refine yD ?_ | refine yA ?_ _)); exact BK424.out)) : gb424 ≠ gb431)); have n10_ := yM ((by rw [hg]; exact Nat.ne_of_gt (blk_lt (g := gb424) (o := .cells #[.int .i64 a1_0, .int .i64 a1_1] 29 (0, 0)) (by (with_reducible repeat (first | refine yN ?_ _ | refine yD ?_ | refine yA ?_ _)); exact BK424.out)) : gb431 ≠ gb424)); clear HO429; clear BK423; clear BK424; clear HB; have HO429 := n0_; have BK423 := n1_; have BK424 := n2_; have HB := n3_; have BK431 := n4_; have GW431 := n5_; have GE431 := n6_; have NB423_431 := n7_; have NB431_423 := n8_; have NB424_431 := n9_; have NB431_424 := n10_; clear n0_ n1_ n2_ n3_ n4_ n5_ n6_ n7_ n8_ n9_ n10_; clear hb hbox hg; have hnb11 := NB431_423.out; have hnc11 := NB423_431.out; have hnb12 := NB431_424.out; have hnc12 := NB424_431.out; have hcz13_0 : w10.cell? ⟨gb431, 0, none⟩ = some (.int .i64 0) := (blk_cell BK431.out 0).trans rfl; have hcz13_1 : w10.cell? ⟨gb431, 1, none⟩ = some (.int .i64 0) := (blk_cell BK431.out 1).trans rfl; have hcz13_2 : w10.cell? ⟨gb431, 2, none⟩ = some (.slice none 0 0) := (blk_cell BK431.out 2).trans rfl; have hfz13_0 := blk_frozen BK431.out 0; have hfz13_1 := blk_frozen BK431.out 1; have hfz13_2 := blk_frozen BK431.out 2; obtain ⟨Ao14, co14, eo14⟩ := Kd.V_slice HO429.out; subst eo14))
 go_ret
 exact ⟨by first | rfl | (simp [errW_none, errW_some] <;> rfl) | (simp [*, errW_none, errW_some] <;> rfl), by repeat (first | (with_reducible first | exact HB.out | apply below_alloc | apply yP | apply below_drew1 | refine yS ?_ GE423.out | refine yS ?_ GE424.out | refine yS ?_ GE431.out) | exact HB.out)⟩

end Go.Proofs.Ytncngkfgalokoaa.PLed
