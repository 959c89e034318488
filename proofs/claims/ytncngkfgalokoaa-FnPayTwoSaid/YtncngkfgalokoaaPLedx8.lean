-- Written by a program of this session over the kit's printer, with contracts proved by hand; Lean checks it.
import Derived.Test.YtncngkfgalokoaaPLedx0
import Derived.Test.YtncngkfgalokoaaPLedx2
import Derived.Test.YtncngkfgalokoaaPLedx5
import Derived.Test.YtncngkfgalokoaaPLedx7
namespace Go.Proofs.Ytncngkfgalokoaa.PLed
open Go.RowKit Go.Proofs.YtncngkfgalokoaaW.PrintWords Go.Proofs.YtncngkfgalokoaaW.PrintLast Go.Proofs.YtncngkfgalokoaaW.PrintMore
attribute [local go_sem] max2_int min2_int max_two min_two max_three min_three max_four min_four   -- for this text's walks alone
set_option linter.unusedVariables false
set_option linter.unusedSimpArgs false

set_option linter.defProp false
open List (setIfInBounds_toArray set_cons_zero set_cons_succ)
theorem yM {p : Prop} (h : p) : Aside0 p := ⟨h⟩
def yA := @blk_alloc
def yN := @blk_drewN
def yD := @blk_drew
def yS := @below_set
def yF := @keep_far
def yK := @KeepBut.set_
def yP := @pw_below_drewN
def yQ := @keep_drewN
def yR := @keep_alloc
def yI := @IsS73.far
def yJ := @IsS73.set_1
def yL := @IsS73.drewN
def yO := @IsS73.alloc
def yT := @IsS73.drew

/-! ### spec_l92Ledger: function 42 -/
def spec_l92Ledger.l0 : Nat → Int → List Int → Int → Int → Int → List (S29) → Option (Int × Int × (List (S29)) × Int)
 | 0, _, _, _, _, _, _ => none
 | k + 1, x4, x1000, x1001, x224000, x224001, x224002 => if x4 > 0 then ((spec_l6Rd_pick.f k x1000 x1001 3).bind fun bt226 => ((spec_l6Rd_pick.f k x1000 bt226.2 6).bind fun bt228 => ((spec_l31Of.f k (wrap64 (1 + bt226.1)) (wrap64 (1 + bt228.1))).bind fun bt230 => ((spec_LedgerPay.f k x224000 x224001 x224002 bt230.1 bt230.2).bind fun bt232 => (if bt232.2.2.2 = true then (spec_l92Ledger.l0 k (wrap64 (x4 - 1)) x1000 bt228.2 bt232.1 bt232.2.1 bt232.2.2.1) else (spec_l92Ledger.l0 k (wrap64 (x4 - 1)) x1000 bt228.2 x224000 x224001 x224002)))))) else ((spec_l6Rd_pick.f k x1000 x1001 30).bind fun bt239 => (if bt239.1 = 0 then ((spec_l6Rd_pick.f k x1000 bt239.2 3).bind fun bt241 => ((spec_l6Rd_pick.f k x1000 bt241.2 3).bind fun bt243 => (some (bt241.1, wrap64 (1 + bt243.1), x224002, bt243.2)))) else (if bt239.1 = 1 then ((spec_l92Frac.f k x1000 bt239.2).bind fun bt245 => (if x224002.length < 8796093022208 then (some (x224000, x224001, (x224002 ++ [(⟨bt245.1, bt245.2.1⟩ : S29)]), bt245.2.2)) else (none))) else (some (x224000, x224001, x224002, bt239.2)))))
def spec_l92Ledger.f (k : Nat) (s0_0 : List Int) (s0_1 : Int) : Option (Int × Int × (List (S29)) × Int) := (spec_l6Rd_pick.f k s0_0 s0_1 12).bind fun bt214 => ((spec_l6Rd_pick.f k s0_0 bt214.2 4).bind fun bt216 => ((spec_l31Of.f k (wrap64 (1 + bt214.1)) (wrap64 (1 + bt216.1))).bind fun bt218 => ((spec_l6Rd_pick.f k s0_0 bt216.2 6).bind fun bt224 => (spec_l92Ledger.l0 k bt224.1 s0_0 bt224.2 bt218.1 bt218.2 (([] : List (S29)))))))
theorem spec_l92Ledger.mono_l : ∀ k, (∀ y0 y1 y2 y3 y4 y5, LeO (spec_l92Ledger.l0 k y0 y1 y2 y3 y4 y5) (spec_l92Ledger.l0 (k + 1) y0 y1 y2 y3 y4 y5))
 | 0 => fun _ _ _ _ _ _ r h => by simp [spec_l92Ledger.l0] at h
 | k + 1 => by
  have ih0 := spec_l92Ledger.mono_l k
  ·intro y0 y1 y2 y3 y4 y5
   unfold spec_l92Ledger.l0
   repeat' first
   | (with_reducible exact ih0 _ _ _ _ _ _)
   | (with_reducible exact spec_LedgerPay.mono _ _ _ _ _ _)
   | (with_reducible exact spec_l31Of.mono _ _ _)
   | (with_reducible exact spec_l6Rd_pick.mono _ _ _ _)
   | (with_reducible exact spec_l92Frac.mono _ _ _)
   | (with_reducible exact LeO.refl _)
   | (with_reducible exact LeO.none _)
   | (with_reducible refine LeO.ite ?_ ?_)
   | (with_reducible refine LeO.bind ?_ (fun _ => ?_))
   | exact ih0 _ _ _ _ _ _
   | exact spec_LedgerPay.mono _ _ _ _ _ _
   | exact spec_l31Of.mono _ _ _
   | exact spec_l6Rd_pick.mono _ _ _ _
   | exact spec_l92Frac.mono _ _ _
   | exact LeO.none _
   | refine LeO.ite ?_ ?_
   | refine LeO.bind ?_ (fun _ => ?_)
theorem spec_l92Ledger.mono : ∀ a0 a1 k, LeO (spec_l92Ledger.f k a0 a1) (spec_l92Ledger.f (k + 1) a0 a1) := by
 intro a0 a1 k
 have ih0 := spec_l92Ledger.mono_l k
 unfold spec_l92Ledger.f
 repeat' first
   | (with_reducible exact ih0 _ _ _ _ _ _)
   | (with_reducible exact spec_LedgerPay.mono _ _ _ _ _ _)
   | (with_reducible exact spec_l31Of.mono _ _ _)
   | (with_reducible exact spec_l6Rd_pick.mono _ _ _ _)
   | (with_reducible exact spec_l92Frac.mono _ _ _)
   | (with_reducible exact LeO.refl _)
   | (with_reducible exact LeO.none _)
   | (with_reducible refine LeO.ite ?_ ?_)
   | (with_reducible refine LeO.bind ?_ (fun _ => ?_))
   | exact ih0 _ _ _ _ _ _
   | exact spec_LedgerPay.mono _ _ _ _ _ _
   | exact spec_l31Of.mono _ _ _
   | exact spec_l6Rd_pick.mono _ _ _ _
   | exact spec_l92Frac.mono _ _ _
   | exact LeO.none _
   | refine LeO.ite ?_ ?_
   | refine LeO.bind ?_ (fun _ => ?_)
def spec_l92Ledger.T5 : Bool × List (List Nat × List Nat) := (true, [([], []), ([], []), ([1], [1]), ([2], [2]), ([], []), ([4, 2], [4]), ([5], [5]), ([3, 6, 5], [3, 6]), ([0, 7, 7], [0, 7]), ([8], [8]), ([9], [9]), ([9], [9]), ([], []), ([12, 10, 8, 0, 1, 2, 3, 4, 5, 6, 7, 8, 9, 10, 12], [10, 12]), ([11, 13, 0, 1, 2, 3, 4, 5, 6, 7, 8, 9, 10, 11, 12, 13], [11])])
def spec_l92Ledger.B5 : List Nat := [0, 0, 2, 6, 0, 22, 54, 126, 255, 511, 1023, 1023, 0, 6143, 16383]
theorem spec_l92Ledger.tab5 : rtab .any (opsOf Try.f42 5) = spec_l92Ledger.T5 := by kernel_rfl
theorem spec_l92Ledger.bits5 : waitsOk spec_l92Ledger.T5.2 spec_l92Ledger.B5 = true := by kernel_rfl
def spec_l92Ledger.T12 : Bool × List (List Nat × List Nat) := (true, [([], []), ([0], [0]), ([], []), ([2], [2]), ([3], [3]), ([1, 4, 3], [1, 4]), ([0, 1, 2, 3, 4, 5], []), ([6, 5, 5, 0, 1, 2, 3, 4, 5], [5, 6])])
def spec_l92Ledger.B12 : List Nat := [0, 1, 0, 4, 12, 31, 63, 127]
theorem spec_l92Ledger.tab12 : rtab .any (opsOf Try.f42 12) = spec_l92Ledger.T12 := by kernel_rfl
theorem spec_l92Ledger.bits12 : waitsOk spec_l92Ledger.T12.2 spec_l92Ledger.B12 = true := by kernel_rfl
set_option maxHeartbeats 8000000 in
set_option maxRecDepth 100000 in
theorem spec_l92Ledger.calls (k : Nat) (g : Nat) (s0_0 : List Int) (s0_1 : Int) (r1 : Int) (r2 : Int) (r3 : List (S29)) (r4 : Int) (w0 w : World) (hI : IsS73 w0 w g s0_0 s0_1) (hB : Below w0.heap.size w0 w) (h : spec_l92Ledger.f k s0_0 s0_1 = some (r1, r2, r3, r4)) :
  Calls Try.prog 42 #[.pointer (some ⟨g, 0, none⟩)] w fun e w' => ∃ v2_ : Value, e = .returned (.agg #[.int .i64 r1, .int .i64 r2, v2_]) ∧ Kd.R k29 29 w' w.heap.size (fun _ => True) v2_ r3 ∧ IsS73 w0 w' g s0_0 r4 ∧ Below w0.heap.size w0 w' ∧ KeepBut w w' g none := by
 have hu32 := Try.underlying32
 have hu29 := Try.underlying29
 have HI0 := Aside0.mk hI
 have HK := yM (KeepBut.refl w g none)
 have HL := Aside0.mk hB.size
 clear hI
 have HW0 := Aside0.mk hB.size
 have HB := Aside0.mk hB
 clear hB
 have H : ((spec_l6Rd_pick.f k s0_0 s0_1 12).bind fun bt214 => ((spec_l6Rd_pick.f k s0_0 bt214.2 4).bind fun bt216 => ((spec_l31Of.f k (wrap64 (1 + bt214.1)) (wrap64 (1 + bt216.1))).bind fun bt218 => ((spec_l6Rd_pick.f k s0_0 bt216.2 6).bind fun bt224 => (spec_l92Ledger.l0 k bt224.1 s0_0 bt224.2 bt218.1 bt218.2 (([] : List (S29)))))))) = some (r1, r2, r3, r4) := h
 clear h
 replace H := Option.bind_eq_some_iff.mp H
 obtain ⟨⟨t214, t215⟩, A20, H⟩ := H
 replace H : ((spec_l6Rd_pick.f k s0_0 t215 4).bind fun bt216 => ((spec_l31Of.f k (wrap64 (1 + t214)) (wrap64 (1 + bt216.1))).bind fun bt218 => ((spec_l6Rd_pick.f k s0_0 bt216.2 6).bind fun bt224 => (spec_l92Ledger.l0 k bt224.1 s0_0 bt224.2 bt218.1 bt218.2 (([] : List (S29))))))) = some (r1, r2, r3, r4) := H
 have A2 := Aside0.mk A20
 clear A20
 replace H := Option.bind_eq_some_iff.mp H
 obtain ⟨⟨t216, t217⟩, A30, H⟩ := H
 replace H : ((spec_l31Of.f k (wrap64 (1 + t214)) (wrap64 (1 + t216))).bind fun bt218 => ((spec_l6Rd_pick.f k s0_0 t217 6).bind fun bt224 => (spec_l92Ledger.l0 k bt224.1 s0_0 bt224.2 bt218.1 bt218.2 (([] : List (S29)))))) = some (r1, r2, r3, r4) := H
 have A3 := Aside0.mk A30
 clear A30
 replace H := Option.bind_eq_some_iff.mp H
 obtain ⟨⟨t218, t219⟩, A40, H⟩ := H
 replace H : ((spec_l6Rd_pick.f k s0_0 t217 6).bind fun bt224 => (spec_l92Ledger.l0 k bt224.1 s0_0 bt224.2 t218 t219 (([] : List (S29))))) = some (r1, r2, r3, r4) := H
 have A4 := Aside0.mk A40
 clear A40
 obtain ⟨y220, hy220⟩ : ∃ y_ : List (S29), y_ = (([] : List (S29))) := ⟨_, rfl⟩
 replace H : ((spec_l6Rd_pick.f k s0_0 t217 6).bind fun bt224 => (spec_l92Ledger.l0 k bt224.1 s0_0 bt224.2 t218 t219 y220)) = some (r1, r2, r3, r4) := by first | (rw [hy220]; with_reducible exact H) | (have H2_ := (Option.bind_some _ _).symm.trans H; rw [hy220]; with_reducible exact H2_) | (have H2_ := (Option.bind_some _ _).symm.trans H; with_reducible exact H2_) | with_reducible exact H | (rw [hy220]; exact H) | exact H
 have Ny220 := Aside0.mk hy220
 clear hy220
 replace H := Option.bind_eq_some_iff.mp H
 obtain ⟨⟨t224, t225⟩, A50, H⟩ := H
 replace H : (spec_l92Ledger.l0 k t224 s0_0 t225 t218 t219 y220) = some (r1, r2, r3, r4) := H
 have A5 := Aside0.mk A50
 clear A50
 have H' := Aside0.mk H
 clear H
 go_enter Try.func42, Try.ntmps42
 go_wp2_with (first | ((with_reducible refine gate_dst (N := 2) rfl ?_); refine box_event ?hg (N := 2) ?hd (cs := #[.int .i64 0, .int .i64 0, .slice none 0 0]) (t := 32) ?hr ?_; (case hd => rfl); (case hg => rfl); (case hr => first | (go_simp; done) | (go_simp; rfl)); intro gb213 hg w6 hbox hb; have n0_ := yM (IsS73.below (by repeat (first | (with_reducible first | exact HI0.out | apply yO | apply yL | apply yT | apply yJ) | exact HI0.out)) hb); have n1_ := yM (KeepBut.trans (by repeat (first | (with_reducible first | exact HK.out | apply yK | apply yQ | apply keep_drew | apply yR) | exact HK.out)) (KeepBut.of_below hb g none) (.inl rfl)); have n2_ := yM (below_step (by repeat (first | (with_reducible first | exact HB.out | apply below_alloc | apply yP | apply below_drew1 | refine yS ?_ (IsS73.ge HI0.out)) | exact HB.out)) hb); have n3_ := yM (hbox); have n4_ := yM ((by rw [hg]; exact (keep_size (w := w) (g := g) (row := none) (by repeat (first | (with_reducible first | exact HK.out | apply yK | apply yQ | apply keep_drew | apply yR) | exact HK.out))) : w.heap.size ≤ gb213)); have n5_ := yM ((Nat.le_trans HW0.out (by rw [hg]; exact (keep_size (w := w) (g := g) (row := none) (by repeat (first | (with_reducible first | exact HK.out | apply yK | apply yQ | apply keep_drew | apply yR) | exact HK.out))) : w.heap.size ≤ gb213) : w0.heap.size ≤ gb213)); have n6_ := yM ((by rw [hg]; exact Nat.ne_of_lt (IsS73.lt (show IsS73 w0 _ g s0_0 s0_1 from by repeat (first | (with_reducible first | exact HI0.out | apply yO | apply yL | apply yT | apply yJ) | exact HI0.out))) : g ≠ gb213)); have n7_ := yM ((by rw [hg]; exact Nat.ne_of_gt (IsS73.lt (show IsS73 w0 _ g s0_0 s0_1 from by repeat (first | (with_reducible first | exact HI0.out | apply yO | apply yL | apply yT | apply yJ) | exact HI0.out))) : gb213 ≠ g)); clear HI0; clear HK; clear HB; have HI0 := n0_; have HK := n1_; have HB := n2_; have BK213 := n3_; have GW213 := n4_; have GE213 := n5_; have NB0_213 := n6_; have NB213_0 := n7_; clear n0_ n1_ n2_ n3_ n4_ n5_ n6_ n7_; clear hb hbox hg) | ((with_reducible refine gate_callee (f := 43) rfl ?_); refine goesL_ (some 8) rfl rfl Try.func43 (by kernel_rfl) rfl #[.pointer (some ⟨g, 0, none⟩), .int .i64 12] rfl (by (try simp only [List.map_toArray, List.map_cons, List.map_nil]); first | done | rfl | (simp only [List.length_drop, List.length_take]; rfl)) ?_; (with_reducible refine (spec_l6Rd_pick.calls k g s0_0 s0_1 12 t214 t215 w0 _ ?side1 ?side2 A2.out).mono ?_); (case side1 => repeat (first | (with_reducible first | exact HI0.out | apply yO | apply yL | apply yT | apply yJ | refine yI ?_ NB0_213.out _) | exact HI0.out)); (case side2 => repeat (first | (with_reducible first | exact HB.out | apply below_alloc | apply yP | apply below_drew1 | refine yS ?_ (IsS73.ge HI0.out) | refine yS ?_ GE213.out) | exact HB.out)); rintro e w7 ⟨rfl, hi, hb, hk⟩; refine ⟨_, rfl, ?_⟩; have n0_ := yM (KeepBut.blk hk (g' := gb213) (o := .cells #[.int .i64 0, .int .i64 0, .slice none 0 0] 32 (0, 0)) (by (with_reducible repeat (first | refine yN ?_ _ | refine yD ?_ | refine yA ?_ _)); exact BK213.out) NB213_0.out (by simp)); have n1_ := yM (KeepBut.trans (by repeat (first | (with_reducible first | exact HK.out | apply yK | apply yQ | apply keep_drew | apply yR | refine yF ?_ GW213.out _) | exact HK.out)) hk (.inl rfl)); have n2_ := yM (hb); have n3_ := yM (hi); clear BK213; clear HK; clear HB; clear HI0; have BK213 := n0_; have HK := n1_; have HB := n2_; have HI0 := n3_; clear n0_ n1_ n2_ n3_; (try clear hb); (try clear hb2); (try clear hk); (try clear hi)) | ((with_reducible refine gate_callee (f := 43) rfl ?_); refine goesL_ (some 11) rfl rfl Try.func43 (by kernel_rfl) rfl #[.pointer (some ⟨g, 0, none⟩), .int .i64 4] rfl (by (try simp only [List.map_toArray, List.map_cons, List.map_nil]); first | done | rfl | (simp only [List.length_drop, List.length_take]; rfl)) ?_; (with_reducible refine (spec_l6Rd_pick.calls k g s0_0 t215 4 t216 t217 w0 _ ?side1 ?side2 A3.out).mono ?_); (case side1 => repeat (first | (with_reducible first | exact HI0.out | apply yO | apply yL | apply yT | apply yJ | refine yI ?_ NB0_213.out _) | exact HI0.out)); (case side2 => repeat (first | (with_reducible first | exact HB.out | apply below_alloc | apply yP | apply below_drew1 | refine yS ?_ (IsS73.ge HI0.out) | refine yS ?_ GE213.out) | exact HB.out)); rintro e w8 ⟨rfl, hi, hb, hk⟩; refine ⟨_, rfl, ?_⟩; have n0_ := yM (KeepBut.blk hk (g' := gb213) (o := .cells #[.int .i64 0, .int .i64 0, .slice none 0 0] 32 (0, 0)) (by (with_reducible repeat (first | refine yN ?_ _ | refine yD ?_ | refine yA ?_ _)); exact BK213.out) NB213_0.out (by simp)); have n1_ := yM (KeepBut.trans (by repeat (first | (with_reducible first | exact HK.out | apply yK | apply yQ | apply keep_drew | apply yR | refine yF ?_ GW213.out _) | exact HK.out)) hk (.inl rfl)); have n2_ := yM (hb); have n3_ := yM (hi); clear BK213; clear HK; clear HB; clear HI0; have BK213 := n0_; have HK := n1_; have HB := n2_; have HI0 := n3_; clear n0_ n1_ n2_ n3_; (try clear hb); (try clear hb2); (try clear hk); (try clear hi)) | ((with_reducible refine gate_callee (f := 56) rfl ?_); refine goesL_ (some 13) rfl rfl Try.func56 (by kernel_rfl) rfl #[.int .i64 (wrap64 (1 + t214)), .int .i64 (wrap64 (1 + t216))] rfl (by (try simp only [List.map_toArray, List.map_cons, List.map_nil]); first | done | rfl | (simp only [List.length_drop, List.length_take]; rfl)) ?_; (with_reducible refine (spec_l31Of.calls k (wrap64 (1 + t214)) (wrap64 (1 + t216)) t218 t219 _ A4.out).mono ?_); rintro e w9 ⟨rfl, hb⟩; refine ⟨_, rfl, ?_⟩; have n0_ := yM (IsS73.below (by repeat (first | (with_reducible first | exact HI0.out | apply yO | apply yL | apply yT | apply yJ | refine yI ?_ NB0_213.out _) | exact HI0.out)) hb); have n1_ := yM (blk_below (g := gb213) (o := .cells #[.int .i64 0, .int .i64 0, .slice none 0 0] 32 (0, 0)) (by (with_reducible repeat (first | refine yN ?_ _ | refine yD ?_ | refine yA ?_ _)); exact BK213.out) hb); have n2_ := yM (KeepBut.trans (by repeat (first | (with_reducible first | exact HK.out | apply yK | apply yQ | apply keep_drew | apply yR | refine yF ?_ GW213.out _) | exact HK.out)) (KeepBut.of_below hb g none) (.inl rfl)); have n3_ := yM (below_step (by repeat (first | (with_reducible first | exact HB.out | apply below_alloc | apply yP | apply below_drew1 | refine yS ?_ (IsS73.ge HI0.out) | refine yS ?_ GE213.out) | exact HB.out)) hb); clear HI0; clear BK213; clear HK; clear HB; have HI0 := n0_; have BK213 := n1_; have HK := n2_; have HB := n3_; clear n0_ n1_ n2_ n3_; (try clear hb); (try clear hb2); (try clear hk); (try clear hi)) | ((with_reducible refine gate_dst (N := 14) rfl ?_); refine Kd.R_lit k29 _ 29 ?hg (N := 14) ?hd (xs := ([] : List (S29))) (inner := []) (ok := fun _ => True) (okp := fun _ => True) ?hr ?hp (fun _ hk => hk) trivial (Below.refl _ _) (Nat.le_refl _) (by simp) ?_; (case hd => rfl); (case hg => rfl); (case hr => first | (go_simp; done) | (go_simp; rfl)); (case hp => exact (Reps.none _ _)); intro v221 w10 ho11 hb hg_ hnew_; clear hg_ hnew_; (first | rw [← Ny220.out] at ho11 | (simp only [Int.reduceToNat] at ho11; rw [← Ny220.out] at ho11)); have n0_ := yM (Kd.R_lower ho11 (keep_size (w := w) (g := g) (row := none) (by repeat (first | (with_reducible first | exact HK.out | apply yK | apply yQ | apply keep_drew | apply yR | refine yF ?_ GW213.out _) | exact HK.out)))); have n1_ := yM (IsS73.below (by repeat (first | (with_reducible first | exact HI0.out | apply yO | apply yL | apply yT | apply yJ | refine yI ?_ NB0_213.out _) | exact HI0.out)) hb); have n2_ := yM (blk_below (g := gb213) (o := .cells #[.int .i64 0, .int .i64 0, .slice none 0 0] 32 (0, 0)) (by (with_reducible repeat (first | refine yN ?_ _ | refine yD ?_ | refine yA ?_ _)); exact BK213.out) hb); have n3_ := yM (KeepBut.trans (by repeat (first | (with_reducible first | exact HK.out | apply yK | apply yQ | apply keep_drew | apply yR | refine yF ?_ GW213.out _) | exact HK.out)) (KeepBut.of_below hb g none) (.inl rfl)); have n4_ := yM (below_step (by repeat (first | (with_reducible first | exact HB.out | apply below_alloc | apply yP | apply below_drew1 | refine yS ?_ (IsS73.ge HI0.out) | refine yS ?_ GE213.out) | exact HB.out)) hb); clear HI0; clear BK213; clear HK; clear HB; have HO222 := n0_; have HI0 := n1_; have BK213 := n2_; have HK := n3_; have HB := n4_; clear n0_ n1_ n2_ n3_ n4_; clear hb ho11; obtain ⟨Ao12, co12, eo12⟩ := Kd.R_slice HO222.out; subst eo12) | ((with_reducible refine gate_dst (N := 3) rfl ?_); refine box_event ?hg (N := 3) ?hd (cs := #[.int .i64 0, .int .i64 0, .slice none 0 0]) (t := 32) ?hr ?_; (case hd => rfl); (case hg => rfl); (case hr => first | (go_simp; done) | (go_simp; rfl)); intro gb223 hg w13 hbox hb; have n0_ := yM (Kd.R_below (by (with_reducible repeat (first | apply Kd.R_alloc | apply Kd.R_drewN | apply Kd.R_drew)); exact HO222.out) hb); have n1_ := yM (IsS73.below (by repeat (first | (with_reducible first | exact HI0.out | apply yO | apply yL | apply yT | apply yJ | refine yI ?_ NB0_213.out _) | exact HI0.out)) hb); have n2_ := yM (blk_below (g := gb213) (o := .cells #[.int .i64 0, .int .i64 0, .slice none 0 0] 32 (0, 0)) (by (with_reducible repeat (first | refine yN ?_ _ | refine yD ?_ | refine yA ?_ _)); exact BK213.out) hb); have n3_ := yM (KeepBut.trans (by repeat (first | (with_reducible first | exact HK.out | apply yK | apply yQ | apply keep_drew | apply yR | refine yF ?_ GW213.out _) | exact HK.out)) (KeepBut.of_below hb g none) (.inl rfl)); have n4_ := yM (below_step (by repeat (first | (with_reducible first | exact HB.out | apply below_alloc | apply yP | apply below_drew1 | refine yS ?_ (IsS73.ge HI0.out) | refine yS ?_ GE213.out) | exact HB.out)) hb); have n5_ := yM (hbox); have n6_ := yM ((by rw [hg]; exact (keep_size (w := w) (g := g) (row := none) (by repeat (first | (with_reducible first | exact HK.out | apply yK | apply yQ | apply keep_drew | apply yR | refine yF ?_ GW213.out _) | exact HK.out))) : w.heap.size ≤ gb223)); have n7_ := yM ((Nat.le_trans HW0.out (by rw [hg]; exact (keep_size (w := w) (g := g) (row := none) (by repeat (first | (with_reducible first | exact HK.out | apply yK | apply yQ | apply keep_drew | apply yR | refine yF ?_ GW213.out _) | exact HK.out))) : w.heap.size ≤ gb223) : w0.heap.size ≤ gb223)); have n8_ := yM ((by rw [hg]; exact Nat.ne_of_lt (blk_lt (g := gb213) (o := .cells #[.int .i64 0, .int .i64 0, .slice none 0 0] 32 (0, 0)) (by (with_reducible repeat (first | refine yN ?_ _ | refine yD ?_ | refine yA ?_ _)); exact BK213.out)) : gb213 ≠ gb223)); have n9_ := yM ((by rw [hg]; exact Nat.ne_of_gt (blk_lt (g := gb213) (o := .cells #[.int .i64 0, .int .i64 0, .slice none 0 0] 32 (0, 0)) (by (with_reducible repeat (first | refine yN ?_ _ | refine yD ?_ | refine yA ?_ _)); exact BK213.out)) : gb223 ≠ gb213)); have n10_ := yM ((by rw [hg]; exact Nat.ne_of_lt (IsS73.lt (show IsS73 w0 _ g s0_0 t217 from by repeat (first | (with_reducible first | exact HI0.out | apply yO | apply yL | apply yT | apply yJ | refine yI ?_ NB0_213.out _) | exact HI0.out))) : g ≠ gb223)); have n11_ := yM ((by rw [hg]; exact Nat.ne_of_gt (IsS73.lt (show IsS73 w0 _ g s0_0 t217 from by repeat (first | (with_reducible first | exact HI0.out | apply yO | apply yL | apply yT | apply yJ | refine yI ?_ NB0_213.out _) | exact HI0.out))) : gb223 ≠ g)); clear HO222; clear HI0; clear BK213; clear HK; clear HB; have HO222 := n0_; have HI0 := n1_; have BK213 := n2_; have HK := n3_; have HB := n4_; have BK223 := n5_; have GW223 := n6_; have GE223 := n7_; have NB213_223 := n8_; have NB223_213 := n9_; have NB0_223 := n10_; have NB223_0 := n11_; clear n0_ n1_ n2_ n3_ n4_ n5_ n6_ n7_ n8_ n9_ n10_ n11_; clear hb hbox hg; have hnb14 := NB223_213.out; have hnc14 := NB213_223.out; have hnb15 := NB223_0.out; have hnc15 := NB0_223.out; have hcz16_0 : w13.cell? ⟨gb223, 0, none⟩ = some (.int .i64 0) := (blk_cell BK223.out 0).trans rfl; have hcz16_1 : w13.cell? ⟨gb223, 1, none⟩ = some (.int .i64 0) := (blk_cell BK223.out 1).trans rfl; have hcz16_2 : w13.cell? ⟨gb223, 2, none⟩ = some (.slice none 0 0) := (blk_cell BK223.out 2).trans rfl; have hfz16_0 := blk_frozen BK223.out 0; have hfz16_1 := blk_frozen BK223.out 1; have hfz16_2 := blk_frozen BK223.out 2) | ((with_reducible refine gate_callee (f := 43) rfl ?_); refine goesL_ (some 17) rfl rfl Try.func43 (by kernel_rfl) rfl #[.pointer (some ⟨g, 0, none⟩), .int .i64 6] rfl (by (try simp only [List.map_toArray, List.map_cons, List.map_nil]); first | done | rfl | (simp only [List.length_drop, List.length_take]; rfl)) ?_; (with_reducible refine (spec_l6Rd_pick.calls k g s0_0 t217 6 t224 t225 w0 _ ?side1 ?side2 A5.out).mono ?_); (case side1 => repeat (first | (with_reducible first | exact HI0.out | apply yO | apply yL | apply yT | apply yJ | refine yI ?_ NB0_213.out _ | refine yI ?_ NB0_223.out _) | exact HI0.out)); (case side2 => repeat (first | (with_reducible first | exact HB.out | apply below_alloc | apply yP | apply below_drew1 | refine yS ?_ (IsS73.ge HI0.out) | refine yS ?_ GE213.out | refine yS ?_ GE223.out) | exact HB.out)); rintro e w17 ⟨rfl, hi, hb, hk⟩; refine ⟨_, rfl, ?_⟩; have n0_ := yM (KeepBut.blk hk (g' := gb213) (o := .cells #[.int .i64 0, .int .i64 0, .slice none 0 0] 32 (0, 0)) (by (with_reducible repeat (first | refine yN ?_ _ | refine yD ?_ | refine yA ?_ _)); refine blk_far ?_ NB213_223.out _; (with_reducible repeat (first | refine yN ?_ _ | refine yD ?_ | refine yA ?_ _)); refine blk_far ?_ NB213_223.out _; (with_reducible repeat (first | refine yN ?_ _ | refine yD ?_ | refine yA ?_ _)); refine blk_far ?_ NB213_223.out _; (with_reducible repeat (first | refine yN ?_ _ | refine yD ?_ | refine yA ?_ _)); exact BK213.out) NB213_0.out (by simp)); have n1_ := yM (Kd.R_mono (Kd.R_keep (IsS73.apart (show IsS73 w0 _ g s0_0 t217 from by repeat (first | (with_reducible first | exact HI0.out | apply yO | apply yL | apply yT | apply yJ | refine yI ?_ NB0_213.out _ | refine yI ?_ NB0_223.out _) | exact HI0.out)) (by (with_reducible repeat (first | apply Kd.R_alloc | apply Kd.R_drewN | apply Kd.R_drew)); exact (Kd.R_mono (Kd.R_far (p := ⟨gb223, 2, none⟩) (Kd.R_far (p := ⟨gb223, 1, none⟩) (Kd.R_far (p := ⟨gb223, 0, none⟩) (Kd.R_types HO222.out BK223.out (by decide)) (fun _ hk => hk.2) (.int .i64 t218)) (fun _ hk => hk.2) (.int .i64 t219)) (fun _ hk => hk.2) (.slice Ao12 y220.length co12)) (fun _ h_ => h_.1))) (by decide)) hk (fun _ h => h.2)) (fun _ h => h.1)); have n2_ := yM (KeepBut.blk hk (g' := gb223) (o := .cells #[.int .i64 t218, .int .i64 t219, .slice Ao12 y220.length co12] 32 (0, 0)) (by (with_reducible repeat (first | refine yN ?_ _ | refine yD ?_ | refine yA ?_ _)); refine blk_put (cs := #[.int .i64 t218, .int .i64 t219, .slice none 0 0]) ?_ 2 _ rfl; (with_reducible repeat (first | refine yN ?_ _ | refine yD ?_ | refine yA ?_ _)); refine blk_put (cs := #[.int .i64 t218, .int .i64 0, .slice none 0 0]) ?_ 1 _ rfl; (with_reducible repeat (first | refine yN ?_ _ | refine yD ?_ | refine yA ?_ _)); refine blk_put (cs := #[.int .i64 0, .int .i64 0, .slice none 0 0]) ?_ 0 _ rfl; (with_reducible repeat (first | refine yN ?_ _ | refine yD ?_ | refine yA ?_ _)); exact BK223.out) NB223_0.out (by simp)); have n3_ := yM (KeepBut.trans (by repeat (first | (with_reducible first | exact HK.out | apply yK | apply yQ | apply keep_drew | apply yR | refine yF ?_ GW213.out _ | refine yF ?_ GW223.out _) | exact HK.out)) hk (.inl rfl)); have n4_ := yM (hb); have n5_ := yM (hi); clear BK213; clear HO222; clear BK223; clear HK; clear HB; clear HI0; have BK213 := n0_; have HO222 := n1_; have BK223 := n2_; have HK := n3_; have HB := n4_; have HI0 := n5_; clear n0_ n1_ n2_ n3_ n4_ n5_; (try clear hb); (try clear hb2); (try clear hk); (try clear hi)))
 go_loopg [4] k (fun kq v4 w' => ∃ (x4_1 : Int) (x1001_1 : Int) (xa_1 : Int) (xb_1 : Int) (xc_1 : List (S29)) (u224002 : Value), v4 = .int .i64 x4_1 ∧ Aside0 (spec_l92Ledger.l0 kq x4_1 s0_0 x1001_1 xa_1 xb_1 xc_1 = some (r1, r2, r3, r4)) ∧ Aside0 (kq ≤ k) ∧ Aside0 (Kd.R k29 29 w' w.heap.size (fun _ => True) u224002 xc_1) ∧ Aside0 (w'.heap[gb213]? = some (.cells #[.int .i64 0, .int .i64 0, (.slice none 0 0)] 32 (0, 0))) ∧ Aside0 (w'.heap[gb223]? = some (.cells #[.int .i64 xa_1, .int .i64 xb_1, u224002] 32 (0, 0))) ∧ Aside0 (IsS73 w0 w' g s0_0 x1001_1) ∧ Aside0 (KeepBut w w' g none) ∧ Aside0 (Below w0.heap.size w0 w'))
 case atStart => exact ⟨(t224), (t225), (t218), (t219), (y220), (.slice Ao12 y220.length co12), (by first | rfl | (simp; done) | (simp [*]; done)), H', ⟨Nat.le_refl _⟩, ⟨by (with_reducible repeat (first | apply Kd.R_alloc | apply Kd.R_drewN | apply Kd.R_drew)); exact HO222.out⟩, ⟨by (with_reducible repeat (first | refine yN ?_ _ | refine yD ?_ | refine yA ?_ _)); exact BK213.out⟩, ⟨by (with_reducible repeat (first | refine yN ?_ _ | refine yD ?_ | refine yA ?_ _)); exact BK223.out⟩, ⟨by repeat (first | (with_reducible first | exact HI0.out | apply yO | apply yL | apply yT | apply yJ | refine yI ?_ NB0_213.out _ | refine yI ?_ NB0_223.out _) | exact HI0.out)⟩, ⟨by repeat (first | (with_reducible first | exact HK.out | apply yK | apply yQ | apply keep_drew | apply yR | refine yF ?_ GW213.out _ | refine yF ?_ GW223.out _) | exact HK.out)⟩, ⟨by repeat (first | (with_reducible first | exact HB.out | apply below_alloc | apply yP | apply below_drew1 | refine yS ?_ (IsS73.ge HI0.out) | refine yS ?_ GE213.out | refine yS ?_ GE223.out) | exact HB.out)⟩⟩
 case round =>
  clear H'
  try clear c1
  try clear p2
  try clear c4
  try clear c5
  try clear p6
  try clear c14
  try clear c15
  try clear hcz16_0
  try clear hcz16_1
  try clear hcz16_2
  try clear hfz16_0
  try clear hfz16_1
  try clear hfz16_2
  obtain ⟨x4_1, x1001_1, xa_1, xb_1, xc_1, u224002, rfl, HA, HK1, HO_c, BK213, BK223, HI0, HK, HB⟩ := hrel
  cases gk with
  | zero => exact absurd HA.out (by simp [spec_l92Ledger.l0])
  | succ k1 =>
   have H := HA.out
   clear HA
   simp only [spec_l92Ledger.l0] at H
   by_cases c18 : x4_1 > 0
   ·rw [if_pos c18] at H
    have c18b0 : decide (0 < x4_1) = true := decide_eq_true c18
    clear c18
    replace H := Option.bind_eq_some_iff.mp H
    obtain ⟨⟨t226, t227⟩, A190, H⟩ := H
    replace H : ((spec_l6Rd_pick.f k1 s0_0 t227 6).bind fun bt228 => ((spec_l31Of.f k1 (wrap64 (1 + t226)) (wrap64 (1 + bt228.1))).bind fun bt230 => ((spec_LedgerPay.f k1 xa_1 xb_1 xc_1 bt230.1 bt230.2).bind fun bt232 => (if bt232.2.2.2 = true then (spec_l92Ledger.l0 k1 (wrap64 (x4_1 - 1)) s0_0 bt228.2 bt232.1 bt232.2.1 bt232.2.2.1) else (spec_l92Ledger.l0 k1 (wrap64 (x4_1 - 1)) s0_0 bt228.2 xa_1 xb_1 xc_1))))) = some (r1, r2, r3, r4) := H
    have A19 := Aside0.mk A190
    clear A190
    replace H := Option.bind_eq_some_iff.mp H
    obtain ⟨⟨t228, t229⟩, A200, H⟩ := H
    replace H : ((spec_l31Of.f k1 (wrap64 (1 + t226)) (wrap64 (1 + t228))).bind fun bt230 => ((spec_LedgerPay.f k1 xa_1 xb_1 xc_1 bt230.1 bt230.2).bind fun bt232 => (if bt232.2.2.2 = true then (spec_l92Ledger.l0 k1 (wrap64 (x4_1 - 1)) s0_0 t229 bt232.1 bt232.2.1 bt232.2.2.1) else (spec_l92Ledger.l0 k1 (wrap64 (x4_1 - 1)) s0_0 t229 xa_1 xb_1 xc_1)))) = some (r1, r2, r3, r4) := H
    have A20 := Aside0.mk A200
    clear A200
    replace H := Option.bind_eq_some_iff.mp H
    obtain ⟨⟨t230, t231⟩, A210, H⟩ := H
    replace H : ((spec_LedgerPay.f k1 xa_1 xb_1 xc_1 t230 t231).bind fun bt232 => (if bt232.2.2.2 = true then (spec_l92Ledger.l0 k1 (wrap64 (x4_1 - 1)) s0_0 t229 bt232.1 bt232.2.1 bt232.2.2.1) else (spec_l92Ledger.l0 k1 (wrap64 (x4_1 - 1)) s0_0 t229 xa_1 xb_1 xc_1))) = some (r1, r2, r3, r4) := H
    have A21 := Aside0.mk A210
    clear A210
    replace H := Option.bind_eq_some_iff.mp H
    obtain ⟨⟨t232, t233, t234, t237⟩, A220, H⟩ := H
    replace H : (if t237 = true then (spec_l92Ledger.l0 k1 (wrap64 (x4_1 - 1)) s0_0 t229 t232 t233 t234) else (spec_l92Ledger.l0 k1 (wrap64 (x4_1 - 1)) s0_0 t229 xa_1 xb_1 xc_1)) = some (r1, r2, r3, r4) := H
    have A22 := Aside0.mk A220
    clear A220
    by_cases c23 : t237 = true
    ·subst c23
     have H1 : (spec_l92Ledger.l0 k1 (wrap64 (x4_1 - 1)) s0_0 t229 t232 t233 t234) = some (r1, r2, r3, r4) := by rw [if_pos rfl] at H; exact H
     clear H
     have H := H1
     clear H1
     have H' := Aside0.mk H
     clear H
     obtain ⟨Ao24, co24, eo24⟩ := Kd.R_slice HO_c.out
     subst eo24
     try go_wp2
     have n0_ := yM (Kd.R_drew HO_c.out)
     have n1_ := yM (yD BK213.out)
     have n2_ := yM (yD BK223.out)
     have n3_ := yM (yT HI0.out)
     have n4_ := yM (keep_drew HK.out)
     have n5_ := yM (below_drew1 HB.out)
     clear HO_c
     clear BK213
     clear BK223
     clear HI0
     clear HK
     clear HB
     have HO_c := n0_
     have BK213 := n1_
     have BK223 := n2_
     have HI0 := n3_
     have HK := n4_
     have HB := n5_
     clear n0_ n1_ n2_ n3_ n4_ n5_
     refine start_ (n := 15) (S := fun w' => w'.cell? ⟨gb223, 0, none⟩ = some (.int .i64 xa_1) ∧ w'.cell? ⟨gb223, 1, none⟩ = some (.int .i64 xb_1) ∧ w'.cell? ⟨gb223, 2, none⟩ = some (.slice Ao24 xc_1.length co24)) (ds := []) #[false, false, false, false, false, false, false, false, false, false, false, false, false, false, false] (by kernel_rfl) rfl rfl ⟨(blk_cell BK223.out 0).trans rfl, (blk_cell BK223.out 1).trans rfl, (blk_cell BK223.out 2).trans rfl⟩ (fun hHeld => ?_); refine with_tabW spec_l92Ledger.tab5 spec_l92Ledger.bits5 (fun HT_ HW_ => ?_)
     generalize wr.drew = w25 at HO_c BK213 BK223 HI0 HK HB hHeld ⊢
     refine pure_ (i := 1) (N := some 24) (v := ?_) (a' := ?_) #[false, true, false, false, false, false, false, false, false, false, false, false, false, false, false] rfl rfl (any_of HT_.out (by kernel_rfl)) (fun _ _ _ h => h) (Or.inl ⟨by rfl, ?_⟩) ?_ ?_
     rotate_left
     ·intro w'
      go_simp
      with_reducible rfl
     rotate_left
     ·simp only [Act.put, setIfInBounds_toArray, set_cons_zero, set_cons_succ, i64_w, i32_w]
      rfl
     refine pure_ (i := 4) (N := some 27) (v := ?_) (a' := ?_) #[false, true, false, false, true, false, false, false, false, false, false, false, false, false, false] rfl rfl (any_of HT_.out (by kernel_rfl)) (fun _ _ _ h => h) (Or.inl ⟨by rfl, ?_⟩) ?_ ?_
     rotate_left
     ·intro w'
      go_simp
      with_reducible rfl
     rotate_left
     ·simp only [Act.put, setIfInBounds_toArray, set_cons_zero, set_cons_succ, i64_w, i32_w]
      rfl
     refine take_ (i := 0) (N := some 23) (v := ?_) (a' := ?_) #[true, true, false, false, true, false, false, false, false, false, false, false, false, false, false] rfl rfl (take_ofW HT_.out HW_.out (by kernel_rfl)) (fun _ _ _ h => h) (Or.inl ⟨by rfl, ?_⟩) hHeld ?_ ?_
     rotate_left
     ·rintro w' ⟨s0, s1, s2⟩
      go_simp
      with_reducible rfl
     rotate_left
     ·simp only [Act.put, setIfInBounds_toArray, set_cons_zero, set_cons_succ, i64_w, i32_w]
      rfl
     refine join_ (σ := Value × Nat) 2 #[true, true, true, true, true, true, true, true, true, true, true, true, true, false, false] (fun s_ => [(25, .int .i64 t226), (28, .int .i64 t228), (30, .agg #[.int .i64 t230, .int .i64 t231]), (31, .tuple #[.agg #[.int .i64 t232, .int .i64 t233, s_.1], .bool true]), (5, .pointer (some ⟨s_.2, 0, none⟩)), (26, .int .i64 (wrap64 (1 + t226))), (29, .int .i64 (wrap64 (1 + t228))), (22, .tuple #[.agg #[.int .i64 t232, .int .i64 t233, s_.1], .bool true]), (32, .agg #[.int .i64 t232, .int .i64 t233, s_.1]), (33, .bool true)]) (fun s_ w' => (w'.cell? ⟨gb223, 0, none⟩ = some (.int .i64 xa_1) ∧ w'.cell? ⟨gb223, 1, none⟩ = some (.int .i64 xb_1) ∧ w'.cell? ⟨gb223, 2, none⟩ = some (.slice Ao24 xc_1.length co24)) ∧ (Kd.R k29 29 w' w.heap.size (fun k_ => some k_ ≠ (.slice Ao24 xc_1.length co24 : Value).ownBlock) s_.1 t234) ∧ (Kd.R k29 29 w' w.heap.size (fun k_ => some k_ ≠ (s_.1 : Value).ownBlock) (.slice Ao24 xc_1.length co24) xc_1) ∧ (w'.heap[gb213]? = some (.cells #[.int .i64 0, .int .i64 0, .slice none 0 0] 32 (0, 0))) ∧ (w'.heap[gb223]? = some (.cells #[.int .i64 xa_1, .int .i64 xb_1, .slice Ao24 xc_1.length co24] 32 (0, 0))) ∧ (w'.heap[s_.2]? = some (.cells #[.int .i64 0, .int .i64 0, .slice none 0 0] 32 (0, 0))) ∧ (w.heap.size ≤ s_.2) ∧ (w0.heap.size ≤ s_.2) ∧ (g ≠ s_.2) ∧ (s_.2 ≠ g) ∧ (gb213 ≠ s_.2) ∧ (s_.2 ≠ gb213) ∧ (gb223 ≠ s_.2) ∧ (s_.2 ≠ gb223) ∧ (IsS73 w0 w' g s0_0 t229) ∧ (KeepBut w w' g none) ∧ (Below w0.heap.size w0 w')) ?_ ?_
     rotate_left
     ·intro hJ2_5_7_8_12
      refine join_ (σ := Value) 3 #[true, true, true, true, true, true, true, true, true, true, true, true, false, false, false] (fun s_ => [(25, .int .i64 t226), (28, .int .i64 t228), (30, .agg #[.int .i64 t230, .int .i64 t231]), (31, .tuple #[.agg #[.int .i64 t232, .int .i64 t233, s_], .bool true]), (26, .int .i64 (wrap64 (1 + t226))), (29, .int .i64 (wrap64 (1 + t228))), (22, .tuple #[.agg #[.int .i64 t232, .int .i64 t233, s_], .bool true]), (32, .agg #[.int .i64 t232, .int .i64 t233, s_]), (33, .bool true)]) (fun s_ w' => (w'.cell? ⟨gb223, 0, none⟩ = some (.int .i64 xa_1) ∧ w'.cell? ⟨gb223, 1, none⟩ = some (.int .i64 xb_1) ∧ w'.cell? ⟨gb223, 2, none⟩ = some (.slice Ao24 xc_1.length co24)) ∧ (Kd.R k29 29 w' w.heap.size (fun k_ => some k_ ≠ (.slice Ao24 xc_1.length co24 : Value).ownBlock) s_ t234) ∧ (Kd.R k29 29 w' w.heap.size (fun k_ => some k_ ≠ (s_ : Value).ownBlock) (.slice Ao24 xc_1.length co24) xc_1) ∧ (w'.heap[gb213]? = some (.cells #[.int .i64 0, .int .i64 0, .slice none 0 0] 32 (0, 0))) ∧ (w'.heap[gb223]? = some (.cells #[.int .i64 xa_1, .int .i64 xb_1, .slice Ao24 xc_1.length co24] 32 (0, 0))) ∧ (IsS73 w0 w' g s0_0 t229) ∧ (KeepBut w w' g none) ∧ (Below w0.heap.size w0 w')) ?_ ?_
      rotate_left
      ·intro hJ2_5_7_8
       refine join_ (σ := Nat) 6 #[true, true, true, true, true, true, true, true, false, false, false, false, true, false, false] (fun s_ => [(25, .int .i64 t226), (28, .int .i64 t228), (30, .agg #[.int .i64 t230, .int .i64 t231]), (5, .pointer (some ⟨s_, 0, none⟩)), (26, .int .i64 (wrap64 (1 + t226))), (29, .int .i64 (wrap64 (1 + t228)))]) (fun s_ w' => (w'.cell? ⟨gb223, 0, none⟩ = some (.int .i64 xa_1) ∧ w'.cell? ⟨gb223, 1, none⟩ = some (.int .i64 xb_1) ∧ w'.cell? ⟨gb223, 2, none⟩ = some (.slice Ao24 xc_1.length co24)) ∧ (Kd.R k29 29 w' w.heap.size (fun _ => True) (.slice Ao24 xc_1.length co24) xc_1) ∧ (w'.heap[gb213]? = some (.cells #[.int .i64 0, .int .i64 0, .slice none 0 0] 32 (0, 0))) ∧ (w'.heap[gb223]? = some (.cells #[.int .i64 xa_1, .int .i64 xb_1, .slice Ao24 xc_1.length co24] 32 (0, 0))) ∧ (w'.heap[s_]? = some (.cells #[.int .i64 0, .int .i64 0, .slice none 0 0] 32 (0, 0))) ∧ (w.heap.size ≤ s_) ∧ (w0.heap.size ≤ s_) ∧ (g ≠ s_) ∧ (s_ ≠ g) ∧ (gb213 ≠ s_) ∧ (s_ ≠ gb213) ∧ (gb223 ≠ s_) ∧ (s_ ≠ gb223) ∧ (IsS73 w0 w' g s0_0 t229) ∧ (KeepBut w w' g none) ∧ (Below w0.heap.size w0 w')) ?_ ?_
       rotate_left
       ·intro hJ2_5_7_12
        refine join_ (σ := Unit) 7 #[true, true, true, true, true, true, true, true, false, false, false, false, false, false, false] (fun s_ => [(25, .int .i64 t226), (28, .int .i64 t228), (30, .agg #[.int .i64 t230, .int .i64 t231]), (26, .int .i64 (wrap64 (1 + t226))), (29, .int .i64 (wrap64 (1 + t228)))]) (fun s_ w' => (w'.cell? ⟨gb223, 0, none⟩ = some (.int .i64 xa_1) ∧ w'.cell? ⟨gb223, 1, none⟩ = some (.int .i64 xb_1) ∧ w'.cell? ⟨gb223, 2, none⟩ = some (.slice Ao24 xc_1.length co24)) ∧ (Kd.R k29 29 w' w.heap.size (fun _ => True) (.slice Ao24 xc_1.length co24) xc_1) ∧ (w'.heap[gb213]? = some (.cells #[.int .i64 0, .int .i64 0, .slice none 0 0] 32 (0, 0))) ∧ (w'.heap[gb223]? = some (.cells #[.int .i64 xa_1, .int .i64 xb_1, .slice Ao24 xc_1.length co24] 32 (0, 0))) ∧ (IsS73 w0 w' g s0_0 t229) ∧ (KeepBut w w' g none) ∧ (Below w0.heap.size w0 w')) ?_ ?_
        rotate_left
        ·intro hJ2_5_7
         refine join_ (σ := Nat) 7 #[true, true, true, true, true, true, true, false, false, false, false, false, true, false, false] (fun s_ => [(25, .int .i64 t226), (28, .int .i64 t228), (5, .pointer (some ⟨s_, 0, none⟩)), (26, .int .i64 (wrap64 (1 + t226))), (29, .int .i64 (wrap64 (1 + t228)))]) (fun s_ w' => (w'.cell? ⟨gb223, 0, none⟩ = some (.int .i64 xa_1) ∧ w'.cell? ⟨gb223, 1, none⟩ = some (.int .i64 xb_1) ∧ w'.cell? ⟨gb223, 2, none⟩ = some (.slice Ao24 xc_1.length co24)) ∧ (Kd.R k29 29 w' w.heap.size (fun _ => True) (.slice Ao24 xc_1.length co24) xc_1) ∧ (w'.heap[gb213]? = some (.cells #[.int .i64 0, .int .i64 0, .slice none 0 0] 32 (0, 0))) ∧ (w'.heap[gb223]? = some (.cells #[.int .i64 xa_1, .int .i64 xb_1, .slice Ao24 xc_1.length co24] 32 (0, 0))) ∧ (w'.heap[s_]? = some (.cells #[.int .i64 0, .int .i64 0, .slice none 0 0] 32 (0, 0))) ∧ (w.heap.size ≤ s_) ∧ (w0.heap.size ≤ s_) ∧ (g ≠ s_) ∧ (s_ ≠ g) ∧ (gb213 ≠ s_) ∧ (s_ ≠ gb213) ∧ (gb223 ≠ s_) ∧ (s_ ≠ gb223) ∧ (IsS73 w0 w' g s0_0 t229) ∧ (KeepBut w w' g none) ∧ (Below w0.heap.size w0 w')) ?_ ?_
         rotate_left
         ·intro hJ2_5_12
          refine join_ (σ := Unit) 8 #[true, true, true, true, true, true, true, false, false, false, false, false, false, false, false] (fun s_ => [(25, .int .i64 t226), (28, .int .i64 t228), (26, .int .i64 (wrap64 (1 + t226))), (29, .int .i64 (wrap64 (1 + t228)))]) (fun s_ w' => (w'.cell? ⟨gb223, 0, none⟩ = some (.int .i64 xa_1) ∧ w'.cell? ⟨gb223, 1, none⟩ = some (.int .i64 xb_1) ∧ w'.cell? ⟨gb223, 2, none⟩ = some (.slice Ao24 xc_1.length co24)) ∧ (Kd.R k29 29 w' w.heap.size (fun _ => True) (.slice Ao24 xc_1.length co24) xc_1) ∧ (w'.heap[gb213]? = some (.cells #[.int .i64 0, .int .i64 0, .slice none 0 0] 32 (0, 0))) ∧ (w'.heap[gb223]? = some (.cells #[.int .i64 xa_1, .int .i64 xb_1, .slice Ao24 xc_1.length co24] 32 (0, 0))) ∧ (IsS73 w0 w' g s0_0 t229) ∧ (KeepBut w w' g none) ∧ (Below w0.heap.size w0 w')) ?_ ?_
          rotate_left
          ·intro hJ2_5
           refine join_ (σ := Nat) 9 #[true, true, true, true, true, false, false, false, false, false, false, false, true, false, false] (fun s_ => [(25, .int .i64 t226), (5, .pointer (some ⟨s_, 0, none⟩)), (26, .int .i64 (wrap64 (1 + t226)))]) (fun s_ w' => (w'.cell? ⟨gb223, 0, none⟩ = some (.int .i64 xa_1) ∧ w'.cell? ⟨gb223, 1, none⟩ = some (.int .i64 xb_1) ∧ w'.cell? ⟨gb223, 2, none⟩ = some (.slice Ao24 xc_1.length co24)) ∧ (Kd.R k29 29 w' w.heap.size (fun _ => True) (.slice Ao24 xc_1.length co24) xc_1) ∧ (w'.heap[gb213]? = some (.cells #[.int .i64 0, .int .i64 0, .slice none 0 0] 32 (0, 0))) ∧ (w'.heap[gb223]? = some (.cells #[.int .i64 xa_1, .int .i64 xb_1, .slice Ao24 xc_1.length co24] 32 (0, 0))) ∧ (w'.heap[s_]? = some (.cells #[.int .i64 0, .int .i64 0, .slice none 0 0] 32 (0, 0))) ∧ (w.heap.size ≤ s_) ∧ (w0.heap.size ≤ s_) ∧ (g ≠ s_) ∧ (s_ ≠ g) ∧ (gb213 ≠ s_) ∧ (s_ ≠ gb213) ∧ (gb223 ≠ s_) ∧ (s_ ≠ gb223) ∧ (IsS73 w0 w' g s0_0 t227) ∧ (KeepBut w w' g none) ∧ (Below w0.heap.size w0 w')) ?_ ?_
           rotate_left
           ·intro hJ2_12
            refine join_ (σ := Unit) 10 #[true, true, true, true, true, false, false, false, false, false, false, false, false, false, false] (fun s_ => [(25, .int .i64 t226), (26, .int .i64 (wrap64 (1 + t226)))]) (fun s_ w' => (w'.cell? ⟨gb223, 0, none⟩ = some (.int .i64 xa_1) ∧ w'.cell? ⟨gb223, 1, none⟩ = some (.int .i64 xb_1) ∧ w'.cell? ⟨gb223, 2, none⟩ = some (.slice Ao24 xc_1.length co24)) ∧ (Kd.R k29 29 w' w.heap.size (fun _ => True) (.slice Ao24 xc_1.length co24) xc_1) ∧ (w'.heap[gb213]? = some (.cells #[.int .i64 0, .int .i64 0, .slice none 0 0] 32 (0, 0))) ∧ (w'.heap[gb223]? = some (.cells #[.int .i64 xa_1, .int .i64 xb_1, .slice Ao24 xc_1.length co24] 32 (0, 0))) ∧ (IsS73 w0 w' g s0_0 t227) ∧ (KeepBut w w' g none) ∧ (Below w0.heap.size w0 w')) ?_ ?_
            rotate_left
            ·intro hJ2
             refine join_ (σ := Nat) 11 #[true, true, false, false, true, false, false, false, false, false, false, false, true, false, false] (fun s_ => [(5, .pointer (some ⟨s_, 0, none⟩))]) (fun s_ w' => (w'.cell? ⟨gb223, 0, none⟩ = some (.int .i64 xa_1) ∧ w'.cell? ⟨gb223, 1, none⟩ = some (.int .i64 xb_1) ∧ w'.cell? ⟨gb223, 2, none⟩ = some (.slice Ao24 xc_1.length co24)) ∧ (Kd.R k29 29 w' w.heap.size (fun _ => True) (.slice Ao24 xc_1.length co24) xc_1) ∧ (w'.heap[gb213]? = some (.cells #[.int .i64 0, .int .i64 0, .slice none 0 0] 32 (0, 0))) ∧ (w'.heap[gb223]? = some (.cells #[.int .i64 xa_1, .int .i64 xb_1, .slice Ao24 xc_1.length co24] 32 (0, 0))) ∧ (w'.heap[s_]? = some (.cells #[.int .i64 0, .int .i64 0, .slice none 0 0] 32 (0, 0))) ∧ (w.heap.size ≤ s_) ∧ (w0.heap.size ≤ s_) ∧ (g ≠ s_) ∧ (s_ ≠ g) ∧ (gb213 ≠ s_) ∧ (s_ ≠ gb213) ∧ (gb223 ≠ s_) ∧ (s_ ≠ gb223) ∧ (IsS73 w0 w' g s0_0 x1001_1) ∧ (KeepBut w w' g none) ∧ (Below w0.heap.size w0 w')) ?_ ?_
             rotate_left
             ·intro hJ12
              refine two_ (i := 2) (j := 12) (Ni := some 25) (Nj := some 5) #[true, true, true, false, true, false, false, false, false, false, false, false, false, false, false] #[true, true, false, false, true, false, false, false, false, false, false, false, true, false, false] rfl rfl rfl rfl (two_of HT_.out (by kernel_rfl)) (by decide) (by decide) (fun K hK => ?_) (fun K hK => ?_)
              ·skip
               refine goes_ Try.func43 (by kernel_rfl) rfl #[.pointer (some ⟨g, 0, none⟩), .int .i64 3] (by rfl) rfl rfl (by (try simp only [List.map_toArray, List.map_cons, List.map_nil]); first | done | rfl | (simp only [List.length_drop, List.length_take]; rfl)) ?_
               with_reducible refine (spec_l6Rd_pick.calls k1 g s0_0 x1001_1 3 t226 t227 w0 _ ?side1 ?side2 A19.out).mono ?_
               (case side1 => repeat (first | (with_reducible first | exact HI0.out | apply yO | apply yL | apply yT | apply yJ | refine yI ?_ NB0_213.out _ | refine yI ?_ NB0_223.out _) | exact HI0.out))
               (case side2 => repeat (first | (with_reducible first | exact HB.out | apply below_alloc | apply yP | apply below_drew1 | refine yS ?_ (IsS73.ge HI0.out) | refine yS ?_ GE213.out | refine yS ?_ GE223.out) | exact HB.out))
               rintro e w26 ⟨rfl, hi, hb, hk⟩
               refine ⟨_, rfl, ?_⟩
               have n0_ := yM (Kd.R_mono (Kd.R_keep (IsS73.apart (show IsS73 w0 _ g s0_0 x1001_1 from by repeat (first | (with_reducible first | exact HI0.out | apply yO | apply yL | apply yT | apply yJ | refine yI ?_ NB0_213.out _ | refine yI ?_ NB0_223.out _) | exact HI0.out)) (by (with_reducible repeat (first | apply Kd.R_alloc | apply Kd.R_drewN | apply Kd.R_drew)); exact HO_c.out) (by decide)) hk (fun _ h => h.2)) (fun _ h => h.1))
               have n1_ := yM (KeepBut.blk hk (g' := gb213) (o := .cells #[.int .i64 0, .int .i64 0, .slice none 0 0] 32 (0, 0)) (by (with_reducible repeat (first | refine yN ?_ _ | refine yD ?_ | refine yA ?_ _)); exact BK213.out) NB213_0.out (by simp))
               have n2_ := yM (KeepBut.blk hk (g' := gb223) (o := .cells #[.int .i64 xa_1, .int .i64 xb_1, .slice Ao24 xc_1.length co24] 32 (0, 0)) (by (with_reducible repeat (first | refine yN ?_ _ | refine yD ?_ | refine yA ?_ _)); exact BK223.out) NB223_0.out (by simp))
               have n3_ := yM (KeepBut.trans (by repeat (first | (with_reducible first | exact HK.out | apply yK | apply yQ | apply keep_drew | apply yR | refine yF ?_ GW213.out _ | refine yF ?_ GW223.out _) | exact HK.out)) hk (.inl rfl))
               have n4_ := yM (hb)
               have n5_ := yM (hi)
               clear HO_c
               clear BK213
               clear BK223
               clear HK
               clear HB
               clear HI0
               have HO_c := n0_
               have BK213 := n1_
               have BK223 := n2_
               have HK := n3_
               have HB := n4_
               have HI0 := n5_
               clear n0_ n1_ n2_ n3_ n4_ n5_
               (try clear hb)
               (try clear hb2)
               (try clear hk)
               (try clear hi)
               refine hK.out _ _ ⟨(blk_cell BK223.out 0).trans rfl, (blk_cell BK223.out 1).trans rfl, (blk_cell BK223.out 2).trans rfl⟩ (fun hHeld => ?_)
               clear hK K
               refine norm_ (a' := ?_) ?_ ?_
               rotate_left
               ·show Act.put _ (some 25) _ = _
                simp only [Act.put, setIfInBounds_toArray, set_cons_zero, set_cons_succ, i64_w, i32_w]
                rfl
               refine pure_ (i := 3) (N := some 26) (v := ?_) (a' := ?_) #[true, true, true, true, true, false, false, false, false, false, false, false, false, false, false] rfl rfl (any_of HT_.out (by kernel_rfl)) (fun _ _ _ h => h) (Or.inl ⟨by rfl, ?_⟩) ?_ ?_
               rotate_left
               ·intro w'
                go_simp
                with_reducible rfl
               rotate_left
               ·simp only [Act.put, setIfInBounds_toArray, set_cons_zero, set_cons_succ, i64_w, i32_w]
                rfl
               exact norm_ (by first | (simp only [putAll, Act.put, setIfInBounds_toArray, set_cons_zero, set_cons_succ]; done) | (simp only [putAll, Act.put, setIfInBounds_toArray, set_cons_zero, set_cons_succ]; rfl)) (hJ2 () _ ⟨hHeld, (by (with_reducible repeat (first | apply Kd.R_alloc | apply Kd.R_drewN | apply Kd.R_drew)); exact HO_c.out), (by (with_reducible repeat (first | refine yN ?_ _ | refine yD ?_ | refine yA ?_ _)); exact BK213.out), (by (with_reducible repeat (first | refine yN ?_ _ | refine yD ?_ | refine yA ?_ _)); exact BK223.out), (by repeat (first | (with_reducible first | exact HI0.out | apply yO | apply yL | apply yT | apply yJ | refine yI ?_ NB0_213.out _ | refine yI ?_ NB0_223.out _) | exact HI0.out)), (by repeat (first | (with_reducible first | exact HK.out | apply yK | apply yQ | apply keep_drew | apply yR | refine yF ?_ GW213.out _ | refine yF ?_ GW223.out _) | exact HK.out)), (by repeat (first | (with_reducible first | exact HB.out | apply below_alloc | apply yP | apply below_drew1 | refine yS ?_ (IsS73.ge HI0.out) | refine yS ?_ GE213.out | refine yS ?_ GE223.out) | exact HB.out))⟩)
              ·skip
               refine box_step ?hg (N := 5) ?hd (cs := #[.int .i64 0, .int .i64 0, .slice none 0 0]) (t := 32) ?hr ?_; (case hd => rfl); (case hg => rfl); (case hr => first | (go_simp; done) | (go_simp; rfl))
               intro gb238 hg w26 hbox hb
               have n0_ := yM (Kd.R_below (by (with_reducible repeat (first | apply Kd.R_alloc | apply Kd.R_drewN | apply Kd.R_drew)); exact HO_c.out) hb)
               have n1_ := yM (blk_below (g := gb213) (o := .cells #[.int .i64 0, .int .i64 0, .slice none 0 0] 32 (0, 0)) (by (with_reducible repeat (first | refine yN ?_ _ | refine yD ?_ | refine yA ?_ _)); exact BK213.out) hb)
               have n2_ := yM (blk_below (g := gb223) (o := .cells #[.int .i64 xa_1, .int .i64 xb_1, .slice Ao24 xc_1.length co24] 32 (0, 0)) (by (with_reducible repeat (first | refine yN ?_ _ | refine yD ?_ | refine yA ?_ _)); exact BK223.out) hb)
               have n3_ := yM (IsS73.below (by repeat (first | (with_reducible first | exact HI0.out | apply yO | apply yL | apply yT | apply yJ | refine yI ?_ NB0_213.out _ | refine yI ?_ NB0_223.out _) | exact HI0.out)) hb)
               have n4_ := yM (KeepBut.trans (by repeat (first | (with_reducible first | exact HK.out | apply yK | apply yQ | apply keep_drew | apply yR | refine yF ?_ GW213.out _ | refine yF ?_ GW223.out _) | exact HK.out)) (KeepBut.of_below hb g none) (.inl rfl))
               have n5_ := yM (below_step (by repeat (first | (with_reducible first | exact HB.out | apply below_alloc | apply yP | apply below_drew1 | refine yS ?_ (IsS73.ge HI0.out) | refine yS ?_ GE213.out | refine yS ?_ GE223.out) | exact HB.out)) hb)
               have n6_ := yM (hbox)
               have n7_ := yM ((by rw [hg]; exact (keep_size (w := w) (g := g) (row := none) (by repeat (first | (with_reducible first | exact HK.out | apply yK | apply yQ | apply keep_drew | apply yR | refine yF ?_ GW213.out _ | refine yF ?_ GW223.out _) | exact HK.out))) : w.heap.size ≤ gb238))
               have n8_ := yM ((Nat.le_trans HW0.out (by rw [hg]; exact (keep_size (w := w) (g := g) (row := none) (by repeat (first | (with_reducible first | exact HK.out | apply yK | apply yQ | apply keep_drew | apply yR | refine yF ?_ GW213.out _ | refine yF ?_ GW223.out _) | exact HK.out))) : w.heap.size ≤ gb238) : w0.heap.size ≤ gb238))
               have n9_ := yM ((by rw [hg]; exact Nat.ne_of_lt (blk_lt (g := gb213) (o := .cells #[.int .i64 0, .int .i64 0, .slice none 0 0] 32 (0, 0)) (by (with_reducible repeat (first | refine yN ?_ _ | refine yD ?_ | refine yA ?_ _)); exact BK213.out)) : gb213 ≠ gb238))
               have n10_ := yM ((by rw [hg]; exact Nat.ne_of_gt (blk_lt (g := gb213) (o := .cells #[.int .i64 0, .int .i64 0, .slice none 0 0] 32 (0, 0)) (by (with_reducible repeat (first | refine yN ?_ _ | refine yD ?_ | refine yA ?_ _)); exact BK213.out)) : gb238 ≠ gb213))
               have n11_ := yM ((by rw [hg]; exact Nat.ne_of_lt (blk_lt (g := gb223) (o := .cells #[.int .i64 xa_1, .int .i64 xb_1, .slice Ao24 xc_1.length co24] 32 (0, 0)) (by (with_reducible repeat (first | refine yN ?_ _ | refine yD ?_ | refine yA ?_ _)); exact BK223.out)) : gb223 ≠ gb238))
               have n12_ := yM ((by rw [hg]; exact Nat.ne_of_gt (blk_lt (g := gb223) (o := .cells #[.int .i64 xa_1, .int .i64 xb_1, .slice Ao24 xc_1.length co24] 32 (0, 0)) (by (with_reducible repeat (first | refine yN ?_ _ | refine yD ?_ | refine yA ?_ _)); exact BK223.out)) : gb238 ≠ gb223))
               have n13_ := yM ((by rw [hg]; exact Nat.ne_of_lt (IsS73.lt (show IsS73 w0 _ g s0_0 x1001_1 from by repeat (first | (with_reducible first | exact HI0.out | apply yO | apply yL | apply yT | apply yJ | refine yI ?_ NB0_213.out _ | refine yI ?_ NB0_223.out _) | exact HI0.out))) : g ≠ gb238))
               have n14_ := yM ((by rw [hg]; exact Nat.ne_of_gt (IsS73.lt (show IsS73 w0 _ g s0_0 x1001_1 from by repeat (first | (with_reducible first | exact HI0.out | apply yO | apply yL | apply yT | apply yJ | refine yI ?_ NB0_213.out _ | refine yI ?_ NB0_223.out _) | exact HI0.out))) : gb238 ≠ g))
               clear HO_c
               clear BK213
               clear BK223
               clear HI0
               clear HK
               clear HB
               have HO_c := n0_
               have BK213 := n1_
               have BK223 := n2_
               have HI0 := n3_
               have HK := n4_
               have HB := n5_
               have BK238 := n6_
               have GW238 := n7_
               have GE238 := n8_
               have NB213_238 := n9_
               have NB238_213 := n10_
               have NB223_238 := n11_
               have NB238_223 := n12_
               have NB0_238 := n13_
               have NB238_0 := n14_
               clear n0_ n1_ n2_ n3_ n4_ n5_ n6_ n7_ n8_ n9_ n10_ n11_ n12_ n13_ n14_
               clear hb hbox hg
               refine hK.out _ _ ⟨(blk_cell BK223.out 0).trans rfl, (blk_cell BK223.out 1).trans rfl, (blk_cell BK223.out 2).trans rfl⟩ (fun hHeld => ?_)
               clear hK K
               refine norm_ (a' := ?_) ?_ ?_
               rotate_left
               ·show Act.put _ (some 5) _ = _
                simp only [Act.put, setIfInBounds_toArray, set_cons_zero, set_cons_succ, i64_w, i32_w]
                rfl
               exact norm_ (by first | (simp only [putAll, Act.put, setIfInBounds_toArray, set_cons_zero, set_cons_succ]; done) | (simp only [putAll, Act.put, setIfInBounds_toArray, set_cons_zero, set_cons_succ]; rfl)) (hJ12 (gb238) _ ⟨hHeld, (by (with_reducible repeat (first | apply Kd.R_alloc | apply Kd.R_drewN | apply Kd.R_drew)); exact HO_c.out), (by (with_reducible repeat (first | refine yN ?_ _ | refine yD ?_ | refine yA ?_ _)); exact BK213.out), (by (with_reducible repeat (first | refine yN ?_ _ | refine yD ?_ | refine yA ?_ _)); exact BK223.out), (by (with_reducible repeat (first | refine yN ?_ _ | refine yD ?_ | refine yA ?_ _)); exact BK238.out), GW238.out, GE238.out, NB0_238.out, NB238_0.out, NB213_238.out, NB238_213.out, NB223_238.out, NB238_223.out, (by repeat (first | (with_reducible first | exact HI0.out | apply yO | apply yL | apply yT | apply yJ | refine yI ?_ NB0_213.out _ | refine yI ?_ NB0_223.out _ | refine yI ?_ NB0_238.out _) | exact HI0.out)), (by repeat (first | (with_reducible first | exact HK.out | apply yK | apply yQ | apply keep_drew | apply yR | refine yF ?_ GW213.out _ | refine yF ?_ GW223.out _ | refine yF ?_ GW238.out _) | exact HK.out)), (by repeat (first | (with_reducible first | exact HB.out | apply below_alloc | apply yP | apply below_drew1 | refine yS ?_ (IsS73.ge HI0.out) | refine yS ?_ GE213.out | refine yS ?_ GE223.out | refine yS ?_ GE238.out) | exact HB.out))⟩)
             ·skip
              rintro gb238 w27 ⟨hS_, h0_, h1_, h2_, h3_, h4_, h5_, h6_, h7_, h8_, h9_, h10_, h11_, h12_, h13_, h14_⟩
              have n0_ : Aside0 (Kd.R k29 29 w27 w.heap.size (fun _ => True) (.slice Ao24 xc_1.length co24) xc_1) := ⟨h0_⟩
              have n1_ : Aside0 (w27.heap[gb213]? = some (.cells #[.int .i64 0, .int .i64 0, .slice none 0 0] 32 (0, 0))) := ⟨h1_⟩
              have n2_ : Aside0 (w27.heap[gb223]? = some (.cells #[.int .i64 xa_1, .int .i64 xb_1, .slice Ao24 xc_1.length co24] 32 (0, 0))) := ⟨h2_⟩
              have n3_ : Aside0 (w27.heap[gb238]? = some (.cells #[.int .i64 0, .int .i64 0, .slice none 0 0] 32 (0, 0))) := ⟨h3_⟩
              have n4_ : Aside0 (w.heap.size ≤ gb238) := ⟨h4_⟩
              have n5_ : Aside0 (w0.heap.size ≤ gb238) := ⟨h5_⟩
              have n6_ : Aside0 (g ≠ gb238) := ⟨h6_⟩
              have n7_ : Aside0 (gb238 ≠ g) := ⟨h7_⟩
              have n8_ : Aside0 (gb213 ≠ gb238) := ⟨h8_⟩
              have n9_ : Aside0 (gb238 ≠ gb213) := ⟨h9_⟩
              have n10_ : Aside0 (gb223 ≠ gb238) := ⟨h10_⟩
              have n11_ : Aside0 (gb238 ≠ gb223) := ⟨h11_⟩
              have n12_ : Aside0 (IsS73 w0 w27 g s0_0 x1001_1) := ⟨h12_⟩
              have n13_ : Aside0 (KeepBut w w27 g none) := ⟨h13_⟩
              have n14_ : Aside0 (Below w0.heap.size w0 w27) := ⟨h14_⟩
              clear HO_c
              clear BK213
              clear BK223
              clear HI0
              clear HK
              clear HB
              clear h0_ h1_ h2_ h3_ h4_ h5_ h6_ h7_ h8_ h9_ h10_ h11_ h12_ h13_ h14_
              have HO_c := n0_
              have BK213 := n1_
              have BK223 := n2_
              have BK238 := n3_
              have GW238 := n4_
              have GE238 := n5_
              have NB0_238 := n6_
              have NB238_0 := n7_
              have NB213_238 := n8_
              have NB238_213 := n9_
              have NB223_238 := n10_
              have NB238_223 := n11_
              have HI0 := n12_
              have HK := n13_
              have HB := n14_
              clear n0_ n1_ n2_ n3_ n4_ n5_ n6_ n7_ n8_ n9_ n10_ n11_ n12_ n13_ n14_
              have hHeld : w27.cell? ⟨gb223, 0, none⟩ = some (.int .i64 xa_1) ∧ w27.cell? ⟨gb223, 1, none⟩ = some (.int .i64 xb_1) ∧ w27.cell? ⟨gb223, 2, none⟩ = some (.slice Ao24 xc_1.length co24) := hS_
              refine norm_ (a' := ?_) ?_ ?_
              rotate_left
              ·simp only [putAll, Act.put, setIfInBounds_toArray, set_cons_zero, set_cons_succ]
               rfl
              refine one_ (i := 2) (N := some 25) #[true, true, true, false, true, false, false, false, false, false, false, false, true, false, false] rfl rfl (one_of HT_.out (by kernel_rfl)) (by decide) (fun K hK => ?_)
              refine goes_ Try.func43 (by kernel_rfl) rfl #[.pointer (some ⟨g, 0, none⟩), .int .i64 3] (by rfl) rfl rfl (by (try simp only [List.map_toArray, List.map_cons, List.map_nil]); first | done | rfl | (simp only [List.length_drop, List.length_take]; rfl)) ?_
              with_reducible refine (spec_l6Rd_pick.calls k1 g s0_0 x1001_1 3 t226 t227 w0 _ ?side1 ?side2 A19.out).mono ?_
              (case side1 => repeat (first | (with_reducible first | exact HI0.out | apply yO | apply yL | apply yT | apply yJ | refine yI ?_ NB0_213.out _ | refine yI ?_ NB0_223.out _ | refine yI ?_ NB0_238.out _) | exact HI0.out))
              (case side2 => repeat (first | (with_reducible first | exact HB.out | apply below_alloc | apply yP | apply below_drew1 | refine yS ?_ (IsS73.ge HI0.out) | refine yS ?_ GE213.out | refine yS ?_ GE223.out | refine yS ?_ GE238.out) | exact HB.out))
              rintro e w28 ⟨rfl, hi, hb, hk⟩
              refine ⟨_, rfl, ?_⟩
              have n0_ := yM (Kd.R_mono (Kd.R_keep (IsS73.apart (show IsS73 w0 _ g s0_0 x1001_1 from by repeat (first | (with_reducible first | exact HI0.out | apply yO | apply yL | apply yT | apply yJ | refine yI ?_ NB0_213.out _ | refine yI ?_ NB0_223.out _ | refine yI ?_ NB0_238.out _) | exact HI0.out)) (by (with_reducible repeat (first | apply Kd.R_alloc | apply Kd.R_drewN | apply Kd.R_drew)); exact HO_c.out) (by decide)) hk (fun _ h => h.2)) (fun _ h => h.1))
              have n1_ := yM (KeepBut.blk hk (g' := gb213) (o := .cells #[.int .i64 0, .int .i64 0, .slice none 0 0] 32 (0, 0)) (by (with_reducible repeat (first | refine yN ?_ _ | refine yD ?_ | refine yA ?_ _)); exact BK213.out) NB213_0.out (by simp))
              have n2_ := yM (KeepBut.blk hk (g' := gb223) (o := .cells #[.int .i64 xa_1, .int .i64 xb_1, .slice Ao24 xc_1.length co24] 32 (0, 0)) (by (with_reducible repeat (first | refine yN ?_ _ | refine yD ?_ | refine yA ?_ _)); exact BK223.out) NB223_0.out (by simp))
              have n3_ := yM (KeepBut.blk hk (g' := gb238) (o := .cells #[.int .i64 0, .int .i64 0, .slice none 0 0] 32 (0, 0)) (by (with_reducible repeat (first | refine yN ?_ _ | refine yD ?_ | refine yA ?_ _)); exact BK238.out) NB238_0.out (by simp))
              have n4_ := yM (KeepBut.trans (by repeat (first | (with_reducible first | exact HK.out | apply yK | apply yQ | apply keep_drew | apply yR | refine yF ?_ GW213.out _ | refine yF ?_ GW223.out _ | refine yF ?_ GW238.out _) | exact HK.out)) hk (.inl rfl))
              have n5_ := yM (hb)
              have n6_ := yM (hi)
              clear HO_c
              clear BK213
              clear BK223
              clear BK238
              clear HK
              clear HB
              clear HI0
              have HO_c := n0_
              have BK213 := n1_
              have BK223 := n2_
              have BK238 := n3_
              have HK := n4_
              have HB := n5_
              have HI0 := n6_
              clear n0_ n1_ n2_ n3_ n4_ n5_ n6_
              (try clear hb)
              (try clear hb2)
              (try clear hk)
              (try clear hi)
              refine hK.out _ _ ⟨(blk_cell BK223.out 0).trans rfl, (blk_cell BK223.out 1).trans rfl, (blk_cell BK223.out 2).trans rfl⟩ (fun hHeld => ?_)
              clear hK K
              refine norm_ (a' := ?_) ?_ ?_
              rotate_left
              ·show Act.put _ (some 25) _ = _
               simp only [Act.put, setIfInBounds_toArray, set_cons_zero, set_cons_succ, i64_w, i32_w]
               rfl
              refine pure_ (i := 3) (N := some 26) (v := ?_) (a' := ?_) #[true, true, true, true, true, false, false, false, false, false, false, false, true, false, false] rfl rfl (any_of HT_.out (by kernel_rfl)) (fun _ _ _ h => h) (Or.inl ⟨by rfl, ?_⟩) ?_ ?_
              rotate_left
              ·intro w'
               go_simp
               with_reducible rfl
              rotate_left
              ·simp only [Act.put, setIfInBounds_toArray, set_cons_zero, set_cons_succ, i64_w, i32_w]
               rfl
              exact norm_ (by first | (simp only [putAll, Act.put, setIfInBounds_toArray, set_cons_zero, set_cons_succ]; done) | (simp only [putAll, Act.put, setIfInBounds_toArray, set_cons_zero, set_cons_succ]; rfl)) (hJ2_12 (gb238) _ ⟨hHeld, (by (with_reducible repeat (first | apply Kd.R_alloc | apply Kd.R_drewN | apply Kd.R_drew)); exact HO_c.out), (by (with_reducible repeat (first | refine yN ?_ _ | refine yD ?_ | refine yA ?_ _)); exact BK213.out), (by (with_reducible repeat (first | refine yN ?_ _ | refine yD ?_ | refine yA ?_ _)); exact BK223.out), (by (with_reducible repeat (first | refine yN ?_ _ | refine yD ?_ | refine yA ?_ _)); exact BK238.out), GW238.out, GE238.out, NB0_238.out, NB238_0.out, NB213_238.out, NB238_213.out, NB223_238.out, NB238_223.out, (by repeat (first | (with_reducible first | exact HI0.out | apply yO | apply yL | apply yT | apply yJ | refine yI ?_ NB0_213.out _ | refine yI ?_ NB0_223.out _ | refine yI ?_ NB0_238.out _) | exact HI0.out)), (by repeat (first | (with_reducible first | exact HK.out | apply yK | apply yQ | apply keep_drew | apply yR | refine yF ?_ GW213.out _ | refine yF ?_ GW223.out _ | refine yF ?_ GW238.out _) | exact HK.out)), (by repeat (first | (with_reducible first | exact HB.out | apply below_alloc | apply yP | apply below_drew1 | refine yS ?_ (IsS73.ge HI0.out) | refine yS ?_ GE213.out | refine yS ?_ GE223.out | refine yS ?_ GE238.out) | exact HB.out))⟩)
            ·skip
             rintro _ w27 ⟨hS_, h0_, h1_, h2_, h3_, h4_, h5_⟩
             have n0_ : Aside0 (Kd.R k29 29 w27 w.heap.size (fun _ => True) (.slice Ao24 xc_1.length co24) xc_1) := ⟨h0_⟩
             have n1_ : Aside0 (w27.heap[gb213]? = some (.cells #[.int .i64 0, .int .i64 0, .slice none 0 0] 32 (0, 0))) := ⟨h1_⟩
             have n2_ : Aside0 (w27.heap[gb223]? = some (.cells #[.int .i64 xa_1, .int .i64 xb_1, .slice Ao24 xc_1.length co24] 32 (0, 0))) := ⟨h2_⟩
             have n3_ : Aside0 (IsS73 w0 w27 g s0_0 t227) := ⟨h3_⟩
             have n4_ : Aside0 (KeepBut w w27 g none) := ⟨h4_⟩
             have n5_ : Aside0 (Below w0.heap.size w0 w27) := ⟨h5_⟩
             clear HO_c
             clear BK213
             clear BK223
             clear HI0
             clear HK
             clear HB
             clear h0_ h1_ h2_ h3_ h4_ h5_
             have HO_c := n0_
             have BK213 := n1_
             have BK223 := n2_
             have HI0 := n3_
             have HK := n4_
             have HB := n5_
             clear n0_ n1_ n2_ n3_ n4_ n5_
             have hHeld : w27.cell? ⟨gb223, 0, none⟩ = some (.int .i64 xa_1) ∧ w27.cell? ⟨gb223, 1, none⟩ = some (.int .i64 xb_1) ∧ w27.cell? ⟨gb223, 2, none⟩ = some (.slice Ao24 xc_1.length co24) := hS_
             refine norm_ (a' := ?_) ?_ ?_
             rotate_left
             ·simp only [putAll, Act.put, setIfInBounds_toArray, set_cons_zero, set_cons_succ]
              rfl
             refine two_ (i := 5) (j := 12) (Ni := some 28) (Nj := some 5) #[true, true, true, true, true, true, false, false, false, false, false, false, false, false, false] #[true, true, true, true, true, false, false, false, false, false, false, false, true, false, false] rfl rfl rfl rfl (two_of HT_.out (by kernel_rfl)) (by decide) (by decide) (fun K hK => ?_) (fun K hK => ?_)
             ·skip
              refine goes_ Try.func43 (by kernel_rfl) rfl #[.pointer (some ⟨g, 0, none⟩), .int .i64 6] (by rfl) rfl rfl (by (try simp only [List.map_toArray, List.map_cons, List.map_nil]); first | done | rfl | (simp only [List.length_drop, List.length_take]; rfl)) ?_
              with_reducible refine (spec_l6Rd_pick.calls k1 g s0_0 t227 6 t228 t229 w0 _ ?side1 ?side2 A20.out).mono ?_
              (case side1 => repeat (first | (with_reducible first | exact HI0.out | apply yO | apply yL | apply yT | apply yJ | refine yI ?_ NB0_213.out _ | refine yI ?_ NB0_223.out _) | exact HI0.out))
              (case side2 => repeat (first | (with_reducible first | exact HB.out | apply below_alloc | apply yP | apply below_drew1 | refine yS ?_ (IsS73.ge HI0.out) | refine yS ?_ GE213.out | refine yS ?_ GE223.out) | exact HB.out))
              rintro e w28 ⟨rfl, hi, hb, hk⟩
              refine ⟨_, rfl, ?_⟩
              have n0_ := yM (Kd.R_mono (Kd.R_keep (IsS73.apart (show IsS73 w0 _ g s0_0 t227 from by repeat (first | (with_reducible first | exact HI0.out | apply yO | apply yL | apply yT | apply yJ | refine yI ?_ NB0_213.out _ | refine yI ?_ NB0_223.out _) | exact HI0.out)) (by (with_reducible repeat (first | apply Kd.R_alloc | apply Kd.R_drewN | apply Kd.R_drew)); exact HO_c.out) (by decide)) hk (fun _ h => h.2)) (fun _ h => h.1))
              have n1_ := yM (KeepBut.blk hk (g' := gb213) (o := .cells #[.int .i64 0, .int .i64 0, .slice none 0 0] 32 (0, 0)) (by (with_reducible repeat (first | refine yN ?_ _ | refine yD ?_ | refine yA ?_ _)); exact BK213.out) NB213_0.out (by simp))
              have n2_ := yM (KeepBut.blk hk (g' := gb223) (o := .cells #[.int .i64 xa_1, .int .i64 xb_1, .slice Ao24 xc_1.length co24] 32 (0, 0)) (by (with_reducible repeat (first | refine yN ?_ _ | refine yD ?_ | refine yA ?_ _)); exact BK223.out) NB223_0.out (by simp))
              have n3_ := yM (KeepBut.trans (by repeat (first | (with_reducible first | exact HK.out | apply yK | apply yQ | apply keep_drew | apply yR | refine yF ?_ GW213.out _ | refine yF ?_ GW223.out _) | exact HK.out)) hk (.inl rfl))
              have n4_ := yM (hb)
              have n5_ := yM (hi)
              clear HO_c
              clear BK213
              clear BK223
              clear HK
              clear HB
              clear HI0
              have HO_c := n0_
              have BK213 := n1_
              have BK223 := n2_
              have HK := n3_
              have HB := n4_
              have HI0 := n5_
              clear n0_ n1_ n2_ n3_ n4_ n5_
              (try clear hb)
              (try clear hb2)
              (try clear hk)
              (try clear hi)
              refine hK.out _ _ ⟨(blk_cell BK223.out 0).trans rfl, (blk_cell BK223.out 1).trans rfl, (blk_cell BK223.out 2).trans rfl⟩ (fun hHeld => ?_)
              clear hK K
              refine norm_ (a' := ?_) ?_ ?_
              rotate_left
              ·show Act.put _ (some 28) _ = _
               simp only [Act.put, setIfInBounds_toArray, set_cons_zero, set_cons_succ, i64_w, i32_w]
               rfl
              refine pure_ (i := 6) (N := some 29) (v := ?_) (a' := ?_) #[true, true, true, true, true, true, true, false, false, false, false, false, false, false, false] rfl rfl (any_of HT_.out (by kernel_rfl)) (fun _ _ _ h => h) (Or.inl ⟨by rfl, ?_⟩) ?_ ?_
              rotate_left
              ·intro w'
               go_simp
               with_reducible rfl
              rotate_left
              ·simp only [Act.put, setIfInBounds_toArray, set_cons_zero, set_cons_succ, i64_w, i32_w]
               rfl
              exact norm_ (by first | (simp only [putAll, Act.put, setIfInBounds_toArray, set_cons_zero, set_cons_succ]; done) | (simp only [putAll, Act.put, setIfInBounds_toArray, set_cons_zero, set_cons_succ]; rfl)) (hJ2_5 () _ ⟨hHeld, (by (with_reducible repeat (first | apply Kd.R_alloc | apply Kd.R_drewN | apply Kd.R_drew)); exact HO_c.out), (by (with_reducible repeat (first | refine yN ?_ _ | refine yD ?_ | refine yA ?_ _)); exact BK213.out), (by (with_reducible repeat (first | refine yN ?_ _ | refine yD ?_ | refine yA ?_ _)); exact BK223.out), (by repeat (first | (with_reducible first | exact HI0.out | apply yO | apply yL | apply yT | apply yJ | refine yI ?_ NB0_213.out _ | refine yI ?_ NB0_223.out _) | exact HI0.out)), (by repeat (first | (with_reducible first | exact HK.out | apply yK | apply yQ | apply keep_drew | apply yR | refine yF ?_ GW213.out _ | refine yF ?_ GW223.out _) | exact HK.out)), (by repeat (first | (with_reducible first | exact HB.out | apply below_alloc | apply yP | apply below_drew1 | refine yS ?_ (IsS73.ge HI0.out) | refine yS ?_ GE213.out | refine yS ?_ GE223.out) | exact HB.out))⟩)
             ·skip
              refine box_step ?hg (N := 5) ?hd (cs := #[.int .i64 0, .int .i64 0, .slice none 0 0]) (t := 32) ?hr ?_; (case hd => rfl); (case hg => rfl); (case hr => first | (go_simp; done) | (go_simp; rfl))
              intro gb238 hg w28 hbox hb
              have n0_ := yM (Kd.R_below (by (with_reducible repeat (first | apply Kd.R_alloc | apply Kd.R_drewN | apply Kd.R_drew)); exact HO_c.out) hb)
              have n1_ := yM (blk_below (g := gb213) (o := .cells #[.int .i64 0, .int .i64 0, .slice none 0 0] 32 (0, 0)) (by (with_reducible repeat (first | refine yN ?_ _ | refine yD ?_ | refine yA ?_ _)); exact BK213.out) hb)
              have n2_ := yM (blk_below (g := gb223) (o := .cells #[.int .i64 xa_1, .int .i64 xb_1, .slice Ao24 xc_1.length co24] 32 (0, 0)) (by (with_reducible repeat (first | refine yN ?_ _ | refine yD ?_ | refine yA ?_ _)); exact BK223.out) hb)
              have n3_ := yM (IsS73.below (by repeat (first | (with_reducible first | exact HI0.out | apply yO | apply yL | apply yT | apply yJ | refine yI ?_ NB0_213.out _ | refine yI ?_ NB0_223.out _) | exact HI0.out)) hb)
              have n4_ := yM (KeepBut.trans (by repeat (first | (with_reducible first | exact HK.out | apply yK | apply yQ | apply keep_drew | apply yR | refine yF ?_ GW213.out _ | refine yF ?_ GW223.out _) | exact HK.out)) (KeepBut.of_below hb g none) (.inl rfl))
              have n5_ := yM (below_step (by repeat (first | (with_reducible first | exact HB.out | apply below_alloc | apply yP | apply below_drew1 | refine yS ?_ (IsS73.ge HI0.out) | refine yS ?_ GE213.out | refine yS ?_ GE223.out) | exact HB.out)) hb)
              have n6_ := yM (hbox)
              have n7_ := yM ((by rw [hg]; exact (keep_size (w := w) (g := g) (row := none) (by repeat (first | (with_reducible first | exact HK.out | apply yK | apply yQ | apply keep_drew | apply yR | refine yF ?_ GW213.out _ | refine yF ?_ GW223.out _) | exact HK.out))) : w.heap.size ≤ gb238))
              have n8_ := yM ((Nat.le_trans HW0.out (by rw [hg]; exact (keep_size (w := w) (g := g) (row := none) (by repeat (first | (with_reducible first | exact HK.out | apply yK | apply yQ | apply keep_drew | apply yR | refine yF ?_ GW213.out _ | refine yF ?_ GW223.out _) | exact HK.out))) : w.heap.size ≤ gb238) : w0.heap.size ≤ gb238))
              have n9_ := yM ((by rw [hg]; exact Nat.ne_of_lt (blk_lt (g := gb213) (o := .cells #[.int .i64 0, .int .i64 0, .slice none 0 0] 32 (0, 0)) (by (with_reducible repeat (first | refine yN ?_ _ | refine yD ?_ | refine yA ?_ _)); exact BK213.out)) : gb213 ≠ gb238))
              have n10_ := yM ((by rw [hg]; exact Nat.ne_of_gt (blk_lt (g := gb213) (o := .cells #[.int .i64 0, .int .i64 0, .slice none 0 0] 32 (0, 0)) (by (with_reducible repeat (first | refine yN ?_ _ | refine yD ?_ | refine yA ?_ _)); exact BK213.out)) : gb238 ≠ gb213))
              have n11_ := yM ((by rw [hg]; exact Nat.ne_of_lt (blk_lt (g := gb223) (o := .cells #[.int .i64 xa_1, .int .i64 xb_1, .slice Ao24 xc_1.length co24] 32 (0, 0)) (by (with_reducible repeat (first | refine yN ?_ _ | refine yD ?_ | refine yA ?_ _)); exact BK223.out)) : gb223 ≠ gb238))
              have n12_ := yM ((by rw [hg]; exact Nat.ne_of_gt (blk_lt (g := gb223) (o := .cells #[.int .i64 xa_1, .int .i64 xb_1, .slice Ao24 xc_1.length co24] 32 (0, 0)) (by (with_reducible repeat (first | refine yN ?_ _ | refine yD ?_ | refine yA ?_ _)); exact BK223.out)) : gb238 ≠ gb223))
              have n13_ := yM ((by rw [hg]; exact Nat.ne_of_lt (IsS73.lt (show IsS73 w0 _ g s0_0 t227 from by repeat (first | (with_reducible first | exact HI0.out | apply yO | apply yL | apply yT | apply yJ | refine yI ?_ NB0_213.out _ | refine yI ?_ NB0_223.out _) | exact HI0.out))) : g ≠ gb238))
              have n14_ := yM ((by rw [hg]; exact Nat.ne_of_gt (IsS73.lt (show IsS73 w0 _ g s0_0 t227 from by repeat (first | (with_reducible first | exact HI0.out | apply yO | apply yL | apply yT | apply yJ | refine yI ?_ NB0_213.out _ | refine yI ?_ NB0_223.out _) | exact HI0.out))) : gb238 ≠ g))
              clear HO_c
              clear BK213
              clear BK223
              clear HI0
              clear HK
              clear HB
              have HO_c := n0_
              have BK213 := n1_
              have BK223 := n2_
              have HI0 := n3_
              have HK := n4_
              have HB := n5_
              have BK238 := n6_
              have GW238 := n7_
              have GE238 := n8_
              have NB213_238 := n9_
              have NB238_213 := n10_
              have NB223_238 := n11_
              have NB238_223 := n12_
              have NB0_238 := n13_
              have NB238_0 := n14_
              clear n0_ n1_ n2_ n3_ n4_ n5_ n6_ n7_ n8_ n9_ n10_ n11_ n12_ n13_ n14_
              clear hb hbox hg
              refine hK.out _ _ ⟨(blk_cell BK223.out 0).trans rfl, (blk_cell BK223.out 1).trans rfl, (blk_cell BK223.out 2).trans rfl⟩ (fun hHeld => ?_)
              clear hK K
              refine norm_ (a' := ?_) ?_ ?_
              rotate_left
              ·show Act.put _ (some 5) _ = _
               simp only [Act.put, setIfInBounds_toArray, set_cons_zero, set_cons_succ, i64_w, i32_w]
               rfl
              exact norm_ (by first | (simp only [putAll, Act.put, setIfInBounds_toArray, set_cons_zero, set_cons_succ]; done) | (simp only [putAll, Act.put, setIfInBounds_toArray, set_cons_zero, set_cons_succ]; rfl)) (hJ2_12 (gb238) _ ⟨hHeld, (by (with_reducible repeat (first | apply Kd.R_alloc | apply Kd.R_drewN | apply Kd.R_drew)); exact HO_c.out), (by (with_reducible repeat (first | refine yN ?_ _ | refine yD ?_ | refine yA ?_ _)); exact BK213.out), (by (with_reducible repeat (first | refine yN ?_ _ | refine yD ?_ | refine yA ?_ _)); exact BK223.out), (by (with_reducible repeat (first | refine yN ?_ _ | refine yD ?_ | refine yA ?_ _)); exact BK238.out), GW238.out, GE238.out, NB0_238.out, NB238_0.out, NB213_238.out, NB238_213.out, NB223_238.out, NB238_223.out, (by repeat (first | (with_reducible first | exact HI0.out | apply yO | apply yL | apply yT | apply yJ | refine yI ?_ NB0_213.out _ | refine yI ?_ NB0_223.out _ | refine yI ?_ NB0_238.out _) | exact HI0.out)), (by repeat (first | (with_reducible first | exact HK.out | apply yK | apply yQ | apply keep_drew | apply yR | refine yF ?_ GW213.out _ | refine yF ?_ GW223.out _ | refine yF ?_ GW238.out _) | exact HK.out)), (by repeat (first | (with_reducible first | exact HB.out | apply below_alloc | apply yP | apply below_drew1 | refine yS ?_ (IsS73.ge HI0.out) | refine yS ?_ GE213.out | refine yS ?_ GE223.out | refine yS ?_ GE238.out) | exact HB.out))⟩)
           ·skip
            rintro gb238 w28 ⟨hS_, h0_, h1_, h2_, h3_, h4_, h5_, h6_, h7_, h8_, h9_, h10_, h11_, h12_, h13_, h14_⟩
            have n0_ : Aside0 (Kd.R k29 29 w28 w.heap.size (fun _ => True) (.slice Ao24 xc_1.length co24) xc_1) := ⟨h0_⟩
            have n1_ : Aside0 (w28.heap[gb213]? = some (.cells #[.int .i64 0, .int .i64 0, .slice none 0 0] 32 (0, 0))) := ⟨h1_⟩
            have n2_ : Aside0 (w28.heap[gb223]? = some (.cells #[.int .i64 xa_1, .int .i64 xb_1, .slice Ao24 xc_1.length co24] 32 (0, 0))) := ⟨h2_⟩
            have n3_ : Aside0 (w28.heap[gb238]? = some (.cells #[.int .i64 0, .int .i64 0, .slice none 0 0] 32 (0, 0))) := ⟨h3_⟩
            have n4_ : Aside0 (w.heap.size ≤ gb238) := ⟨h4_⟩
            have n5_ : Aside0 (w0.heap.size ≤ gb238) := ⟨h5_⟩
            have n6_ : Aside0 (g ≠ gb238) := ⟨h6_⟩
            have n7_ : Aside0 (gb238 ≠ g) := ⟨h7_⟩
            have n8_ : Aside0 (gb213 ≠ gb238) := ⟨h8_⟩
            have n9_ : Aside0 (gb238 ≠ gb213) := ⟨h9_⟩
            have n10_ : Aside0 (gb223 ≠ gb238) := ⟨h10_⟩
            have n11_ : Aside0 (gb238 ≠ gb223) := ⟨h11_⟩
            have n12_ : Aside0 (IsS73 w0 w28 g s0_0 t227) := ⟨h12_⟩
            have n13_ : Aside0 (KeepBut w w28 g none) := ⟨h13_⟩
            have n14_ : Aside0 (Below w0.heap.size w0 w28) := ⟨h14_⟩
            clear HO_c
            clear BK213
            clear BK223
            clear HI0
            clear HK
            clear HB
            clear h0_ h1_ h2_ h3_ h4_ h5_ h6_ h7_ h8_ h9_ h10_ h11_ h12_ h13_ h14_
            have HO_c := n0_
            have BK213 := n1_
            have BK223 := n2_
            have BK238 := n3_
            have GW238 := n4_
            have GE238 := n5_
            have NB0_238 := n6_
            have NB238_0 := n7_
            have NB213_238 := n8_
            have NB238_213 := n9_
            have NB223_238 := n10_
            have NB238_223 := n11_
            have HI0 := n12_
            have HK := n13_
            have HB := n14_
            clear n0_ n1_ n2_ n3_ n4_ n5_ n6_ n7_ n8_ n9_ n10_ n11_ n12_ n13_ n14_
            have hHeld : w28.cell? ⟨gb223, 0, none⟩ = some (.int .i64 xa_1) ∧ w28.cell? ⟨gb223, 1, none⟩ = some (.int .i64 xb_1) ∧ w28.cell? ⟨gb223, 2, none⟩ = some (.slice Ao24 xc_1.length co24) := hS_
            refine norm_ (a' := ?_) ?_ ?_
            rotate_left
            ·simp only [putAll, Act.put, setIfInBounds_toArray, set_cons_zero, set_cons_succ]
             rfl
            refine one_ (i := 5) (N := some 28) #[true, true, true, true, true, true, false, false, false, false, false, false, true, false, false] rfl rfl (one_of HT_.out (by kernel_rfl)) (by decide) (fun K hK => ?_)
            refine goes_ Try.func43 (by kernel_rfl) rfl #[.pointer (some ⟨g, 0, none⟩), .int .i64 6] (by rfl) rfl rfl (by (try simp only [List.map_toArray, List.map_cons, List.map_nil]); first | done | rfl | (simp only [List.length_drop, List.length_take]; rfl)) ?_
            with_reducible refine (spec_l6Rd_pick.calls k1 g s0_0 t227 6 t228 t229 w0 _ ?side1 ?side2 A20.out).mono ?_
            (case side1 => repeat (first | (with_reducible first | exact HI0.out | apply yO | apply yL | apply yT | apply yJ | refine yI ?_ NB0_213.out _ | refine yI ?_ NB0_223.out _ | refine yI ?_ NB0_238.out _) | exact HI0.out))
            (case side2 => repeat (first | (with_reducible first | exact HB.out | apply below_alloc | apply yP | apply below_drew1 | refine yS ?_ (IsS73.ge HI0.out) | refine yS ?_ GE213.out | refine yS ?_ GE223.out | refine yS ?_ GE238.out) | exact HB.out))
            rintro e w29 ⟨rfl, hi, hb, hk⟩
            refine ⟨_, rfl, ?_⟩
            have n0_ := yM (Kd.R_mono (Kd.R_keep (IsS73.apart (show IsS73 w0 _ g s0_0 t227 from by repeat (first | (with_reducible first | exact HI0.out | apply yO | apply yL | apply yT | apply yJ | refine yI ?_ NB0_213.out _ | refine yI ?_ NB0_223.out _ | refine yI ?_ NB0_238.out _) | exact HI0.out)) (by (with_reducible repeat (first | apply Kd.R_alloc | apply Kd.R_drewN | apply Kd.R_drew)); exact HO_c.out) (by decide)) hk (fun _ h => h.2)) (fun _ h => h.1))
            have n1_ := yM (KeepBut.blk hk (g' := gb213) (o := .cells #[.int .i64 0, .int .i64 0, .slice none 0 0] 32 (0, 0)) (by (with_reducible repeat (first | refine yN ?_ _ | refine yD ?_ | refine yA ?_ _)); exact BK213.out) NB213_0.out (by simp))
            have n2_ := yM (KeepBut.blk hk (g' := gb223) (o := .cells #[.int .i64 xa_1, .int .i64 xb_1, .slice Ao24 xc_1.length co24] 32 (0, 0)) (by (with_reducible repeat (first | refine yN ?_ _ | refine yD ?_ | refine yA ?_ _)); exact BK223.out) NB223_0.out (by simp))
            have n3_ := yM (KeepBut.blk hk (g' := gb238) (o := .cells #[.int .i64 0, .int .i64 0, .slice none 0 0] 32 (0, 0)) (by (with_reducible repeat (first | refine yN ?_ _ | refine yD ?_ | refine yA ?_ _)); exact BK238.out) NB238_0.out (by simp))
            have n4_ := yM (KeepBut.trans (by repeat (first | (with_reducible first | exact HK.out | apply yK | apply yQ | apply keep_drew | apply yR | refine yF ?_ GW213.out _ | refine yF ?_ GW223.out _ | refine yF ?_ GW238.out _) | exact HK.out)) hk (.inl rfl))
            have n5_ := yM (hb)
            have n6_ := yM (hi)
            clear HO_c
            clear BK213
            clear BK223
            clear BK238
            clear HK
            clear HB
            clear HI0
            have HO_c := n0_
            have BK213 := n1_
            have BK223 := n2_
            have BK238 := n3_
            have HK := n4_
            have HB := n5_
            have HI0 := n6_
            clear n0_ n1_ n2_ n3_ n4_ n5_ n6_
            (try clear hb)
            (try clear hb2)
            (try clear hk)
            (try clear hi)
            refine hK.out _ _ ⟨(blk_cell BK223.out 0).trans rfl, (blk_cell BK223.out 1).trans rfl, (blk_cell BK223.out 2).trans rfl⟩ (fun hHeld => ?_)
            clear hK K
            refine norm_ (a' := ?_) ?_ ?_
            rotate_left
            ·show Act.put _ (some 28) _ = _
             simp only [Act.put, setIfInBounds_toArray, set_cons_zero, set_cons_succ, i64_w, i32_w]
             rfl
            refine pure_ (i := 6) (N := some 29) (v := ?_) (a' := ?_) #[true, true, true, true, true, true, true, false, false, false, false, false, true, false, false] rfl rfl (any_of HT_.out (by kernel_rfl)) (fun _ _ _ h => h) (Or.inl ⟨by rfl, ?_⟩) ?_ ?_
            rotate_left
            ·intro w'
             go_simp
             with_reducible rfl
            rotate_left
            ·simp only [Act.put, setIfInBounds_toArray, set_cons_zero, set_cons_succ, i64_w, i32_w]
             rfl
            exact norm_ (by first | (simp only [putAll, Act.put, setIfInBounds_toArray, set_cons_zero, set_cons_succ]; done) | (simp only [putAll, Act.put, setIfInBounds_toArray, set_cons_zero, set_cons_succ]; rfl)) (hJ2_5_12 (gb238) _ ⟨hHeld, (by (with_reducible repeat (first | apply Kd.R_alloc | apply Kd.R_drewN | apply Kd.R_drew)); exact HO_c.out), (by (with_reducible repeat (first | refine yN ?_ _ | refine yD ?_ | refine yA ?_ _)); exact BK213.out), (by (with_reducible repeat (first | refine yN ?_ _ | refine yD ?_ | refine yA ?_ _)); exact BK223.out), (by (with_reducible repeat (first | refine yN ?_ _ | refine yD ?_ | refine yA ?_ _)); exact BK238.out), GW238.out, GE238.out, NB0_238.out, NB238_0.out, NB213_238.out, NB238_213.out, NB223_238.out, NB238_223.out, (by repeat (first | (with_reducible first | exact HI0.out | apply yO | apply yL | apply yT | apply yJ | refine yI ?_ NB0_213.out _ | refine yI ?_ NB0_223.out _ | refine yI ?_ NB0_238.out _) | exact HI0.out)), (by repeat (first | (with_reducible first | exact HK.out | apply yK | apply yQ | apply keep_drew | apply yR | refine yF ?_ GW213.out _ | refine yF ?_ GW223.out _ | refine yF ?_ GW238.out _) | exact HK.out)), (by repeat (first | (with_reducible first | exact HB.out | apply below_alloc | apply yP | apply below_drew1 | refine yS ?_ (IsS73.ge HI0.out) | refine yS ?_ GE213.out | refine yS ?_ GE223.out | refine yS ?_ GE238.out) | exact HB.out))⟩)
          ·skip
           rintro _ w28 ⟨hS_, h0_, h1_, h2_, h3_, h4_, h5_⟩
           have n0_ : Aside0 (Kd.R k29 29 w28 w.heap.size (fun _ => True) (.slice Ao24 xc_1.length co24) xc_1) := ⟨h0_⟩
           have n1_ : Aside0 (w28.heap[gb213]? = some (.cells #[.int .i64 0, .int .i64 0, .slice none 0 0] 32 (0, 0))) := ⟨h1_⟩
           have n2_ : Aside0 (w28.heap[gb223]? = some (.cells #[.int .i64 xa_1, .int .i64 xb_1, .slice Ao24 xc_1.length co24] 32 (0, 0))) := ⟨h2_⟩
           have n3_ : Aside0 (IsS73 w0 w28 g s0_0 t229) := ⟨h3_⟩
           have n4_ : Aside0 (KeepBut w w28 g none) := ⟨h4_⟩
           have n5_ : Aside0 (Below w0.heap.size w0 w28) := ⟨h5_⟩
           clear HO_c
           clear BK213
           clear BK223
           clear HI0
           clear HK
           clear HB
           clear h0_ h1_ h2_ h3_ h4_ h5_
           have HO_c := n0_
           have BK213 := n1_
           have BK223 := n2_
           have HI0 := n3_
           have HK := n4_
           have HB := n5_
           clear n0_ n1_ n2_ n3_ n4_ n5_
           have hHeld : w28.cell? ⟨gb223, 0, none⟩ = some (.int .i64 xa_1) ∧ w28.cell? ⟨gb223, 1, none⟩ = some (.int .i64 xb_1) ∧ w28.cell? ⟨gb223, 2, none⟩ = some (.slice Ao24 xc_1.length co24) := hS_
           refine norm_ (a' := ?_) ?_ ?_
           rotate_left
           ·simp only [putAll, Act.put, setIfInBounds_toArray, set_cons_zero, set_cons_succ]
            rfl
           refine two_ (i := 7) (j := 12) (Ni := some 30) (Nj := some 5) #[true, true, true, true, true, true, true, true, false, false, false, false, false, false, false] #[true, true, true, true, true, true, true, false, false, false, false, false, true, false, false] rfl rfl rfl rfl (two_of HT_.out (by kernel_rfl)) (by decide) (by decide) (fun K hK => ?_) (fun K hK => ?_)
           ·skip
            refine goes_ Try.func56 (by kernel_rfl) rfl #[.int .i64 (wrap64 (1 + t226)), .int .i64 (wrap64 (1 + t228))] (by rfl) rfl rfl (by (try simp only [List.map_toArray, List.map_cons, List.map_nil]); first | done | rfl | (simp only [List.length_drop, List.length_take]; rfl)) ?_
            with_reducible refine (spec_l31Of.calls k1 (wrap64 (1 + t226)) (wrap64 (1 + t228)) t230 t231 _ A21.out).mono ?_
            rintro e w29 ⟨rfl, hb⟩
            refine ⟨_, rfl, ?_⟩
            have n0_ := yM (Kd.R_below (by (with_reducible repeat (first | apply Kd.R_alloc | apply Kd.R_drewN | apply Kd.R_drew)); exact HO_c.out) hb)
            have n1_ := yM (blk_below (g := gb213) (o := .cells #[.int .i64 0, .int .i64 0, .slice none 0 0] 32 (0, 0)) (by (with_reducible repeat (first | refine yN ?_ _ | refine yD ?_ | refine yA ?_ _)); exact BK213.out) hb)
            have n2_ := yM (blk_below (g := gb223) (o := .cells #[.int .i64 xa_1, .int .i64 xb_1, .slice Ao24 xc_1.length co24] 32 (0, 0)) (by (with_reducible repeat (first | refine yN ?_ _ | refine yD ?_ | refine yA ?_ _)); exact BK223.out) hb)
            have n3_ := yM (IsS73.below (by repeat (first | (with_reducible first | exact HI0.out | apply yO | apply yL | apply yT | apply yJ | refine yI ?_ NB0_213.out _ | refine yI ?_ NB0_223.out _) | exact HI0.out)) hb)
            have n4_ := yM (KeepBut.trans (by repeat (first | (with_reducible first | exact HK.out | apply yK | apply yQ | apply keep_drew | apply yR | refine yF ?_ GW213.out _ | refine yF ?_ GW223.out _) | exact HK.out)) (KeepBut.of_below hb g none) (.inl rfl))
            have n5_ := yM (below_step (by repeat (first | (with_reducible first | exact HB.out | apply below_alloc | apply yP | apply below_drew1 | refine yS ?_ (IsS73.ge HI0.out) | refine yS ?_ GE213.out | refine yS ?_ GE223.out) | exact HB.out)) hb)
            clear HO_c
            clear BK213
            clear BK223
            clear HI0
            clear HK
            clear HB
            have HO_c := n0_
            have BK213 := n1_
            have BK223 := n2_
            have HI0 := n3_
            have HK := n4_
            have HB := n5_
            clear n0_ n1_ n2_ n3_ n4_ n5_
            (try clear hb)
            (try clear hb2)
            (try clear hk)
            (try clear hi)
            refine hK.out _ _ ⟨(blk_cell BK223.out 0).trans rfl, (blk_cell BK223.out 1).trans rfl, (blk_cell BK223.out 2).trans rfl⟩ (fun hHeld => ?_)
            clear hK K
            refine norm_ (a' := ?_) ?_ ?_
            rotate_left
            ·show Act.put _ (some 30) _ = _
             simp only [Act.put, setIfInBounds_toArray, set_cons_zero, set_cons_succ, i64_w, i32_w]
             rfl
            exact norm_ (by first | (simp only [putAll, Act.put, setIfInBounds_toArray, set_cons_zero, set_cons_succ]; done) | (simp only [putAll, Act.put, setIfInBounds_toArray, set_cons_zero, set_cons_succ]; rfl)) (hJ2_5_7 () _ ⟨hHeld, (by (with_reducible repeat (first | apply Kd.R_alloc | apply Kd.R_drewN | apply Kd.R_drew)); exact HO_c.out), (by (with_reducible repeat (first | refine yN ?_ _ | refine yD ?_ | refine yA ?_ _)); exact BK213.out), (by (with_reducible repeat (first | refine yN ?_ _ | refine yD ?_ | refine yA ?_ _)); exact BK223.out), (by repeat (first | (with_reducible first | exact HI0.out | apply yO | apply yL | apply yT | apply yJ | refine yI ?_ NB0_213.out _ | refine yI ?_ NB0_223.out _) | exact HI0.out)), (by repeat (first | (with_reducible first | exact HK.out | apply yK | apply yQ | apply keep_drew | apply yR | refine yF ?_ GW213.out _ | refine yF ?_ GW223.out _) | exact HK.out)), (by repeat (first | (with_reducible first | exact HB.out | apply below_alloc | apply yP | apply below_drew1 | refine yS ?_ (IsS73.ge HI0.out) | refine yS ?_ GE213.out | refine yS ?_ GE223.out) | exact HB.out))⟩)
           ·skip
            refine box_step ?hg (N := 5) ?hd (cs := #[.int .i64 0, .int .i64 0, .slice none 0 0]) (t := 32) ?hr ?_; (case hd => rfl); (case hg => rfl); (case hr => first | (go_simp; done) | (go_simp; rfl))
            intro gb238 hg w29 hbox hb
            have n0_ := yM (Kd.R_below (by (with_reducible repeat (first | apply Kd.R_alloc | apply Kd.R_drewN | apply Kd.R_drew)); exact HO_c.out) hb)
            have n1_ := yM (blk_below (g := gb213) (o := .cells #[.int .i64 0, .int .i64 0, .slice none 0 0] 32 (0, 0)) (by (with_reducible repeat (first | refine yN ?_ _ | refine yD ?_ | refine yA ?_ _)); exact BK213.out) hb)
            have n2_ := yM (blk_below (g := gb223) (o := .cells #[.int .i64 xa_1, .int .i64 xb_1, .slice Ao24 xc_1.length co24] 32 (0, 0)) (by (with_reducible repeat (first | refine yN ?_ _ | refine yD ?_ | refine yA ?_ _)); exact BK223.out) hb)
            have n3_ := yM (IsS73.below (by repeat (first | (with_reducible first | exact HI0.out | apply yO | apply yL | apply yT | apply yJ | refine yI ?_ NB0_213.out _ | refine yI ?_ NB0_223.out _) | exact HI0.out)) hb)
            have n4_ := yM (KeepBut.trans (by repeat (first | (with_reducible first | exact HK.out | apply yK | apply yQ | apply keep_drew | apply yR | refine yF ?_ GW213.out _ | refine yF ?_ GW223.out _) | exact HK.out)) (KeepBut.of_below hb g none) (.inl rfl))
            have n5_ := yM (below_step (by repeat (first | (with_reducible first | exact HB.out | apply below_alloc | apply yP | apply below_drew1 | refine yS ?_ (IsS73.ge HI0.out) | refine yS ?_ GE213.out | refine yS ?_ GE223.out) | exact HB.out)) hb)
            have n6_ := yM (hbox)
            have n7_ := yM ((by rw [hg]; exact (keep_size (w := w) (g := g) (row := none) (by repeat (first | (with_reducible first | exact HK.out | apply yK | apply yQ | apply keep_drew | apply yR | refine yF ?_ GW213.out _ | refine yF ?_ GW223.out _) | exact HK.out))) : w.heap.size ≤ gb238))
            have n8_ := yM ((Nat.le_trans HW0.out (by rw [hg]; exact (keep_size (w := w) (g := g) (row := none) (by repeat (first | (with_reducible first | exact HK.out | apply yK | apply yQ | apply keep_drew | apply yR | refine yF ?_ GW213.out _ | refine yF ?_ GW223.out _) | exact HK.out))) : w.heap.size ≤ gb238) : w0.heap.size ≤ gb238))
            have n9_ := yM ((by rw [hg]; exact Nat.ne_of_lt (blk_lt (g := gb213) (o := .cells #[.int .i64 0, .int .i64 0, .slice none 0 0] 32 (0, 0)) (by (with_reducible repeat (first | refine yN ?_ _ | refine yD ?_ | refine yA ?_ _)); exact BK213.out)) : gb213 ≠ gb238))
            have n10_ := yM ((by rw [hg]; exact Nat.ne_of_gt (blk_lt (g := gb213) (o := .cells #[.int .i64 0, .int .i64 0, .slice none 0 0] 32 (0, 0)) (by (with_reducible repeat (first | refine yN ?_ _ | refine yD ?_ | refine yA ?_ _)); exact BK213.out)) : gb238 ≠ gb213))
            have n11_ := yM ((by rw [hg]; exact Nat.ne_of_lt (blk_lt (g := gb223) (o := .cells #[.int .i64 xa_1, .int .i64 xb_1, .slice Ao24 xc_1.length co24] 32 (0, 0)) (by (with_reducible repeat (first | refine yN ?_ _ | refine yD ?_ | refine yA ?_ _)); exact BK223.out)) : gb223 ≠ gb238))
            have n12_ := yM ((by rw [hg]; exact Nat.ne_of_gt (blk_lt (g := gb223) (o := .cells #[.int .i64 xa_1, .int .i64 xb_1, .slice Ao24 xc_1.length co24] 32 (0, 0)) (by (with_reducible repeat (first | refine yN ?_ _ | refine yD ?_ | refine yA ?_ _)); exact BK223.out)) : gb238 ≠ gb223))
            have n13_ := yM ((by rw [hg]; exact Nat.ne_of_lt (IsS73.lt (show IsS73 w0 _ g s0_0 t229 from by repeat (first | (with_reducible first | exact HI0.out | apply yO | apply yL | apply yT | apply yJ | refine yI ?_ NB0_213.out _ | refine yI ?_ NB0_223.out _) | exact HI0.out))) : g ≠ gb238))
            have n14_ := yM ((by rw [hg]; exact Nat.ne_of_gt (IsS73.lt (show IsS73 w0 _ g s0_0 t229 from by repeat (first | (with_reducible first | exact HI0.out | apply yO | apply yL | apply yT | apply yJ | refine yI ?_ NB0_213.out _ | refine yI ?_ NB0_223.out _) | exact HI0.out))) : gb238 ≠ g))
            clear HO_c
            clear BK213
            clear BK223
            clear HI0
            clear HK
            clear HB
            have HO_c := n0_
            have BK213 := n1_
            have BK223 := n2_
            have HI0 := n3_
            have HK := n4_
            have HB := n5_
            have BK238 := n6_
            have GW238 := n7_
            have GE238 := n8_
            have NB213_238 := n9_
            have NB238_213 := n10_
            have NB223_238 := n11_
            have NB238_223 := n12_
            have NB0_238 := n13_
            have NB238_0 := n14_
            clear n0_ n1_ n2_ n3_ n4_ n5_ n6_ n7_ n8_ n9_ n10_ n11_ n12_ n13_ n14_
            clear hb hbox hg
            refine hK.out _ _ ⟨(blk_cell BK223.out 0).trans rfl, (blk_cell BK223.out 1).trans rfl, (blk_cell BK223.out 2).trans rfl⟩ (fun hHeld => ?_)
            clear hK K
            refine norm_ (a' := ?_) ?_ ?_
            rotate_left
            ·show Act.put _ (some 5) _ = _
             simp only [Act.put, setIfInBounds_toArray, set_cons_zero, set_cons_succ, i64_w, i32_w]
             rfl
            exact norm_ (by first | (simp only [putAll, Act.put, setIfInBounds_toArray, set_cons_zero, set_cons_succ]; done) | (simp only [putAll, Act.put, setIfInBounds_toArray, set_cons_zero, set_cons_succ]; rfl)) (hJ2_5_12 (gb238) _ ⟨hHeld, (by (with_reducible repeat (first | apply Kd.R_alloc | apply Kd.R_drewN | apply Kd.R_drew)); exact HO_c.out), (by (with_reducible repeat (first | refine yN ?_ _ | refine yD ?_ | refine yA ?_ _)); exact BK213.out), (by (with_reducible repeat (first | refine yN ?_ _ | refine yD ?_ | refine yA ?_ _)); exact BK223.out), (by (with_reducible repeat (first | refine yN ?_ _ | refine yD ?_ | refine yA ?_ _)); exact BK238.out), GW238.out, GE238.out, NB0_238.out, NB238_0.out, NB213_238.out, NB238_213.out, NB223_238.out, NB238_223.out, (by repeat (first | (with_reducible first | exact HI0.out | apply yO | apply yL | apply yT | apply yJ | refine yI ?_ NB0_213.out _ | refine yI ?_ NB0_223.out _ | refine yI ?_ NB0_238.out _) | exact HI0.out)), (by repeat (first | (with_reducible first | exact HK.out | apply yK | apply yQ | apply keep_drew | apply yR | refine yF ?_ GW213.out _ | refine yF ?_ GW223.out _ | refine yF ?_ GW238.out _) | exact HK.out)), (by repeat (first | (with_reducible first | exact HB.out | apply below_alloc | apply yP | apply below_drew1 | refine yS ?_ (IsS73.ge HI0.out) | refine yS ?_ GE213.out | refine yS ?_ GE223.out | refine yS ?_ GE238.out) | exact HB.out))⟩)
         ·skip
          rintro gb238 w29 ⟨hS_, h0_, h1_, h2_, h3_, h4_, h5_, h6_, h7_, h8_, h9_, h10_, h11_, h12_, h13_, h14_⟩
          have n0_ : Aside0 (Kd.R k29 29 w29 w.heap.size (fun _ => True) (.slice Ao24 xc_1.length co24) xc_1) := ⟨h0_⟩
          have n1_ : Aside0 (w29.heap[gb213]? = some (.cells #[.int .i64 0, .int .i64 0, .slice none 0 0] 32 (0, 0))) := ⟨h1_⟩
          have n2_ : Aside0 (w29.heap[gb223]? = some (.cells #[.int .i64 xa_1, .int .i64 xb_1, .slice Ao24 xc_1.length co24] 32 (0, 0))) := ⟨h2_⟩
          have n3_ : Aside0 (w29.heap[gb238]? = some (.cells #[.int .i64 0, .int .i64 0, .slice none 0 0] 32 (0, 0))) := ⟨h3_⟩
          have n4_ : Aside0 (w.heap.size ≤ gb238) := ⟨h4_⟩
          have n5_ : Aside0 (w0.heap.size ≤ gb238) := ⟨h5_⟩
          have n6_ : Aside0 (g ≠ gb238) := ⟨h6_⟩
          have n7_ : Aside0 (gb238 ≠ g) := ⟨h7_⟩
          have n8_ : Aside0 (gb213 ≠ gb238) := ⟨h8_⟩
          have n9_ : Aside0 (gb238 ≠ gb213) := ⟨h9_⟩
          have n10_ : Aside0 (gb223 ≠ gb238) := ⟨h10_⟩
          have n11_ : Aside0 (gb238 ≠ gb223) := ⟨h11_⟩
          have n12_ : Aside0 (IsS73 w0 w29 g s0_0 t229) := ⟨h12_⟩
          have n13_ : Aside0 (KeepBut w w29 g none) := ⟨h13_⟩
          have n14_ : Aside0 (Below w0.heap.size w0 w29) := ⟨h14_⟩
          clear HO_c
          clear BK213
          clear BK223
          clear HI0
          clear HK
          clear HB
          clear h0_ h1_ h2_ h3_ h4_ h5_ h6_ h7_ h8_ h9_ h10_ h11_ h12_ h13_ h14_
          have HO_c := n0_
          have BK213 := n1_
          have BK223 := n2_
          have BK238 := n3_
          have GW238 := n4_
          have GE238 := n5_
          have NB0_238 := n6_
          have NB238_0 := n7_
          have NB213_238 := n8_
          have NB238_213 := n9_
          have NB223_238 := n10_
          have NB238_223 := n11_
          have HI0 := n12_
          have HK := n13_
          have HB := n14_
          clear n0_ n1_ n2_ n3_ n4_ n5_ n6_ n7_ n8_ n9_ n10_ n11_ n12_ n13_ n14_
          have hHeld : w29.cell? ⟨gb223, 0, none⟩ = some (.int .i64 xa_1) ∧ w29.cell? ⟨gb223, 1, none⟩ = some (.int .i64 xb_1) ∧ w29.cell? ⟨gb223, 2, none⟩ = some (.slice Ao24 xc_1.length co24) := hS_
          refine norm_ (a' := ?_) ?_ ?_
          rotate_left
          ·simp only [putAll, Act.put, setIfInBounds_toArray, set_cons_zero, set_cons_succ]
           rfl
          refine one_ (i := 7) (N := some 30) #[true, true, true, true, true, true, true, true, false, false, false, false, true, false, false] rfl rfl (one_of HT_.out (by kernel_rfl)) (by decide) (fun K hK => ?_)
          refine goes_ Try.func56 (by kernel_rfl) rfl #[.int .i64 (wrap64 (1 + t226)), .int .i64 (wrap64 (1 + t228))] (by rfl) rfl rfl (by (try simp only [List.map_toArray, List.map_cons, List.map_nil]); first | done | rfl | (simp only [List.length_drop, List.length_take]; rfl)) ?_
          with_reducible refine (spec_l31Of.calls k1 (wrap64 (1 + t226)) (wrap64 (1 + t228)) t230 t231 _ A21.out).mono ?_
          rintro e w30 ⟨rfl, hb⟩
          refine ⟨_, rfl, ?_⟩
          have n0_ := yM (Kd.R_below (by (with_reducible repeat (first | apply Kd.R_alloc | apply Kd.R_drewN | apply Kd.R_drew)); exact HO_c.out) hb)
          have n1_ := yM (blk_below (g := gb213) (o := .cells #[.int .i64 0, .int .i64 0, .slice none 0 0] 32 (0, 0)) (by (with_reducible repeat (first | refine yN ?_ _ | refine yD ?_ | refine yA ?_ _)); exact BK213.out) hb)
          have n2_ := yM (blk_below (g := gb223) (o := .cells #[.int .i64 xa_1, .int .i64 xb_1, .slice Ao24 xc_1.length co24] 32 (0, 0)) (by (with_reducible repeat (first | refine yN ?_ _ | refine yD ?_ | refine yA ?_ _)); exact BK223.out) hb)
          have n3_ := yM (IsS73.below (by repeat (first | (with_reducible first | exact HI0.out | apply yO | apply yL | apply yT | apply yJ | refine yI ?_ NB0_213.out _ | refine yI ?_ NB0_223.out _ | refine yI ?_ NB0_238.out _) | exact HI0.out)) hb)
          have n4_ := yM (blk_below (g := gb238) (o := .cells #[.int .i64 0, .int .i64 0, .slice none 0 0] 32 (0, 0)) (by (with_reducible repeat (first | refine yN ?_ _ | refine yD ?_ | refine yA ?_ _)); exact BK238.out) hb)
          have n5_ := yM (KeepBut.trans (by repeat (first | (with_reducible first | exact HK.out | apply yK | apply yQ | apply keep_drew | apply yR | refine yF ?_ GW213.out _ | refine yF ?_ GW223.out _ | refine yF ?_ GW238.out _) | exact HK.out)) (KeepBut.of_below hb g none) (.inl rfl))
          have n6_ := yM (below_step (by repeat (first | (with_reducible first | exact HB.out | apply below_alloc | apply yP | apply below_drew1 | refine yS ?_ (IsS73.ge HI0.out) | refine yS ?_ GE213.out | refine yS ?_ GE223.out | refine yS ?_ GE238.out) | exact HB.out)) hb)
          clear HO_c
          clear BK213
          clear BK223
          clear HI0
          clear BK238
          clear HK
          clear HB
          have HO_c := n0_
          have BK213 := n1_
          have BK223 := n2_
          have HI0 := n3_
          have BK238 := n4_
          have HK := n5_
          have HB := n6_
          clear n0_ n1_ n2_ n3_ n4_ n5_ n6_
          (try clear hb)
          (try clear hb2)
          (try clear hk)
          (try clear hi)
          refine hK.out _ _ ⟨(blk_cell BK223.out 0).trans rfl, (blk_cell BK223.out 1).trans rfl, (blk_cell BK223.out 2).trans rfl⟩ (fun hHeld => ?_)
          clear hK K
          refine norm_ (a' := ?_) ?_ ?_
          rotate_left
          ·show Act.put _ (some 30) _ = _
           simp only [Act.put, setIfInBounds_toArray, set_cons_zero, set_cons_succ, i64_w, i32_w]
           rfl
          exact norm_ (by first | (simp only [putAll, Act.put, setIfInBounds_toArray, set_cons_zero, set_cons_succ]; done) | (simp only [putAll, Act.put, setIfInBounds_toArray, set_cons_zero, set_cons_succ]; rfl)) (hJ2_5_7_12 (gb238) _ ⟨hHeld, (by (with_reducible repeat (first | apply Kd.R_alloc | apply Kd.R_drewN | apply Kd.R_drew)); exact HO_c.out), (by (with_reducible repeat (first | refine yN ?_ _ | refine yD ?_ | refine yA ?_ _)); exact BK213.out), (by (with_reducible repeat (first | refine yN ?_ _ | refine yD ?_ | refine yA ?_ _)); exact BK223.out), (by (with_reducible repeat (first | refine yN ?_ _ | refine yD ?_ | refine yA ?_ _)); exact BK238.out), GW238.out, GE238.out, NB0_238.out, NB238_0.out, NB213_238.out, NB238_213.out, NB223_238.out, NB238_223.out, (by repeat (first | (with_reducible first | exact HI0.out | apply yO | apply yL | apply yT | apply yJ | refine yI ?_ NB0_213.out _ | refine yI ?_ NB0_223.out _ | refine yI ?_ NB0_238.out _) | exact HI0.out)), (by repeat (first | (with_reducible first | exact HK.out | apply yK | apply yQ | apply keep_drew | apply yR | refine yF ?_ GW213.out _ | refine yF ?_ GW223.out _ | refine yF ?_ GW238.out _) | exact HK.out)), (by repeat (first | (with_reducible first | exact HB.out | apply below_alloc | apply yP | apply below_drew1 | refine yS ?_ (IsS73.ge HI0.out) | refine yS ?_ GE213.out | refine yS ?_ GE223.out | refine yS ?_ GE238.out) | exact HB.out))⟩)
        ·skip
         rintro _ w29 ⟨hS_, h0_, h1_, h2_, h3_, h4_, h5_⟩
         have n0_ : Aside0 (Kd.R k29 29 w29 w.heap.size (fun _ => True) (.slice Ao24 xc_1.length co24) xc_1) := ⟨h0_⟩
         have n1_ : Aside0 (w29.heap[gb213]? = some (.cells #[.int .i64 0, .int .i64 0, .slice none 0 0] 32 (0, 0))) := ⟨h1_⟩
         have n2_ : Aside0 (w29.heap[gb223]? = some (.cells #[.int .i64 xa_1, .int .i64 xb_1, .slice Ao24 xc_1.length co24] 32 (0, 0))) := ⟨h2_⟩
         have n3_ : Aside0 (IsS73 w0 w29 g s0_0 t229) := ⟨h3_⟩
         have n4_ : Aside0 (KeepBut w w29 g none) := ⟨h4_⟩
         have n5_ : Aside0 (Below w0.heap.size w0 w29) := ⟨h5_⟩
         clear HO_c
         clear BK213
         clear BK223
         clear HI0
         clear HK
         clear HB
         clear h0_ h1_ h2_ h3_ h4_ h5_
         have HO_c := n0_
         have BK213 := n1_
         have BK223 := n2_
         have HI0 := n3_
         have HK := n4_
         have HB := n5_
         clear n0_ n1_ n2_ n3_ n4_ n5_
         have hHeld : w29.cell? ⟨gb223, 0, none⟩ = some (.int .i64 xa_1) ∧ w29.cell? ⟨gb223, 1, none⟩ = some (.int .i64 xb_1) ∧ w29.cell? ⟨gb223, 2, none⟩ = some (.slice Ao24 xc_1.length co24) := hS_
         refine norm_ (a' := ?_) ?_ ?_
         rotate_left
         ·simp only [putAll, Act.put, setIfInBounds_toArray, set_cons_zero, set_cons_succ]
          rfl
         refine two_ (i := 8) (j := 12) (Ni := some 31) (Nj := some 5) #[true, true, true, true, true, true, true, true, true, false, false, false, false, false, false] #[true, true, true, true, true, true, true, true, false, false, false, false, true, false, false] rfl rfl rfl rfl (two_of HT_.out (by kernel_rfl)) (by decide) (by decide) (fun K hK => ?_) (fun K hK => ?_)
         ·skip
          refine goes_ Try.func27 (by kernel_rfl) rfl #[.agg #[.int .i64 xa_1, .int .i64 xb_1, .slice Ao24 xc_1.length co24], .agg #[.int .i64 t230, .int .i64 t231]] (by rfl) rfl rfl (by (try simp only [List.map_toArray, List.map_cons, List.map_nil]); first | done | rfl | (simp only [List.length_drop, List.length_take]; rfl)) ?_
          with_reducible refine (spec_LedgerPay.calls k1 xa_1 xb_1 _ _ xc_1 t230 t231 t232 t233 t234 true _ ?side1 ?side2 A22.out).mono ?_
          (case side1 => repeat (first | exact (Kd.R_reads' HO_c.out).2.2 | (with_reducible refine Kd.C_alloc ?_ _) | (with_reducible refine Kd.C_drewN ?_ _) | (with_reducible refine Kd.C_drew ?_)))
          (case side2 => exact (Kd.R_reads' HO_c.out).2.1)
          rintro e w30 ⟨v235, rfl, ho0, hb⟩
          refine ⟨_, rfl, ?_⟩
          have n0_ := yM (Kd.R_elder' (by (with_reducible repeat (first | apply Kd.R_alloc | apply Kd.R_drewN | apply Kd.R_drew)); exact HO_c.out) (Kd.R_base ho0) hb)
          have n1_ := yM (Kd.R_lower (Kd.R_new' ho0 (Kd.R_lt (by (with_reducible repeat (first | apply Kd.R_alloc | apply Kd.R_drewN | apply Kd.R_drew)); exact HO_c.out))) (keep_size (w := w) (g := g) (row := none) (by repeat (first | (with_reducible first | exact HK.out | apply yK | apply yQ | apply keep_drew | apply yR | refine yF ?_ GW213.out _ | refine yF ?_ GW223.out _) | exact HK.out))))
          have n2_ := yM (blk_below (g := gb213) (o := .cells #[.int .i64 0, .int .i64 0, .slice none 0 0] 32 (0, 0)) (by (with_reducible repeat (first | refine yN ?_ _ | refine yD ?_ | refine yA ?_ _)); exact BK213.out) hb)
          have n3_ := yM (blk_below (g := gb223) (o := .cells #[.int .i64 xa_1, .int .i64 xb_1, .slice Ao24 xc_1.length co24] 32 (0, 0)) (by (with_reducible repeat (first | refine yN ?_ _ | refine yD ?_ | refine yA ?_ _)); exact BK223.out) hb)
          have n4_ := yM (IsS73.below (by repeat (first | (with_reducible first | exact HI0.out | apply yO | apply yL | apply yT | apply yJ | refine yI ?_ NB0_213.out _ | refine yI ?_ NB0_223.out _) | exact HI0.out)) hb)
          have n5_ := yM (KeepBut.trans (by repeat (first | (with_reducible first | exact HK.out | apply yK | apply yQ | apply keep_drew | apply yR | refine yF ?_ GW213.out _ | refine yF ?_ GW223.out _) | exact HK.out)) (KeepBut.of_below hb g none) (.inl rfl))
          have n6_ := yM (below_step (by repeat (first | (with_reducible first | exact HB.out | apply below_alloc | apply yP | apply below_drew1 | refine yS ?_ (IsS73.ge HI0.out) | refine yS ?_ GE213.out | refine yS ?_ GE223.out) | exact HB.out)) hb)
          clear HO_c
          clear BK213
          clear BK223
          clear HI0
          clear HK
          clear HB
          have HO_c := n0_
          have HO236 := n1_
          have BK213 := n2_
          have BK223 := n3_
          have HI0 := n4_
          have HK := n5_
          have HB := n6_
          clear n0_ n1_ n2_ n3_ n4_ n5_ n6_
          (try clear hb)
          (try clear hb2)
          (try clear hk)
          (try clear hi)
          (try clear ho0)
          refine hK.out _ _ ⟨(blk_cell BK223.out 0).trans rfl, (blk_cell BK223.out 1).trans rfl, (blk_cell BK223.out 2).trans rfl⟩ (fun hHeld => ?_)
          clear hK K
          refine norm_ (a' := ?_) ?_ ?_
          rotate_left
          ·show Act.put _ (some 31) _ = _
           simp only [Act.put, setIfInBounds_toArray, set_cons_zero, set_cons_succ, i64_w, i32_w]
           rfl
          refine pure_ (i := 9) (N := some 22) (v := ?_) (a' := ?_) #[true, true, true, true, true, true, true, true, true, true, false, false, false, false, false] rfl rfl (any_of HT_.out (by kernel_rfl)) (fun _ _ _ h => h) (Or.inl ⟨by rfl, ?_⟩) ?_ ?_
          rotate_left
          ·intro w'
           go_simp
           with_reducible rfl
          rotate_left
          ·simp only [Act.put, setIfInBounds_toArray, set_cons_zero, set_cons_succ, i64_w, i32_w]
           rfl
          refine pure_ (i := 10) (N := some 32) (v := ?_) (a' := ?_) #[true, true, true, true, true, true, true, true, true, true, true, false, false, false, false] rfl rfl (any_of HT_.out (by kernel_rfl)) (fun _ _ _ h => h) (Or.inl ⟨by rfl, ?_⟩) ?_ ?_
          rotate_left
          ·intro w'
           go_simp
           with_reducible rfl
          rotate_left
          ·simp only [Act.put, setIfInBounds_toArray, set_cons_zero, set_cons_succ, i64_w, i32_w]
           rfl
          refine pure_ (i := 11) (N := some 33) (v := ?_) (a' := ?_) #[true, true, true, true, true, true, true, true, true, true, true, true, false, false, false] rfl rfl (any_of HT_.out (by kernel_rfl)) (fun _ _ _ h => h) (Or.inl ⟨by rfl, ?_⟩) ?_ ?_
          rotate_left
          ·intro w'
           go_simp
           with_reducible rfl
          rotate_left
          ·simp only [Act.put, setIfInBounds_toArray, set_cons_zero, set_cons_succ, i64_w, i32_w]
           rfl
          exact norm_ (by first | (simp only [putAll, Act.put, setIfInBounds_toArray, set_cons_zero, set_cons_succ]; done) | (simp only [putAll, Act.put, setIfInBounds_toArray, set_cons_zero, set_cons_succ]; rfl)) (hJ2_5_7_8 (v235) _ ⟨hHeld, (by (with_reducible repeat (first | apply Kd.R_alloc | apply Kd.R_drewN | apply Kd.R_drew)); exact Kd.R_mono HO236.out (fun _ hk => hk.2)), (by (with_reducible repeat (first | apply Kd.R_alloc | apply Kd.R_drewN | apply Kd.R_drew)); exact Kd.R_mono HO_c.out (fun _ hk => hk.2)), (by (with_reducible repeat (first | refine yN ?_ _ | refine yD ?_ | refine yA ?_ _)); exact BK213.out), (by (with_reducible repeat (first | refine yN ?_ _ | refine yD ?_ | refine yA ?_ _)); exact BK223.out), (by repeat (first | (with_reducible first | exact HI0.out | apply yO | apply yL | apply yT | apply yJ | refine yI ?_ NB0_213.out _ | refine yI ?_ NB0_223.out _) | exact HI0.out)), (by repeat (first | (with_reducible first | exact HK.out | apply yK | apply yQ | apply keep_drew | apply yR | refine yF ?_ GW213.out _ | refine yF ?_ GW223.out _) | exact HK.out)), (by repeat (first | (with_reducible first | exact HB.out | apply below_alloc | apply yP | apply below_drew1 | refine yS ?_ (IsS73.ge HI0.out) | refine yS ?_ GE213.out | refine yS ?_ GE223.out) | exact HB.out))⟩)
         ·skip
          refine box_step ?hg (N := 5) ?hd (cs := #[.int .i64 0, .int .i64 0, .slice none 0 0]) (t := 32) ?hr ?_; (case hd => rfl); (case hg => rfl); (case hr => first | (go_simp; done) | (go_simp; rfl))
          intro gb238 hg w30 hbox hb
          have n0_ := yM (Kd.R_below (by (with_reducible repeat (first | apply Kd.R_alloc | apply Kd.R_drewN | apply Kd.R_drew)); exact HO_c.out) hb)
          have n1_ := yM (blk_below (g := gb213) (o := .cells #[.int .i64 0, .int .i64 0, .slice none 0 0] 32 (0, 0)) (by (with_reducible repeat (first | refine yN ?_ _ | refine yD ?_ | refine yA ?_ _)); exact BK213.out) hb)
          have n2_ := yM (blk_below (g := gb223) (o := .cells #[.int .i64 xa_1, .int .i64 xb_1, .slice Ao24 xc_1.length co24] 32 (0, 0)) (by (with_reducible repeat (first | refine yN ?_ _ | refine yD ?_ | refine yA ?_ _)); exact BK223.out) hb)
          have n3_ := yM (IsS73.below (by repeat (first | (with_reducible first | exact HI0.out | apply yO | apply yL | apply yT | apply yJ | refine yI ?_ NB0_213.out _ | refine yI ?_ NB0_223.out _) | exact HI0.out)) hb)
          have n4_ := yM (KeepBut.trans (by repeat (first | (with_reducible first | exact HK.out | apply yK | apply yQ | apply keep_drew | apply yR | refine yF ?_ GW213.out _ | refine yF ?_ GW223.out _) | exact HK.out)) (KeepBut.of_below hb g none) (.inl rfl))
          have n5_ := yM (below_step (by repeat (first | (with_reducible first | exact HB.out | apply below_alloc | apply yP | apply below_drew1 | refine yS ?_ (IsS73.ge HI0.out) | refine yS ?_ GE213.out | refine yS ?_ GE223.out) | exact HB.out)) hb)
          have n6_ := yM (hbox)
          have n7_ := yM ((by rw [hg]; exact (keep_size (w := w) (g := g) (row := none) (by repeat (first | (with_reducible first | exact HK.out | apply yK | apply yQ | apply keep_drew | apply yR | refine yF ?_ GW213.out _ | refine yF ?_ GW223.out _) | exact HK.out))) : w.heap.size ≤ gb238))
          have n8_ := yM ((Nat.le_trans HW0.out (by rw [hg]; exact (keep_size (w := w) (g := g) (row := none) (by repeat (first | (with_reducible first | exact HK.out | apply yK | apply yQ | apply keep_drew | apply yR | refine yF ?_ GW213.out _ | refine yF ?_ GW223.out _) | exact HK.out))) : w.heap.size ≤ gb238) : w0.heap.size ≤ gb238))
          have n9_ := yM ((by rw [hg]; exact Nat.ne_of_lt (blk_lt (g := gb213) (o := .cells #[.int .i64 0, .int .i64 0, .slice none 0 0] 32 (0, 0)) (by (with_reducible repeat (first | refine yN ?_ _ | refine yD ?_ | refine yA ?_ _)); exact BK213.out)) : gb213 ≠ gb238))
          have n10_ := yM ((by rw [hg]; exact Nat.ne_of_gt (blk_lt (g := gb213) (o := .cells #[.int .i64 0, .int .i64 0, .slice none 0 0] 32 (0, 0)) (by (with_reducible repeat (first | refine yN ?_ _ | refine yD ?_ | refine yA ?_ _)); exact BK213.out)) : gb238 ≠ gb213))
          have n11_ := yM ((by rw [hg]; exact Nat.ne_of_lt (blk_lt (g := gb223) (o := .cells #[.int .i64 xa_1, .int .i64 xb_1, .slice Ao24 xc_1.length co24] 32 (0, 0)) (by (with_reducible repeat (first | refine yN ?_ _ | refine yD ?_ | refine yA ?_ _)); exact BK223.out)) : gb223 ≠ gb238))
          have n12_ := yM ((by rw [hg]; exact Nat.ne_of_gt (blk_lt (g := gb223) (o := .cells #[.int .i64 xa_1, .int .i64 xb_1, .slice Ao24 xc_1.length co24] 32 (0, 0)) (by (with_reducible repeat (first | refine yN ?_ _ | refine yD ?_ | refine yA ?_ _)); exact BK223.out)) : gb238 ≠ gb223))
          have n13_ := yM ((by rw [hg]; exact Nat.ne_of_lt (IsS73.lt (show IsS73 w0 _ g s0_0 t229 from by repeat (first | (with_reducible first | exact HI0.out | apply yO | apply yL | apply yT | apply yJ | refine yI ?_ NB0_213.out _ | refine yI ?_ NB0_223.out _) | exact HI0.out))) : g ≠ gb238))
          have n14_ := yM ((by rw [hg]; exact Nat.ne_of_gt (IsS73.lt (show IsS73 w0 _ g s0_0 t229 from by repeat (first | (with_reducible first | exact HI0.out | apply yO | apply yL | apply yT | apply yJ | refine yI ?_ NB0_213.out _ | refine yI ?_ NB0_223.out _) | exact HI0.out))) : gb238 ≠ g))
          clear HO_c
          clear BK213
          clear BK223
          clear HI0
          clear HK
          clear HB
          have HO_c := n0_
          have BK213 := n1_
          have BK223 := n2_
          have HI0 := n3_
          have HK := n4_
          have HB := n5_
          have BK238 := n6_
          have GW238 := n7_
          have GE238 := n8_
          have NB213_238 := n9_
          have NB238_213 := n10_
          have NB223_238 := n11_
          have NB238_223 := n12_
          have NB0_238 := n13_
          have NB238_0 := n14_
          clear n0_ n1_ n2_ n3_ n4_ n5_ n6_ n7_ n8_ n9_ n10_ n11_ n12_ n13_ n14_
          clear hb hbox hg
          refine hK.out _ _ ⟨(blk_cell BK223.out 0).trans rfl, (blk_cell BK223.out 1).trans rfl, (blk_cell BK223.out 2).trans rfl⟩ (fun hHeld => ?_)
          clear hK K
          refine norm_ (a' := ?_) ?_ ?_
          rotate_left
          ·show Act.put _ (some 5) _ = _
           simp only [Act.put, setIfInBounds_toArray, set_cons_zero, set_cons_succ, i64_w, i32_w]
           rfl
          exact norm_ (by first | (simp only [putAll, Act.put, setIfInBounds_toArray, set_cons_zero, set_cons_succ]; done) | (simp only [putAll, Act.put, setIfInBounds_toArray, set_cons_zero, set_cons_succ]; rfl)) (hJ2_5_7_12 (gb238) _ ⟨hHeld, (by (with_reducible repeat (first | apply Kd.R_alloc | apply Kd.R_drewN | apply Kd.R_drew)); exact HO_c.out), (by (with_reducible repeat (first | refine yN ?_ _ | refine yD ?_ | refine yA ?_ _)); exact BK213.out), (by (with_reducible repeat (first | refine yN ?_ _ | refine yD ?_ | refine yA ?_ _)); exact BK223.out), (by (with_reducible repeat (first | refine yN ?_ _ | refine yD ?_ | refine yA ?_ _)); exact BK238.out), GW238.out, GE238.out, NB0_238.out, NB238_0.out, NB213_238.out, NB238_213.out, NB223_238.out, NB238_223.out, (by repeat (first | (with_reducible first | exact HI0.out | apply yO | apply yL | apply yT | apply yJ | refine yI ?_ NB0_213.out _ | refine yI ?_ NB0_223.out _ | refine yI ?_ NB0_238.out _) | exact HI0.out)), (by repeat (first | (with_reducible first | exact HK.out | apply yK | apply yQ | apply keep_drew | apply yR | refine yF ?_ GW213.out _ | refine yF ?_ GW223.out _ | refine yF ?_ GW238.out _) | exact HK.out)), (by repeat (first | (with_reducible first | exact HB.out | apply below_alloc | apply yP | apply below_drew1 | refine yS ?_ (IsS73.ge HI0.out) | refine yS ?_ GE213.out | refine yS ?_ GE223.out | refine yS ?_ GE238.out) | exact HB.out))⟩)
       ·skip
        rintro gb238 w30 ⟨hS_, h0_, h1_, h2_, h3_, h4_, h5_, h6_, h7_, h8_, h9_, h10_, h11_, h12_, h13_, h14_⟩
        have n0_ : Aside0 (Kd.R k29 29 w30 w.heap.size (fun _ => True) (.slice Ao24 xc_1.length co24) xc_1) := ⟨h0_⟩
        have n1_ : Aside0 (w30.heap[gb213]? = some (.cells #[.int .i64 0, .int .i64 0, .slice none 0 0] 32 (0, 0))) := ⟨h1_⟩
        have n2_ : Aside0 (w30.heap[gb223]? = some (.cells #[.int .i64 xa_1, .int .i64 xb_1, .slice Ao24 xc_1.length co24] 32 (0, 0))) := ⟨h2_⟩
        have n3_ : Aside0 (w30.heap[gb238]? = some (.cells #[.int .i64 0, .int .i64 0, .slice none 0 0] 32 (0, 0))) := ⟨h3_⟩
        have n4_ : Aside0 (w.heap.size ≤ gb238) := ⟨h4_⟩
        have n5_ : Aside0 (w0.heap.size ≤ gb238) := ⟨h5_⟩
        have n6_ : Aside0 (g ≠ gb238) := ⟨h6_⟩
        have n7_ : Aside0 (gb238 ≠ g) := ⟨h7_⟩
        have n8_ : Aside0 (gb213 ≠ gb238) := ⟨h8_⟩
        have n9_ : Aside0 (gb238 ≠ gb213) := ⟨h9_⟩
        have n10_ : Aside0 (gb223 ≠ gb238) := ⟨h10_⟩
        have n11_ : Aside0 (gb238 ≠ gb223) := ⟨h11_⟩
        have n12_ : Aside0 (IsS73 w0 w30 g s0_0 t229) := ⟨h12_⟩
        have n13_ : Aside0 (KeepBut w w30 g none) := ⟨h13_⟩
        have n14_ : Aside0 (Below w0.heap.size w0 w30) := ⟨h14_⟩
        clear HO_c
        clear BK213
        clear BK223
        clear HI0
        clear HK
        clear HB
        clear h0_ h1_ h2_ h3_ h4_ h5_ h6_ h7_ h8_ h9_ h10_ h11_ h12_ h13_ h14_
        have HO_c := n0_
        have BK213 := n1_
        have BK223 := n2_
        have BK238 := n3_
        have GW238 := n4_
        have GE238 := n5_
        have NB0_238 := n6_
        have NB238_0 := n7_
        have NB213_238 := n8_
        have NB238_213 := n9_
        have NB223_238 := n10_
        have NB238_223 := n11_
        have HI0 := n12_
        have HK := n13_
        have HB := n14_
        clear n0_ n1_ n2_ n3_ n4_ n5_ n6_ n7_ n8_ n9_ n10_ n11_ n12_ n13_ n14_
        have hHeld : w30.cell? ⟨gb223, 0, none⟩ = some (.int .i64 xa_1) ∧ w30.cell? ⟨gb223, 1, none⟩ = some (.int .i64 xb_1) ∧ w30.cell? ⟨gb223, 2, none⟩ = some (.slice Ao24 xc_1.length co24) := hS_
        refine norm_ (a' := ?_) ?_ ?_
        rotate_left
        ·simp only [putAll, Act.put, setIfInBounds_toArray, set_cons_zero, set_cons_succ]
         rfl
        refine one_ (i := 8) (N := some 31) #[true, true, true, true, true, true, true, true, true, false, false, false, true, false, false] rfl rfl (one_of HT_.out (by kernel_rfl)) (by decide) (fun K hK => ?_)
        refine goes_ Try.func27 (by kernel_rfl) rfl #[.agg #[.int .i64 xa_1, .int .i64 xb_1, .slice Ao24 xc_1.length co24], .agg #[.int .i64 t230, .int .i64 t231]] (by rfl) rfl rfl (by (try simp only [List.map_toArray, List.map_cons, List.map_nil]); first | done | rfl | (simp only [List.length_drop, List.length_take]; rfl)) ?_
        with_reducible refine (spec_LedgerPay.calls k1 xa_1 xb_1 _ _ xc_1 t230 t231 t232 t233 t234 true _ ?side1 ?side2 A22.out).mono ?_
        (case side1 => repeat (first | exact (Kd.R_reads' HO_c.out).2.2 | (with_reducible refine Kd.C_alloc ?_ _) | (with_reducible refine Kd.C_drewN ?_ _) | (with_reducible refine Kd.C_drew ?_)))
        (case side2 => exact (Kd.R_reads' HO_c.out).2.1)
        rintro e w31 ⟨v235, rfl, ho0, hb⟩
        refine ⟨_, rfl, ?_⟩
        have n0_ := yM (Kd.R_elder' (by (with_reducible repeat (first | apply Kd.R_alloc | apply Kd.R_drewN | apply Kd.R_drew)); exact HO_c.out) (Kd.R_base ho0) hb)
        have n1_ := yM (Kd.R_lower (Kd.R_new' ho0 (Kd.R_lt (by (with_reducible repeat (first | apply Kd.R_alloc | apply Kd.R_drewN | apply Kd.R_drew)); exact HO_c.out))) (keep_size (w := w) (g := g) (row := none) (by repeat (first | (with_reducible first | exact HK.out | apply yK | apply yQ | apply keep_drew | apply yR | refine yF ?_ GW213.out _ | refine yF ?_ GW223.out _ | refine yF ?_ GW238.out _) | exact HK.out))))
        have n2_ := yM (blk_below (g := gb213) (o := .cells #[.int .i64 0, .int .i64 0, .slice none 0 0] 32 (0, 0)) (by (with_reducible repeat (first | refine yN ?_ _ | refine yD ?_ | refine yA ?_ _)); exact BK213.out) hb)
        have n3_ := yM (blk_below (g := gb223) (o := .cells #[.int .i64 xa_1, .int .i64 xb_1, .slice Ao24 xc_1.length co24] 32 (0, 0)) (by (with_reducible repeat (first | refine yN ?_ _ | refine yD ?_ | refine yA ?_ _)); exact BK223.out) hb)
        have n4_ := yM (IsS73.below (by repeat (first | (with_reducible first | exact HI0.out | apply yO | apply yL | apply yT | apply yJ | refine yI ?_ NB0_213.out _ | refine yI ?_ NB0_223.out _ | refine yI ?_ NB0_238.out _) | exact HI0.out)) hb)
        have n5_ := yM (blk_below (g := gb238) (o := .cells #[.int .i64 0, .int .i64 0, .slice none 0 0] 32 (0, 0)) (by (with_reducible repeat (first | refine yN ?_ _ | refine yD ?_ | refine yA ?_ _)); exact BK238.out) hb)
        have n6_ := yM (KeepBut.trans (by repeat (first | (with_reducible first | exact HK.out | apply yK | apply yQ | apply keep_drew | apply yR | refine yF ?_ GW213.out _ | refine yF ?_ GW223.out _ | refine yF ?_ GW238.out _) | exact HK.out)) (KeepBut.of_below hb g none) (.inl rfl))
        have n7_ := yM (below_step (by repeat (first | (with_reducible first | exact HB.out | apply below_alloc | apply yP | apply below_drew1 | refine yS ?_ (IsS73.ge HI0.out) | refine yS ?_ GE213.out | refine yS ?_ GE223.out | refine yS ?_ GE238.out) | exact HB.out)) hb)
        clear HO_c
        clear BK213
        clear BK223
        clear HI0
        clear BK238
        clear HK
        clear HB
        have HO_c := n0_
        have HO236 := n1_
        have BK213 := n2_
        have BK223 := n3_
        have HI0 := n4_
        have BK238 := n5_
        have HK := n6_
        have HB := n7_
        clear n0_ n1_ n2_ n3_ n4_ n5_ n6_ n7_
        (try clear hb)
        (try clear hb2)
        (try clear hk)
        (try clear hi)
        (try clear ho0)
        refine hK.out _ _ ⟨(blk_cell BK223.out 0).trans rfl, (blk_cell BK223.out 1).trans rfl, (blk_cell BK223.out 2).trans rfl⟩ (fun hHeld => ?_)
        clear hK K
        refine norm_ (a' := ?_) ?_ ?_
        rotate_left
        ·show Act.put _ (some 31) _ = _
         simp only [Act.put, setIfInBounds_toArray, set_cons_zero, set_cons_succ, i64_w, i32_w]
         rfl
        refine pure_ (i := 9) (N := some 22) (v := ?_) (a' := ?_) #[true, true, true, true, true, true, true, true, true, true, false, false, true, false, false] rfl rfl (any_of HT_.out (by kernel_rfl)) (fun _ _ _ h => h) (Or.inl ⟨by rfl, ?_⟩) ?_ ?_
        rotate_left
        ·intro w'
         go_simp
         with_reducible rfl
        rotate_left
        ·simp only [Act.put, setIfInBounds_toArray, set_cons_zero, set_cons_succ, i64_w, i32_w]
         rfl
        refine pure_ (i := 10) (N := some 32) (v := ?_) (a' := ?_) #[true, true, true, true, true, true, true, true, true, true, true, false, true, false, false] rfl rfl (any_of HT_.out (by kernel_rfl)) (fun _ _ _ h => h) (Or.inl ⟨by rfl, ?_⟩) ?_ ?_
        rotate_left
        ·intro w'
         go_simp
         with_reducible rfl
        rotate_left
        ·simp only [Act.put, setIfInBounds_toArray, set_cons_zero, set_cons_succ, i64_w, i32_w]
         rfl
        refine pure_ (i := 11) (N := some 33) (v := ?_) (a' := ?_) #[true, true, true, true, true, true, true, true, true, true, true, true, true, false, false] rfl rfl (any_of HT_.out (by kernel_rfl)) (fun _ _ _ h => h) (Or.inl ⟨by rfl, ?_⟩) ?_ ?_
        rotate_left
        ·intro w'
         go_simp
         with_reducible rfl
        rotate_left
        ·simp only [Act.put, setIfInBounds_toArray, set_cons_zero, set_cons_succ, i64_w, i32_w]
         rfl
        exact norm_ (by first | (simp only [putAll, Act.put, setIfInBounds_toArray, set_cons_zero, set_cons_succ]; done) | (simp only [putAll, Act.put, setIfInBounds_toArray, set_cons_zero, set_cons_succ]; rfl)) (hJ2_5_7_8_12 (v235, gb238) _ ⟨hHeld, (by (with_reducible repeat (first | apply Kd.R_alloc | apply Kd.R_drewN | apply Kd.R_drew)); exact Kd.R_mono HO236.out (fun _ hk => hk.2)), (by (with_reducible repeat (first | apply Kd.R_alloc | apply Kd.R_drewN | apply Kd.R_drew)); exact Kd.R_mono HO_c.out (fun _ hk => hk.2)), (by (with_reducible repeat (first | refine yN ?_ _ | refine yD ?_ | refine yA ?_ _)); exact BK213.out), (by (with_reducible repeat (first | refine yN ?_ _ | refine yD ?_ | refine yA ?_ _)); exact BK223.out), (by (with_reducible repeat (first | refine yN ?_ _ | refine yD ?_ | refine yA ?_ _)); exact BK238.out), GW238.out, GE238.out, NB0_238.out, NB238_0.out, NB213_238.out, NB238_213.out, NB223_238.out, NB238_223.out, (by repeat (first | (with_reducible first | exact HI0.out | apply yO | apply yL | apply yT | apply yJ | refine yI ?_ NB0_213.out _ | refine yI ?_ NB0_223.out _ | refine yI ?_ NB0_238.out _) | exact HI0.out)), (by repeat (first | (with_reducible first | exact HK.out | apply yK | apply yQ | apply keep_drew | apply yR | refine yF ?_ GW213.out _ | refine yF ?_ GW223.out _ | refine yF ?_ GW238.out _) | exact HK.out)), (by repeat (first | (with_reducible first | exact HB.out | apply below_alloc | apply yP | apply below_drew1 | refine yS ?_ (IsS73.ge HI0.out) | refine yS ?_ GE213.out | refine yS ?_ GE223.out | refine yS ?_ GE238.out) | exact HB.out))⟩)
      ·skip
       rintro v235 w30 ⟨hS_, h0_, h1_, h2_, h3_, h4_, h5_, h6_⟩
       have n0_ : Aside0 (Kd.R k29 29 w30 w.heap.size (fun k_ => some k_ ≠ (.slice Ao24 xc_1.length co24 : Value).ownBlock) v235 t234) := ⟨h0_⟩
       have n1_ : Aside0 (Kd.R k29 29 w30 w.heap.size (fun k_ => some k_ ≠ (v235 : Value).ownBlock) (.slice Ao24 xc_1.length co24) xc_1) := ⟨h1_⟩
       have n2_ : Aside0 (w30.heap[gb213]? = some (.cells #[.int .i64 0, .int .i64 0, .slice none 0 0] 32 (0, 0))) := ⟨h2_⟩
       have n3_ : Aside0 (w30.heap[gb223]? = some (.cells #[.int .i64 xa_1, .int .i64 xb_1, .slice Ao24 xc_1.length co24] 32 (0, 0))) := ⟨h3_⟩
       have n4_ : Aside0 (IsS73 w0 w30 g s0_0 t229) := ⟨h4_⟩
       have n5_ : Aside0 (KeepBut w w30 g none) := ⟨h5_⟩
       have n6_ : Aside0 (Below w0.heap.size w0 w30) := ⟨h6_⟩
       clear HO_c
       clear BK213
       clear BK223
       clear HI0
       clear HK
       clear HB
       clear h0_ h1_ h2_ h3_ h4_ h5_ h6_
       have HO236 := n0_
       have HO_c := n1_
       have BK213 := n2_
       have BK223 := n3_
       have HI0 := n4_
       have HK := n5_
       have HB := n6_
       clear n0_ n1_ n2_ n3_ n4_ n5_ n6_
       have hHeld : w30.cell? ⟨gb223, 0, none⟩ = some (.int .i64 xa_1) ∧ w30.cell? ⟨gb223, 1, none⟩ = some (.int .i64 xb_1) ∧ w30.cell? ⟨gb223, 2, none⟩ = some (.slice Ao24 xc_1.length co24) := hS_
       refine norm_ (a' := ?_) ?_ ?_
       rotate_left
       ·simp only [putAll, Act.put, setIfInBounds_toArray, set_cons_zero, set_cons_succ]
        rfl
       refine one_ (i := 12) (N := some 5) #[true, true, true, true, true, true, true, true, true, true, true, true, true, false, false] rfl rfl (one_of HT_.out (by kernel_rfl)) (by decide) (fun K hK => ?_)
       refine box_step ?hg (N := 5) ?hd (cs := #[.int .i64 0, .int .i64 0, .slice none 0 0]) (t := 32) ?hr ?_; (case hd => rfl); (case hg => rfl); (case hr => first | (go_simp; done) | (go_simp; rfl))
       intro gb238 hg w31 hbox hb
       have n0_ := yM (Kd.R_below (by (with_reducible repeat (first | apply Kd.R_alloc | apply Kd.R_drewN | apply Kd.R_drew)); exact HO_c.out) hb)
       have n1_ := yM (Kd.R_below (by (with_reducible repeat (first | apply Kd.R_alloc | apply Kd.R_drewN | apply Kd.R_drew)); exact HO236.out) hb)
       have n2_ := yM (blk_below (g := gb213) (o := .cells #[.int .i64 0, .int .i64 0, .slice none 0 0] 32 (0, 0)) (by (with_reducible repeat (first | refine yN ?_ _ | refine yD ?_ | refine yA ?_ _)); exact BK213.out) hb)
       have n3_ := yM (blk_below (g := gb223) (o := .cells #[.int .i64 xa_1, .int .i64 xb_1, .slice Ao24 xc_1.length co24] 32 (0, 0)) (by (with_reducible repeat (first | refine yN ?_ _ | refine yD ?_ | refine yA ?_ _)); exact BK223.out) hb)
       have n4_ := yM (IsS73.below (by repeat (first | (with_reducible first | exact HI0.out | apply yO | apply yL | apply yT | apply yJ | refine yI ?_ NB0_213.out _ | refine yI ?_ NB0_223.out _) | exact HI0.out)) hb)
       have n5_ := yM (KeepBut.trans (by repeat (first | (with_reducible first | exact HK.out | apply yK | apply yQ | apply keep_drew | apply yR | refine yF ?_ GW213.out _ | refine yF ?_ GW223.out _) | exact HK.out)) (KeepBut.of_below hb g none) (.inl rfl))
       have n6_ := yM (below_step (by repeat (first | (with_reducible first | exact HB.out | apply below_alloc | apply yP | apply below_drew1 | refine yS ?_ (IsS73.ge HI0.out) | refine yS ?_ GE213.out | refine yS ?_ GE223.out) | exact HB.out)) hb)
       have n7_ := yM (hbox)
       have n8_ := yM ((by rw [hg]; exact (keep_size (w := w) (g := g) (row := none) (by repeat (first | (with_reducible first | exact HK.out | apply yK | apply yQ | apply keep_drew | apply yR | refine yF ?_ GW213.out _ | refine yF ?_ GW223.out _) | exact HK.out))) : w.heap.size ≤ gb238))
       have n9_ := yM ((Nat.le_trans HW0.out (by rw [hg]; exact (keep_size (w := w) (g := g) (row := none) (by repeat (first | (with_reducible first | exact HK.out | apply yK | apply yQ | apply keep_drew | apply yR | refine yF ?_ GW213.out _ | refine yF ?_ GW223.out _) | exact HK.out))) : w.heap.size ≤ gb238) : w0.heap.size ≤ gb238))
       have n10_ := yM ((by rw [hg]; exact Nat.ne_of_lt (blk_lt (g := gb213) (o := .cells #[.int .i64 0, .int .i64 0, .slice none 0 0] 32 (0, 0)) (by (with_reducible repeat (first | refine yN ?_ _ | refine yD ?_ | refine yA ?_ _)); exact BK213.out)) : gb213 ≠ gb238))
       have n11_ := yM ((by rw [hg]; exact Nat.ne_of_gt (blk_lt (g := gb213) (o := .cells #[.int .i64 0, .int .i64 0, .slice none 0 0] 32 (0, 0)) (by (with_reducible repeat (first | refine yN ?_ _ | refine yD ?_ | refine yA ?_ _)); exact BK213.out)) : gb238 ≠ gb213))
       have n12_ := yM ((by rw [hg]; exact Nat.ne_of_lt (blk_lt (g := gb223) (o := .cells #[.int .i64 xa_1, .int .i64 xb_1, .slice Ao24 xc_1.length co24] 32 (0, 0)) (by (with_reducible repeat (first | refine yN ?_ _ | refine yD ?_ | refine yA ?_ _)); exact BK223.out)) : gb223 ≠ gb238))
       have n13_ := yM ((by rw [hg]; exact Nat.ne_of_gt (blk_lt (g := gb223) (o := .cells #[.int .i64 xa_1, .int .i64 xb_1, .slice Ao24 xc_1.length co24] 32 (0, 0)) (by (with_reducible repeat (first | refine yN ?_ _ | refine yD ?_ | refine yA ?_ _)); exact BK223.out)) : gb238 ≠ gb223))
       have n14_ := yM ((by rw [hg]; exact Nat.ne_of_lt (IsS73.lt (show IsS73 w0 _ g s0_0 t229 from by repeat (first | (with_reducible first | exact HI0.out | apply yO | apply yL | apply yT | apply yJ | refine yI ?_ NB0_213.out _ | refine yI ?_ NB0_223.out _) | exact HI0.out))) : g ≠ gb238))
       have n15_ := yM ((by rw [hg]; exact Nat.ne_of_gt (IsS73.lt (show IsS73 w0 _ g s0_0 t229 from by repeat (first | (with_reducible first | exact HI0.out | apply yO | apply yL | apply yT | apply yJ | refine yI ?_ NB0_213.out _ | refine yI ?_ NB0_223.out _) | exact HI0.out))) : gb238 ≠ g))
       clear HO_c
       clear HO236
       clear BK213
       clear BK223
       clear HI0
       clear HK
       clear HB
       have HO_c := n0_
       have HO236 := n1_
       have BK213 := n2_
       have BK223 := n3_
       have HI0 := n4_
       have HK := n5_
       have HB := n6_
       have BK238 := n7_
       have GW238 := n8_
       have GE238 := n9_
       have NB213_238 := n10_
       have NB238_213 := n11_
       have NB223_238 := n12_
       have NB238_223 := n13_
       have NB0_238 := n14_
       have NB238_0 := n15_
       clear n0_ n1_ n2_ n3_ n4_ n5_ n6_ n7_ n8_ n9_ n10_ n11_ n12_ n13_ n14_ n15_
       clear hb hbox hg
       refine hK.out _ _ ⟨(blk_cell BK223.out 0).trans rfl, (blk_cell BK223.out 1).trans rfl, (blk_cell BK223.out 2).trans rfl⟩ (fun hHeld => ?_)
       clear hK K
       refine norm_ (a' := ?_) ?_ ?_
       rotate_left
       ·show Act.put _ (some 5) _ = _
        simp only [Act.put, setIfInBounds_toArray, set_cons_zero, set_cons_succ, i64_w, i32_w]
        rfl
       exact norm_ (by first | (simp only [putAll, Act.put, setIfInBounds_toArray, set_cons_zero, set_cons_succ]; done) | (simp only [putAll, Act.put, setIfInBounds_toArray, set_cons_zero, set_cons_succ]; rfl)) (hJ2_5_7_8_12 (v235, gb238) _ ⟨hHeld, (by (with_reducible repeat (first | apply Kd.R_alloc | apply Kd.R_drewN | apply Kd.R_drew)); exact HO236.out), (by (with_reducible repeat (first | apply Kd.R_alloc | apply Kd.R_drewN | apply Kd.R_drew)); exact HO_c.out), (by (with_reducible repeat (first | refine yN ?_ _ | refine yD ?_ | refine yA ?_ _)); exact BK213.out), (by (with_reducible repeat (first | refine yN ?_ _ | refine yD ?_ | refine yA ?_ _)); exact BK223.out), (by (with_reducible repeat (first | refine yN ?_ _ | refine yD ?_ | refine yA ?_ _)); exact BK238.out), GW238.out, GE238.out, NB0_238.out, NB238_0.out, NB213_238.out, NB238_213.out, NB223_238.out, NB238_223.out, (by repeat (first | (with_reducible first | exact HI0.out | apply yO | apply yL | apply yT | apply yJ | refine yI ?_ NB0_213.out _ | refine yI ?_ NB0_223.out _ | refine yI ?_ NB0_238.out _) | exact HI0.out)), (by repeat (first | (with_reducible first | exact HK.out | apply yK | apply yQ | apply keep_drew | apply yR | refine yF ?_ GW213.out _ | refine yF ?_ GW223.out _ | refine yF ?_ GW238.out _) | exact HK.out)), (by repeat (first | (with_reducible first | exact HB.out | apply below_alloc | apply yP | apply below_drew1 | refine yS ?_ (IsS73.ge HI0.out) | refine yS ?_ GE213.out | refine yS ?_ GE223.out | refine yS ?_ GE238.out) | exact HB.out))⟩)
     rintro ⟨v235, gb238⟩ w31 ⟨hS_, h0_, h1_, h2_, h3_, h4_, h5_, h6_, h7_, h8_, h9_, h10_, h11_, h12_, h13_, h14_, h15_⟩
     have n0_ : Aside0 (Kd.R k29 29 w31 w.heap.size (fun k_ => some k_ ≠ (.slice Ao24 xc_1.length co24 : Value).ownBlock) v235 t234) := ⟨h0_⟩
     have n1_ : Aside0 (Kd.R k29 29 w31 w.heap.size (fun k_ => some k_ ≠ (v235 : Value).ownBlock) (.slice Ao24 xc_1.length co24) xc_1) := ⟨h1_⟩
     have n2_ : Aside0 (w31.heap[gb213]? = some (.cells #[.int .i64 0, .int .i64 0, .slice none 0 0] 32 (0, 0))) := ⟨h2_⟩
     have n3_ : Aside0 (w31.heap[gb223]? = some (.cells #[.int .i64 xa_1, .int .i64 xb_1, .slice Ao24 xc_1.length co24] 32 (0, 0))) := ⟨h3_⟩
     have n4_ : Aside0 (w31.heap[gb238]? = some (.cells #[.int .i64 0, .int .i64 0, .slice none 0 0] 32 (0, 0))) := ⟨h4_⟩
     have n5_ : Aside0 (w.heap.size ≤ gb238) := ⟨h5_⟩
     have n6_ : Aside0 (w0.heap.size ≤ gb238) := ⟨h6_⟩
     have n7_ : Aside0 (g ≠ gb238) := ⟨h7_⟩
     have n8_ : Aside0 (gb238 ≠ g) := ⟨h8_⟩
     have n9_ : Aside0 (gb213 ≠ gb238) := ⟨h9_⟩
     have n10_ : Aside0 (gb238 ≠ gb213) := ⟨h10_⟩
     have n11_ : Aside0 (gb223 ≠ gb238) := ⟨h11_⟩
     have n12_ : Aside0 (gb238 ≠ gb223) := ⟨h12_⟩
     have n13_ : Aside0 (IsS73 w0 w31 g s0_0 t229) := ⟨h13_⟩
     have n14_ : Aside0 (KeepBut w w31 g none) := ⟨h14_⟩
     have n15_ : Aside0 (Below w0.heap.size w0 w31) := ⟨h15_⟩
     clear HO_c
     clear BK213
     clear BK223
     clear HI0
     clear HK
     clear HB
     clear h0_ h1_ h2_ h3_ h4_ h5_ h6_ h7_ h8_ h9_ h10_ h11_ h12_ h13_ h14_ h15_
     have HO236 := n0_
     have HO_c := n1_
     have BK213 := n2_
     have BK223 := n3_
     have BK238 := n4_
     have GW238 := n5_
     have GE238 := n6_
     have NB0_238 := n7_
     have NB238_0 := n8_
     have NB213_238 := n9_
     have NB238_213 := n10_
     have NB223_238 := n11_
     have NB238_223 := n12_
     have HI0 := n13_
     have HK := n14_
     have HB := n15_
     clear n0_ n1_ n2_ n3_ n4_ n5_ n6_ n7_ n8_ n9_ n10_ n11_ n12_ n13_ n14_ n15_
     have hHeld : w31.cell? ⟨gb223, 0, none⟩ = some (.int .i64 xa_1) ∧ w31.cell? ⟨gb223, 1, none⟩ = some (.int .i64 xb_1) ∧ w31.cell? ⟨gb223, 2, none⟩ = some (.slice Ao24 xc_1.length co24) := hS_
     obtain ⟨Ao34, co34, eo34⟩ := Kd.R_slice HO236.out
     (first | subst eo34 | (injection eo34 with f1_ f2_ f3_; have f4_ := f1_.symm; have f5_ := f3_.symm; clear f1_ f2_ f3_; subst f4_; subst f5_))
     refine norm_ (a' := ?_) ?_ ?_
     rotate_left
     ·simp only [putAll, Act.put, setIfInBounds_toArray, set_cons_zero, set_cons_succ]
      rfl
     refine one_ (i := 13) (N := none) #[true, true, true, true, true, true, true, true, true, true, true, true, true, true, false] rfl rfl (one_of HT_.out (by kernel_rfl)) (by decide) (fun K hK => ?_)
     have hs32 : w31.cell? ⟨gb238, 0, none⟩ = some (.int .i64 0) := (blk_cell BK238.out 0).trans rfl
     have hfs32 := blk_frozen BK238.out 0
     have hns32_0 := NB213_238.out
     have hns32_1 := NB223_238.out
     have hms32_0 := NB238_213.out
     have hms32_1 := NB238_223.out
     have hs33 : w31.cell? ⟨gb238, 1, none⟩ = some (.int .i64 0) := (blk_cell BK238.out 1).trans rfl
     have hfs33 := blk_frozen BK238.out 1
     have hns33_0 := NB213_238.out
     have hns33_1 := NB223_238.out
     have hms33_0 := NB238_213.out
     have hms33_1 := NB238_223.out
     have hs35 : w31.cell? ⟨gb238, 2, none⟩ = some (.slice none 0 0) := (blk_cell BK238.out 2).trans rfl
     have hfs35 := blk_frozen BK238.out 2
     have hns35_0 := NB213_238.out
     have hns35_1 := NB223_238.out
     have hms35_0 := NB238_213.out
     have hms35_1 := NB238_223.out
     refine skip_ (w1 := ?_) (by rfl) rfl ?_ ?_
     rotate_left
     ·go_simp
      rfl
     refine hK.out _ _ ⟨((cell_far (p := ⟨gb238, _, none⟩) NB223_238.out _).trans (((cell_far (p := ⟨gb238, _, none⟩) NB223_238.out _).trans (((cell_far (p := ⟨gb238, _, none⟩) NB223_238.out _).trans (hHeld.1)))))), ((cell_far (p := ⟨gb238, _, none⟩) NB223_238.out _).trans (((cell_far (p := ⟨gb238, _, none⟩) NB223_238.out _).trans (((cell_far (p := ⟨gb238, _, none⟩) NB223_238.out _).trans (hHeld.2.1)))))), ((cell_far (p := ⟨gb238, _, none⟩) NB223_238.out _).trans (((cell_far (p := ⟨gb238, _, none⟩) NB223_238.out _).trans (((cell_far (p := ⟨gb238, _, none⟩) NB223_238.out _).trans (hHeld.2.2))))))⟩ (fun hHeld => ?_)
     clear hK K
     refine pure_ (i := 14) (N := some 6) (v := ?_) (a' := ?_) #[true, true, true, true, true, true, true, true, true, true, true, true, true, true, true] rfl rfl (any_of HT_.out (by kernel_rfl)) (fun _ _ _ h => h) (Or.inl ⟨by rfl, ?_⟩) ?_ ?_
     rotate_left
     ·intro w'
      go_simp
      with_reducible rfl
     rotate_left
     ·simp only [Act.put, setIfInBounds_toArray, set_cons_zero, set_cons_succ, i64_w, i32_w]
      rfl
     refine done_ (done_of HT_.out (by kernel_rfl)) ?_
     have hnb36 := NB238_213.out
     have hnc36 := NB213_238.out
     have hnb37 := NB238_223.out
     have hnc37 := NB223_238.out
     have hnb38 := NB238_0.out
     have hnc38 := NB0_238.out
     have hcz39_0 : w31.cell? ⟨gb238, 0, none⟩ = some (.int .i64 0) := (blk_cell BK238.out 0).trans rfl
     have hcz39_1 : w31.cell? ⟨gb238, 1, none⟩ = some (.int .i64 0) := (blk_cell BK238.out 1).trans rfl
     have hcz39_2 : w31.cell? ⟨gb238, 2, none⟩ = some (.slice none 0 0) := (blk_cell BK238.out 2).trans rfl
     have hfz39_0 := blk_frozen BK238.out 0
     have hfz39_1 := blk_frozen BK238.out 1
     have hfz39_2 := blk_frozen BK238.out 2
     have hnb40 := NB223_213.out
     have hnc40 := NB213_223.out
     have hnb41 := NB223_0.out
     have hnc41 := NB0_223.out
     have hcz42_0 : w31.cell? ⟨gb223, 0, none⟩ = some (.int .i64 xa_1) := (blk_cell BK223.out 0).trans rfl
     have hcz42_1 : w31.cell? ⟨gb223, 1, none⟩ = some (.int .i64 xb_1) := (blk_cell BK223.out 1).trans rfl
     have hcz42_2 : w31.cell? ⟨gb223, 2, none⟩ = some (.slice Ao24 xc_1.length co24) := (blk_cell BK223.out 2).trans rfl
     have hfz42_0 := blk_frozen BK223.out 0
     have hfz42_1 := blk_frozen BK223.out 1
     have hfz42_2 := blk_frozen BK223.out 2
     try go_wp2
     go_roundg k1
     case measure => have := HK1.out; omega
     case rel => exact ⟨(wrap64 (x4_1 - 1)), (t229), (t232), (t233), (t234), (.slice Ao34 t234.length co34), (by first | rfl | (simp; done) | (simp [*]; done)), H', ⟨by have := HK1.out; omega⟩, ⟨by (with_reducible repeat (first | apply Kd.R_alloc | apply Kd.R_drewN | apply Kd.R_drew)); exact Kd.R_mono (Kd.R_far (p := ⟨gb223, 2, none⟩) (Kd.R_far (p := ⟨gb223, 1, none⟩) (Kd.R_far (p := ⟨gb223, 0, none⟩) (Kd.R_far (p := ⟨gb238, 2, none⟩) (Kd.R_far (p := ⟨gb238, 1, none⟩) (Kd.R_far (p := ⟨gb238, 0, none⟩) (Kd.R_types (Kd.R_types HO236.out BK238.out (by decide)) BK223.out (by decide)) (fun _ hk => hk.1.2) (.int .i64 t232)) (fun _ hk => hk.1.2) (.int .i64 t233)) (fun _ hk => hk.1.2) (.slice Ao34 t234.length co34)) (fun _ hk => hk.2) (.int .i64 t232)) (fun _ hk => hk.2) (.int .i64 t233)) (fun _ hk => hk.2) (.slice Ao34 t234.length co34)) (fun _ hk => trivial)⟩, ⟨by (with_reducible repeat (first | refine yN ?_ _ | refine yD ?_ | refine yA ?_ _)); refine blk_far ?_ NB213_223.out _; (with_reducible repeat (first | refine yN ?_ _ | refine yD ?_ | refine yA ?_ _)); refine blk_far ?_ NB213_223.out _; (with_reducible repeat (first | refine yN ?_ _ | refine yD ?_ | refine yA ?_ _)); refine blk_far ?_ NB213_223.out _; (with_reducible repeat (first | refine yN ?_ _ | refine yD ?_ | refine yA ?_ _)); refine blk_far ?_ NB213_238.out _; (with_reducible repeat (first | refine yN ?_ _ | refine yD ?_ | refine yA ?_ _)); refine blk_far ?_ NB213_238.out _; (with_reducible repeat (first | refine yN ?_ _ | refine yD ?_ | refine yA ?_ _)); refine blk_far ?_ NB213_238.out _; (with_reducible repeat (first | refine yN ?_ _ | refine yD ?_ | refine yA ?_ _)); exact BK213.out⟩, ⟨by (with_reducible repeat (first | refine yN ?_ _ | refine yD ?_ | refine yA ?_ _)); refine blk_put (cs := #[.int .i64 t232, .int .i64 t233, .slice Ao24 xc_1.length co24]) ?_ 2 _ rfl; (with_reducible repeat (first | refine yN ?_ _ | refine yD ?_ | refine yA ?_ _)); refine blk_put (cs := #[.int .i64 t232, .int .i64 xb_1, .slice Ao24 xc_1.length co24]) ?_ 1 _ rfl; (with_reducible repeat (first | refine yN ?_ _ | refine yD ?_ | refine yA ?_ _)); refine blk_put (cs := #[.int .i64 xa_1, .int .i64 xb_1, .slice Ao24 xc_1.length co24]) ?_ 0 _ rfl; (with_reducible repeat (first | refine yN ?_ _ | refine yD ?_ | refine yA ?_ _)); refine blk_far ?_ NB223_238.out _; (with_reducible repeat (first | refine yN ?_ _ | refine yD ?_ | refine yA ?_ _)); refine blk_far ?_ NB223_238.out _; (with_reducible repeat (first | refine yN ?_ _ | refine yD ?_ | refine yA ?_ _)); refine blk_far ?_ NB223_238.out _; (with_reducible repeat (first | refine yN ?_ _ | refine yD ?_ | refine yA ?_ _)); exact BK223.out⟩, ⟨by repeat (first | (with_reducible first | exact HI0.out | apply yO | apply yL | apply yT | apply yJ | refine yI ?_ NB0_213.out _ | refine yI ?_ NB0_223.out _ | refine yI ?_ NB0_238.out _) | exact HI0.out)⟩, ⟨by repeat (first | (with_reducible first | exact HK.out | apply yK | apply yQ | apply keep_drew | apply yR | refine yF ?_ GW213.out _ | refine yF ?_ GW223.out _ | refine yF ?_ GW238.out _) | exact HK.out)⟩, ⟨by repeat (first | (with_reducible first | exact HB.out | apply below_alloc | apply yP | apply below_drew1 | refine yS ?_ (IsS73.ge HI0.out) | refine yS ?_ GE213.out | refine yS ?_ GE223.out | refine yS ?_ GE238.out) | exact HB.out)⟩⟩
    ·replace c23 := Bool.eq_false_iff.mpr c23
     subst c23
     have H1 : (spec_l92Ledger.l0 k1 (wrap64 (x4_1 - 1)) s0_0 t229 xa_1 xb_1 xc_1) = some (r1, r2, r3, r4) := by rw [if_neg (show ¬ (false = true) by decide)] at H; exact H
     clear H
     have H := H1
     clear H1
     have H' := Aside0.mk H
     clear H
     obtain ⟨Ao43, co43, eo43⟩ := Kd.R_slice HO_c.out
     subst eo43
     try go_wp2
     have n0_ := yM (Kd.R_drew HO_c.out)
     have n1_ := yM (yD BK213.out)
     have n2_ := yM (yD BK223.out)
     have n3_ := yM (yT HI0.out)
     have n4_ := yM (keep_drew HK.out)
     have n5_ := yM (below_drew1 HB.out)
     clear HO_c
     clear BK213
     clear BK223
     clear HI0
     clear HK
     clear HB
     have HO_c := n0_
     have BK213 := n1_
     have BK223 := n2_
     have HI0 := n3_
     have HK := n4_
     have HB := n5_
     clear n0_ n1_ n2_ n3_ n4_ n5_
     refine start_ (n := 15) (S := fun w' => w'.cell? ⟨gb223, 0, none⟩ = some (.int .i64 xa_1) ∧ w'.cell? ⟨gb223, 1, none⟩ = some (.int .i64 xb_1) ∧ w'.cell? ⟨gb223, 2, none⟩ = some (.slice Ao43 xc_1.length co43)) (ds := []) #[false, false, false, false, false, false, false, false, false, false, false, false, false, false, false] (by kernel_rfl) rfl rfl ⟨(blk_cell BK223.out 0).trans rfl, (blk_cell BK223.out 1).trans rfl, (blk_cell BK223.out 2).trans rfl⟩ (fun hHeld => ?_); refine with_tabW spec_l92Ledger.tab5 spec_l92Ledger.bits5 (fun HT_ HW_ => ?_)
     generalize wr.drew = w44 at HO_c BK213 BK223 HI0 HK HB hHeld ⊢
     refine pure_ (i := 1) (N := some 24) (v := ?_) (a' := ?_) #[false, true, false, false, false, false, false, false, false, false, false, false, false, false, false] rfl rfl (any_of HT_.out (by kernel_rfl)) (fun _ _ _ h => h) (Or.inl ⟨by rfl, ?_⟩) ?_ ?_
     rotate_left
     ·intro w'
      go_simp
      with_reducible rfl
     rotate_left
     ·simp only [Act.put, setIfInBounds_toArray, set_cons_zero, set_cons_succ, i64_w, i32_w]
      rfl
     refine pure_ (i := 4) (N := some 27) (v := ?_) (a' := ?_) #[false, true, false, false, true, false, false, false, false, false, false, false, false, false, false] rfl rfl (any_of HT_.out (by kernel_rfl)) (fun _ _ _ h => h) (Or.inl ⟨by rfl, ?_⟩) ?_ ?_
     rotate_left
     ·intro w'
      go_simp
      with_reducible rfl
     rotate_left
     ·simp only [Act.put, setIfInBounds_toArray, set_cons_zero, set_cons_succ, i64_w, i32_w]
      rfl
     refine take_ (i := 0) (N := some 23) (v := ?_) (a' := ?_) #[true, true, false, false, true, false, false, false, false, false, false, false, false, false, false] rfl rfl (take_ofW HT_.out HW_.out (by kernel_rfl)) (fun _ _ _ h => h) (Or.inl ⟨by rfl, ?_⟩) hHeld ?_ ?_
     rotate_left
     ·rintro w' ⟨s0, s1, s2⟩
      go_simp
      with_reducible rfl
     rotate_left
     ·simp only [Act.put, setIfInBounds_toArray, set_cons_zero, set_cons_succ, i64_w, i32_w]
      rfl
     refine join_ (σ := Value × Nat) 2 #[true, true, true, true, true, true, true, true, true, true, true, true, true, false, false] (fun s_ => [(25, .int .i64 t226), (28, .int .i64 t228), (30, .agg #[.int .i64 t230, .int .i64 t231]), (31, .tuple #[.agg #[.int .i64 t232, .int .i64 t233, s_.1], .bool false]), (5, .pointer (some ⟨s_.2, 0, none⟩)), (26, .int .i64 (wrap64 (1 + t226))), (29, .int .i64 (wrap64 (1 + t228))), (22, .tuple #[.agg #[.int .i64 t232, .int .i64 t233, s_.1], .bool false]), (32, .agg #[.int .i64 t232, .int .i64 t233, s_.1]), (33, .bool false)]) (fun s_ w' => (w'.cell? ⟨gb223, 0, none⟩ = some (.int .i64 xa_1) ∧ w'.cell? ⟨gb223, 1, none⟩ = some (.int .i64 xb_1) ∧ w'.cell? ⟨gb223, 2, none⟩ = some (.slice Ao43 xc_1.length co43)) ∧ (Kd.R k29 29 w' w.heap.size (fun k_ => some k_ ≠ (.slice Ao43 xc_1.length co43 : Value).ownBlock) s_.1 t234) ∧ (Kd.R k29 29 w' w.heap.size (fun k_ => some k_ ≠ (s_.1 : Value).ownBlock) (.slice Ao43 xc_1.length co43) xc_1) ∧ (w'.heap[gb213]? = some (.cells #[.int .i64 0, .int .i64 0, .slice none 0 0] 32 (0, 0))) ∧ (w'.heap[gb223]? = some (.cells #[.int .i64 xa_1, .int .i64 xb_1, .slice Ao43 xc_1.length co43] 32 (0, 0))) ∧ (w'.heap[s_.2]? = some (.cells #[.int .i64 0, .int .i64 0, .slice none 0 0] 32 (0, 0))) ∧ (w.heap.size ≤ s_.2) ∧ (w0.heap.size ≤ s_.2) ∧ (g ≠ s_.2) ∧ (s_.2 ≠ g) ∧ (gb213 ≠ s_.2) ∧ (s_.2 ≠ gb213) ∧ (gb223 ≠ s_.2) ∧ (s_.2 ≠ gb223) ∧ (IsS73 w0 w' g s0_0 t229) ∧ (KeepBut w w' g none) ∧ (Below w0.heap.size w0 w')) ?_ ?_
     rotate_left
     ·intro hJ2_5_7_8_12
      refine join_ (σ := Value) 3 #[true, true, true, true, true, true, true, true, true, true, true, true, false, false, false] (fun s_ => [(25, .int .i64 t226), (28, .int .i64 t228), (30, .agg #[.int .i64 t230, .int .i64 t231]), (31, .tuple #[.agg #[.int .i64 t232, .int .i64 t233, s_], .bool false]), (26, .int .i64 (wrap64 (1 + t226))), (29, .int .i64 (wrap64 (1 + t228))), (22, .tuple #[.agg #[.int .i64 t232, .int .i64 t233, s_], .bool false]), (32, .agg #[.int .i64 t232, .int .i64 t233, s_]), (33, .bool false)]) (fun s_ w' => (w'.cell? ⟨gb223, 0, none⟩ = some (.int .i64 xa_1) ∧ w'.cell? ⟨gb223, 1, none⟩ = some (.int .i64 xb_1) ∧ w'.cell? ⟨gb223, 2, none⟩ = some (.slice Ao43 xc_1.length co43)) ∧ (Kd.R k29 29 w' w.heap.size (fun k_ => some k_ ≠ (.slice Ao43 xc_1.length co43 : Value).ownBlock) s_ t234) ∧ (Kd.R k29 29 w' w.heap.size (fun k_ => some k_ ≠ (s_ : Value).ownBlock) (.slice Ao43 xc_1.length co43) xc_1) ∧ (w'.heap[gb213]? = some (.cells #[.int .i64 0, .int .i64 0, .slice none 0 0] 32 (0, 0))) ∧ (w'.heap[gb223]? = some (.cells #[.int .i64 xa_1, .int .i64 xb_1, .slice Ao43 xc_1.length co43] 32 (0, 0))) ∧ (IsS73 w0 w' g s0_0 t229) ∧ (KeepBut w w' g none) ∧ (Below w0.heap.size w0 w')) ?_ ?_
      rotate_left
      ·intro hJ2_5_7_8
       refine join_ (σ := Nat) 6 #[true, true, true, true, true, true, true, true, false, false, false, false, true, false, false] (fun s_ => [(25, .int .i64 t226), (28, .int .i64 t228), (30, .agg #[.int .i64 t230, .int .i64 t231]), (5, .pointer (some ⟨s_, 0, none⟩)), (26, .int .i64 (wrap64 (1 + t226))), (29, .int .i64 (wrap64 (1 + t228)))]) (fun s_ w' => (w'.cell? ⟨gb223, 0, none⟩ = some (.int .i64 xa_1) ∧ w'.cell? ⟨gb223, 1, none⟩ = some (.int .i64 xb_1) ∧ w'.cell? ⟨gb223, 2, none⟩ = some (.slice Ao43 xc_1.length co43)) ∧ (Kd.R k29 29 w' w.heap.size (fun _ => True) (.slice Ao43 xc_1.length co43) xc_1) ∧ (w'.heap[gb213]? = some (.cells #[.int .i64 0, .int .i64 0, .slice none 0 0] 32 (0, 0))) ∧ (w'.heap[gb223]? = some (.cells #[.int .i64 xa_1, .int .i64 xb_1, .slice Ao43 xc_1.length co43] 32 (0, 0))) ∧ (w'.heap[s_]? = some (.cells #[.int .i64 0, .int .i64 0, .slice none 0 0] 32 (0, 0))) ∧ (w.heap.size ≤ s_) ∧ (w0.heap.size ≤ s_) ∧ (g ≠ s_) ∧ (s_ ≠ g) ∧ (gb213 ≠ s_) ∧ (s_ ≠ gb213) ∧ (gb223 ≠ s_) ∧ (s_ ≠ gb223) ∧ (IsS73 w0 w' g s0_0 t229) ∧ (KeepBut w w' g none) ∧ (Below w0.heap.size w0 w')) ?_ ?_
       rotate_left
       ·intro hJ2_5_7_12
        refine join_ (σ := Unit) 7 #[true, true, true, true, true, true, true, true, false, false, false, false, false, false, false] (fun s_ => [(25, .int .i64 t226), (28, .int .i64 t228), (30, .agg #[.int .i64 t230, .int .i64 t231]), (26, .int .i64 (wrap64 (1 + t226))), (29, .int .i64 (wrap64 (1 + t228)))]) (fun s_ w' => (w'.cell? ⟨gb223, 0, none⟩ = some (.int .i64 xa_1) ∧ w'.cell? ⟨gb223, 1, none⟩ = some (.int .i64 xb_1) ∧ w'.cell? ⟨gb223, 2, none⟩ = some (.slice Ao43 xc_1.length co43)) ∧ (Kd.R k29 29 w' w.heap.size (fun _ => True) (.slice Ao43 xc_1.length co43) xc_1) ∧ (w'.heap[gb213]? = some (.cells #[.int .i64 0, .int .i64 0, .slice none 0 0] 32 (0, 0))) ∧ (w'.heap[gb223]? = some (.cells #[.int .i64 xa_1, .int .i64 xb_1, .slice Ao43 xc_1.length co43] 32 (0, 0))) ∧ (IsS73 w0 w' g s0_0 t229) ∧ (KeepBut w w' g none) ∧ (Below w0.heap.size w0 w')) ?_ ?_
        rotate_left
        ·intro hJ2_5_7
         refine join_ (σ := Nat) 7 #[true, true, true, true, true, true, true, false, false, false, false, false, true, false, false] (fun s_ => [(25, .int .i64 t226), (28, .int .i64 t228), (5, .pointer (some ⟨s_, 0, none⟩)), (26, .int .i64 (wrap64 (1 + t226))), (29, .int .i64 (wrap64 (1 + t228)))]) (fun s_ w' => (w'.cell? ⟨gb223, 0, none⟩ = some (.int .i64 xa_1) ∧ w'.cell? ⟨gb223, 1, none⟩ = some (.int .i64 xb_1) ∧ w'.cell? ⟨gb223, 2, none⟩ = some (.slice Ao43 xc_1.length co43)) ∧ (Kd.R k29 29 w' w.heap.size (fun _ => True) (.slice Ao43 xc_1.length co43) xc_1) ∧ (w'.heap[gb213]? = some (.cells #[.int .i64 0, .int .i64 0, .slice none 0 0] 32 (0, 0))) ∧ (w'.heap[gb223]? = some (.cells #[.int .i64 xa_1, .int .i64 xb_1, .slice Ao43 xc_1.length co43] 32 (0, 0))) ∧ (w'.heap[s_]? = some (.cells #[.int .i64 0, .int .i64 0, .slice none 0 0] 32 (0, 0))) ∧ (w.heap.size ≤ s_) ∧ (w0.heap.size ≤ s_) ∧ (g ≠ s_) ∧ (s_ ≠ g) ∧ (gb213 ≠ s_) ∧ (s_ ≠ gb213) ∧ (gb223 ≠ s_) ∧ (s_ ≠ gb223) ∧ (IsS73 w0 w' g s0_0 t229) ∧ (KeepBut w w' g none) ∧ (Below w0.heap.size w0 w')) ?_ ?_
         rotate_left
         ·intro hJ2_5_12
          refine join_ (σ := Unit) 8 #[true, true, true, true, true, true, true, false, false, false, false, false, false, false, false] (fun s_ => [(25, .int .i64 t226), (28, .int .i64 t228), (26, .int .i64 (wrap64 (1 + t226))), (29, .int .i64 (wrap64 (1 + t228)))]) (fun s_ w' => (w'.cell? ⟨gb223, 0, none⟩ = some (.int .i64 xa_1) ∧ w'.cell? ⟨gb223, 1, none⟩ = some (.int .i64 xb_1) ∧ w'.cell? ⟨gb223, 2, none⟩ = some (.slice Ao43 xc_1.length co43)) ∧ (Kd.R k29 29 w' w.heap.size (fun _ => True) (.slice Ao43 xc_1.length co43) xc_1) ∧ (w'.heap[gb213]? = some (.cells #[.int .i64 0, .int .i64 0, .slice none 0 0] 32 (0, 0))) ∧ (w'.heap[gb223]? = some (.cells #[.int .i64 xa_1, .int .i64 xb_1, .slice Ao43 xc_1.length co43] 32 (0, 0))) ∧ (IsS73 w0 w' g s0_0 t229) ∧ (KeepBut w w' g none) ∧ (Below w0.heap.size w0 w')) ?_ ?_
          rotate_left
          ·intro hJ2_5
           refine join_ (σ := Nat) 9 #[true, true, true, true, true, false, false, false, false, false, false, false, true, false, false] (fun s_ => [(25, .int .i64 t226), (5, .pointer (some ⟨s_, 0, none⟩)), (26, .int .i64 (wrap64 (1 + t226)))]) (fun s_ w' => (w'.cell? ⟨gb223, 0, none⟩ = some (.int .i64 xa_1) ∧ w'.cell? ⟨gb223, 1, none⟩ = some (.int .i64 xb_1) ∧ w'.cell? ⟨gb223, 2, none⟩ = some (.slice Ao43 xc_1.length co43)) ∧ (Kd.R k29 29 w' w.heap.size (fun _ => True) (.slice Ao43 xc_1.length co43) xc_1) ∧ (w'.heap[gb213]? = some (.cells #[.int .i64 0, .int .i64 0, .slice none 0 0] 32 (0, 0))) ∧ (w'.heap[gb223]? = some (.cells #[.int .i64 xa_1, .int .i64 xb_1, .slice Ao43 xc_1.length co43] 32 (0, 0))) ∧ (w'.heap[s_]? = some (.cells #[.int .i64 0, .int .i64 0, .slice none 0 0] 32 (0, 0))) ∧ (w.heap.size ≤ s_) ∧ (w0.heap.size ≤ s_) ∧ (g ≠ s_) ∧ (s_ ≠ g) ∧ (gb213 ≠ s_) ∧ (s_ ≠ gb213) ∧ (gb223 ≠ s_) ∧ (s_ ≠ gb223) ∧ (IsS73 w0 w' g s0_0 t227) ∧ (KeepBut w w' g none) ∧ (Below w0.heap.size w0 w')) ?_ ?_
           rotate_left
           ·intro hJ2_12
            refine join_ (σ := Unit) 10 #[true, true, true, true, true, false, false, false, false, false, false, false, false, false, false] (fun s_ => [(25, .int .i64 t226), (26, .int .i64 (wrap64 (1 + t226)))]) (fun s_ w' => (w'.cell? ⟨gb223, 0, none⟩ = some (.int .i64 xa_1) ∧ w'.cell? ⟨gb223, 1, none⟩ = some (.int .i64 xb_1) ∧ w'.cell? ⟨gb223, 2, none⟩ = some (.slice Ao43 xc_1.length co43)) ∧ (Kd.R k29 29 w' w.heap.size (fun _ => True) (.slice Ao43 xc_1.length co43) xc_1) ∧ (w'.heap[gb213]? = some (.cells #[.int .i64 0, .int .i64 0, .slice none 0 0] 32 (0, 0))) ∧ (w'.heap[gb223]? = some (.cells #[.int .i64 xa_1, .int .i64 xb_1, .slice Ao43 xc_1.length co43] 32 (0, 0))) ∧ (IsS73 w0 w' g s0_0 t227) ∧ (KeepBut w w' g none) ∧ (Below w0.heap.size w0 w')) ?_ ?_
            rotate_left
            ·intro hJ2
             refine join_ (σ := Nat) 11 #[true, true, false, false, true, false, false, false, false, false, false, false, true, false, false] (fun s_ => [(5, .pointer (some ⟨s_, 0, none⟩))]) (fun s_ w' => (w'.cell? ⟨gb223, 0, none⟩ = some (.int .i64 xa_1) ∧ w'.cell? ⟨gb223, 1, none⟩ = some (.int .i64 xb_1) ∧ w'.cell? ⟨gb223, 2, none⟩ = some (.slice Ao43 xc_1.length co43)) ∧ (Kd.R k29 29 w' w.heap.size (fun _ => True) (.slice Ao43 xc_1.length co43) xc_1) ∧ (w'.heap[gb213]? = some (.cells #[.int .i64 0, .int .i64 0, .slice none 0 0] 32 (0, 0))) ∧ (w'.heap[gb223]? = some (.cells #[.int .i64 xa_1, .int .i64 xb_1, .slice Ao43 xc_1.length co43] 32 (0, 0))) ∧ (w'.heap[s_]? = some (.cells #[.int .i64 0, .int .i64 0, .slice none 0 0] 32 (0, 0))) ∧ (w.heap.size ≤ s_) ∧ (w0.heap.size ≤ s_) ∧ (g ≠ s_) ∧ (s_ ≠ g) ∧ (gb213 ≠ s_) ∧ (s_ ≠ gb213) ∧ (gb223 ≠ s_) ∧ (s_ ≠ gb223) ∧ (IsS73 w0 w' g s0_0 x1001_1) ∧ (KeepBut w w' g none) ∧ (Below w0.heap.size w0 w')) ?_ ?_
             rotate_left
             ·intro hJ12
              refine two_ (i := 2) (j := 12) (Ni := some 25) (Nj := some 5) #[true, true, true, false, true, false, false, false, false, false, false, false, false, false, false] #[true, true, false, false, true, false, false, false, false, false, false, false, true, false, false] rfl rfl rfl rfl (two_of HT_.out (by kernel_rfl)) (by decide) (by decide) (fun K hK => ?_) (fun K hK => ?_)
              ·skip
               refine goes_ Try.func43 (by kernel_rfl) rfl #[.pointer (some ⟨g, 0, none⟩), .int .i64 3] (by rfl) rfl rfl (by (try simp only [List.map_toArray, List.map_cons, List.map_nil]); first | done | rfl | (simp only [List.length_drop, List.length_take]; rfl)) ?_
               with_reducible refine (spec_l6Rd_pick.calls k1 g s0_0 x1001_1 3 t226 t227 w0 _ ?side1 ?side2 A19.out).mono ?_
               (case side1 => repeat (first | (with_reducible first | exact HI0.out | apply yO | apply yL | apply yT | apply yJ | refine yI ?_ NB0_213.out _ | refine yI ?_ NB0_223.out _) | exact HI0.out))
               (case side2 => repeat (first | (with_reducible first | exact HB.out | apply below_alloc | apply yP | apply below_drew1 | refine yS ?_ (IsS73.ge HI0.out) | refine yS ?_ GE213.out | refine yS ?_ GE223.out) | exact HB.out))
               rintro e w45 ⟨rfl, hi, hb, hk⟩
               refine ⟨_, rfl, ?_⟩
               have n0_ := yM (Kd.R_mono (Kd.R_keep (IsS73.apart (show IsS73 w0 _ g s0_0 x1001_1 from by repeat (first | (with_reducible first | exact HI0.out | apply yO | apply yL | apply yT | apply yJ | refine yI ?_ NB0_213.out _ | refine yI ?_ NB0_223.out _) | exact HI0.out)) (by (with_reducible repeat (first | apply Kd.R_alloc | apply Kd.R_drewN | apply Kd.R_drew)); exact HO_c.out) (by decide)) hk (fun _ h => h.2)) (fun _ h => h.1))
               have n1_ := yM (KeepBut.blk hk (g' := gb213) (o := .cells #[.int .i64 0, .int .i64 0, .slice none 0 0] 32 (0, 0)) (by (with_reducible repeat (first | refine yN ?_ _ | refine yD ?_ | refine yA ?_ _)); exact BK213.out) NB213_0.out (by simp))
               have n2_ := yM (KeepBut.blk hk (g' := gb223) (o := .cells #[.int .i64 xa_1, .int .i64 xb_1, .slice Ao43 xc_1.length co43] 32 (0, 0)) (by (with_reducible repeat (first | refine yN ?_ _ | refine yD ?_ | refine yA ?_ _)); exact BK223.out) NB223_0.out (by simp))
               have n3_ := yM (KeepBut.trans (by repeat (first | (with_reducible first | exact HK.out | apply yK | apply yQ | apply keep_drew | apply yR | refine yF ?_ GW213.out _ | refine yF ?_ GW223.out _) | exact HK.out)) hk (.inl rfl))
               have n4_ := yM (hb)
               have n5_ := yM (hi)
               clear HO_c
               clear BK213
               clear BK223
               clear HK
               clear HB
               clear HI0
               have HO_c := n0_
               have BK213 := n1_
               have BK223 := n2_
               have HK := n3_
               have HB := n4_
               have HI0 := n5_
               clear n0_ n1_ n2_ n3_ n4_ n5_
               (try clear hb)
               (try clear hb2)
               (try clear hk)
               (try clear hi)
               refine hK.out _ _ ⟨(blk_cell BK223.out 0).trans rfl, (blk_cell BK223.out 1).trans rfl, (blk_cell BK223.out 2).trans rfl⟩ (fun hHeld => ?_)
               clear hK K
               refine norm_ (a' := ?_) ?_ ?_
               rotate_left
               ·show Act.put _ (some 25) _ = _
                simp only [Act.put, setIfInBounds_toArray, set_cons_zero, set_cons_succ, i64_w, i32_w]
                rfl
               refine pure_ (i := 3) (N := some 26) (v := ?_) (a' := ?_) #[true, true, true, true, true, false, false, false, false, false, false, false, false, false, false] rfl rfl (any_of HT_.out (by kernel_rfl)) (fun _ _ _ h => h) (Or.inl ⟨by rfl, ?_⟩) ?_ ?_
               rotate_left
               ·intro w'
                go_simp
                with_reducible rfl
               rotate_left
               ·simp only [Act.put, setIfInBounds_toArray, set_cons_zero, set_cons_succ, i64_w, i32_w]
                rfl
               exact norm_ (by first | (simp only [putAll, Act.put, setIfInBounds_toArray, set_cons_zero, set_cons_succ]; done) | (simp only [putAll, Act.put, setIfInBounds_toArray, set_cons_zero, set_cons_succ]; rfl)) (hJ2 () _ ⟨hHeld, (by (with_reducible repeat (first | apply Kd.R_alloc | apply Kd.R_drewN | apply Kd.R_drew)); exact HO_c.out), (by (with_reducible repeat (first | refine yN ?_ _ | refine yD ?_ | refine yA ?_ _)); exact BK213.out), (by (with_reducible repeat (first | refine yN ?_ _ | refine yD ?_ | refine yA ?_ _)); exact BK223.out), (by repeat (first | (with_reducible first | exact HI0.out | apply yO | apply yL | apply yT | apply yJ | refine yI ?_ NB0_213.out _ | refine yI ?_ NB0_223.out _) | exact HI0.out)), (by repeat (first | (with_reducible first | exact HK.out | apply yK | apply yQ | apply keep_drew | apply yR | refine yF ?_ GW213.out _ | refine yF ?_ GW223.out _) | exact HK.out)), (by repeat (first | (with_reducible first | exact HB.out | apply below_alloc | apply yP | apply below_drew1 | refine yS ?_ (IsS73.ge HI0.out) | refine yS ?_ GE213.out | refine yS ?_ GE223.out) | exact HB.out))⟩)
              ·skip
               refine box_step ?hg (N := 5) ?hd (cs := #[.int .i64 0, .int .i64 0, .slice none 0 0]) (t := 32) ?hr ?_; (case hd => rfl); (case hg => rfl); (case hr => first | (go_simp; done) | (go_simp; rfl))
               intro gb238 hg w45 hbox hb
               have n0_ := yM (Kd.R_below (by (with_reducible repeat (first | apply Kd.R_alloc | apply Kd.R_drewN | apply Kd.R_drew)); exact HO_c.out) hb)
               have n1_ := yM (blk_below (g := gb213) (o := .cells #[.int .i64 0, .int .i64 0, .slice none 0 0] 32 (0, 0)) (by (with_reducible repeat (first | refine yN ?_ _ | refine yD ?_ | refine yA ?_ _)); exact BK213.out) hb)
               have n2_ := yM (blk_below (g := gb223) (o := .cells #[.int .i64 xa_1, .int .i64 xb_1, .slice Ao43 xc_1.length co43] 32 (0, 0)) (by (with_reducible repeat (first | refine yN ?_ _ | refine yD ?_ | refine yA ?_ _)); exact BK223.out) hb)
               have n3_ := yM (IsS73.below (by repeat (first | (with_reducible first | exact HI0.out | apply yO | apply yL | apply yT | apply yJ | refine yI ?_ NB0_213.out _ | refine yI ?_ NB0_223.out _) | exact HI0.out)) hb)
               have n4_ := yM (KeepBut.trans (by repeat (first | (with_reducible first | exact HK.out | apply yK | apply yQ | apply keep_drew | apply yR | refine yF ?_ GW213.out _ | refine yF ?_ GW223.out _) | exact HK.out)) (KeepBut.of_below hb g none) (.inl rfl))
               have n5_ := yM (below_step (by repeat (first | (with_reducible first | exact HB.out | apply below_alloc | apply yP | apply below_drew1 | refine yS ?_ (IsS73.ge HI0.out) | refine yS ?_ GE213.out | refine yS ?_ GE223.out) | exact HB.out)) hb)
               have n6_ := yM (hbox)
               have n7_ := yM ((by rw [hg]; exact (keep_size (w := w) (g := g) (row := none) (by repeat (first | (with_reducible first | exact HK.out | apply yK | apply yQ | apply keep_drew | apply yR | refine yF ?_ GW213.out _ | refine yF ?_ GW223.out _) | exact HK.out))) : w.heap.size ≤ gb238))
               have n8_ := yM ((Nat.le_trans HW0.out (by rw [hg]; exact (keep_size (w := w) (g := g) (row := none) (by repeat (first | (with_reducible first | exact HK.out | apply yK | apply yQ | apply keep_drew | apply yR | refine yF ?_ GW213.out _ | refine yF ?_ GW223.out _) | exact HK.out))) : w.heap.size ≤ gb238) : w0.heap.size ≤ gb238))
               have n9_ := yM ((by rw [hg]; exact Nat.ne_of_lt (blk_lt (g := gb213) (o := .cells #[.int .i64 0, .int .i64 0, .slice none 0 0] 32 (0, 0)) (by (with_reducible repeat (first | refine yN ?_ _ | refine yD ?_ | refine yA ?_ _)); exact BK213.out)) : gb213 ≠ gb238))
               have n10_ := yM ((by rw [hg]; exact Nat.ne_of_gt (blk_lt (g := gb213) (o := .cells #[.int .i64 0, .int .i64 0, .slice none 0 0] 32 (0, 0)) (by (with_reducible repeat (first | refine yN ?_ _ | refine yD ?_ | refine yA ?_ _)); exact BK213.out)) : gb238 ≠ gb213))
               have n11_ := yM ((by rw [hg]; exact Nat.ne_of_lt (blk_lt (g := gb223) (o := .cells #[.int .i64 xa_1, .int .i64 xb_1, .slice Ao43 xc_1.length co43] 32 (0, 0)) (by (with_reducible repeat (first | refine yN ?_ _ | refine yD ?_ | refine yA ?_ _)); exact BK223.out)) : gb223 ≠ gb238))
               have n12_ := yM ((by rw [hg]; exact Nat.ne_of_gt (blk_lt (g := gb223) (o := .cells #[.int .i64 xa_1, .int .i64 xb_1, .slice Ao43 xc_1.length co43] 32 (0, 0)) (by (with_reducible repeat (first | refine yN ?_ _ | refine yD ?_ | refine yA ?_ _)); exact BK223.out)) : gb238 ≠ gb223))
               have n13_ := yM ((by rw [hg]; exact Nat.ne_of_lt (IsS73.lt (show IsS73 w0 _ g s0_0 x1001_1 from by repeat (first | (with_reducible first | exact HI0.out | apply yO | apply yL | apply yT | apply yJ | refine yI ?_ NB0_213.out _ | refine yI ?_ NB0_223.out _) | exact HI0.out))) : g ≠ gb238))
               have n14_ := yM ((by rw [hg]; exact Nat.ne_of_gt (IsS73.lt (show IsS73 w0 _ g s0_0 x1001_1 from by repeat (first | (with_reducible first | exact HI0.out | apply yO | apply yL | apply yT | apply yJ | refine yI ?_ NB0_213.out _ | refine yI ?_ NB0_223.out _) | exact HI0.out))) : gb238 ≠ g))
               clear HO_c
               clear BK213
               clear BK223
               clear HI0
               clear HK
               clear HB
               have HO_c := n0_
               have BK213 := n1_
               have BK223 := n2_
               have HI0 := n3_
               have HK := n4_
               have HB := n5_
               have BK238 := n6_
               have GW238 := n7_
               have GE238 := n8_
               have NB213_238 := n9_
               have NB238_213 := n10_
               have NB223_238 := n11_
               have NB238_223 := n12_
               have NB0_238 := n13_
               have NB238_0 := n14_
               clear n0_ n1_ n2_ n3_ n4_ n5_ n6_ n7_ n8_ n9_ n10_ n11_ n12_ n13_ n14_
               clear hb hbox hg
               refine hK.out _ _ ⟨(blk_cell BK223.out 0).trans rfl, (blk_cell BK223.out 1).trans rfl, (blk_cell BK223.out 2).trans rfl⟩ (fun hHeld => ?_)
               clear hK K
               refine norm_ (a' := ?_) ?_ ?_
               rotate_left
               ·show Act.put _ (some 5) _ = _
                simp only [Act.put, setIfInBounds_toArray, set_cons_zero, set_cons_succ, i64_w, i32_w]
                rfl
               exact norm_ (by first | (simp only [putAll, Act.put, setIfInBounds_toArray, set_cons_zero, set_cons_succ]; done) | (simp only [putAll, Act.put, setIfInBounds_toArray, set_cons_zero, set_cons_succ]; rfl)) (hJ12 (gb238) _ ⟨hHeld, (by (with_reducible repeat (first | apply Kd.R_alloc | apply Kd.R_drewN | apply Kd.R_drew)); exact HO_c.out), (by (with_reducible repeat (first | refine yN ?_ _ | refine yD ?_ | refine yA ?_ _)); exact BK213.out), (by (with_reducible repeat (first | refine yN ?_ _ | refine yD ?_ | refine yA ?_ _)); exact BK223.out), (by (with_reducible repeat (first | refine yN ?_ _ | refine yD ?_ | refine yA ?_ _)); exact BK238.out), GW238.out, GE238.out, NB0_238.out, NB238_0.out, NB213_238.out, NB238_213.out, NB223_238.out, NB238_223.out, (by repeat (first | (with_reducible first | exact HI0.out | apply yO | apply yL | apply yT | apply yJ | refine yI ?_ NB0_213.out _ | refine yI ?_ NB0_223.out _ | refine yI ?_ NB0_238.out _) | exact HI0.out)), (by repeat (first | (with_reducible first | exact HK.out | apply yK | apply yQ | apply keep_drew | apply yR | refine yF ?_ GW213.out _ | refine yF ?_ GW223.out _ | refine yF ?_ GW238.out _) | exact HK.out)), (by repeat (first | (with_reducible first | exact HB.out | apply below_alloc | apply yP | apply below_drew1 | refine yS ?_ (IsS73.ge HI0.out) | refine yS ?_ GE213.out | refine yS ?_ GE223.out | refine yS ?_ GE238.out) | exact HB.out))⟩)
             ·skip
              rintro gb238 w46 ⟨hS_, h0_, h1_, h2_, h3_, h4_, h5_, h6_, h7_, h8_, h9_, h10_, h11_, h12_, h13_, h14_⟩
              have n0_ : Aside0 (Kd.R k29 29 w46 w.heap.size (fun _ => True) (.slice Ao43 xc_1.length co43) xc_1) := ⟨h0_⟩
              have n1_ : Aside0 (w46.heap[gb213]? = some (.cells #[.int .i64 0, .int .i64 0, .slice none 0 0] 32 (0, 0))) := ⟨h1_⟩
              have n2_ : Aside0 (w46.heap[gb223]? = some (.cells #[.int .i64 xa_1, .int .i64 xb_1, .slice Ao43 xc_1.length co43] 32 (0, 0))) := ⟨h2_⟩
              have n3_ : Aside0 (w46.heap[gb238]? = some (.cells #[.int .i64 0, .int .i64 0, .slice none 0 0] 32 (0, 0))) := ⟨h3_⟩
              have n4_ : Aside0 (w.heap.size ≤ gb238) := ⟨h4_⟩
              have n5_ : Aside0 (w0.heap.size ≤ gb238) := ⟨h5_⟩
              have n6_ : Aside0 (g ≠ gb238) := ⟨h6_⟩
              have n7_ : Aside0 (gb238 ≠ g) := ⟨h7_⟩
              have n8_ : Aside0 (gb213 ≠ gb238) := ⟨h8_⟩
              have n9_ : Aside0 (gb238 ≠ gb213) := ⟨h9_⟩
              have n10_ : Aside0 (gb223 ≠ gb238) := ⟨h10_⟩
              have n11_ : Aside0 (gb238 ≠ gb223) := ⟨h11_⟩
              have n12_ : Aside0 (IsS73 w0 w46 g s0_0 x1001_1) := ⟨h12_⟩
              have n13_ : Aside0 (KeepBut w w46 g none) := ⟨h13_⟩
              have n14_ : Aside0 (Below w0.heap.size w0 w46) := ⟨h14_⟩
              clear HO_c
              clear BK213
              clear BK223
              clear HI0
              clear HK
              clear HB
              clear h0_ h1_ h2_ h3_ h4_ h5_ h6_ h7_ h8_ h9_ h10_ h11_ h12_ h13_ h14_
              have HO_c := n0_
              have BK213 := n1_
              have BK223 := n2_
              have BK238 := n3_
              have GW238 := n4_
              have GE238 := n5_
              have NB0_238 := n6_
              have NB238_0 := n7_
              have NB213_238 := n8_
              have NB238_213 := n9_
              have NB223_238 := n10_
              have NB238_223 := n11_
              have HI0 := n12_
              have HK := n13_
              have HB := n14_
              clear n0_ n1_ n2_ n3_ n4_ n5_ n6_ n7_ n8_ n9_ n10_ n11_ n12_ n13_ n14_
              have hHeld : w46.cell? ⟨gb223, 0, none⟩ = some (.int .i64 xa_1) ∧ w46.cell? ⟨gb223, 1, none⟩ = some (.int .i64 xb_1) ∧ w46.cell? ⟨gb223, 2, none⟩ = some (.slice Ao43 xc_1.length co43) := hS_
              refine norm_ (a' := ?_) ?_ ?_
              rotate_left
              ·simp only [putAll, Act.put, setIfInBounds_toArray, set_cons_zero, set_cons_succ]
               rfl
              refine one_ (i := 2) (N := some 25) #[true, true, true, false, true, false, false, false, false, false, false, false, true, false, false] rfl rfl (one_of HT_.out (by kernel_rfl)) (by decide) (fun K hK => ?_)
              refine goes_ Try.func43 (by kernel_rfl) rfl #[.pointer (some ⟨g, 0, none⟩), .int .i64 3] (by rfl) rfl rfl (by (try simp only [List.map_toArray, List.map_cons, List.map_nil]); first | done | rfl | (simp only [List.length_drop, List.length_take]; rfl)) ?_
              with_reducible refine (spec_l6Rd_pick.calls k1 g s0_0 x1001_1 3 t226 t227 w0 _ ?side1 ?side2 A19.out).mono ?_
              (case side1 => repeat (first | (with_reducible first | exact HI0.out | apply yO | apply yL | apply yT | apply yJ | refine yI ?_ NB0_213.out _ | refine yI ?_ NB0_223.out _ | refine yI ?_ NB0_238.out _) | exact HI0.out))
              (case side2 => repeat (first | (with_reducible first | exact HB.out | apply below_alloc | apply yP | apply below_drew1 | refine yS ?_ (IsS73.ge HI0.out) | refine yS ?_ GE213.out | refine yS ?_ GE223.out | refine yS ?_ GE238.out) | exact HB.out))
              rintro e w47 ⟨rfl, hi, hb, hk⟩
              refine ⟨_, rfl, ?_⟩
              have n0_ := yM (Kd.R_mono (Kd.R_keep (IsS73.apart (show IsS73 w0 _ g s0_0 x1001_1 from by repeat (first | (with_reducible first | exact HI0.out | apply yO | apply yL | apply yT | apply yJ | refine yI ?_ NB0_213.out _ | refine yI ?_ NB0_223.out _ | refine yI ?_ NB0_238.out _) | exact HI0.out)) (by (with_reducible repeat (first | apply Kd.R_alloc | apply Kd.R_drewN | apply Kd.R_drew)); exact HO_c.out) (by decide)) hk (fun _ h => h.2)) (fun _ h => h.1))
              have n1_ := yM (KeepBut.blk hk (g' := gb213) (o := .cells #[.int .i64 0, .int .i64 0, .slice none 0 0] 32 (0, 0)) (by (with_reducible repeat (first | refine yN ?_ _ | refine yD ?_ | refine yA ?_ _)); exact BK213.out) NB213_0.out (by simp))
              have n2_ := yM (KeepBut.blk hk (g' := gb223) (o := .cells #[.int .i64 xa_1, .int .i64 xb_1, .slice Ao43 xc_1.length co43] 32 (0, 0)) (by (with_reducible repeat (first | refine yN ?_ _ | refine yD ?_ | refine yA ?_ _)); exact BK223.out) NB223_0.out (by simp))
              have n3_ := yM (KeepBut.blk hk (g' := gb238) (o := .cells #[.int .i64 0, .int .i64 0, .slice none 0 0] 32 (0, 0)) (by (with_reducible repeat (first | refine yN ?_ _ | refine yD ?_ | refine yA ?_ _)); exact BK238.out) NB238_0.out (by simp))
              have n4_ := yM (KeepBut.trans (by repeat (first | (with_reducible first | exact HK.out | apply yK | apply yQ | apply keep_drew | apply yR | refine yF ?_ GW213.out _ | refine yF ?_ GW223.out _ | refine yF ?_ GW238.out _) | exact HK.out)) hk (.inl rfl))
              have n5_ := yM (hb)
              have n6_ := yM (hi)
              clear HO_c
              clear BK213
              clear BK223
              clear BK238
              clear HK
              clear HB
              clear HI0
              have HO_c := n0_
              have BK213 := n1_
              have BK223 := n2_
              have BK238 := n3_
              have HK := n4_
              have HB := n5_
              have HI0 := n6_
              clear n0_ n1_ n2_ n3_ n4_ n5_ n6_
              (try clear hb)
              (try clear hb2)
              (try clear hk)
              (try clear hi)
              refine hK.out _ _ ⟨(blk_cell BK223.out 0).trans rfl, (blk_cell BK223.out 1).trans rfl, (blk_cell BK223.out 2).trans rfl⟩ (fun hHeld => ?_)
              clear hK K
              refine norm_ (a' := ?_) ?_ ?_
              rotate_left
              ·show Act.put _ (some 25) _ = _
               simp only [Act.put, setIfInBounds_toArray, set_cons_zero, set_cons_succ, i64_w, i32_w]
               rfl
              refine pure_ (i := 3) (N := some 26) (v := ?_) (a' := ?_) #[true, true, true, true, true, false, false, false, false, false, false, false, true, false, false] rfl rfl (any_of HT_.out (by kernel_rfl)) (fun _ _ _ h => h) (Or.inl ⟨by rfl, ?_⟩) ?_ ?_
              rotate_left
              ·intro w'
               go_simp
               with_reducible rfl
              rotate_left
              ·simp only [Act.put, setIfInBounds_toArray, set_cons_zero, set_cons_succ, i64_w, i32_w]
               rfl
              exact norm_ (by first | (simp only [putAll, Act.put, setIfInBounds_toArray, set_cons_zero, set_cons_succ]; done) | (simp only [putAll, Act.put, setIfInBounds_toArray, set_cons_zero, set_cons_succ]; rfl)) (hJ2_12 (gb238) _ ⟨hHeld, (by (with_reducible repeat (first | apply Kd.R_alloc | apply Kd.R_drewN | apply Kd.R_drew)); exact HO_c.out), (by (with_reducible repeat (first | refine yN ?_ _ | refine yD ?_ | refine yA ?_ _)); exact BK213.out), (by (with_reducible repeat (first | refine yN ?_ _ | refine yD ?_ | refine yA ?_ _)); exact BK223.out), (by (with_reducible repeat (first | refine yN ?_ _ | refine yD ?_ | refine yA ?_ _)); exact BK238.out), GW238.out, GE238.out, NB0_238.out, NB238_0.out, NB213_238.out, NB238_213.out, NB223_238.out, NB238_223.out, (by repeat (first | (with_reducible first | exact HI0.out | apply yO | apply yL | apply yT | apply yJ | refine yI ?_ NB0_213.out _ | refine yI ?_ NB0_223.out _ | refine yI ?_ NB0_238.out _) | exact HI0.out)), (by repeat (first | (with_reducible first | exact HK.out | apply yK | apply yQ | apply keep_drew | apply yR | refine yF ?_ GW213.out _ | refine yF ?_ GW223.out _ | refine yF ?_ GW238.out _) | exact HK.out)), (by repeat (first | (with_reducible first | exact HB.out | apply below_alloc | apply yP | apply below_drew1 | refine yS ?_ (IsS73.ge HI0.out) | refine yS ?_ GE213.out | refine yS ?_ GE223.out | refine yS ?_ GE238.out) | exact HB.out))⟩)
            ·skip
             rintro _ w46 ⟨hS_, h0_, h1_, h2_, h3_, h4_, h5_⟩
             have n0_ : Aside0 (Kd.R k29 29 w46 w.heap.size (fun _ => True) (.slice Ao43 xc_1.length co43) xc_1) := ⟨h0_⟩
             have n1_ : Aside0 (w46.heap[gb213]? = some (.cells #[.int .i64 0, .int .i64 0, .slice none 0 0] 32 (0, 0))) := ⟨h1_⟩
             have n2_ : Aside0 (w46.heap[gb223]? = some (.cells #[.int .i64 xa_1, .int .i64 xb_1, .slice Ao43 xc_1.length co43] 32 (0, 0))) := ⟨h2_⟩
             have n3_ : Aside0 (IsS73 w0 w46 g s0_0 t227) := ⟨h3_⟩
             have n4_ : Aside0 (KeepBut w w46 g none) := ⟨h4_⟩
             have n5_ : Aside0 (Below w0.heap.size w0 w46) := ⟨h5_⟩
             clear HO_c
             clear BK213
             clear BK223
             clear HI0
             clear HK
             clear HB
             clear h0_ h1_ h2_ h3_ h4_ h5_
             have HO_c := n0_
             have BK213 := n1_
             have BK223 := n2_
             have HI0 := n3_
             have HK := n4_
             have HB := n5_
             clear n0_ n1_ n2_ n3_ n4_ n5_
             have hHeld : w46.cell? ⟨gb223, 0, none⟩ = some (.int .i64 xa_1) ∧ w46.cell? ⟨gb223, 1, none⟩ = some (.int .i64 xb_1) ∧ w46.cell? ⟨gb223, 2, none⟩ = some (.slice Ao43 xc_1.length co43) := hS_
             refine norm_ (a' := ?_) ?_ ?_
             rotate_left
             ·simp only [putAll, Act.put, setIfInBounds_toArray, set_cons_zero, set_cons_succ]
              rfl
             refine two_ (i := 5) (j := 12) (Ni := some 28) (Nj := some 5) #[true, true, true, true, true, true, false, false, false, false, false, false, false, false, false] #[true, true, true, true, true, false, false, false, false, false, false, false, true, false, false] rfl rfl rfl rfl (two_of HT_.out (by kernel_rfl)) (by decide) (by decide) (fun K hK => ?_) (fun K hK => ?_)
             ·skip
              refine goes_ Try.func43 (by kernel_rfl) rfl #[.pointer (some ⟨g, 0, none⟩), .int .i64 6] (by rfl) rfl rfl (by (try simp only [List.map_toArray, List.map_cons, List.map_nil]); first | done | rfl | (simp only [List.length_drop, List.length_take]; rfl)) ?_
              with_reducible refine (spec_l6Rd_pick.calls k1 g s0_0 t227 6 t228 t229 w0 _ ?side1 ?side2 A20.out).mono ?_
              (case side1 => repeat (first | (with_reducible first | exact HI0.out | apply yO | apply yL | apply yT | apply yJ | refine yI ?_ NB0_213.out _ | refine yI ?_ NB0_223.out _) | exact HI0.out))
              (case side2 => repeat (first | (with_reducible first | exact HB.out | apply below_alloc | apply yP | apply below_drew1 | refine yS ?_ (IsS73.ge HI0.out) | refine yS ?_ GE213.out | refine yS ?_ GE223.out) | exact HB.out))
              rintro e w47 ⟨rfl, hi, hb, hk⟩
              refine ⟨_, rfl, ?_⟩
              have n0_ := yM (Kd.R_mono (Kd.R_keep (IsS73.apart (show IsS73 w0 _ g s0_0 t227 from by repeat (first | (with_reducible first | exact HI0.out | apply yO | apply yL | apply yT | apply yJ | refine yI ?_ NB0_213.out _ | refine yI ?_ NB0_223.out _) | exact HI0.out)) (by (with_reducible repeat (first | apply Kd.R_alloc | apply Kd.R_drewN | apply Kd.R_drew)); exact HO_c.out) (by decide)) hk (fun _ h => h.2)) (fun _ h => h.1))
              have n1_ := yM (KeepBut.blk hk (g' := gb213) (o := .cells #[.int .i64 0, .int .i64 0, .slice none 0 0] 32 (0, 0)) (by (with_reducible repeat (first | refine yN ?_ _ | refine yD ?_ | refine yA ?_ _)); exact BK213.out) NB213_0.out (by simp))
              have n2_ := yM (KeepBut.blk hk (g' := gb223) (o := .cells #[.int .i64 xa_1, .int .i64 xb_1, .slice Ao43 xc_1.length co43] 32 (0, 0)) (by (with_reducible repeat (first | refine yN ?_ _ | refine yD ?_ | refine yA ?_ _)); exact BK223.out) NB223_0.out (by simp))
              have n3_ := yM (KeepBut.trans (by repeat (first | (with_reducible first | exact HK.out | apply yK | apply yQ | apply keep_drew | apply yR | refine yF ?_ GW213.out _ | refine yF ?_ GW223.out _) | exact HK.out)) hk (.inl rfl))
              have n4_ := yM (hb)
              have n5_ := yM (hi)
              clear HO_c
              clear BK213
              clear BK223
              clear HK
              clear HB
              clear HI0
              have HO_c := n0_
              have BK213 := n1_
              have BK223 := n2_
              have HK := n3_
              have HB := n4_
              have HI0 := n5_
              clear n0_ n1_ n2_ n3_ n4_ n5_
              (try clear hb)
              (try clear hb2)
              (try clear hk)
              (try clear hi)
              refine hK.out _ _ ⟨(blk_cell BK223.out 0).trans rfl, (blk_cell BK223.out 1).trans rfl, (blk_cell BK223.out 2).trans rfl⟩ (fun hHeld => ?_)
              clear hK K
              refine norm_ (a' := ?_) ?_ ?_
              rotate_left
              ·show Act.put _ (some 28) _ = _
               simp only [Act.put, setIfInBounds_toArray, set_cons_zero, set_cons_succ, i64_w, i32_w]
               rfl
              refine pure_ (i := 6) (N := some 29) (v := ?_) (a' := ?_) #[true, true, true, true, true, true, true, false, false, false, false, false, false, false, false] rfl rfl (any_of HT_.out (by kernel_rfl)) (fun _ _ _ h => h) (Or.inl ⟨by rfl, ?_⟩) ?_ ?_
              rotate_left
              ·intro w'
               go_simp
               with_reducible rfl
              rotate_left
              ·simp only [Act.put, setIfInBounds_toArray, set_cons_zero, set_cons_succ, i64_w, i32_w]
               rfl
              exact norm_ (by first | (simp only [putAll, Act.put, setIfInBounds_toArray, set_cons_zero, set_cons_succ]; done) | (simp only [putAll, Act.put, setIfInBounds_toArray, set_cons_zero, set_cons_succ]; rfl)) (hJ2_5 () _ ⟨hHeld, (by (with_reducible repeat (first | apply Kd.R_alloc | apply Kd.R_drewN | apply Kd.R_drew)); exact HO_c.out), (by (with_reducible repeat (first | refine yN ?_ _ | refine yD ?_ | refine yA ?_ _)); exact BK213.out), (by (with_reducible repeat (first | refine yN ?_ _ | refine yD ?_ | refine yA ?_ _)); exact BK223.out), (by repeat (first | (with_reducible first | exact HI0.out | apply yO | apply yL | apply yT | apply yJ | refine yI ?_ NB0_213.out _ | refine yI ?_ NB0_223.out _) | exact HI0.out)), (by repeat (first | (with_reducible first | exact HK.out | apply yK | apply yQ | apply keep_drew | apply yR | refine yF ?_ GW213.out _ | refine yF ?_ GW223.out _) | exact HK.out)), (by repeat (first | (with_reducible first | exact HB.out | apply below_alloc | apply yP | apply below_drew1 | refine yS ?_ (IsS73.ge HI0.out) | refine yS ?_ GE213.out | refine yS ?_ GE223.out) | exact HB.out))⟩)
             ·skip
              refine box_step ?hg (N := 5) ?hd (cs := #[.int .i64 0, .int .i64 0, .slice none 0 0]) (t := 32) ?hr ?_; (case hd => rfl); (case hg => rfl); (case hr => first | (go_simp; done) | (go_simp; rfl))
              intro gb238 hg w47 hbox hb
              have n0_ := yM (Kd.R_below (by (with_reducible repeat (first | apply Kd.R_alloc | apply Kd.R_drewN | apply Kd.R_drew)); exact HO_c.out) hb)
              have n1_ := yM (blk_below (g := gb213) (o := .cells #[.int .i64 0, .int .i64 0, .slice none 0 0] 32 (0, 0)) (by (with_reducible repeat (first | refine yN ?_ _ | refine yD ?_ | refine yA ?_ _)); exact BK213.out) hb)
              have n2_ := yM (blk_below (g := gb223) (o := .cells #[.int .i64 xa_1, .int .i64 xb_1, .slice Ao43 xc_1.length co43] 32 (0, 0)) (by (with_reducible repeat (first | refine yN ?_ _ | refine yD ?_ | refine yA ?_ _)); exact BK223.out) hb)
              have n3_ := yM (IsS73.below (by repeat (first | (with_reducible first | exact HI0.out | apply yO | apply yL | apply yT | apply yJ | refine yI ?_ NB0_213.out _ | refine yI ?_ NB0_223.out _) | exact HI0.out)) hb)
              have n4_ := yM (KeepBut.trans (by repeat (first | (with_reducible first | exact HK.out | apply yK | apply yQ | apply keep_drew | apply yR | refine yF ?_ GW213.out _ | refine yF ?_ GW223.out _) | exact HK.out)) (KeepBut.of_below hb g none) (.inl rfl))
              have n5_ := yM (below_step (by repeat (first | (with_reducible first | exact HB.out | apply below_alloc | apply yP | apply below_drew1 | refine yS ?_ (IsS73.ge HI0.out) | refine yS ?_ GE213.out | refine yS ?_ GE223.out) | exact HB.out)) hb)
              have n6_ := yM (hbox)
              have n7_ := yM ((by rw [hg]; exact (keep_size (w := w) (g := g) (row := none) (by repeat (first | (with_reducible first | exact HK.out | apply yK | apply yQ | apply keep_drew | apply yR | refine yF ?_ GW213.out _ | refine yF ?_ GW223.out _) | exact HK.out))) : w.heap.size ≤ gb238))
              have n8_ := yM ((Nat.le_trans HW0.out (by rw [hg]; exact (keep_size (w := w) (g := g) (row := none) (by repeat (first | (with_reducible first | exact HK.out | apply yK | apply yQ | apply keep_drew | apply yR | refine yF ?_ GW213.out _ | refine yF ?_ GW223.out _) | exact HK.out))) : w.heap.size ≤ gb238) : w0.heap.size ≤ gb238))
              have n9_ := yM ((by rw [hg]; exact Nat.ne_of_lt (blk_lt (g := gb213) (o := .cells #[.int .i64 0, .int .i64 0, .slice none 0 0] 32 (0, 0)) (by (with_reducible repeat (first | refine yN ?_ _ | refine yD ?_ | refine yA ?_ _)); exact BK213.out)) : gb213 ≠ gb238))
              have n10_ := yM ((by rw [hg]; exact Nat.ne_of_gt (blk_lt (g := gb213) (o := .cells #[.int .i64 0, .int .i64 0, .slice none 0 0] 32 (0, 0)) (by (with_reducible repeat (first | refine yN ?_ _ | refine yD ?_ | refine yA ?_ _)); exact BK213.out)) : gb238 ≠ gb213))
              have n11_ := yM ((by rw [hg]; exact Nat.ne_of_lt (blk_lt (g := gb223) (o := .cells #[.int .i64 xa_1, .int .i64 xb_1, .slice Ao43 xc_1.length co43] 32 (0, 0)) (by (with_reducible repeat (first | refine yN ?_ _ | refine yD ?_ | refine yA ?_ _)); exact BK223.out)) : gb223 ≠ gb238))
              have n12_ := yM ((by rw [hg]; exact Nat.ne_of_gt (blk_lt (g := gb223) (o := .cells #[.int .i64 xa_1, .int .i64 xb_1, .slice Ao43 xc_1.length co43] 32 (0, 0)) (by (with_reducible repeat (first | refine yN ?_ _ | refine yD ?_ | refine yA ?_ _)); exact BK223.out)) : gb238 ≠ gb223))
              have n13_ := yM ((by rw [hg]; exact Nat.ne_of_lt (IsS73.lt (show IsS73 w0 _ g s0_0 t227 from by repeat (first | (with_reducible first | exact HI0.out | apply yO | apply yL | apply yT | apply yJ | refine yI ?_ NB0_213.out _ | refine yI ?_ NB0_223.out _) | exact HI0.out))) : g ≠ gb238))
              have n14_ := yM ((by rw [hg]; exact Nat.ne_of_gt (IsS73.lt (show IsS73 w0 _ g s0_0 t227 from by repeat (first | (with_reducible first | exact HI0.out | apply yO | apply yL | apply yT | apply yJ | refine yI ?_ NB0_213.out _ | refine yI ?_ NB0_223.out _) | exact HI0.out))) : gb238 ≠ g))
              clear HO_c
              clear BK213
              clear BK223
              clear HI0
              clear HK
              clear HB
              have HO_c := n0_
              have BK213 := n1_
              have BK223 := n2_
              have HI0 := n3_
              have HK := n4_
              have HB := n5_
              have BK238 := n6_
              have GW238 := n7_
              have GE238 := n8_
              have NB213_238 := n9_
              have NB238_213 := n10_
              have NB223_238 := n11_
              have NB238_223 := n12_
              have NB0_238 := n13_
              have NB238_0 := n14_
              clear n0_ n1_ n2_ n3_ n4_ n5_ n6_ n7_ n8_ n9_ n10_ n11_ n12_ n13_ n14_
              clear hb hbox hg
              refine hK.out _ _ ⟨(blk_cell BK223.out 0).trans rfl, (blk_cell BK223.out 1).trans rfl, (blk_cell BK223.out 2).trans rfl⟩ (fun hHeld => ?_)
              clear hK K
              refine norm_ (a' := ?_) ?_ ?_
              rotate_left
              ·show Act.put _ (some 5) _ = _
               simp only [Act.put, setIfInBounds_toArray, set_cons_zero, set_cons_succ, i64_w, i32_w]
               rfl
              exact norm_ (by first | (simp only [putAll, Act.put, setIfInBounds_toArray, set_cons_zero, set_cons_succ]; done) | (simp only [putAll, Act.put, setIfInBounds_toArray, set_cons_zero, set_cons_succ]; rfl)) (hJ2_12 (gb238) _ ⟨hHeld, (by (with_reducible repeat (first | apply Kd.R_alloc | apply Kd.R_drewN | apply Kd.R_drew)); exact HO_c.out), (by (with_reducible repeat (first | refine yN ?_ _ | refine yD ?_ | refine yA ?_ _)); exact BK213.out), (by (with_reducible repeat (first | refine yN ?_ _ | refine yD ?_ | refine yA ?_ _)); exact BK223.out), (by (with_reducible repeat (first | refine yN ?_ _ | refine yD ?_ | refine yA ?_ _)); exact BK238.out), GW238.out, GE238.out, NB0_238.out, NB238_0.out, NB213_238.out, NB238_213.out, NB223_238.out, NB238_223.out, (by repeat (first | (with_reducible first | exact HI0.out | apply yO | apply yL | apply yT | apply yJ | refine yI ?_ NB0_213.out _ | refine yI ?_ NB0_223.out _ | refine yI ?_ NB0_238.out _) | exact HI0.out)), (by repeat (first | (with_reducible first | exact HK.out | apply yK | apply yQ | apply keep_drew | apply yR | refine yF ?_ GW213.out _ | refine yF ?_ GW223.out _ | refine yF ?_ GW238.out _) | exact HK.out)), (by repeat (first | (with_reducible first | exact HB.out | apply below_alloc | apply yP | apply below_drew1 | refine yS ?_ (IsS73.ge HI0.out) | refine yS ?_ GE213.out | refine yS ?_ GE223.out | refine yS ?_ GE238.out) | exact HB.out))⟩)
           ·skip
            rintro gb238 w47 ⟨hS_, h0_, h1_, h2_, h3_, h4_, h5_, h6_, h7_, h8_, h9_, h10_, h11_, h12_, h13_, h14_⟩
            have n0_ : Aside0 (Kd.R k29 29 w47 w.heap.size (fun _ => True) (.slice Ao43 xc_1.length co43) xc_1) := ⟨h0_⟩
            have n1_ : Aside0 (w47.heap[gb213]? = some (.cells #[.int .i64 0, .int .i64 0, .slice none 0 0] 32 (0, 0))) := ⟨h1_⟩
            have n2_ : Aside0 (w47.heap[gb223]? = some (.cells #[.int .i64 xa_1, .int .i64 xb_1, .slice Ao43 xc_1.length co43] 32 (0, 0))) := ⟨h2_⟩
            have n3_ : Aside0 (w47.heap[gb238]? = some (.cells #[.int .i64 0, .int .i64 0, .slice none 0 0] 32 (0, 0))) := ⟨h3_⟩
            have n4_ : Aside0 (w.heap.size ≤ gb238) := ⟨h4_⟩
            have n5_ : Aside0 (w0.heap.size ≤ gb238) := ⟨h5_⟩
            have n6_ : Aside0 (g ≠ gb238) := ⟨h6_⟩
            have n7_ : Aside0 (gb238 ≠ g) := ⟨h7_⟩
            have n8_ : Aside0 (gb213 ≠ gb238) := ⟨h8_⟩
            have n9_ : Aside0 (gb238 ≠ gb213) := ⟨h9_⟩
            have n10_ : Aside0 (gb223 ≠ gb238) := ⟨h10_⟩
            have n11_ : Aside0 (gb238 ≠ gb223) := ⟨h11_⟩
            have n12_ : Aside0 (IsS73 w0 w47 g s0_0 t227) := ⟨h12_⟩
            have n13_ : Aside0 (KeepBut w w47 g none) := ⟨h13_⟩
            have n14_ : Aside0 (Below w0.heap.size w0 w47) := ⟨h14_⟩
            clear HO_c
            clear BK213
            clear BK223
            clear HI0
            clear HK
            clear HB
            clear h0_ h1_ h2_ h3_ h4_ h5_ h6_ h7_ h8_ h9_ h10_ h11_ h12_ h13_ h14_
            have HO_c := n0_
            have BK213 := n1_
            have BK223 := n2_
            have BK238 := n3_
            have GW238 := n4_
            have GE238 := n5_
            have NB0_238 := n6_
            have NB238_0 := n7_
            have NB213_238 := n8_
            have NB238_213 := n9_
            have NB223_238 := n10_
            have NB238_223 := n11_
            have HI0 := n12_
            have HK := n13_
            have HB := n14_
            clear n0_ n1_ n2_ n3_ n4_ n5_ n6_ n7_ n8_ n9_ n10_ n11_ n12_ n13_ n14_
            have hHeld : w47.cell? ⟨gb223, 0, none⟩ = some (.int .i64 xa_1) ∧ w47.cell? ⟨gb223, 1, none⟩ = some (.int .i64 xb_1) ∧ w47.cell? ⟨gb223, 2, none⟩ = some (.slice Ao43 xc_1.length co43) := hS_
            refine norm_ (a' := ?_) ?_ ?_
            rotate_left
            ·simp only [putAll, Act.put, setIfInBounds_toArray, set_cons_zero, set_cons_succ]
             rfl
            refine one_ (i := 5) (N := some 28) #[true, true, true, true, true, true, false, false, false, false, false, false, true, false, false] rfl rfl (one_of HT_.out (by kernel_rfl)) (by decide) (fun K hK => ?_)
            refine goes_ Try.func43 (by kernel_rfl) rfl #[.pointer (some ⟨g, 0, none⟩), .int .i64 6] (by rfl) rfl rfl (by (try simp only [List.map_toArray, List.map_cons, List.map_nil]); first | done | rfl | (simp only [List.length_drop, List.length_take]; rfl)) ?_
            with_reducible refine (spec_l6Rd_pick.calls k1 g s0_0 t227 6 t228 t229 w0 _ ?side1 ?side2 A20.out).mono ?_
            (case side1 => repeat (first | (with_reducible first | exact HI0.out | apply yO | apply yL | apply yT | apply yJ | refine yI ?_ NB0_213.out _ | refine yI ?_ NB0_223.out _ | refine yI ?_ NB0_238.out _) | exact HI0.out))
            (case side2 => repeat (first | (with_reducible first | exact HB.out | apply below_alloc | apply yP | apply below_drew1 | refine yS ?_ (IsS73.ge HI0.out) | refine yS ?_ GE213.out | refine yS ?_ GE223.out | refine yS ?_ GE238.out) | exact HB.out))
            rintro e w48 ⟨rfl, hi, hb, hk⟩
            refine ⟨_, rfl, ?_⟩
            have n0_ := yM (Kd.R_mono (Kd.R_keep (IsS73.apart (show IsS73 w0 _ g s0_0 t227 from by repeat (first | (with_reducible first | exact HI0.out | apply yO | apply yL | apply yT | apply yJ | refine yI ?_ NB0_213.out _ | refine yI ?_ NB0_223.out _ | refine yI ?_ NB0_238.out _) | exact HI0.out)) (by (with_reducible repeat (first | apply Kd.R_alloc | apply Kd.R_drewN | apply Kd.R_drew)); exact HO_c.out) (by decide)) hk (fun _ h => h.2)) (fun _ h => h.1))
            have n1_ := yM (KeepBut.blk hk (g' := gb213) (o := .cells #[.int .i64 0, .int .i64 0, .slice none 0 0] 32 (0, 0)) (by (with_reducible repeat (first | refine yN ?_ _ | refine yD ?_ | refine yA ?_ _)); exact BK213.out) NB213_0.out (by simp))
            have n2_ := yM (KeepBut.blk hk (g' := gb223) (o := .cells #[.int .i64 xa_1, .int .i64 xb_1, .slice Ao43 xc_1.length co43] 32 (0, 0)) (by (with_reducible repeat (first | refine yN ?_ _ | refine yD ?_ | refine yA ?_ _)); exact BK223.out) NB223_0.out (by simp))
            have n3_ := yM (KeepBut.blk hk (g' := gb238) (o := .cells #[.int .i64 0, .int .i64 0, .slice none 0 0] 32 (0, 0)) (by (with_reducible repeat (first | refine yN ?_ _ | refine yD ?_ | refine yA ?_ _)); exact BK238.out) NB238_0.out (by simp))
            have n4_ := yM (KeepBut.trans (by repeat (first | (with_reducible first | exact HK.out | apply yK | apply yQ | apply keep_drew | apply yR | refine yF ?_ GW213.out _ | refine yF ?_ GW223.out _ | refine yF ?_ GW238.out _) | exact HK.out)) hk (.inl rfl))
            have n5_ := yM (hb)
            have n6_ := yM (hi)
            clear HO_c
            clear BK213
            clear BK223
            clear BK238
            clear HK
            clear HB
            clear HI0
            have HO_c := n0_
            have BK213 := n1_
            have BK223 := n2_
            have BK238 := n3_
            have HK := n4_
            have HB := n5_
            have HI0 := n6_
            clear n0_ n1_ n2_ n3_ n4_ n5_ n6_
            (try clear hb)
            (try clear hb2)
            (try clear hk)
            (try clear hi)
            refine hK.out _ _ ⟨(blk_cell BK223.out 0).trans rfl, (blk_cell BK223.out 1).trans rfl, (blk_cell BK223.out 2).trans rfl⟩ (fun hHeld => ?_)
            clear hK K
            refine norm_ (a' := ?_) ?_ ?_
            rotate_left
            ·show Act.put _ (some 28) _ = _
             simp only [Act.put, setIfInBounds_toArray, set_cons_zero, set_cons_succ, i64_w, i32_w]
             rfl
            refine pure_ (i := 6) (N := some 29) (v := ?_) (a' := ?_) #[true, true, true, true, true, true, true, false, false, false, false, false, true, false, false] rfl rfl (any_of HT_.out (by kernel_rfl)) (fun _ _ _ h => h) (Or.inl ⟨by rfl, ?_⟩) ?_ ?_
            rotate_left
            ·intro w'
             go_simp
             with_reducible rfl
            rotate_left
            ·simp only [Act.put, setIfInBounds_toArray, set_cons_zero, set_cons_succ, i64_w, i32_w]
             rfl
            exact norm_ (by first | (simp only [putAll, Act.put, setIfInBounds_toArray, set_cons_zero, set_cons_succ]; done) | (simp only [putAll, Act.put, setIfInBounds_toArray, set_cons_zero, set_cons_succ]; rfl)) (hJ2_5_12 (gb238) _ ⟨hHeld, (by (with_reducible repeat (first | apply Kd.R_alloc | apply Kd.R_drewN | apply Kd.R_drew)); exact HO_c.out), (by (with_reducible repeat (first | refine yN ?_ _ | refine yD ?_ | refine yA ?_ _)); exact BK213.out), (by (with_reducible repeat (first | refine yN ?_ _ | refine yD ?_ | refine yA ?_ _)); exact BK223.out), (by (with_reducible repeat (first | refine yN ?_ _ | refine yD ?_ | refine yA ?_ _)); exact BK238.out), GW238.out, GE238.out, NB0_238.out, NB238_0.out, NB213_238.out, NB238_213.out, NB223_238.out, NB238_223.out, (by repeat (first | (with_reducible first | exact HI0.out | apply yO | apply yL | apply yT | apply yJ | refine yI ?_ NB0_213.out _ | refine yI ?_ NB0_223.out _ | refine yI ?_ NB0_238.out _) | exact HI0.out)), (by repeat (first | (with_reducible first | exact HK.out | apply yK | apply yQ | apply keep_drew | apply yR | refine yF ?_ GW213.out _ | refine yF ?_ GW223.out _ | refine yF ?_ GW238.out _) | exact HK.out)), (by repeat (first | (with_reducible first | exact HB.out | apply below_alloc | apply yP | apply below_drew1 | refine yS ?_ (IsS73.ge HI0.out) | refine yS ?_ GE213.out | refine yS ?_ GE223.out | refine yS ?_ GE238.out) | exact HB.out))⟩)
          ·skip
           rintro _ w47 ⟨hS_, h0_, h1_, h2_, h3_, h4_, h5_⟩
           have n0_ : Aside0 (Kd.R k29 29 w47 w.heap.size (fun _ => True) (.slice Ao43 xc_1.length co43) xc_1) := ⟨h0_⟩
           have n1_ : Aside0 (w47.heap[gb213]? = some (.cells #[.int .i64 0, .int .i64 0, .slice none 0 0] 32 (0, 0))) := ⟨h1_⟩
           have n2_ : Aside0 (w47.heap[gb223]? = some (.cells #[.int .i64 xa_1, .int .i64 xb_1, .slice Ao43 xc_1.length co43] 32 (0, 0))) := ⟨h2_⟩
           have n3_ : Aside0 (IsS73 w0 w47 g s0_0 t229) := ⟨h3_⟩
           have n4_ : Aside0 (KeepBut w w47 g none) := ⟨h4_⟩
           have n5_ : Aside0 (Below w0.heap.size w0 w47) := ⟨h5_⟩
           clear HO_c
           clear BK213
           clear BK223
           clear HI0
           clear HK
           clear HB
           clear h0_ h1_ h2_ h3_ h4_ h5_
           have HO_c := n0_
           have BK213 := n1_
           have BK223 := n2_
           have HI0 := n3_
           have HK := n4_
           have HB := n5_
           clear n0_ n1_ n2_ n3_ n4_ n5_
           have hHeld : w47.cell? ⟨gb223, 0, none⟩ = some (.int .i64 xa_1) ∧ w47.cell? ⟨gb223, 1, none⟩ = some (.int .i64 xb_1) ∧ w47.cell? ⟨gb223, 2, none⟩ = some (.slice Ao43 xc_1.length co43) := hS_
           refine norm_ (a' := ?_) ?_ ?_
           rotate_left
           ·simp only [putAll, Act.put, setIfInBounds_toArray, set_cons_zero, set_cons_succ]
            rfl
           refine two_ (i := 7) (j := 12) (Ni := some 30) (Nj := some 5) #[true, true, true, true, true, true, true, true, false, false, false, false, false, false, false] #[true, true, true, true, true, true, true, false, false, false, false, false, true, false, false] rfl rfl rfl rfl (two_of HT_.out (by kernel_rfl)) (by decide) (by decide) (fun K hK => ?_) (fun K hK => ?_)
           ·skip
            refine goes_ Try.func56 (by kernel_rfl) rfl #[.int .i64 (wrap64 (1 + t226)), .int .i64 (wrap64 (1 + t228))] (by rfl) rfl rfl (by (try simp only [List.map_toArray, List.map_cons, List.map_nil]); first | done | rfl | (simp only [List.length_drop, List.length_take]; rfl)) ?_
            with_reducible refine (spec_l31Of.calls k1 (wrap64 (1 + t226)) (wrap64 (1 + t228)) t230 t231 _ A21.out).mono ?_
            rintro e w48 ⟨rfl, hb⟩
            refine ⟨_, rfl, ?_⟩
            have n0_ := yM (Kd.R_below (by (with_reducible repeat (first | apply Kd.R_alloc | apply Kd.R_drewN | apply Kd.R_drew)); exact HO_c.out) hb)
            have n1_ := yM (blk_below (g := gb213) (o := .cells #[.int .i64 0, .int .i64 0, .slice none 0 0] 32 (0, 0)) (by (with_reducible repeat (first | refine yN ?_ _ | refine yD ?_ | refine yA ?_ _)); exact BK213.out) hb)
            have n2_ := yM (blk_below (g := gb223) (o := .cells #[.int .i64 xa_1, .int .i64 xb_1, .slice Ao43 xc_1.length co43] 32 (0, 0)) (by (with_reducible repeat (first | refine yN ?_ _ | refine yD ?_ | refine yA ?_ _)); exact BK223.out) hb)
            have n3_ := yM (IsS73.below (by repeat (first | (with_reducible first | exact HI0.out | apply yO | apply yL | apply yT | apply yJ | refine yI ?_ NB0_213.out _ | refine yI ?_ NB0_223.out _) | exact HI0.out)) hb)
            have n4_ := yM (KeepBut.trans (by repeat (first | (with_reducible first | exact HK.out | apply yK | apply yQ | apply keep_drew | apply yR | refine yF ?_ GW213.out _ | refine yF ?_ GW223.out _) | exact HK.out)) (KeepBut.of_below hb g none) (.inl rfl))
            have n5_ := yM (below_step (by repeat (first | (with_reducible first | exact HB.out | apply below_alloc | apply yP | apply below_drew1 | refine yS ?_ (IsS73.ge HI0.out) | refine yS ?_ GE213.out | refine yS ?_ GE223.out) | exact HB.out)) hb)
            clear HO_c
            clear BK213
            clear BK223
            clear HI0
            clear HK
            clear HB
            have HO_c := n0_
            have BK213 := n1_
            have BK223 := n2_
            have HI0 := n3_
            have HK := n4_
            have HB := n5_
            clear n0_ n1_ n2_ n3_ n4_ n5_
            (try clear hb)
            (try clear hb2)
            (try clear hk)
            (try clear hi)
            refine hK.out _ _ ⟨(blk_cell BK223.out 0).trans rfl, (blk_cell BK223.out 1).trans rfl, (blk_cell BK223.out 2).trans rfl⟩ (fun hHeld => ?_)
            clear hK K
            refine norm_ (a' := ?_) ?_ ?_
            rotate_left
            ·show Act.put _ (some 30) _ = _
             simp only [Act.put, setIfInBounds_toArray, set_cons_zero, set_cons_succ, i64_w, i32_w]
             rfl
            exact norm_ (by first | (simp only [putAll, Act.put, setIfInBounds_toArray, set_cons_zero, set_cons_succ]; done) | (simp only [putAll, Act.put, setIfInBounds_toArray, set_cons_zero, set_cons_succ]; rfl)) (hJ2_5_7 () _ ⟨hHeld, (by (with_reducible repeat (first | apply Kd.R_alloc | apply Kd.R_drewN | apply Kd.R_drew)); exact HO_c.out), (by (with_reducible repeat (first | refine yN ?_ _ | refine yD ?_ | refine yA ?_ _)); exact BK213.out), (by (with_reducible repeat (first | refine yN ?_ _ | refine yD ?_ | refine yA ?_ _)); exact BK223.out), (by repeat (first | (with_reducible first | exact HI0.out | apply yO | apply yL | apply yT | apply yJ | refine yI ?_ NB0_213.out _ | refine yI ?_ NB0_223.out _) | exact HI0.out)), (by repeat (first | (with_reducible first | exact HK.out | apply yK | apply yQ | apply keep_drew | apply yR | refine yF ?_ GW213.out _ | refine yF ?_ GW223.out _) | exact HK.out)), (by repeat (first | (with_reducible first | exact HB.out | apply below_alloc | apply yP | apply below_drew1 | refine yS ?_ (IsS73.ge HI0.out) | refine yS ?_ GE213.out | refine yS ?_ GE223.out) | exact HB.out))⟩)
           ·skip
            refine box_step ?hg (N := 5) ?hd (cs := #[.int .i64 0, .int .i64 0, .slice none 0 0]) (t := 32) ?hr ?_; (case hd => rfl); (case hg => rfl); (case hr => first | (go_simp; done) | (go_simp; rfl))
            intro gb238 hg w48 hbox hb
            have n0_ := yM (Kd.R_below (by (with_reducible repeat (first | apply Kd.R_alloc | apply Kd.R_drewN | apply Kd.R_drew)); exact HO_c.out) hb)
            have n1_ := yM (blk_below (g := gb213) (o := .cells #[.int .i64 0, .int .i64 0, .slice none 0 0] 32 (0, 0)) (by (with_reducible repeat (first | refine yN ?_ _ | refine yD ?_ | refine yA ?_ _)); exact BK213.out) hb)
            have n2_ := yM (blk_below (g := gb223) (o := .cells #[.int .i64 xa_1, .int .i64 xb_1, .slice Ao43 xc_1.length co43] 32 (0, 0)) (by (with_reducible repeat (first | refine yN ?_ _ | refine yD ?_ | refine yA ?_ _)); exact BK223.out) hb)
            have n3_ := yM (IsS73.below (by repeat (first | (with_reducible first | exact HI0.out | apply yO | apply yL | apply yT | apply yJ | refine yI ?_ NB0_213.out _ | refine yI ?_ NB0_223.out _) | exact HI0.out)) hb)
            have n4_ := yM (KeepBut.trans (by repeat (first | (with_reducible first | exact HK.out | apply yK | apply yQ | apply keep_drew | apply yR | refine yF ?_ GW213.out _ | refine yF ?_ GW223.out _) | exact HK.out)) (KeepBut.of_below hb g none) (.inl rfl))
            have n5_ := yM (below_step (by repeat (first | (with_reducible first | exact HB.out | apply below_alloc | apply yP | apply below_drew1 | refine yS ?_ (IsS73.ge HI0.out) | refine yS ?_ GE213.out | refine yS ?_ GE223.out) | exact HB.out)) hb)
            have n6_ := yM (hbox)
            have n7_ := yM ((by rw [hg]; exact (keep_size (w := w) (g := g) (row := none) (by repeat (first | (with_reducible first | exact HK.out | apply yK | apply yQ | apply keep_drew | apply yR | refine yF ?_ GW213.out _ | refine yF ?_ GW223.out _) | exact HK.out))) : w.heap.size ≤ gb238))
            have n8_ := yM ((Nat.le_trans HW0.out (by rw [hg]; exact (keep_size (w := w) (g := g) (row := none) (by repeat (first | (with_reducible first | exact HK.out | apply yK | apply yQ | apply keep_drew | apply yR | refine yF ?_ GW213.out _ | refine yF ?_ GW223.out _) | exact HK.out))) : w.heap.size ≤ gb238) : w0.heap.size ≤ gb238))
            have n9_ := yM ((by rw [hg]; exact Nat.ne_of_lt (blk_lt (g := gb213) (o := .cells #[.int .i64 0, .int .i64 0, .slice none 0 0] 32 (0, 0)) (by (with_reducible repeat (first | refine yN ?_ _ | refine yD ?_ | refine yA ?_ _)); exact BK213.out)) : gb213 ≠ gb238))
            have n10_ := yM ((by rw [hg]; exact Nat.ne_of_gt (blk_lt (g := gb213) (o := .cells #[.int .i64 0, .int .i64 0, .slice none 0 0] 32 (0, 0)) (by (with_reducible repeat (first | refine yN ?_ _ | refine yD ?_ | refine yA ?_ _)); exact BK213.out)) : gb238 ≠ gb213))
            have n11_ := yM ((by rw [hg]; exact Nat.ne_of_lt (blk_lt (g := gb223) (o := .cells #[.int .i64 xa_1, .int .i64 xb_1, .slice Ao43 xc_1.length co43] 32 (0, 0)) (by (with_reducible repeat (first | refine yN ?_ _ | refine yD ?_ | refine yA ?_ _)); exact BK223.out)) : gb223 ≠ gb238))
            have n12_ := yM ((by rw [hg]; exact Nat.ne_of_gt (blk_lt (g := gb223) (o := .cells #[.int .i64 xa_1, .int .i64 xb_1, .slice Ao43 xc_1.length co43] 32 (0, 0)) (by (with_reducible repeat (first | refine yN ?_ _ | refine yD ?_ | refine yA ?_ _)); exact BK223.out)) : gb238 ≠ gb223))
            have n13_ := yM ((by rw [hg]; exact Nat.ne_of_lt (IsS73.lt (show IsS73 w0 _ g s0_0 t229 from by repeat (first | (with_reducible first | exact HI0.out | apply yO | apply yL | apply yT | apply yJ | refine yI ?_ NB0_213.out _ | refine yI ?_ NB0_223.out _) | exact HI0.out))) : g ≠ gb238))
            have n14_ := yM ((by rw [hg]; exact Nat.ne_of_gt (IsS73.lt (show IsS73 w0 _ g s0_0 t229 from by repeat (first | (with_reducible first | exact HI0.out | apply yO | apply yL | apply yT | apply yJ | refine yI ?_ NB0_213.out _ | refine yI ?_ NB0_223.out _) | exact HI0.out))) : gb238 ≠ g))
            clear HO_c
            clear BK213
            clear BK223
            clear HI0
            clear HK
            clear HB
            have HO_c := n0_
            have BK213 := n1_
            have BK223 := n2_
            have HI0 := n3_
            have HK := n4_
            have HB := n5_
            have BK238 := n6_
            have GW238 := n7_
            have GE238 := n8_
            have NB213_238 := n9_
            have NB238_213 := n10_
            have NB223_238 := n11_
            have NB238_223 := n12_
            have NB0_238 := n13_
            have NB238_0 := n14_
            clear n0_ n1_ n2_ n3_ n4_ n5_ n6_ n7_ n8_ n9_ n10_ n11_ n12_ n13_ n14_
            clear hb hbox hg
            refine hK.out _ _ ⟨(blk_cell BK223.out 0).trans rfl, (blk_cell BK223.out 1).trans rfl, (blk_cell BK223.out 2).trans rfl⟩ (fun hHeld => ?_)
            clear hK K
            refine norm_ (a' := ?_) ?_ ?_
            rotate_left
            ·show Act.put _ (some 5) _ = _
             simp only [Act.put, setIfInBounds_toArray, set_cons_zero, set_cons_succ, i64_w, i32_w]
             rfl
            exact norm_ (by first | (simp only [putAll, Act.put, setIfInBounds_toArray, set_cons_zero, set_cons_succ]; done) | (simp only [putAll, Act.put, setIfInBounds_toArray, set_cons_zero, set_cons_succ]; rfl)) (hJ2_5_12 (gb238) _ ⟨hHeld, (by (with_reducible repeat (first | apply Kd.R_alloc | apply Kd.R_drewN | apply Kd.R_drew)); exact HO_c.out), (by (with_reducible repeat (first | refine yN ?_ _ | refine yD ?_ | refine yA ?_ _)); exact BK213.out), (by (with_reducible repeat (first | refine yN ?_ _ | refine yD ?_ | refine yA ?_ _)); exact BK223.out), (by (with_reducible repeat (first | refine yN ?_ _ | refine yD ?_ | refine yA ?_ _)); exact BK238.out), GW238.out, GE238.out, NB0_238.out, NB238_0.out, NB213_238.out, NB238_213.out, NB223_238.out, NB238_223.out, (by repeat (first | (with_reducible first | exact HI0.out | apply yO | apply yL | apply yT | apply yJ | refine yI ?_ NB0_213.out _ | refine yI ?_ NB0_223.out _ | refine yI ?_ NB0_238.out _) | exact HI0.out)), (by repeat (first | (with_reducible first | exact HK.out | apply yK | apply yQ | apply keep_drew | apply yR | refine yF ?_ GW213.out _ | refine yF ?_ GW223.out _ | refine yF ?_ GW238.out _) | exact HK.out)), (by repeat (first | (with_reducible first | exact HB.out | apply below_alloc | apply yP | apply below_drew1 | refine yS ?_ (IsS73.ge HI0.out) | refine yS ?_ GE213.out | refine yS ?_ GE223.out | refine yS ?_ GE238.out) | exact HB.out))⟩)
         ·skip
          rintro gb238 w48 ⟨hS_, h0_, h1_, h2_, h3_, h4_, h5_, h6_, h7_, h8_, h9_, h10_, h11_, h12_, h13_, h14_⟩
          have n0_ : Aside0 (Kd.R k29 29 w48 w.heap.size (fun _ => True) (.slice Ao43 xc_1.length co43) xc_1) := ⟨h0_⟩
          have n1_ : Aside0 (w48.heap[gb213]? = some (.cells #[.int .i64 0, .int .i64 0, .slice none 0 0] 32 (0, 0))) := ⟨h1_⟩
          have n2_ : Aside0 (w48.heap[gb223]? = some (.cells #[.int .i64 xa_1, .int .i64 xb_1, .slice Ao43 xc_1.length co43] 32 (0, 0))) := ⟨h2_⟩
          have n3_ : Aside0 (w48.heap[gb238]? = some (.cells #[.int .i64 0, .int .i64 0, .slice none 0 0] 32 (0, 0))) := ⟨h3_⟩
          have n4_ : Aside0 (w.heap.size ≤ gb238) := ⟨h4_⟩
          have n5_ : Aside0 (w0.heap.size ≤ gb238) := ⟨h5_⟩
          have n6_ : Aside0 (g ≠ gb238) := ⟨h6_⟩
          have n7_ : Aside0 (gb238 ≠ g) := ⟨h7_⟩
          have n8_ : Aside0 (gb213 ≠ gb238) := ⟨h8_⟩
          have n9_ : Aside0 (gb238 ≠ gb213) := ⟨h9_⟩
          have n10_ : Aside0 (gb223 ≠ gb238) := ⟨h10_⟩
          have n11_ : Aside0 (gb238 ≠ gb223) := ⟨h11_⟩
          have n12_ : Aside0 (IsS73 w0 w48 g s0_0 t229) := ⟨h12_⟩
          have n13_ : Aside0 (KeepBut w w48 g none) := ⟨h13_⟩
          have n14_ : Aside0 (Below w0.heap.size w0 w48) := ⟨h14_⟩
          clear HO_c
          clear BK213
          clear BK223
          clear HI0
          clear HK
          clear HB
          clear h0_ h1_ h2_ h3_ h4_ h5_ h6_ h7_ h8_ h9_ h10_ h11_ h12_ h13_ h14_
          have HO_c := n0_
          have BK213 := n1_
          have BK223 := n2_
          have BK238 := n3_
          have GW238 := n4_
          have GE238 := n5_
          have NB0_238 := n6_
          have NB238_0 := n7_
          have NB213_238 := n8_
          have NB238_213 := n9_
          have NB223_238 := n10_
          have NB238_223 := n11_
          have HI0 := n12_
          have HK := n13_
          have HB := n14_
          clear n0_ n1_ n2_ n3_ n4_ n5_ n6_ n7_ n8_ n9_ n10_ n11_ n12_ n13_ n14_
          have hHeld : w48.cell? ⟨gb223, 0, none⟩ = some (.int .i64 xa_1) ∧ w48.cell? ⟨gb223, 1, none⟩ = some (.int .i64 xb_1) ∧ w48.cell? ⟨gb223, 2, none⟩ = some (.slice Ao43 xc_1.length co43) := hS_
          refine norm_ (a' := ?_) ?_ ?_
          rotate_left
          ·simp only [putAll, Act.put, setIfInBounds_toArray, set_cons_zero, set_cons_succ]
           rfl
          refine one_ (i := 7) (N := some 30) #[true, true, true, true, true, true, true, true, false, false, false, false, true, false, false] rfl rfl (one_of HT_.out (by kernel_rfl)) (by decide) (fun K hK => ?_)
          refine goes_ Try.func56 (by kernel_rfl) rfl #[.int .i64 (wrap64 (1 + t226)), .int .i64 (wrap64 (1 + t228))] (by rfl) rfl rfl (by (try simp only [List.map_toArray, List.map_cons, List.map_nil]); first | done | rfl | (simp only [List.length_drop, List.length_take]; rfl)) ?_
          with_reducible refine (spec_l31Of.calls k1 (wrap64 (1 + t226)) (wrap64 (1 + t228)) t230 t231 _ A21.out).mono ?_
          rintro e w49 ⟨rfl, hb⟩
          refine ⟨_, rfl, ?_⟩
          have n0_ := yM (Kd.R_below (by (with_reducible repeat (first | apply Kd.R_alloc | apply Kd.R_drewN | apply Kd.R_drew)); exact HO_c.out) hb)
          have n1_ := yM (blk_below (g := gb213) (o := .cells #[.int .i64 0, .int .i64 0, .slice none 0 0] 32 (0, 0)) (by (with_reducible repeat (first | refine yN ?_ _ | refine yD ?_ | refine yA ?_ _)); exact BK213.out) hb)
          have n2_ := yM (blk_below (g := gb223) (o := .cells #[.int .i64 xa_1, .int .i64 xb_1, .slice Ao43 xc_1.length co43] 32 (0, 0)) (by (with_reducible repeat (first | refine yN ?_ _ | refine yD ?_ | refine yA ?_ _)); exact BK223.out) hb)
          have n3_ := yM (IsS73.below (by repeat (first | (with_reducible first | exact HI0.out | apply yO | apply yL | apply yT | apply yJ | refine yI ?_ NB0_213.out _ | refine yI ?_ NB0_223.out _ | refine yI ?_ NB0_238.out _) | exact HI0.out)) hb)
          have n4_ := yM (blk_below (g := gb238) (o := .cells #[.int .i64 0, .int .i64 0, .slice none 0 0] 32 (0, 0)) (by (with_reducible repeat (first | refine yN ?_ _ | refine yD ?_ | refine yA ?_ _)); exact BK238.out) hb)
          have n5_ := yM (KeepBut.trans (by repeat (first | (with_reducible first | exact HK.out | apply yK | apply yQ | apply keep_drew | apply yR | refine yF ?_ GW213.out _ | refine yF ?_ GW223.out _ | refine yF ?_ GW238.out _) | exact HK.out)) (KeepBut.of_below hb g none) (.inl rfl))
          have n6_ := yM (below_step (by repeat (first | (with_reducible first | exact HB.out | apply below_alloc | apply yP | apply below_drew1 | refine yS ?_ (IsS73.ge HI0.out) | refine yS ?_ GE213.out | refine yS ?_ GE223.out | refine yS ?_ GE238.out) | exact HB.out)) hb)
          clear HO_c
          clear BK213
          clear BK223
          clear HI0
          clear BK238
          clear HK
          clear HB
          have HO_c := n0_
          have BK213 := n1_
          have BK223 := n2_
          have HI0 := n3_
          have BK238 := n4_
          have HK := n5_
          have HB := n6_
          clear n0_ n1_ n2_ n3_ n4_ n5_ n6_
          (try clear hb)
          (try clear hb2)
          (try clear hk)
          (try clear hi)
          refine hK.out _ _ ⟨(blk_cell BK223.out 0).trans rfl, (blk_cell BK223.out 1).trans rfl, (blk_cell BK223.out 2).trans rfl⟩ (fun hHeld => ?_)
          clear hK K
          refine norm_ (a' := ?_) ?_ ?_
          rotate_left
          ·show Act.put _ (some 30) _ = _
           simp only [Act.put, setIfInBounds_toArray, set_cons_zero, set_cons_succ, i64_w, i32_w]
           rfl
          exact norm_ (by first | (simp only [putAll, Act.put, setIfInBounds_toArray, set_cons_zero, set_cons_succ]; done) | (simp only [putAll, Act.put, setIfInBounds_toArray, set_cons_zero, set_cons_succ]; rfl)) (hJ2_5_7_12 (gb238) _ ⟨hHeld, (by (with_reducible repeat (first | apply Kd.R_alloc | apply Kd.R_drewN | apply Kd.R_drew)); exact HO_c.out), (by (with_reducible repeat (first | refine yN ?_ _ | refine yD ?_ | refine yA ?_ _)); exact BK213.out), (by (with_reducible repeat (first | refine yN ?_ _ | refine yD ?_ | refine yA ?_ _)); exact BK223.out), (by (with_reducible repeat (first | refine yN ?_ _ | refine yD ?_ | refine yA ?_ _)); exact BK238.out), GW238.out, GE238.out, NB0_238.out, NB238_0.out, NB213_238.out, NB238_213.out, NB223_238.out, NB238_223.out, (by repeat (first | (with_reducible first | exact HI0.out | apply yO | apply yL | apply yT | apply yJ | refine yI ?_ NB0_213.out _ | refine yI ?_ NB0_223.out _ | refine yI ?_ NB0_238.out _) | exact HI0.out)), (by repeat (first | (with_reducible first | exact HK.out | apply yK | apply yQ | apply keep_drew | apply yR | refine yF ?_ GW213.out _ | refine yF ?_ GW223.out _ | refine yF ?_ GW238.out _) | exact HK.out)), (by repeat (first | (with_reducible first | exact HB.out | apply below_alloc | apply yP | apply below_drew1 | refine yS ?_ (IsS73.ge HI0.out) | refine yS ?_ GE213.out | refine yS ?_ GE223.out | refine yS ?_ GE238.out) | exact HB.out))⟩)
        ·skip
         rintro _ w48 ⟨hS_, h0_, h1_, h2_, h3_, h4_, h5_⟩
         have n0_ : Aside0 (Kd.R k29 29 w48 w.heap.size (fun _ => True) (.slice Ao43 xc_1.length co43) xc_1) := ⟨h0_⟩
         have n1_ : Aside0 (w48.heap[gb213]? = some (.cells #[.int .i64 0, .int .i64 0, .slice none 0 0] 32 (0, 0))) := ⟨h1_⟩
         have n2_ : Aside0 (w48.heap[gb223]? = some (.cells #[.int .i64 xa_1, .int .i64 xb_1, .slice Ao43 xc_1.length co43] 32 (0, 0))) := ⟨h2_⟩
         have n3_ : Aside0 (IsS73 w0 w48 g s0_0 t229) := ⟨h3_⟩
         have n4_ : Aside0 (KeepBut w w48 g none) := ⟨h4_⟩
         have n5_ : Aside0 (Below w0.heap.size w0 w48) := ⟨h5_⟩
         clear HO_c
         clear BK213
         clear BK223
         clear HI0
         clear HK
         clear HB
         clear h0_ h1_ h2_ h3_ h4_ h5_
         have HO_c := n0_
         have BK213 := n1_
         have BK223 := n2_
         have HI0 := n3_
         have HK := n4_
         have HB := n5_
         clear n0_ n1_ n2_ n3_ n4_ n5_
         have hHeld : w48.cell? ⟨gb223, 0, none⟩ = some (.int .i64 xa_1) ∧ w48.cell? ⟨gb223, 1, none⟩ = some (.int .i64 xb_1) ∧ w48.cell? ⟨gb223, 2, none⟩ = some (.slice Ao43 xc_1.length co43) := hS_
         refine norm_ (a' := ?_) ?_ ?_
         rotate_left
         ·simp only [putAll, Act.put, setIfInBounds_toArray, set_cons_zero, set_cons_succ]
          rfl
         refine two_ (i := 8) (j := 12) (Ni := some 31) (Nj := some 5) #[true, true, true, true, true, true, true, true, true, false, false, false, false, false, false] #[true, true, true, true, true, true, true, true, false, false, false, false, true, false, false] rfl rfl rfl rfl (two_of HT_.out (by kernel_rfl)) (by decide) (by decide) (fun K hK => ?_) (fun K hK => ?_)
         ·skip
          refine goes_ Try.func27 (by kernel_rfl) rfl #[.agg #[.int .i64 xa_1, .int .i64 xb_1, .slice Ao43 xc_1.length co43], .agg #[.int .i64 t230, .int .i64 t231]] (by rfl) rfl rfl (by (try simp only [List.map_toArray, List.map_cons, List.map_nil]); first | done | rfl | (simp only [List.length_drop, List.length_take]; rfl)) ?_
          with_reducible refine (spec_LedgerPay.calls k1 xa_1 xb_1 _ _ xc_1 t230 t231 t232 t233 t234 false _ ?side1 ?side2 A22.out).mono ?_
          (case side1 => repeat (first | exact (Kd.R_reads' HO_c.out).2.2 | (with_reducible refine Kd.C_alloc ?_ _) | (with_reducible refine Kd.C_drewN ?_ _) | (with_reducible refine Kd.C_drew ?_)))
          (case side2 => exact (Kd.R_reads' HO_c.out).2.1)
          rintro e w49 ⟨v235, rfl, ho0, hb⟩
          refine ⟨_, rfl, ?_⟩
          have n0_ := yM (Kd.R_elder' (by (with_reducible repeat (first | apply Kd.R_alloc | apply Kd.R_drewN | apply Kd.R_drew)); exact HO_c.out) (Kd.R_base ho0) hb)
          have n1_ := yM (Kd.R_lower (Kd.R_new' ho0 (Kd.R_lt (by (with_reducible repeat (first | apply Kd.R_alloc | apply Kd.R_drewN | apply Kd.R_drew)); exact HO_c.out))) (keep_size (w := w) (g := g) (row := none) (by repeat (first | (with_reducible first | exact HK.out | apply yK | apply yQ | apply keep_drew | apply yR | refine yF ?_ GW213.out _ | refine yF ?_ GW223.out _) | exact HK.out))))
          have n2_ := yM (blk_below (g := gb213) (o := .cells #[.int .i64 0, .int .i64 0, .slice none 0 0] 32 (0, 0)) (by (with_reducible repeat (first | refine yN ?_ _ | refine yD ?_ | refine yA ?_ _)); exact BK213.out) hb)
          have n3_ := yM (blk_below (g := gb223) (o := .cells #[.int .i64 xa_1, .int .i64 xb_1, .slice Ao43 xc_1.length co43] 32 (0, 0)) (by (with_reducible repeat (first | refine yN ?_ _ | refine yD ?_ | refine yA ?_ _)); exact BK223.out) hb)
          have n4_ := yM (IsS73.below (by repeat (first | (with_reducible first | exact HI0.out | apply yO | apply yL | apply yT | apply yJ | refine yI ?_ NB0_213.out _ | refine yI ?_ NB0_223.out _) | exact HI0.out)) hb)
          have n5_ := yM (KeepBut.trans (by repeat (first | (with_reducible first | exact HK.out | apply yK | apply yQ | apply keep_drew | apply yR | refine yF ?_ GW213.out _ | refine yF ?_ GW223.out _) | exact HK.out)) (KeepBut.of_below hb g none) (.inl rfl))
          have n6_ := yM (below_step (by repeat (first | (with_reducible first | exact HB.out | apply below_alloc | apply yP | apply below_drew1 | refine yS ?_ (IsS73.ge HI0.out) | refine yS ?_ GE213.out | refine yS ?_ GE223.out) | exact HB.out)) hb)
          clear HO_c
          clear BK213
          clear BK223
          clear HI0
          clear HK
          clear HB
          have HO_c := n0_
          have HO236 := n1_
          have BK213 := n2_
          have BK223 := n3_
          have HI0 := n4_
          have HK := n5_
          have HB := n6_
          clear n0_ n1_ n2_ n3_ n4_ n5_ n6_
          (try clear hb)
          (try clear hb2)
          (try clear hk)
          (try clear hi)
          (try clear ho0)
          refine hK.out _ _ ⟨(blk_cell BK223.out 0).trans rfl, (blk_cell BK223.out 1).trans rfl, (blk_cell BK223.out 2).trans rfl⟩ (fun hHeld => ?_)
          clear hK K
          refine norm_ (a' := ?_) ?_ ?_
          rotate_left
          ·show Act.put _ (some 31) _ = _
           simp only [Act.put, setIfInBounds_toArray, set_cons_zero, set_cons_succ, i64_w, i32_w]
           rfl
          refine pure_ (i := 9) (N := some 22) (v := ?_) (a' := ?_) #[true, true, true, true, true, true, true, true, true, true, false, false, false, false, false] rfl rfl (any_of HT_.out (by kernel_rfl)) (fun _ _ _ h => h) (Or.inl ⟨by rfl, ?_⟩) ?_ ?_
          rotate_left
          ·intro w'
           go_simp
           with_reducible rfl
          rotate_left
          ·simp only [Act.put, setIfInBounds_toArray, set_cons_zero, set_cons_succ, i64_w, i32_w]
           rfl
          refine pure_ (i := 10) (N := some 32) (v := ?_) (a' := ?_) #[true, true, true, true, true, true, true, true, true, true, true, false, false, false, false] rfl rfl (any_of HT_.out (by kernel_rfl)) (fun _ _ _ h => h) (Or.inl ⟨by rfl, ?_⟩) ?_ ?_
          rotate_left
          ·intro w'
           go_simp
           with_reducible rfl
          rotate_left
          ·simp only [Act.put, setIfInBounds_toArray, set_cons_zero, set_cons_succ, i64_w, i32_w]
           rfl
          refine pure_ (i := 11) (N := some 33) (v := ?_) (a' := ?_) #[true, true, true, true, true, true, true, true, true, true, true, true, false, false, false] rfl rfl (any_of HT_.out (by kernel_rfl)) (fun _ _ _ h => h) (Or.inl ⟨by rfl, ?_⟩) ?_ ?_
          rotate_left
          ·intro w'
           go_simp
           with_reducible rfl
          rotate_left
          ·simp only [Act.put, setIfInBounds_toArray, set_cons_zero, set_cons_succ, i64_w, i32_w]
           rfl
          exact norm_ (by first | (simp only [putAll, Act.put, setIfInBounds_toArray, set_cons_zero, set_cons_succ]; done) | (simp only [putAll, Act.put, setIfInBounds_toArray, set_cons_zero, set_cons_succ]; rfl)) (hJ2_5_7_8 (v235) _ ⟨hHeld, (by (with_reducible repeat (first | apply Kd.R_alloc | apply Kd.R_drewN | apply Kd.R_drew)); exact Kd.R_mono HO236.out (fun _ hk => hk.2)), (by (with_reducible repeat (first | apply Kd.R_alloc | apply Kd.R_drewN | apply Kd.R_drew)); exact Kd.R_mono HO_c.out (fun _ hk => hk.2)), (by (with_reducible repeat (first | refine yN ?_ _ | refine yD ?_ | refine yA ?_ _)); exact BK213.out), (by (with_reducible repeat (first | refine yN ?_ _ | refine yD ?_ | refine yA ?_ _)); exact BK223.out), (by repeat (first | (with_reducible first | exact HI0.out | apply yO | apply yL | apply yT | apply yJ | refine yI ?_ NB0_213.out _ | refine yI ?_ NB0_223.out _) | exact HI0.out)), (by repeat (first | (with_reducible first | exact HK.out | apply yK | apply yQ | apply keep_drew | apply yR | refine yF ?_ GW213.out _ | refine yF ?_ GW223.out _) | exact HK.out)), (by repeat (first | (with_reducible first | exact HB.out | apply below_alloc | apply yP | apply below_drew1 | refine yS ?_ (IsS73.ge HI0.out) | refine yS ?_ GE213.out | refine yS ?_ GE223.out) | exact HB.out))⟩)
         ·skip
          refine box_step ?hg (N := 5) ?hd (cs := #[.int .i64 0, .int .i64 0, .slice none 0 0]) (t := 32) ?hr ?_; (case hd => rfl); (case hg => rfl); (case hr => first | (go_simp; done) | (go_simp; rfl))
          intro gb238 hg w49 hbox hb
          have n0_ := yM (Kd.R_below (by (with_reducible repeat (first | apply Kd.R_alloc | apply Kd.R_drewN | apply Kd.R_drew)); exact HO_c.out) hb)
          have n1_ := yM (blk_below (g := gb213) (o := .cells #[.int .i64 0, .int .i64 0, .slice none 0 0] 32 (0, 0)) (by (with_reducible repeat (first | refine yN ?_ _ | refine yD ?_ | refine yA ?_ _)); exact BK213.out) hb)
          have n2_ := yM (blk_below (g := gb223) (o := .cells #[.int .i64 xa_1, .int .i64 xb_1, .slice Ao43 xc_1.length co43] 32 (0, 0)) (by (with_reducible repeat (first | refine yN ?_ _ | refine yD ?_ | refine yA ?_ _)); exact BK223.out) hb)
          have n3_ := yM (IsS73.below (by repeat (first | (with_reducible first | exact HI0.out | apply yO | apply yL | apply yT | apply yJ | refine yI ?_ NB0_213.out _ | refine yI ?_ NB0_223.out _) | exact HI0.out)) hb)
          have n4_ := yM (KeepBut.trans (by repeat (first | (with_reducible first | exact HK.out | apply yK | apply yQ | apply keep_drew | apply yR | refine yF ?_ GW213.out _ | refine yF ?_ GW223.out _) | exact HK.out)) (KeepBut.of_below hb g none) (.inl rfl))
          have n5_ := yM (below_step (by repeat (first | (with_reducible first | exact HB.out | apply below_alloc | apply yP | apply below_drew1 | refine yS ?_ (IsS73.ge HI0.out) | refine yS ?_ GE213.out | refine yS ?_ GE223.out) | exact HB.out)) hb)
          have n6_ := yM (hbox)
          have n7_ := yM ((by rw [hg]; exact (keep_size (w := w) (g := g) (row := none) (by repeat (first | (with_reducible first | exact HK.out | apply yK | apply yQ | apply keep_drew | apply yR | refine yF ?_ GW213.out _ | refine yF ?_ GW223.out _) | exact HK.out))) : w.heap.size ≤ gb238))
          have n8_ := yM ((Nat.le_trans HW0.out (by rw [hg]; exact (keep_size (w := w) (g := g) (row := none) (by repeat (first | (with_reducible first | exact HK.out | apply yK | apply yQ | apply keep_drew | apply yR | refine yF ?_ GW213.out _ | refine yF ?_ GW223.out _) | exact HK.out))) : w.heap.size ≤ gb238) : w0.heap.size ≤ gb238))
          have n9_ := yM ((by rw [hg]; exact Nat.ne_of_lt (blk_lt (g := gb213) (o := .cells #[.int .i64 0, .int .i64 0, .slice none 0 0] 32 (0, 0)) (by (with_reducible repeat (first | refine yN ?_ _ | refine yD ?_ | refine yA ?_ _)); exact BK213.out)) : gb213 ≠ gb238))
          have n10_ := yM ((by rw [hg]; exact Nat.ne_of_gt (blk_lt (g := gb213) (o := .cells #[.int .i64 0, .int .i64 0, .slice none 0 0] 32 (0, 0)) (by (with_reducible repeat (first | refine yN ?_ _ | refine yD ?_ | refine yA ?_ _)); exact BK213.out)) : gb238 ≠ gb213))
          have n11_ := yM ((by rw [hg]; exact Nat.ne_of_lt (blk_lt (g := gb223) (o := .cells #[.int .i64 xa_1, .int .i64 xb_1, .slice Ao43 xc_1.length co43] 32 (0, 0)) (by (with_reducible repeat (first | refine yN ?_ _ | refine yD ?_ | refine yA ?_ _)); exact BK223.out)) : gb223 ≠ gb238))
          have n12_ := yM ((by rw [hg]; exact Nat.ne_of_gt (blk_lt (g := gb223) (o := .cells #[.int .i64 xa_1, .int .i64 xb_1, .slice Ao43 xc_1.length co43] 32 (0, 0)) (by (with_reducible repeat (first | refine yN ?_ _ | refine yD ?_ | refine yA ?_ _)); exact BK223.out)) : gb238 ≠ gb223))
          have n13_ := yM ((by rw [hg]; exact Nat.ne_of_lt (IsS73.lt (show IsS73 w0 _ g s0_0 t229 from by repeat (first | (with_reducible first | exact HI0.out | apply yO | apply yL | apply yT | apply yJ | refine yI ?_ NB0_213.out _ | refine yI ?_ NB0_223.out _) | exact HI0.out))) : g ≠ gb238))
          have n14_ := yM ((by rw [hg]; exact Nat.ne_of_gt (IsS73.lt (show IsS73 w0 _ g s0_0 t229 from by repeat (first | (with_reducible first | exact HI0.out | apply yO | apply yL | apply yT | apply yJ | refine yI ?_ NB0_213.out _ | refine yI ?_ NB0_223.out _) | exact HI0.out))) : gb238 ≠ g))
          clear HO_c
          clear BK213
          clear BK223
          clear HI0
          clear HK
          clear HB
          have HO_c := n0_
          have BK213 := n1_
          have BK223 := n2_
          have HI0 := n3_
          have HK := n4_
          have HB := n5_
          have BK238 := n6_
          have GW238 := n7_
          have GE238 := n8_
          have NB213_238 := n9_
          have NB238_213 := n10_
          have NB223_238 := n11_
          have NB238_223 := n12_
          have NB0_238 := n13_
          have NB238_0 := n14_
          clear n0_ n1_ n2_ n3_ n4_ n5_ n6_ n7_ n8_ n9_ n10_ n11_ n12_ n13_ n14_
          clear hb hbox hg
          refine hK.out _ _ ⟨(blk_cell BK223.out 0).trans rfl, (blk_cell BK223.out 1).trans rfl, (blk_cell BK223.out 2).trans rfl⟩ (fun hHeld => ?_)
          clear hK K
          refine norm_ (a' := ?_) ?_ ?_
          rotate_left
          ·show Act.put _ (some 5) _ = _
           simp only [Act.put, setIfInBounds_toArray, set_cons_zero, set_cons_succ, i64_w, i32_w]
           rfl
          exact norm_ (by first | (simp only [putAll, Act.put, setIfInBounds_toArray, set_cons_zero, set_cons_succ]; done) | (simp only [putAll, Act.put, setIfInBounds_toArray, set_cons_zero, set_cons_succ]; rfl)) (hJ2_5_7_12 (gb238) _ ⟨hHeld, (by (with_reducible repeat (first | apply Kd.R_alloc | apply Kd.R_drewN | apply Kd.R_drew)); exact HO_c.out), (by (with_reducible repeat (first | refine yN ?_ _ | refine yD ?_ | refine yA ?_ _)); exact BK213.out), (by (with_reducible repeat (first | refine yN ?_ _ | refine yD ?_ | refine yA ?_ _)); exact BK223.out), (by (with_reducible repeat (first | refine yN ?_ _ | refine yD ?_ | refine yA ?_ _)); exact BK238.out), GW238.out, GE238.out, NB0_238.out, NB238_0.out, NB213_238.out, NB238_213.out, NB223_238.out, NB238_223.out, (by repeat (first | (with_reducible first | exact HI0.out | apply yO | apply yL | apply yT | apply yJ | refine yI ?_ NB0_213.out _ | refine yI ?_ NB0_223.out _ | refine yI ?_ NB0_238.out _) | exact HI0.out)), (by repeat (first | (with_reducible first | exact HK.out | apply yK | apply yQ | apply keep_drew | apply yR | refine yF ?_ GW213.out _ | refine yF ?_ GW223.out _ | refine yF ?_ GW238.out _) | exact HK.out)), (by repeat (first | (with_reducible first | exact HB.out | apply below_alloc | apply yP | apply below_drew1 | refine yS ?_ (IsS73.ge HI0.out) | refine yS ?_ GE213.out | refine yS ?_ GE223.out | refine yS ?_ GE238.out) | exact HB.out))⟩)
       ·skip
        rintro gb238 w49 ⟨hS_, h0_, h1_, h2_, h3_, h4_, h5_, h6_, h7_, h8_, h9_, h10_, h11_, h12_, h13_, h14_⟩
        have n0_ : Aside0 (Kd.R k29 29 w49 w.heap.size (fun _ => True) (.slice Ao43 xc_1.length co43) xc_1) := ⟨h0_⟩
        have n1_ : Aside0 (w49.heap[gb213]? = some (.cells #[.int .i64 0, .int .i64 0, .slice none 0 0] 32 (0, 0))) := ⟨h1_⟩
        have n2_ : Aside0 (w49.heap[gb223]? = some (.cells #[.int .i64 xa_1, .int .i64 xb_1, .slice Ao43 xc_1.length co43] 32 (0, 0))) := ⟨h2_⟩
        have n3_ : Aside0 (w49.heap[gb238]? = some (.cells #[.int .i64 0, .int .i64 0, .slice none 0 0] 32 (0, 0))) := ⟨h3_⟩
        have n4_ : Aside0 (w.heap.size ≤ gb238) := ⟨h4_⟩
        have n5_ : Aside0 (w0.heap.size ≤ gb238) := ⟨h5_⟩
        have n6_ : Aside0 (g ≠ gb238) := ⟨h6_⟩
        have n7_ : Aside0 (gb238 ≠ g) := ⟨h7_⟩
        have n8_ : Aside0 (gb213 ≠ gb238) := ⟨h8_⟩
        have n9_ : Aside0 (gb238 ≠ gb213) := ⟨h9_⟩
        have n10_ : Aside0 (gb223 ≠ gb238) := ⟨h10_⟩
        have n11_ : Aside0 (gb238 ≠ gb223) := ⟨h11_⟩
        have n12_ : Aside0 (IsS73 w0 w49 g s0_0 t229) := ⟨h12_⟩
        have n13_ : Aside0 (KeepBut w w49 g none) := ⟨h13_⟩
        have n14_ : Aside0 (Below w0.heap.size w0 w49) := ⟨h14_⟩
        clear HO_c
        clear BK213
        clear BK223
        clear HI0
        clear HK
        clear HB
        clear h0_ h1_ h2_ h3_ h4_ h5_ h6_ h7_ h8_ h9_ h10_ h11_ h12_ h13_ h14_
        have HO_c := n0_
        have BK213 := n1_
        have BK223 := n2_
        have BK238 := n3_
        have GW238 := n4_
        have GE238 := n5_
        have NB0_238 := n6_
        have NB238_0 := n7_
        have NB213_238 := n8_
        have NB238_213 := n9_
        have NB223_238 := n10_
        have NB238_223 := n11_
        have HI0 := n12_
        have HK := n13_
        have HB := n14_
        clear n0_ n1_ n2_ n3_ n4_ n5_ n6_ n7_ n8_ n9_ n10_ n11_ n12_ n13_ n14_
        have hHeld : w49.cell? ⟨gb223, 0, none⟩ = some (.int .i64 xa_1) ∧ w49.cell? ⟨gb223, 1, none⟩ = some (.int .i64 xb_1) ∧ w49.cell? ⟨gb223, 2, none⟩ = some (.slice Ao43 xc_1.length co43) := hS_
        refine norm_ (a' := ?_) ?_ ?_
        rotate_left
        ·simp only [putAll, Act.put, setIfInBounds_toArray, set_cons_zero, set_cons_succ]
         rfl
        refine one_ (i := 8) (N := some 31) #[true, true, true, true, true, true, true, true, true, false, false, false, true, false, false] rfl rfl (one_of HT_.out (by kernel_rfl)) (by decide) (fun K hK => ?_)
        refine goes_ Try.func27 (by kernel_rfl) rfl #[.agg #[.int .i64 xa_1, .int .i64 xb_1, .slice Ao43 xc_1.length co43], .agg #[.int .i64 t230, .int .i64 t231]] (by rfl) rfl rfl (by (try simp only [List.map_toArray, List.map_cons, List.map_nil]); first | done | rfl | (simp only [List.length_drop, List.length_take]; rfl)) ?_
        with_reducible refine (spec_LedgerPay.calls k1 xa_1 xb_1 _ _ xc_1 t230 t231 t232 t233 t234 false _ ?side1 ?side2 A22.out).mono ?_
        (case side1 => repeat (first | exact (Kd.R_reads' HO_c.out).2.2 | (with_reducible refine Kd.C_alloc ?_ _) | (with_reducible refine Kd.C_drewN ?_ _) | (with_reducible refine Kd.C_drew ?_)))
        (case side2 => exact (Kd.R_reads' HO_c.out).2.1)
        rintro e w50 ⟨v235, rfl, ho0, hb⟩
        refine ⟨_, rfl, ?_⟩
        have n0_ := yM (Kd.R_elder' (by (with_reducible repeat (first | apply Kd.R_alloc | apply Kd.R_drewN | apply Kd.R_drew)); exact HO_c.out) (Kd.R_base ho0) hb)
        have n1_ := yM (Kd.R_lower (Kd.R_new' ho0 (Kd.R_lt (by (with_reducible repeat (first | apply Kd.R_alloc | apply Kd.R_drewN | apply Kd.R_drew)); exact HO_c.out))) (keep_size (w := w) (g := g) (row := none) (by repeat (first | (with_reducible first | exact HK.out | apply yK | apply yQ | apply keep_drew | apply yR | refine yF ?_ GW213.out _ | refine yF ?_ GW223.out _ | refine yF ?_ GW238.out _) | exact HK.out))))
        have n2_ := yM (blk_below (g := gb213) (o := .cells #[.int .i64 0, .int .i64 0, .slice none 0 0] 32 (0, 0)) (by (with_reducible repeat (first | refine yN ?_ _ | refine yD ?_ | refine yA ?_ _)); exact BK213.out) hb)
        have n3_ := yM (blk_below (g := gb223) (o := .cells #[.int .i64 xa_1, .int .i64 xb_1, .slice Ao43 xc_1.length co43] 32 (0, 0)) (by (with_reducible repeat (first | refine yN ?_ _ | refine yD ?_ | refine yA ?_ _)); exact BK223.out) hb)
        have n4_ := yM (IsS73.below (by repeat (first | (with_reducible first | exact HI0.out | apply yO | apply yL | apply yT | apply yJ | refine yI ?_ NB0_213.out _ | refine yI ?_ NB0_223.out _ | refine yI ?_ NB0_238.out _) | exact HI0.out)) hb)
        have n5_ := yM (blk_below (g := gb238) (o := .cells #[.int .i64 0, .int .i64 0, .slice none 0 0] 32 (0, 0)) (by (with_reducible repeat (first | refine yN ?_ _ | refine yD ?_ | refine yA ?_ _)); exact BK238.out) hb)
        have n6_ := yM (KeepBut.trans (by repeat (first | (with_reducible first | exact HK.out | apply yK | apply yQ | apply keep_drew | apply yR | refine yF ?_ GW213.out _ | refine yF ?_ GW223.out _ | refine yF ?_ GW238.out _) | exact HK.out)) (KeepBut.of_below hb g none) (.inl rfl))
        have n7_ := yM (below_step (by repeat (first | (with_reducible first | exact HB.out | apply below_alloc | apply yP | apply below_drew1 | refine yS ?_ (IsS73.ge HI0.out) | refine yS ?_ GE213.out | refine yS ?_ GE223.out | refine yS ?_ GE238.out) | exact HB.out)) hb)
        clear HO_c
        clear BK213
        clear BK223
        clear HI0
        clear BK238
        clear HK
        clear HB
        have HO_c := n0_
        have HO236 := n1_
        have BK213 := n2_
        have BK223 := n3_
        have HI0 := n4_
        have BK238 := n5_
        have HK := n6_
        have HB := n7_
        clear n0_ n1_ n2_ n3_ n4_ n5_ n6_ n7_
        (try clear hb)
        (try clear hb2)
        (try clear hk)
        (try clear hi)
        (try clear ho0)
        refine hK.out _ _ ⟨(blk_cell BK223.out 0).trans rfl, (blk_cell BK223.out 1).trans rfl, (blk_cell BK223.out 2).trans rfl⟩ (fun hHeld => ?_)
        clear hK K
        refine norm_ (a' := ?_) ?_ ?_
        rotate_left
        ·show Act.put _ (some 31) _ = _
         simp only [Act.put, setIfInBounds_toArray, set_cons_zero, set_cons_succ, i64_w, i32_w]
         rfl
        refine pure_ (i := 9) (N := some 22) (v := ?_) (a' := ?_) #[true, true, true, true, true, true, true, true, true, true, false, false, true, false, false] rfl rfl (any_of HT_.out (by kernel_rfl)) (fun _ _ _ h => h) (Or.inl ⟨by rfl, ?_⟩) ?_ ?_
        rotate_left
        ·intro w'
         go_simp
         with_reducible rfl
        rotate_left
        ·simp only [Act.put, setIfInBounds_toArray, set_cons_zero, set_cons_succ, i64_w, i32_w]
         rfl
        refine pure_ (i := 10) (N := some 32) (v := ?_) (a' := ?_) #[true, true, true, true, true, true, true, true, true, true, true, false, true, false, false] rfl rfl (any_of HT_.out (by kernel_rfl)) (fun _ _ _ h => h) (Or.inl ⟨by rfl, ?_⟩) ?_ ?_
        rotate_left
        ·intro w'
         go_simp
         with_reducible rfl
        rotate_left
        ·simp only [Act.put, setIfInBounds_toArray, set_cons_zero, set_cons_succ, i64_w, i32_w]
         rfl
        refine pure_ (i := 11) (N := some 33) (v := ?_) (a' := ?_) #[true, true, true, true, true, true, true, true, true, true, true, true, true, false, false] rfl rfl (any_of HT_.out (by kernel_rfl)) (fun _ _ _ h => h) (Or.inl ⟨by rfl, ?_⟩) ?_ ?_
        rotate_left
        ·intro w'
         go_simp
         with_reducible rfl
        rotate_left
        ·simp only [Act.put, setIfInBounds_toArray, set_cons_zero, set_cons_succ, i64_w, i32_w]
         rfl
        exact norm_ (by first | (simp only [putAll, Act.put, setIfInBounds_toArray, set_cons_zero, set_cons_succ]; done) | (simp only [putAll, Act.put, setIfInBounds_toArray, set_cons_zero, set_cons_succ]; rfl)) (hJ2_5_7_8_12 (v235, gb238) _ ⟨hHeld, (by (with_reducible repeat (first | apply Kd.R_alloc | apply Kd.R_drewN | apply Kd.R_drew)); exact Kd.R_mono HO236.out (fun _ hk => hk.2)), (by (with_reducible repeat (first | apply Kd.R_alloc | apply Kd.R_drewN | apply Kd.R_drew)); exact Kd.R_mono HO_c.out (fun _ hk => hk.2)), (by (with_reducible repeat (first | refine yN ?_ _ | refine yD ?_ | refine yA ?_ _)); exact BK213.out), (by (with_reducible repeat (first | refine yN ?_ _ | refine yD ?_ | refine yA ?_ _)); exact BK223.out), (by (with_reducible repeat (first | refine yN ?_ _ | refine yD ?_ | refine yA ?_ _)); exact BK238.out), GW238.out, GE238.out, NB0_238.out, NB238_0.out, NB213_238.out, NB238_213.out, NB223_238.out, NB238_223.out, (by repeat (first | (with_reducible first | exact HI0.out | apply yO | apply yL | apply yT | apply yJ | refine yI ?_ NB0_213.out _ | refine yI ?_ NB0_223.out _ | refine yI ?_ NB0_238.out _) | exact HI0.out)), (by repeat (first | (with_reducible first | exact HK.out | apply yK | apply yQ | apply keep_drew | apply yR | refine yF ?_ GW213.out _ | refine yF ?_ GW223.out _ | refine yF ?_ GW238.out _) | exact HK.out)), (by repeat (first | (with_reducible first | exact HB.out | apply below_alloc | apply yP | apply below_drew1 | refine yS ?_ (IsS73.ge HI0.out) | refine yS ?_ GE213.out | refine yS ?_ GE223.out | refine yS ?_ GE238.out) | exact HB.out))⟩)
      ·skip
       rintro v235 w49 ⟨hS_, h0_, h1_, h2_, h3_, h4_, h5_, h6_⟩
       have n0_ : Aside0 (Kd.R k29 29 w49 w.heap.size (fun k_ => some k_ ≠ (.slice Ao43 xc_1.length co43 : Value).ownBlock) v235 t234) := ⟨h0_⟩
       have n1_ : Aside0 (Kd.R k29 29 w49 w.heap.size (fun k_ => some k_ ≠ (v235 : Value).ownBlock) (.slice Ao43 xc_1.length co43) xc_1) := ⟨h1_⟩
       have n2_ : Aside0 (w49.heap[gb213]? = some (.cells #[.int .i64 0, .int .i64 0, .slice none 0 0] 32 (0, 0))) := ⟨h2_⟩
       have n3_ : Aside0 (w49.heap[gb223]? = some (.cells #[.int .i64 xa_1, .int .i64 xb_1, .slice Ao43 xc_1.length co43] 32 (0, 0))) := ⟨h3_⟩
       have n4_ : Aside0 (IsS73 w0 w49 g s0_0 t229) := ⟨h4_⟩
       have n5_ : Aside0 (KeepBut w w49 g none) := ⟨h5_⟩
       have n6_ : Aside0 (Below w0.heap.size w0 w49) := ⟨h6_⟩
       clear HO_c
       clear BK213
       clear BK223
       clear HI0
       clear HK
       clear HB
       clear h0_ h1_ h2_ h3_ h4_ h5_ h6_
       have HO236 := n0_
       have HO_c := n1_
       have BK213 := n2_
       have BK223 := n3_
       have HI0 := n4_
       have HK := n5_
       have HB := n6_
       clear n0_ n1_ n2_ n3_ n4_ n5_ n6_
       have hHeld : w49.cell? ⟨gb223, 0, none⟩ = some (.int .i64 xa_1) ∧ w49.cell? ⟨gb223, 1, none⟩ = some (.int .i64 xb_1) ∧ w49.cell? ⟨gb223, 2, none⟩ = some (.slice Ao43 xc_1.length co43) := hS_
       refine norm_ (a' := ?_) ?_ ?_
       rotate_left
       ·simp only [putAll, Act.put, setIfInBounds_toArray, set_cons_zero, set_cons_succ]
        rfl
       refine one_ (i := 12) (N := some 5) #[true, true, true, true, true, true, true, true, true, true, true, true, true, false, false] rfl rfl (one_of HT_.out (by kernel_rfl)) (by decide) (fun K hK => ?_)
       refine box_step ?hg (N := 5) ?hd (cs := #[.int .i64 0, .int .i64 0, .slice none 0 0]) (t := 32) ?hr ?_; (case hd => rfl); (case hg => rfl); (case hr => first | (go_simp; done) | (go_simp; rfl))
       intro gb238 hg w50 hbox hb
       have n0_ := yM (Kd.R_below (by (with_reducible repeat (first | apply Kd.R_alloc | apply Kd.R_drewN | apply Kd.R_drew)); exact HO_c.out) hb)
       have n1_ := yM (Kd.R_below (by (with_reducible repeat (first | apply Kd.R_alloc | apply Kd.R_drewN | apply Kd.R_drew)); exact HO236.out) hb)
       have n2_ := yM (blk_below (g := gb213) (o := .cells #[.int .i64 0, .int .i64 0, .slice none 0 0] 32 (0, 0)) (by (with_reducible repeat (first | refine yN ?_ _ | refine yD ?_ | refine yA ?_ _)); exact BK213.out) hb)
       have n3_ := yM (blk_below (g := gb223) (o := .cells #[.int .i64 xa_1, .int .i64 xb_1, .slice Ao43 xc_1.length co43] 32 (0, 0)) (by (with_reducible repeat (first | refine yN ?_ _ | refine yD ?_ | refine yA ?_ _)); exact BK223.out) hb)
       have n4_ := yM (IsS73.below (by repeat (first | (with_reducible first | exact HI0.out | apply yO | apply yL | apply yT | apply yJ | refine yI ?_ NB0_213.out _ | refine yI ?_ NB0_223.out _) | exact HI0.out)) hb)
       have n5_ := yM (KeepBut.trans (by repeat (first | (with_reducible first | exact HK.out | apply yK | apply yQ | apply keep_drew | apply yR | refine yF ?_ GW213.out _ | refine yF ?_ GW223.out _) | exact HK.out)) (KeepBut.of_below hb g none) (.inl rfl))
       have n6_ := yM (below_step (by repeat (first | (with_reducible first | exact HB.out | apply below_alloc | apply yP | apply below_drew1 | refine yS ?_ (IsS73.ge HI0.out) | refine yS ?_ GE213.out | refine yS ?_ GE223.out) | exact HB.out)) hb)
       have n7_ := yM (hbox)
       have n8_ := yM ((by rw [hg]; exact (keep_size (w := w) (g := g) (row := none) (by repeat (first | (with_reducible first | exact HK.out | apply yK | apply yQ | apply keep_drew | apply yR | refine yF ?_ GW213.out _ | refine yF ?_ GW223.out _) | exact HK.out))) : w.heap.size ≤ gb238))
       have n9_ := yM ((Nat.le_trans HW0.out (by rw [hg]; exact (keep_size (w := w) (g := g) (row := none) (by repeat (first | (with_reducible first | exact HK.out | apply yK | apply yQ | apply keep_drew | apply yR | refine yF ?_ GW213.out _ | refine yF ?_ GW223.out _) | exact HK.out))) : w.heap.size ≤ gb238) : w0.heap.size ≤ gb238))
       have n10_ := yM ((by rw [hg]; exact Nat.ne_of_lt (blk_lt (g := gb213) (o := .cells #[.int .i64 0, .int .i64 0, .slice none 0 0] 32 (0, 0)) (by (with_reducible repeat (first | refine yN ?_ _ | refine yD ?_ | refine yA ?_ _)); exact BK213.out)) : gb213 ≠ gb238))
       have n11_ := yM ((by rw [hg]; exact Nat.ne_of_gt (blk_lt (g := gb213) (o := .cells #[.int .i64 0, .int .i64 0, .slice none 0 0] 32 (0, 0)) (by (with_reducible repeat (first | refine yN ?_ _ | refine yD ?_ | refine yA ?_ _)); exact BK213.out)) : gb238 ≠ gb213))
       have n12_ := yM ((by rw [hg]; exact Nat.ne_of_lt (blk_lt (g := gb223) (o := .cells #[.int .i64 xa_1, .int .i64 xb_1, .slice Ao43 xc_1.length co43] 32 (0, 0)) (by (with_reducible repeat (first | refine yN ?_ _ | refine yD ?_ | refine yA ?_ _)); exact BK223.out)) : gb223 ≠ gb238))
       have n13_ := yM ((by rw [hg]; exact Nat.ne_of_gt (blk_lt (g := gb223) (o := .cells #[.int .i64 xa_1, .int .i64 xb_1, .slice Ao43 xc_1.length co43] 32 (0, 0)) (by (with_reducible repeat (first | refine yN ?_ _ | refine yD ?_ | refine yA ?_ _)); exact BK223.out)) : gb238 ≠ gb223))
       have n14_ := yM ((by rw [hg]; exact Nat.ne_of_lt (IsS73.lt (show IsS73 w0 _ g s0_0 t229 from by repeat (first | (with_reducible first | exact HI0.out | apply yO | apply yL | apply yT | apply yJ | refine yI ?_ NB0_213.out _ | refine yI ?_ NB0_223.out _) | exact HI0.out))) : g ≠ gb238))
       have n15_ := yM ((by rw [hg]; exact Nat.ne_of_gt (IsS73.lt (show IsS73 w0 _ g s0_0 t229 from by repeat (first | (with_reducible first | exact HI0.out | apply yO | apply yL | apply yT | apply yJ | refine yI ?_ NB0_213.out _ | refine yI ?_ NB0_223.out _) | exact HI0.out))) : gb238 ≠ g))
       clear HO_c
       clear HO236
       clear BK213
       clear BK223
       clear HI0
       clear HK
       clear HB
       have HO_c := n0_
       have HO236 := n1_
       have BK213 := n2_
       have BK223 := n3_
       have HI0 := n4_
       have HK := n5_
       have HB := n6_
       have BK238 := n7_
       have GW238 := n8_
       have GE238 := n9_
       have NB213_238 := n10_
       have NB238_213 := n11_
       have NB223_238 := n12_
       have NB238_223 := n13_
       have NB0_238 := n14_
       have NB238_0 := n15_
       clear n0_ n1_ n2_ n3_ n4_ n5_ n6_ n7_ n8_ n9_ n10_ n11_ n12_ n13_ n14_ n15_
       clear hb hbox hg
       refine hK.out _ _ ⟨(blk_cell BK223.out 0).trans rfl, (blk_cell BK223.out 1).trans rfl, (blk_cell BK223.out 2).trans rfl⟩ (fun hHeld => ?_)
       clear hK K
       refine norm_ (a' := ?_) ?_ ?_
       rotate_left
       ·show Act.put _ (some 5) _ = _
        simp only [Act.put, setIfInBounds_toArray, set_cons_zero, set_cons_succ, i64_w, i32_w]
        rfl
       exact norm_ (by first | (simp only [putAll, Act.put, setIfInBounds_toArray, set_cons_zero, set_cons_succ]; done) | (simp only [putAll, Act.put, setIfInBounds_toArray, set_cons_zero, set_cons_succ]; rfl)) (hJ2_5_7_8_12 (v235, gb238) _ ⟨hHeld, (by (with_reducible repeat (first | apply Kd.R_alloc | apply Kd.R_drewN | apply Kd.R_drew)); exact HO236.out), (by (with_reducible repeat (first | apply Kd.R_alloc | apply Kd.R_drewN | apply Kd.R_drew)); exact HO_c.out), (by (with_reducible repeat (first | refine yN ?_ _ | refine yD ?_ | refine yA ?_ _)); exact BK213.out), (by (with_reducible repeat (first | refine yN ?_ _ | refine yD ?_ | refine yA ?_ _)); exact BK223.out), (by (with_reducible repeat (first | refine yN ?_ _ | refine yD ?_ | refine yA ?_ _)); exact BK238.out), GW238.out, GE238.out, NB0_238.out, NB238_0.out, NB213_238.out, NB238_213.out, NB223_238.out, NB238_223.out, (by repeat (first | (with_reducible first | exact HI0.out | apply yO | apply yL | apply yT | apply yJ | refine yI ?_ NB0_213.out _ | refine yI ?_ NB0_223.out _ | refine yI ?_ NB0_238.out _) | exact HI0.out)), (by repeat (first | (with_reducible first | exact HK.out | apply yK | apply yQ | apply keep_drew | apply yR | refine yF ?_ GW213.out _ | refine yF ?_ GW223.out _ | refine yF ?_ GW238.out _) | exact HK.out)), (by repeat (first | (with_reducible first | exact HB.out | apply below_alloc | apply yP | apply below_drew1 | refine yS ?_ (IsS73.ge HI0.out) | refine yS ?_ GE213.out | refine yS ?_ GE223.out | refine yS ?_ GE238.out) | exact HB.out))⟩)
     rintro ⟨v235, gb238⟩ w50 ⟨hS_, h0_, h1_, h2_, h3_, h4_, h5_, h6_, h7_, h8_, h9_, h10_, h11_, h12_, h13_, h14_, h15_⟩
     have n0_ : Aside0 (Kd.R k29 29 w50 w.heap.size (fun k_ => some k_ ≠ (.slice Ao43 xc_1.length co43 : Value).ownBlock) v235 t234) := ⟨h0_⟩
     have n1_ : Aside0 (Kd.R k29 29 w50 w.heap.size (fun k_ => some k_ ≠ (v235 : Value).ownBlock) (.slice Ao43 xc_1.length co43) xc_1) := ⟨h1_⟩
     have n2_ : Aside0 (w50.heap[gb213]? = some (.cells #[.int .i64 0, .int .i64 0, .slice none 0 0] 32 (0, 0))) := ⟨h2_⟩
     have n3_ : Aside0 (w50.heap[gb223]? = some (.cells #[.int .i64 xa_1, .int .i64 xb_1, .slice Ao43 xc_1.length co43] 32 (0, 0))) := ⟨h3_⟩
     have n4_ : Aside0 (w50.heap[gb238]? = some (.cells #[.int .i64 0, .int .i64 0, .slice none 0 0] 32 (0, 0))) := ⟨h4_⟩
     have n5_ : Aside0 (w.heap.size ≤ gb238) := ⟨h5_⟩
     have n6_ : Aside0 (w0.heap.size ≤ gb238) := ⟨h6_⟩
     have n7_ : Aside0 (g ≠ gb238) := ⟨h7_⟩
     have n8_ : Aside0 (gb238 ≠ g) := ⟨h8_⟩
     have n9_ : Aside0 (gb213 ≠ gb238) := ⟨h9_⟩
     have n10_ : Aside0 (gb238 ≠ gb213) := ⟨h10_⟩
     have n11_ : Aside0 (gb223 ≠ gb238) := ⟨h11_⟩
     have n12_ : Aside0 (gb238 ≠ gb223) := ⟨h12_⟩
     have n13_ : Aside0 (IsS73 w0 w50 g s0_0 t229) := ⟨h13_⟩
     have n14_ : Aside0 (KeepBut w w50 g none) := ⟨h14_⟩
     have n15_ : Aside0 (Below w0.heap.size w0 w50) := ⟨h15_⟩
     clear HO_c
     clear BK213
     clear BK223
     clear HI0
     clear HK
     clear HB
     clear h0_ h1_ h2_ h3_ h4_ h5_ h6_ h7_ h8_ h9_ h10_ h11_ h12_ h13_ h14_ h15_
     have HO236 := n0_
     have HO_c := n1_
     have BK213 := n2_
     have BK223 := n3_
     have BK238 := n4_
     have GW238 := n5_
     have GE238 := n6_
     have NB0_238 := n7_
     have NB238_0 := n8_
     have NB213_238 := n9_
     have NB238_213 := n10_
     have NB223_238 := n11_
     have NB238_223 := n12_
     have HI0 := n13_
     have HK := n14_
     have HB := n15_
     clear n0_ n1_ n2_ n3_ n4_ n5_ n6_ n7_ n8_ n9_ n10_ n11_ n12_ n13_ n14_ n15_
     have hHeld : w50.cell? ⟨gb223, 0, none⟩ = some (.int .i64 xa_1) ∧ w50.cell? ⟨gb223, 1, none⟩ = some (.int .i64 xb_1) ∧ w50.cell? ⟨gb223, 2, none⟩ = some (.slice Ao43 xc_1.length co43) := hS_
     obtain ⟨Ao53, co53, eo53⟩ := Kd.R_slice HO236.out
     (first | subst eo53 | (injection eo53 with f1_ f2_ f3_; have f4_ := f1_.symm; have f5_ := f3_.symm; clear f1_ f2_ f3_; subst f4_; subst f5_))
     refine norm_ (a' := ?_) ?_ ?_
     rotate_left
     ·simp only [putAll, Act.put, setIfInBounds_toArray, set_cons_zero, set_cons_succ]
      rfl
     refine one_ (i := 13) (N := none) #[true, true, true, true, true, true, true, true, true, true, true, true, true, true, false] rfl rfl (one_of HT_.out (by kernel_rfl)) (by decide) (fun K hK => ?_)
     have hs51 : w50.cell? ⟨gb238, 0, none⟩ = some (.int .i64 0) := (blk_cell BK238.out 0).trans rfl
     have hfs51 := blk_frozen BK238.out 0
     have hns51_0 := NB213_238.out
     have hns51_1 := NB223_238.out
     have hms51_0 := NB238_213.out
     have hms51_1 := NB238_223.out
     have hs52 : w50.cell? ⟨gb238, 1, none⟩ = some (.int .i64 0) := (blk_cell BK238.out 1).trans rfl
     have hfs52 := blk_frozen BK238.out 1
     have hns52_0 := NB213_238.out
     have hns52_1 := NB223_238.out
     have hms52_0 := NB238_213.out
     have hms52_1 := NB238_223.out
     have hs54 : w50.cell? ⟨gb238, 2, none⟩ = some (.slice none 0 0) := (blk_cell BK238.out 2).trans rfl
     have hfs54 := blk_frozen BK238.out 2
     have hns54_0 := NB213_238.out
     have hns54_1 := NB223_238.out
     have hms54_0 := NB238_213.out
     have hms54_1 := NB238_223.out
     refine skip_ (w1 := ?_) (by rfl) rfl ?_ ?_
     rotate_left
     ·go_simp
      rfl
     refine hK.out _ _ ⟨((cell_far (p := ⟨gb238, _, none⟩) NB223_238.out _).trans (((cell_far (p := ⟨gb238, _, none⟩) NB223_238.out _).trans (((cell_far (p := ⟨gb238, _, none⟩) NB223_238.out _).trans (hHeld.1)))))), ((cell_far (p := ⟨gb238, _, none⟩) NB223_238.out _).trans (((cell_far (p := ⟨gb238, _, none⟩) NB223_238.out _).trans (((cell_far (p := ⟨gb238, _, none⟩) NB223_238.out _).trans (hHeld.2.1)))))), ((cell_far (p := ⟨gb238, _, none⟩) NB223_238.out _).trans (((cell_far (p := ⟨gb238, _, none⟩) NB223_238.out _).trans (((cell_far (p := ⟨gb238, _, none⟩) NB223_238.out _).trans (hHeld.2.2))))))⟩ (fun hHeld => ?_)
     clear hK K
     refine pure_ (i := 14) (N := some 6) (v := ?_) (a' := ?_) #[true, true, true, true, true, true, true, true, true, true, true, true, true, true, true] rfl rfl (any_of HT_.out (by kernel_rfl)) (fun _ _ _ h => h) (Or.inl ⟨by rfl, ?_⟩) ?_ ?_
     rotate_left
     ·intro w'
      go_simp
      with_reducible rfl
     rotate_left
     ·simp only [Act.put, setIfInBounds_toArray, set_cons_zero, set_cons_succ, i64_w, i32_w]
      rfl
     refine done_ (done_of HT_.out (by kernel_rfl)) ?_
     try go_wp2
     go_roundg k1
     case measure => have := HK1.out; omega
     case rel => exact ⟨(wrap64 (x4_1 - 1)), (t229), (xa_1), (xb_1), (xc_1), (.slice Ao43 xc_1.length co43), (by first | rfl | (simp; done) | (simp [*]; done)), H', ⟨by have := HK1.out; omega⟩, ⟨by (with_reducible repeat (first | apply Kd.R_alloc | apply Kd.R_drewN | apply Kd.R_drew)); exact Kd.R_mono (Kd.R_far (p := ⟨gb238, 2, none⟩) (Kd.R_far (p := ⟨gb238, 1, none⟩) (Kd.R_far (p := ⟨gb238, 0, none⟩) (Kd.R_types HO_c.out BK238.out (by decide)) (fun _ hk => hk.2) (.int .i64 t232)) (fun _ hk => hk.2) (.int .i64 t233)) (fun _ hk => hk.2) (.slice Ao53 t234.length co53)) (fun _ hk => trivial)⟩, ⟨by (with_reducible repeat (first | refine yN ?_ _ | refine yD ?_ | refine yA ?_ _)); refine blk_far ?_ NB213_238.out _; (with_reducible repeat (first | refine yN ?_ _ | refine yD ?_ | refine yA ?_ _)); refine blk_far ?_ NB213_238.out _; (with_reducible repeat (first | refine yN ?_ _ | refine yD ?_ | refine yA ?_ _)); refine blk_far ?_ NB213_238.out _; (with_reducible repeat (first | refine yN ?_ _ | refine yD ?_ | refine yA ?_ _)); exact BK213.out⟩, ⟨by (with_reducible repeat (first | refine yN ?_ _ | refine yD ?_ | refine yA ?_ _)); refine blk_far ?_ NB223_238.out _; (with_reducible repeat (first | refine yN ?_ _ | refine yD ?_ | refine yA ?_ _)); refine blk_far ?_ NB223_238.out _; (with_reducible repeat (first | refine yN ?_ _ | refine yD ?_ | refine yA ?_ _)); refine blk_far ?_ NB223_238.out _; (with_reducible repeat (first | refine yN ?_ _ | refine yD ?_ | refine yA ?_ _)); exact BK223.out⟩, ⟨by repeat (first | (with_reducible first | exact HI0.out | apply yO | apply yL | apply yT | apply yJ | refine yI ?_ NB0_213.out _ | refine yI ?_ NB0_223.out _ | refine yI ?_ NB0_238.out _) | exact HI0.out)⟩, ⟨by repeat (first | (with_reducible first | exact HK.out | apply yK | apply yQ | apply keep_drew | apply yR | refine yF ?_ GW213.out _ | refine yF ?_ GW223.out _ | refine yF ?_ GW238.out _) | exact HK.out)⟩, ⟨by repeat (first | (with_reducible first | exact HB.out | apply below_alloc | apply yP | apply below_drew1 | refine yS ?_ (IsS73.ge HI0.out) | refine yS ?_ GE213.out | refine yS ?_ GE223.out | refine yS ?_ GE238.out) | exact HB.out)⟩⟩
   ·rw [if_neg c18] at H
    have c18b0 : decide (0 < x4_1) = false := decide_eq_false c18
    clear c18
    replace H := Option.bind_eq_some_iff.mp H
    obtain ⟨⟨t239, t240⟩, A550, H⟩ := H
    replace H : (if t239 = 0 then ((spec_l6Rd_pick.f k1 s0_0 t240 3).bind fun bt241 => ((spec_l6Rd_pick.f k1 s0_0 bt241.2 3).bind fun bt243 => (some (bt241.1, wrap64 (1 + bt243.1), xc_1, bt243.2)))) else (if t239 = 1 then ((spec_l92Frac.f k1 s0_0 t240).bind fun bt245 => (if xc_1.length < 8796093022208 then (some (xa_1, xb_1, (xc_1 ++ [(⟨bt245.1, bt245.2.1⟩ : S29)]), bt245.2.2)) else (none))) else (some (xa_1, xb_1, xc_1, t240)))) = some (r1, r2, r3, r4) := H
    have A55 := Aside0.mk A550
    clear A550
    by_cases c56 : t239 = 0
    ·rw [if_pos c56] at H
     have c56b0 : (t239 == 0) = true := beq_iff_eq.mpr c56
     have c56b1 : (t239 != 0) = false := bne_eq_false_iff_eq.mpr c56
     clear c56
     replace H := Option.bind_eq_some_iff.mp H
     obtain ⟨⟨t241, t242⟩, A570, H⟩ := H
     replace H : ((spec_l6Rd_pick.f k1 s0_0 t242 3).bind fun bt243 => (some (t241, wrap64 (1 + bt243.1), xc_1, bt243.2))) = some (r1, r2, r3, r4) := H
     have A57 := Aside0.mk A570
     clear A570
     replace H := Option.bind_eq_some_iff.mp H
     obtain ⟨⟨t243, t244⟩, A580, H⟩ := H
     replace H : (some (t241, wrap64 (1 + t243), xc_1, t244)) = some (r1, r2, r3, r4) := H
     have A58 := Aside0.mk A580
     clear A580
     simp only [Option.some.injEq, Prod.mk.injEq] at H
     obtain ⟨rfl, rfl, rfl, rfl⟩ := H
     go_wp2_with (first | ((with_reducible refine gate_callee (f := 43) rfl ?_); refine goesL_ (some 37) rfl rfl Try.func43 (by kernel_rfl) rfl #[.pointer (some ⟨g, 0, none⟩), .int .i64 30] rfl (by (try simp only [List.map_toArray, List.map_cons, List.map_nil]); first | done | rfl | (simp only [List.length_drop, List.length_take]; rfl)) ?_; (with_reducible refine (spec_l6Rd_pick.calls k1 g s0_0 x1001_1 30 t239 t240 w0 _ ?side1 ?side2 A55.out).mono ?_); (case side1 => repeat (first | (with_reducible first | exact HI0.out | apply yO | apply yL | apply yT | apply yJ | refine yI ?_ NB0_213.out _ | refine yI ?_ NB0_223.out _) | exact HI0.out)); (case side2 => repeat (first | (with_reducible first | exact HB.out | apply below_alloc | apply yP | apply below_drew1 | refine yS ?_ (IsS73.ge HI0.out) | refine yS ?_ GE213.out | refine yS ?_ GE223.out) | exact HB.out)); rintro e w59 ⟨rfl, hi, hb, hk⟩; refine ⟨_, rfl, ?_⟩; have n0_ := yM (Kd.R_mono (Kd.R_keep (IsS73.apart (show IsS73 w0 _ g s0_0 x1001_1 from by repeat (first | (with_reducible first | exact HI0.out | apply yO | apply yL | apply yT | apply yJ | refine yI ?_ NB0_213.out _ | refine yI ?_ NB0_223.out _) | exact HI0.out)) (by (with_reducible repeat (first | apply Kd.R_alloc | apply Kd.R_drewN | apply Kd.R_drew)); exact HO_c.out) (by decide)) hk (fun _ h => h.2)) (fun _ h => h.1)); have n1_ := yM (KeepBut.blk hk (g' := gb213) (o := .cells #[.int .i64 0, .int .i64 0, .slice none 0 0] 32 (0, 0)) (by (with_reducible repeat (first | refine yN ?_ _ | refine yD ?_ | refine yA ?_ _)); exact BK213.out) NB213_0.out (by simp)); have n2_ := yM (KeepBut.blk hk (g' := gb223) (o := .cells #[.int .i64 xa_1, .int .i64 xb_1, u224002] 32 (0, 0)) (by (with_reducible repeat (first | refine yN ?_ _ | refine yD ?_ | refine yA ?_ _)); exact BK223.out) NB223_0.out (by simp)); have n3_ := yM (KeepBut.trans (by repeat (first | (with_reducible first | exact HK.out | apply yK | apply yQ | apply keep_drew | apply yR | refine yF ?_ GW213.out _ | refine yF ?_ GW223.out _) | exact HK.out)) hk (.inl rfl)); have n4_ := yM (hb); have n5_ := yM (hi); clear HO_c; clear BK213; clear BK223; clear HK; clear HB; clear HI0; have HO_c := n0_; have BK213 := n1_; have BK223 := n2_; have HK := n3_; have HB := n4_; have HI0 := n5_; clear n0_ n1_ n2_ n3_ n4_ n5_; (try clear hb); (try clear hb2); (try clear hk); (try clear hi)) | ((with_reducible refine gate_callee (f := 43) rfl ?_); refine goesL_ (some 41) rfl rfl Try.func43 (by kernel_rfl) rfl #[.pointer (some ⟨g, 0, none⟩), .int .i64 3] rfl (by (try simp only [List.map_toArray, List.map_cons, List.map_nil]); first | done | rfl | (simp only [List.length_drop, List.length_take]; rfl)) ?_; (with_reducible refine (spec_l6Rd_pick.calls k1 g s0_0 t240 3 t241 t242 w0 _ ?side1 ?side2 A57.out).mono ?_); (case side1 => repeat (first | (with_reducible first | exact HI0.out | apply yO | apply yL | apply yT | apply yJ | refine yI ?_ NB0_213.out _ | refine yI ?_ NB0_223.out _) | exact HI0.out)); (case side2 => repeat (first | (with_reducible first | exact HB.out | apply below_alloc | apply yP | apply below_drew1 | refine yS ?_ (IsS73.ge HI0.out) | refine yS ?_ GE213.out | refine yS ?_ GE223.out) | exact HB.out)); rintro e w60 ⟨rfl, hi, hb, hk⟩; refine ⟨_, rfl, ?_⟩; have n0_ := yM (Kd.R_mono (Kd.R_keep (IsS73.apart (show IsS73 w0 _ g s0_0 t240 from by repeat (first | (with_reducible first | exact HI0.out | apply yO | apply yL | apply yT | apply yJ | refine yI ?_ NB0_213.out _ | refine yI ?_ NB0_223.out _) | exact HI0.out)) (by (with_reducible repeat (first | apply Kd.R_alloc | apply Kd.R_drewN | apply Kd.R_drew)); exact HO_c.out) (by decide)) hk (fun _ h => h.2)) (fun _ h => h.1)); have n1_ := yM (KeepBut.blk hk (g' := gb213) (o := .cells #[.int .i64 0, .int .i64 0, .slice none 0 0] 32 (0, 0)) (by (with_reducible repeat (first | refine yN ?_ _ | refine yD ?_ | refine yA ?_ _)); exact BK213.out) NB213_0.out (by simp)); have n2_ := yM (KeepBut.blk hk (g' := gb223) (o := .cells #[.int .i64 xa_1, .int .i64 xb_1, u224002] 32 (0, 0)) (by (with_reducible repeat (first | refine yN ?_ _ | refine yD ?_ | refine yA ?_ _)); exact BK223.out) NB223_0.out (by simp)); have n3_ := yM (KeepBut.trans (by repeat (first | (with_reducible first | exact HK.out | apply yK | apply yQ | apply keep_drew | apply yR | refine yF ?_ GW213.out _ | refine yF ?_ GW223.out _) | exact HK.out)) hk (.inl rfl)); have n4_ := yM (hb); have n5_ := yM (hi); clear HO_c; clear BK213; clear BK223; clear HK; clear HB; clear HI0; have HO_c := n0_; have BK213 := n1_; have BK223 := n2_; have HK := n3_; have HB := n4_; have HI0 := n5_; clear n0_ n1_ n2_ n3_ n4_ n5_; (try clear hb); (try clear hb2); (try clear hk); (try clear hi)) | ((with_reducible refine gate_callee (f := 43) rfl ?_); refine goesL_ (some 43) rfl rfl Try.func43 (by kernel_rfl) rfl #[.pointer (some ⟨g, 0, none⟩), .int .i64 3] rfl (by (try simp only [List.map_toArray, List.map_cons, List.map_nil]); first | done | rfl | (simp only [List.length_drop, List.length_take]; rfl)) ?_; (with_reducible refine (spec_l6Rd_pick.calls k1 g s0_0 t242 3 t243 t244 w0 _ ?side1 ?side2 A58.out).mono ?_); (case side1 => repeat (first | (with_reducible first | exact HI0.out | apply yO | apply yL | apply yT | apply yJ | refine yI ?_ NB0_213.out _ | refine yI ?_ NB0_223.out _) | exact HI0.out)); (case side2 => repeat (first | (with_reducible first | exact HB.out | apply below_alloc | apply yP | apply below_drew1 | refine yS ?_ (IsS73.ge HI0.out) | refine yS ?_ GE213.out | refine yS ?_ GE223.out) | exact HB.out)); rintro e w61 ⟨rfl, hi, hb, hk⟩; refine ⟨_, rfl, ?_⟩; have n0_ := yM (Kd.R_mono (Kd.R_keep (IsS73.apart (show IsS73 w0 _ g s0_0 t242 from by repeat (first | (with_reducible first | exact HI0.out | apply yO | apply yL | apply yT | apply yJ | refine yI ?_ NB0_213.out _ | refine yI ?_ NB0_223.out _) | exact HI0.out)) (by (with_reducible repeat (first | apply Kd.R_alloc | apply Kd.R_drewN | apply Kd.R_drew)); exact HO_c.out) (by decide)) hk (fun _ h => h.2)) (fun _ h => h.1)); have n1_ := yM (KeepBut.blk hk (g' := gb213) (o := .cells #[.int .i64 0, .int .i64 0, .slice none 0 0] 32 (0, 0)) (by (with_reducible repeat (first | refine yN ?_ _ | refine yD ?_ | refine yA ?_ _)); exact BK213.out) NB213_0.out (by simp)); have n2_ := yM (KeepBut.blk hk (g' := gb223) (o := .cells #[.int .i64 xa_1, .int .i64 xb_1, u224002] 32 (0, 0)) (by (with_reducible repeat (first | refine yN ?_ _ | refine yD ?_ | refine yA ?_ _)); exact BK223.out) NB223_0.out (by simp)); have n3_ := yM (KeepBut.trans (by repeat (first | (with_reducible first | exact HK.out | apply yK | apply yQ | apply keep_drew | apply yR | refine yF ?_ GW213.out _ | refine yF ?_ GW223.out _) | exact HK.out)) hk (.inl rfl)); have n4_ := yM (hb); have n5_ := yM (hi); clear HO_c; clear BK213; clear BK223; clear HK; clear HB; clear HI0; have HO_c := n0_; have BK213 := n1_; have BK223 := n2_; have HK := n3_; have HB := n4_; have HI0 := n5_; clear n0_ n1_ n2_ n3_ n4_ n5_; (try clear hb); (try clear hb2); (try clear hk); (try clear hi); have hnb62 := NB223_213.out; have hnc62 := NB213_223.out; have hnb63 := NB223_0.out; have hnc63 := NB0_223.out; have hcz64_0 : w61.cell? ⟨gb223, 0, none⟩ = some (.int .i64 xa_1) := (blk_cell BK223.out 0).trans rfl; have hcz64_1 : w61.cell? ⟨gb223, 1, none⟩ = some (.int .i64 xb_1) := (blk_cell BK223.out 1).trans rfl; have hcz64_2 : w61.cell? ⟨gb223, 2, none⟩ = some (u224002) := (blk_cell BK223.out 2).trans rfl; have hfz64_0 := blk_frozen BK223.out 0; have hfz64_1 := blk_frozen BK223.out 1; have hfz64_2 := blk_frozen BK223.out 2; have hnb65 := NB213_0.out; have hnc65 := NB0_213.out; have hcz66_0 : w61.cell? ⟨gb213, 0, none⟩ = some (.int .i64 0) := (blk_cell BK213.out 0).trans rfl; have hcz66_1 : w61.cell? ⟨gb213, 1, none⟩ = some (.int .i64 0) := (blk_cell BK213.out 1).trans rfl; have hcz66_2 : w61.cell? ⟨gb213, 2, none⟩ = some (.slice none 0 0) := (blk_cell BK213.out 2).trans rfl; have hfz66_0 := blk_frozen BK213.out 0; have hfz66_1 := blk_frozen BK213.out 1; have hfz66_2 := blk_frozen BK213.out 2; obtain ⟨Ao67, co67, eo67⟩ := Kd.R_slice HO_c.out; subst eo67))
     refine bodyPost_ret (results_cell_row rfl _ _ gb213 32 #[.int .i64 t241, .int .i64 (wrap64 (1 + t243)), .slice Ao67 xc_1.length co67] (0, 0) _ rfl (by (with_reducible repeat (first | refine yN ?_ _ | refine yD ?_ | refine yA ?_ _)); refine blk_put (cs := #[.int .i64 t241, .int .i64 (wrap64 (1 + t243)), .slice none 0 0]) ?_ 2 _ rfl; (with_reducible repeat (first | refine yN ?_ _ | refine yD ?_ | refine yA ?_ _)); refine blk_put (cs := #[.int .i64 t241, .int .i64 0, .slice none 0 0]) ?_ 1 _ rfl; (with_reducible repeat (first | refine yN ?_ _ | refine yD ?_ | refine yA ?_ _)); refine blk_put (cs := #[.int .i64 0, .int .i64 0, .slice none 0 0]) ?_ 0 _ rfl; (with_reducible repeat (first | refine yN ?_ _ | refine yD ?_ | refine yA ?_ _)); refine blk_far ?_ NB213_223.out _; (with_reducible repeat (first | refine yN ?_ _ | refine yD ?_ | refine yA ?_ _)); refine blk_far ?_ NB213_223.out _; (with_reducible repeat (first | refine yN ?_ _ | refine yD ?_ | refine yA ?_ _)); exact BK213.out) Try.underlying32 rfl (by kernel_rfl)) rfl ?_
     exact ⟨_, by first | rfl | (simp [errW_none, errW_some] <;> rfl) | (simp [*, errW_none, errW_some] <;> rfl), by (with_reducible repeat (first | apply Kd.R_alloc | apply Kd.R_drewN | apply Kd.R_drew)); exact Kd.R_mono (Kd.R_far (p := ⟨gb213, 2, none⟩) (Kd.R_far (p := ⟨gb213, 1, none⟩) (Kd.R_far (p := ⟨gb213, 0, none⟩) (Kd.R_far (p := ⟨gb223, 1, none⟩) (Kd.R_far (p := ⟨gb223, 0, none⟩) (Kd.R_types (Kd.R_types HO_c.out BK223.out (by decide)) BK213.out (by decide)) (fun _ hk => hk.1.2) (.int .i64 t241)) (fun _ hk => hk.1.2) (.int .i64 (wrap64 (1 + t243)))) (fun _ hk => hk.2) (.int .i64 t241)) (fun _ hk => hk.2) (.int .i64 (wrap64 (1 + t243)))) (fun _ hk => hk.2) (.slice Ao67 xc_1.length co67)) (fun _ hk => trivial), by repeat (first | (with_reducible first | exact HI0.out | apply yO | apply yL | apply yT | apply yJ | refine yI ?_ NB0_213.out _ | refine yI ?_ NB0_223.out _) | exact HI0.out), by repeat (first | (with_reducible first | exact HB.out | apply below_alloc | apply yP | apply below_drew1 | refine yS ?_ (IsS73.ge HI0.out) | refine yS ?_ GE213.out | refine yS ?_ GE223.out) | exact HB.out), by repeat (first | (with_reducible first | exact HK.out | apply yK | apply yQ | apply keep_drew | apply yR | refine yF ?_ GW213.out _ | refine yF ?_ GW223.out _) | exact HK.out)⟩
    ·rw [if_neg c56] at H
     have c56b0 : (t239 == 0) = false := beq_eq_false_iff_ne.mpr c56
     have c56b1 : (t239 != 0) = true := bne_iff_ne.mpr c56
     by_cases c68 : t239 = 1
     ·rw [if_pos c68] at H
      have c68b0 : (t239 == 1) = true := beq_iff_eq.mpr c68
      have c68b1 : (t239 != 1) = false := bne_eq_false_iff_eq.mpr c68
      clear c68
      replace H := Option.bind_eq_some_iff.mp H
      obtain ⟨⟨t245, t246, t247⟩, A690, H⟩ := H
      replace H : (if xc_1.length < 8796093022208 then (some (xa_1, xb_1, (xc_1 ++ [(⟨t245, t246⟩ : S29)]), t247)) else (none)) = some (r1, r2, r3, r4) := H
      have A69 := Aside0.mk A690
      clear A690
      by_cases c70 : xc_1.length < 8796093022208
      ·rw [if_pos c70] at H
       have LMc70 := Aside0.mk c70
       clear c70
       obtain ⟨y248, hy248⟩ : ∃ y_ : List (S29), y_ = (xc_1 ++ [(⟨t245, t246⟩ : S29)]) := ⟨_, rfl⟩
       replace H : (some (xa_1, xb_1, y248, t247)) = some (r1, r2, r3, r4) := by first | (rw [hy248]; with_reducible exact H) | (have H2_ := (Option.bind_some _ _).symm.trans H; rw [hy248]; with_reducible exact H2_) | (have H2_ := (Option.bind_some _ _).symm.trans H; with_reducible exact H2_) | with_reducible exact H | (rw [hy248]; exact H) | exact H
       have Ny248 := Aside0.mk hy248
       clear hy248
       simp only [Option.some.injEq, Prod.mk.injEq] at H
       obtain ⟨rfl, rfl, rfl, rfl⟩ := H
       try go_wp2_with (first | ((with_reducible refine gate_callee (f := 43) rfl ?_); refine goesL_ (some 37) rfl rfl Try.func43 (by kernel_rfl) rfl #[.pointer (some ⟨g, 0, none⟩), .int .i64 30] rfl (by (try simp only [List.map_toArray, List.map_cons, List.map_nil]); first | done | rfl | (simp only [List.length_drop, List.length_take]; rfl)) ?_; (with_reducible refine (spec_l6Rd_pick.calls k1 g s0_0 x1001_1 30 t239 t240 w0 _ ?side1 ?side2 A55.out).mono ?_); (case side1 => repeat (first | (with_reducible first | exact HI0.out | apply yO | apply yL | apply yT | apply yJ | refine yI ?_ NB0_213.out _ | refine yI ?_ NB0_223.out _) | exact HI0.out)); (case side2 => repeat (first | (with_reducible first | exact HB.out | apply below_alloc | apply yP | apply below_drew1 | refine yS ?_ (IsS73.ge HI0.out) | refine yS ?_ GE213.out | refine yS ?_ GE223.out) | exact HB.out)); rintro e w71 ⟨rfl, hi, hb, hk⟩; refine ⟨_, rfl, ?_⟩; have n0_ := yM (Kd.R_mono (Kd.R_keep (IsS73.apart (show IsS73 w0 _ g s0_0 x1001_1 from by repeat (first | (with_reducible first | exact HI0.out | apply yO | apply yL | apply yT | apply yJ | refine yI ?_ NB0_213.out _ | refine yI ?_ NB0_223.out _) | exact HI0.out)) (by (with_reducible repeat (first | apply Kd.R_alloc | apply Kd.R_drewN | apply Kd.R_drew)); exact HO_c.out) (by decide)) hk (fun _ h => h.2)) (fun _ h => h.1)); have n1_ := yM (KeepBut.blk hk (g' := gb213) (o := .cells #[.int .i64 0, .int .i64 0, .slice none 0 0] 32 (0, 0)) (by (with_reducible repeat (first | refine yN ?_ _ | refine yD ?_ | refine yA ?_ _)); exact BK213.out) NB213_0.out (by simp)); have n2_ := yM (KeepBut.blk hk (g' := gb223) (o := .cells #[.int .i64 xa_1, .int .i64 xb_1, u224002] 32 (0, 0)) (by (with_reducible repeat (first | refine yN ?_ _ | refine yD ?_ | refine yA ?_ _)); exact BK223.out) NB223_0.out (by simp)); have n3_ := yM (KeepBut.trans (by repeat (first | (with_reducible first | exact HK.out | apply yK | apply yQ | apply keep_drew | apply yR | refine yF ?_ GW213.out _ | refine yF ?_ GW223.out _) | exact HK.out)) hk (.inl rfl)); have n4_ := yM (hb); have n5_ := yM (hi); clear HO_c; clear BK213; clear BK223; clear HK; clear HB; clear HI0; have HO_c := n0_; have BK213 := n1_; have BK223 := n2_; have HK := n3_; have HB := n4_; have HI0 := n5_; clear n0_ n1_ n2_ n3_ n4_ n5_; (try clear hb); (try clear hb2); (try clear hk); (try clear hi)))
       have n0_ := yM (Kd.R_drew HO_c.out)
       have n1_ := yM (yD BK213.out)
       have n2_ := yM (yD BK223.out)
       have n3_ := yM (yT HI0.out)
       have n4_ := yM (keep_drew HK.out)
       have n5_ := yM (below_drew1 HB.out)
       clear HO_c
       clear BK213
       clear BK223
       clear HI0
       clear HK
       clear HB
       have HO_c := n0_
       have BK213 := n1_
       have BK223 := n2_
       have HI0 := n3_
       have HK := n4_
       have HB := n5_
       clear n0_ n1_ n2_ n3_ n4_ n5_
       refine start_ (n := 8) (S := fun w' => w'.cell? ⟨gb223, 0, none⟩ = some (.int .i64 xa_1) ∧ w'.cell? ⟨gb223, 1, none⟩ = some (.int .i64 xb_1) ∧ w'.cell? ⟨gb223, 2, none⟩ = some (u224002)) (ds := [7]) #[false, false, false, false, false, false, false, false] (by kernel_rfl) rfl rfl ⟨(blk_cell BK223.out 0).trans rfl, (blk_cell BK223.out 1).trans rfl, (blk_cell BK223.out 2).trans rfl⟩ (fun hHeld => ?_); refine with_tabW spec_l92Ledger.tab12 spec_l92Ledger.bits12 (fun HT_ HW_ => ?_)
       generalize w71.drew = w72 at HO_c BK213 BK223 HI0 HK HB hHeld ⊢
       refine pure_ (i := 0) (N := some 49) (v := ?_) (a' := ?_) #[true, false, false, false, false, false, false, false] rfl rfl (any_of HT_.out (by kernel_rfl)) (fun _ _ _ h => h) (Or.inl ⟨by rfl, ?_⟩) ?_ ?_
       rotate_left
       ·intro w'
        go_simp
        with_reducible rfl
       rotate_left
       ·simp only [Act.put, setIfInBounds_toArray, set_cons_zero, set_cons_succ, i64_w, i32_w]
        rfl
       refine pure_ (i := 2) (N := some 51) (v := ?_) (a' := ?_) #[true, false, true, false, false, false, false, false] rfl rfl (any_of HT_.out (by kernel_rfl)) (fun _ _ _ h => h) (Or.inl ⟨by rfl, ?_⟩) ?_ ?_
       rotate_left
       ·intro w'
        go_simp
        with_reducible rfl
       rotate_left
       ·simp only [Act.put, setIfInBounds_toArray, set_cons_zero, set_cons_succ, i64_w, i32_w]
        rfl
       refine take_ (i := 1) (N := some 50) (v := ?_) (a' := ?_) #[true, true, true, false, false, false, false, false] rfl rfl (take_ofW HT_.out HW_.out (by kernel_rfl)) (fun _ _ _ h => h) (Or.inl ⟨by rfl, ?_⟩) hHeld ?_ ?_
       rotate_left
       ·rintro w' ⟨s0, s1, s2⟩
        go_simp
        with_reducible rfl
       rotate_left
       ·simp only [Act.put, setIfInBounds_toArray, set_cons_zero, set_cons_succ, i64_w, i32_w]
        rfl
       refine one_ (i := 3) (N := some 52) #[true, true, true, true, false, false, false, false] rfl rfl (one_of HT_.out (by kernel_rfl)) (by decide) (fun K hK => ?_)
       refine goes_ Try.func44 (by kernel_rfl) rfl #[.pointer (some ⟨g, 0, none⟩)] (by rfl) rfl rfl (by (try simp only [List.map_toArray, List.map_cons, List.map_nil]); first | done | rfl | (simp only [List.length_drop, List.length_take]; rfl)) ?_
       with_reducible refine (spec_l92Frac.calls k1 g s0_0 t240 t245 t246 t247 w0 _ ?side1 ?side2 A69.out).mono ?_
       (case side1 => repeat (first | (with_reducible first | exact HI0.out | apply yO | apply yL | apply yT | apply yJ | refine yI ?_ NB0_213.out _ | refine yI ?_ NB0_223.out _) | exact HI0.out))
       (case side2 => repeat (first | (with_reducible first | exact HB.out | apply below_alloc | apply yP | apply below_drew1 | refine yS ?_ (IsS73.ge HI0.out) | refine yS ?_ GE213.out | refine yS ?_ GE223.out) | exact HB.out))
       rintro e w73 ⟨rfl, hi, hb, hk⟩
       refine ⟨_, rfl, ?_⟩
       have n0_ := yM (Kd.R_mono (Kd.R_keep (IsS73.apart (show IsS73 w0 _ g s0_0 t240 from by repeat (first | (with_reducible first | exact HI0.out | apply yO | apply yL | apply yT | apply yJ | refine yI ?_ NB0_213.out _ | refine yI ?_ NB0_223.out _) | exact HI0.out)) (by (with_reducible repeat (first | apply Kd.R_alloc | apply Kd.R_drewN | apply Kd.R_drew)); exact HO_c.out) (by decide)) hk (fun _ h => h.2)) (fun _ h => h.1))
       have n1_ := yM (KeepBut.blk hk (g' := gb213) (o := .cells #[.int .i64 0, .int .i64 0, .slice none 0 0] 32 (0, 0)) (by (with_reducible repeat (first | refine yN ?_ _ | refine yD ?_ | refine yA ?_ _)); exact BK213.out) NB213_0.out (by simp))
       have n2_ := yM (KeepBut.blk hk (g' := gb223) (o := .cells #[.int .i64 xa_1, .int .i64 xb_1, u224002] 32 (0, 0)) (by (with_reducible repeat (first | refine yN ?_ _ | refine yD ?_ | refine yA ?_ _)); exact BK223.out) NB223_0.out (by simp))
       have n3_ := yM (KeepBut.trans (by repeat (first | (with_reducible first | exact HK.out | apply yK | apply yQ | apply keep_drew | apply yR | refine yF ?_ GW213.out _ | refine yF ?_ GW223.out _) | exact HK.out)) hk (.inl rfl))
       have n4_ := yM (hb)
       have n5_ := yM (hi)
       clear HO_c
       clear BK213
       clear BK223
       clear HK
       clear HB
       clear HI0
       have HO_c := n0_
       have BK213 := n1_
       have BK223 := n2_
       have HK := n3_
       have HB := n4_
       have HI0 := n5_
       clear n0_ n1_ n2_ n3_ n4_ n5_
       (try clear hb)
       (try clear hb2)
       (try clear hk)
       (try clear hi)
       refine hK.out _ _ ⟨(blk_cell BK223.out 0).trans rfl, (blk_cell BK223.out 1).trans rfl, (blk_cell BK223.out 2).trans rfl⟩ (fun hHeld => ?_)
       clear hK K
       refine norm_ (a' := ?_) ?_ ?_
       rotate_left
       ·show Act.put _ (some 52) _ = _
        simp only [Act.put, setIfInBounds_toArray, set_cons_zero, set_cons_succ, i64_w, i32_w]
        rfl
       refine one_ (i := 4) (N := some 53) #[true, true, true, true, true, false, false, false] rfl rfl (one_of HT_.out (by kernel_rfl)) (by decide) (fun K hK => ?_)
       refine value_ (w1 := ?_) (v := ?_) (by rfl) rfl ?_ ?_
       rotate_left 2
       ·go_simp
        constructor
        ·rfl
        ·rfl
       refine hK.out _ _ ⟨(blk_cell (yA BK223.out _) 0).trans rfl, (blk_cell (yA BK223.out _) 1).trans rfl, (blk_cell (yA BK223.out _) 2).trans rfl⟩ (fun hHeld => ?_)
       clear hK K
       refine norm_ (a' := ?_) ?_ ?_
       rotate_left
       ·show Act.put _ (some 53) _ = _
        simp only [Act.put, setIfInBounds_toArray, set_cons_zero, set_cons_succ, i64_w, i32_w]
        rfl
       refine one_ (i := 5) (N := some 54) #[true, true, true, true, true, true, false, false] rfl rfl (one_of HT_.out (by kernel_rfl)) (by decide) (fun K hK => ?_)
       refine Kd.R_append_step k29 w.heap.size (by rfl) (.tmp 50) (.tmp 53) 30 29 (.agg #[(.int .i64 0), (.int .i64 0)]) 16 rfl Try.underlying30 info29 rfl (by decide) (by omega) u224002 xc_1 (⟨t245, t246⟩ : S29) [.int .i64 t245, .int .i64 t246] (fun _ => True) (fun _ => False) rfl rfl ?aP (fun _ hk => hk.elim) ?aF ?aO (Below.refl _ _) ?aS ?aL ?_
       (case aP => exact k29_mkM _ _ _ (⟨t245, t246⟩ : S29))
       (case aF => exact (fun _ _ => trivial))
       (case aO => exact (by (with_reducible repeat (first | apply Kd.R_alloc | apply Kd.R_drewN | apply Kd.R_drew)); exact HO_c.out))
       (case aS => exact (keep_size (w := w) (g := g) (row := none) (by repeat (first | (with_reducible first | exact HK.out | apply yK | apply yQ | apply keep_drew | apply yR | refine yF ?_ GW213.out _ | refine yF ?_ GW223.out _) | exact HK.out))))
       (case aL => have := LMc70.out; omega)
       intro v249 w74 ho hb hg hat
       rw [← Ny248.out] at ho
       have n0_ := yM (blk_grown (g := gb213) (o := .cells #[.int .i64 0, .int .i64 0, .slice none 0 0] 32 (0, 0)) (by (with_reducible repeat (first | refine yN ?_ _ | refine yD ?_ | refine yA ?_ _)); exact BK213.out) hg (Kd.R_ne HO_c.out BK213.out (by decide)))
       have n1_ := yM (blk_grown (g := gb223) (o := .cells #[.int .i64 xa_1, .int .i64 xb_1, u224002] 32 (0, 0)) (by (with_reducible repeat (first | refine yN ?_ _ | refine yD ?_ | refine yA ?_ _)); exact BK223.out) hg (Kd.R_ne HO_c.out BK223.out (by decide)))
       have n2_ := yM (IsS73.grown (by repeat (first | (with_reducible first | exact HI0.out | apply yO | apply yL | apply yT | apply yJ | refine yI ?_ NB0_213.out _ | refine yI ?_ NB0_223.out _) | exact HI0.out)) hg (IsS73.own_ne HI0.out HO_c.out (by decide)))
       have n3_ := yM (below_weaken (by repeat (first | (with_reducible first | exact HB.out | apply below_alloc | apply yP | apply below_drew1 | refine yS ?_ (IsS73.ge HI0.out) | refine yS ?_ GE213.out | refine yS ?_ GE223.out) | exact HB.out)) HL.out hb)
       have n4_ := yM (KeepBut.trans (by repeat (first | (with_reducible first | exact HK.out | apply yK | apply yQ | apply keep_drew | apply yR | refine yF ?_ GW213.out _ | refine yF ?_ GW223.out _) | exact HK.out)) (KeepBut.of_grown hg g) (Kd.R_base2 HO_c.out))
       have n5_ := yM (ho)
       clear BK213
       clear BK223
       clear HI0
       clear HB
       clear HK
       clear HO_c
       have BK213 := n0_
       have BK223 := n1_
       have HI0 := n2_
       have HB := n3_
       have HK := n4_
       have HO250 := n5_
       clear n0_ n1_ n2_ n3_ n4_ n5_
       clear ho hb hg hat
       obtain ⟨Ao75, co75, eo75⟩ := Kd.R_slice HO250.out
       (first | subst eo75 | (injection eo75 with f1_ f2_ f3_; have f4_ := f1_.symm; have f5_ := f3_.symm; clear f1_ f2_ f3_; subst f4_; subst f5_))
       refine hK.out _ _ ⟨(blk_cell BK223.out 0).trans rfl, (blk_cell BK223.out 1).trans rfl, (blk_cell BK223.out 2).trans rfl⟩ (fun hHeld => ?_)
       clear hK K
       refine norm_ (a' := ?_) ?_ ?_
       rotate_left
       ·show Act.put _ (some 54) _ = _
        simp only [Act.put, setIfInBounds_toArray, set_cons_zero, set_cons_succ, i64_w, i32_w]
        rfl
       refine pure_ (i := 6) (N := some 55) (v := ?_) (a' := ?_) #[true, true, true, true, true, true, true, false] rfl rfl (any_of HT_.out (by kernel_rfl)) (fun _ _ _ h => h) (Or.inl ⟨by rfl, ?_⟩) ?_ ?_
       rotate_left
       ·intro w'
        go_simp
        with_reducible rfl
       rotate_left
       ·simp only [Act.put, setIfInBounds_toArray, set_cons_zero, set_cons_succ, i64_w, i32_w]
        rfl
       refine last_ (i := 7) (N := none) #[true, true, true, true, true, true, true, true] rfl rfl (one_of HT_.out (by kernel_rfl)) (by decide) (fun K hK => ?_)
       have hs76 : w74.cell? ⟨gb223, 2, none⟩ = some (u224002) := (blk_cell BK223.out 2).trans rfl
       have hfs76 := blk_frozen BK223.out 2
       have hns76_0 := NB213_223.out
       have hms76_0 := NB223_213.out
       refine skip_ (w1 := ?_) (by rfl) rfl ?_ ?_
       rotate_left
       ·go_simp
        rfl
       refine hK.out _ _ ?_
       clear hK K
       refine done_ (done_of HT_.out (by kernel_rfl)) ?_
       have hnb77 := NB223_213.out
       have hnc77 := NB213_223.out
       have hnb78 := NB223_0.out
       have hnc78 := NB0_223.out
       have hcz79_0 : w74.cell? ⟨gb223, 0, none⟩ = some (.int .i64 xa_1) := (blk_cell BK223.out 0).trans rfl
       have hcz79_1 : w74.cell? ⟨gb223, 1, none⟩ = some (.int .i64 xb_1) := (blk_cell BK223.out 1).trans rfl
       have hcz79_2 : w74.cell? ⟨gb223, 2, none⟩ = some (u224002) := (blk_cell BK223.out 2).trans rfl
       have hfz79_0 := blk_frozen BK223.out 0
       have hfz79_1 := blk_frozen BK223.out 1
       have hfz79_2 := blk_frozen BK223.out 2
       have hnb80 := NB213_0.out
       have hnc80 := NB0_213.out
       have hcz81_0 : w74.cell? ⟨gb213, 0, none⟩ = some (.int .i64 0) := (blk_cell BK213.out 0).trans rfl
       have hcz81_1 : w74.cell? ⟨gb213, 1, none⟩ = some (.int .i64 0) := (blk_cell BK213.out 1).trans rfl
       have hcz81_2 : w74.cell? ⟨gb213, 2, none⟩ = some (.slice none 0 0) := (blk_cell BK213.out 2).trans rfl
       have hfz81_0 := blk_frozen BK213.out 0
       have hfz81_1 := blk_frozen BK213.out 1
       have hfz81_2 := blk_frozen BK213.out 2
       try go_wp2
       refine bodyPost_ret (results_cell_row rfl _ _ gb213 32 #[.int .i64 xa_1, .int .i64 xb_1, .slice Ao75 y248.length co75] (0, 0) _ rfl (by (with_reducible repeat (first | refine yN ?_ _ | refine yD ?_ | refine yA ?_ _)); refine blk_put (cs := #[.int .i64 xa_1, .int .i64 xb_1, .slice none 0 0]) ?_ 2 _ rfl; (with_reducible repeat (first | refine yN ?_ _ | refine yD ?_ | refine yA ?_ _)); refine blk_put (cs := #[.int .i64 xa_1, .int .i64 0, .slice none 0 0]) ?_ 1 _ rfl; (with_reducible repeat (first | refine yN ?_ _ | refine yD ?_ | refine yA ?_ _)); refine blk_put (cs := #[.int .i64 0, .int .i64 0, .slice none 0 0]) ?_ 0 _ rfl; (with_reducible repeat (first | refine yN ?_ _ | refine yD ?_ | refine yA ?_ _)); refine blk_far ?_ NB213_223.out _; (with_reducible repeat (first | refine yN ?_ _ | refine yD ?_ | refine yA ?_ _)); exact BK213.out) Try.underlying32 rfl (by kernel_rfl)) rfl ?_
       exact ⟨_, by first | rfl | (simp [errW_none, errW_some] <;> rfl) | (simp [*, errW_none, errW_some] <;> rfl), by (with_reducible repeat (first | apply Kd.R_alloc | apply Kd.R_drewN | apply Kd.R_drew)); exact Kd.R_mono (Kd.R_far (p := ⟨gb213, 2, none⟩) (Kd.R_far (p := ⟨gb213, 1, none⟩) (Kd.R_far (p := ⟨gb213, 0, none⟩) (Kd.R_far (p := ⟨gb223, 2, none⟩) (Kd.R_types (Kd.R_types HO250.out BK223.out (by decide)) BK213.out (by decide)) (fun _ hk => hk.1.2) (.slice Ao75 y248.length co75)) (fun _ hk => hk.2) (.int .i64 xa_1)) (fun _ hk => hk.2) (.int .i64 xb_1)) (fun _ hk => hk.2) (.slice Ao75 y248.length co75)) (fun _ hk => trivial), by repeat (first | (with_reducible first | exact HI0.out | apply yO | apply yL | apply yT | apply yJ | refine yI ?_ NB0_213.out _ | refine yI ?_ NB0_223.out _) | exact HI0.out), by repeat (first | (with_reducible first | exact HB.out | apply below_alloc | apply yP | apply below_drew1 | refine yS ?_ (IsS73.ge HI0.out) | refine yS ?_ GE213.out | refine yS ?_ GE223.out) | exact HB.out), by repeat (first | (with_reducible first | exact HK.out | apply yK | apply yQ | apply keep_drew | apply yR | refine yF ?_ GW213.out _ | refine yF ?_ GW223.out _) | exact HK.out)⟩
      ·rw [if_neg c70] at H
       exact absurd H (by simp)
     ·rw [if_neg c68] at H
      have c68b0 : (t239 == 1) = false := beq_eq_false_iff_ne.mpr c68
      have c68b1 : (t239 != 1) = true := bne_iff_ne.mpr c68
      simp only [Option.some.injEq, Prod.mk.injEq] at H
      obtain ⟨rfl, rfl, rfl, rfl⟩ := H
      go_wp2_with (first | ((with_reducible refine gate_callee (f := 43) rfl ?_); refine goesL_ (some 37) rfl rfl Try.func43 (by kernel_rfl) rfl #[.pointer (some ⟨g, 0, none⟩), .int .i64 30] rfl (by (try simp only [List.map_toArray, List.map_cons, List.map_nil]); first | done | rfl | (simp only [List.length_drop, List.length_take]; rfl)) ?_; (with_reducible refine (spec_l6Rd_pick.calls k1 g s0_0 x1001_1 30 t239 t240 w0 _ ?side1 ?side2 A55.out).mono ?_); (case side1 => repeat (first | (with_reducible first | exact HI0.out | apply yO | apply yL | apply yT | apply yJ | refine yI ?_ NB0_213.out _ | refine yI ?_ NB0_223.out _) | exact HI0.out)); (case side2 => repeat (first | (with_reducible first | exact HB.out | apply below_alloc | apply yP | apply below_drew1 | refine yS ?_ (IsS73.ge HI0.out) | refine yS ?_ GE213.out | refine yS ?_ GE223.out) | exact HB.out)); rintro e w82 ⟨rfl, hi, hb, hk⟩; refine ⟨_, rfl, ?_⟩; have n0_ := yM (Kd.R_mono (Kd.R_keep (IsS73.apart (show IsS73 w0 _ g s0_0 x1001_1 from by repeat (first | (with_reducible first | exact HI0.out | apply yO | apply yL | apply yT | apply yJ | refine yI ?_ NB0_213.out _ | refine yI ?_ NB0_223.out _) | exact HI0.out)) (by (with_reducible repeat (first | apply Kd.R_alloc | apply Kd.R_drewN | apply Kd.R_drew)); exact HO_c.out) (by decide)) hk (fun _ h => h.2)) (fun _ h => h.1)); have n1_ := yM (KeepBut.blk hk (g' := gb213) (o := .cells #[.int .i64 0, .int .i64 0, .slice none 0 0] 32 (0, 0)) (by (with_reducible repeat (first | refine yN ?_ _ | refine yD ?_ | refine yA ?_ _)); exact BK213.out) NB213_0.out (by simp)); have n2_ := yM (KeepBut.blk hk (g' := gb223) (o := .cells #[.int .i64 xa_1, .int .i64 xb_1, u224002] 32 (0, 0)) (by (with_reducible repeat (first | refine yN ?_ _ | refine yD ?_ | refine yA ?_ _)); exact BK223.out) NB223_0.out (by simp)); have n3_ := yM (KeepBut.trans (by repeat (first | (with_reducible first | exact HK.out | apply yK | apply yQ | apply keep_drew | apply yR | refine yF ?_ GW213.out _ | refine yF ?_ GW223.out _) | exact HK.out)) hk (.inl rfl)); have n4_ := yM (hb); have n5_ := yM (hi); clear HO_c; clear BK213; clear BK223; clear HK; clear HB; clear HI0; have HO_c := n0_; have BK213 := n1_; have BK223 := n2_; have HK := n3_; have HB := n4_; have HI0 := n5_; clear n0_ n1_ n2_ n3_ n4_ n5_; (try clear hb); (try clear hb2); (try clear hk); (try clear hi); have hnb83 := NB223_213.out; have hnc83 := NB213_223.out; have hnb84 := NB223_0.out; have hnc84 := NB0_223.out; have hcz85_0 : w82.cell? ⟨gb223, 0, none⟩ = some (.int .i64 xa_1) := (blk_cell BK223.out 0).trans rfl; have hcz85_1 : w82.cell? ⟨gb223, 1, none⟩ = some (.int .i64 xb_1) := (blk_cell BK223.out 1).trans rfl; have hcz85_2 : w82.cell? ⟨gb223, 2, none⟩ = some (u224002) := (blk_cell BK223.out 2).trans rfl; have hfz85_0 := blk_frozen BK223.out 0; have hfz85_1 := blk_frozen BK223.out 1; have hfz85_2 := blk_frozen BK223.out 2; have hnb86 := NB213_0.out; have hnc86 := NB0_213.out; have hcz87_0 : w82.cell? ⟨gb213, 0, none⟩ = some (.int .i64 0) := (blk_cell BK213.out 0).trans rfl; have hcz87_1 : w82.cell? ⟨gb213, 1, none⟩ = some (.int .i64 0) := (blk_cell BK213.out 1).trans rfl; have hcz87_2 : w82.cell? ⟨gb213, 2, none⟩ = some (.slice none 0 0) := (blk_cell BK213.out 2).trans rfl; have hfz87_0 := blk_frozen BK213.out 0; have hfz87_1 := blk_frozen BK213.out 1; have hfz87_2 := blk_frozen BK213.out 2; obtain ⟨Ao88, co88, eo88⟩ := Kd.R_slice HO_c.out; subst eo88))
      refine bodyPost_ret (results_cell_row rfl _ _ gb213 32 #[.int .i64 xa_1, .int .i64 xb_1, .slice Ao88 xc_1.length co88] (0, 0) _ rfl (by (with_reducible repeat (first | refine yN ?_ _ | refine yD ?_ | refine yA ?_ _)); refine blk_put (cs := #[.int .i64 xa_1, .int .i64 xb_1, .slice none 0 0]) ?_ 2 _ rfl; (with_reducible repeat (first | refine yN ?_ _ | refine yD ?_ | refine yA ?_ _)); refine blk_put (cs := #[.int .i64 xa_1, .int .i64 0, .slice none 0 0]) ?_ 1 _ rfl; (with_reducible repeat (first | refine yN ?_ _ | refine yD ?_ | refine yA ?_ _)); refine blk_put (cs := #[.int .i64 0, .int .i64 0, .slice none 0 0]) ?_ 0 _ rfl; (with_reducible repeat (first | refine yN ?_ _ | refine yD ?_ | refine yA ?_ _)); exact BK213.out) Try.underlying32 rfl (by kernel_rfl)) rfl ?_
      exact ⟨_, by first | rfl | (simp [errW_none, errW_some] <;> rfl) | (simp [*, errW_none, errW_some] <;> rfl), by (with_reducible repeat (first | apply Kd.R_alloc | apply Kd.R_drewN | apply Kd.R_drew)); exact Kd.R_mono (Kd.R_far (p := ⟨gb213, 2, none⟩) (Kd.R_far (p := ⟨gb213, 1, none⟩) (Kd.R_far (p := ⟨gb213, 0, none⟩) (Kd.R_types HO_c.out BK213.out (by decide)) (fun _ hk => hk.2) (.int .i64 xa_1)) (fun _ hk => hk.2) (.int .i64 xb_1)) (fun _ hk => hk.2) (.slice Ao88 xc_1.length co88)) (fun _ hk => trivial), by repeat (first | (with_reducible first | exact HI0.out | apply yO | apply yL | apply yT | apply yJ | refine yI ?_ NB0_213.out _ | refine yI ?_ NB0_223.out _) | exact HI0.out), by repeat (first | (with_reducible first | exact HB.out | apply below_alloc | apply yP | apply below_drew1 | refine yS ?_ (IsS73.ge HI0.out) | refine yS ?_ GE213.out | refine yS ?_ GE223.out) | exact HB.out), by repeat (first | (with_reducible first | exact HK.out | apply yK | apply yQ | apply keep_drew | apply yR | refine yF ?_ GW213.out _ | refine yF ?_ GW223.out _) | exact HK.out)⟩

end Go.Proofs.Ytncngkfgalokoaa.PLed
