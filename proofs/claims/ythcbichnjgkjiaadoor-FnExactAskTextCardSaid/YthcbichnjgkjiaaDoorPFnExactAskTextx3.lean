-- Written by a program of this session over the kit's printer, with contracts proved by hand; Lean checks it.
import Derived.Test.YthcbichnjgkjiaaDoorPFnExactAskTextx0
import Derived.Test.YthcbichnjgkjiaaDoorPFnExactAskTextx2
namespace Go.Proofs.YthcbichnjgkjiaaDoor.PFnExactAskText
open Go.RowKit Go.Proofs.YthcbichnjgkjiaaDoorW.PrintWords Go.Proofs.YthcbichnjgkjiaaDoorW.PrintLast Go.Proofs.YthcbichnjgkjiaaDoorW.PrintMore
attribute [local go_sem] max2_int min2_int max_two min_two max_three min_three max_four min_four   -- for this text's walks alone
set_option linter.unusedVariables false
set_option linter.unusedSimpArgs false

/-! ### impl_AskText: function 18 -/
-- The numbers of functions and types are those of the seat of the texts.
theorem run_index_row {P : Program} {t e : TypeId} {n : Nat} {d : TypeDesc} (hu : P.underlying t = some (.array n e)) (hs : (P.info? e).map (fun i => i.size) = some 1) (he : P.underlying e = some d) (hd : (match d with | .struct _ | .array _ _ => true | _ => false) = false) (cs : Array Value) (k : Nat) (hk : k < n) (v : Value) (hv : cs[k]? = some v) (w : World) :
    (Instr.index t (.agg cs) (.int .i64 (k : Int))).run P w = .ok v w := by
  have h0 : (0 : Int) ≤ (k : Int) ∧ (k : Int) < (n : Int) := by omega
  have hagg : (isAgg e).run P w = .ok false w := by
    unfold isAgg
    rw [Sem.run_bind, run_underlying he w]
    cases d <;> simp_all
  cases hq : P.info? e with
  | none => simp [hq] at hs
  | some i =>
    have hs1 : i.size = 1 := by simpa [hq] using hs
    simp [Instr.index, run_underlying hu, asIntOf, h0, go_sem, sizeOf, typeInfo, hq, hs1, hk, part, hagg, hv]
theorem f_four {w : World} {b : Nat} {p q r t : Value} {T : TypeId} {fr : Nat × Nat} (hb : w.heap[b]? = some (.cells #[p, q, r, t] T fr)) : w.cell? ⟨b, 0, none⟩ = some p ∧ w.cell? ⟨b, 1, none⟩ = some q ∧ w.cell? ⟨b, 2, none⟩ = some r ∧ w.cell? ⟨b, 3, none⟩ = some t := ⟨f_cell hb 0, f_cell hb 1, f_cell hb 2, f_cell hb 3⟩
theorem info9q : (Tryd.prog.info? 9).map (fun i => i.size) = some 1 := by kernel_rfl
theorem kindNames_calls (w : World) :
    Calls Tryd.prog 37 #[] w fun e w' => e = .returned (.agg #[.string ⟨#[]⟩, .string ⟨#[98, 105, 116]⟩, .string ⟨#[112, 105, 99, 107]⟩, .string ⟨#[110, 117, 109]⟩]) ∧ Below w.heap.size w w' := by
  go_enter Tryd.func37, Tryd.ntmps37
  go_wp2
  refine bodyPost_ret (results_cell_row rfl _ _ w.heap.size 53 #[.string ⟨#[]⟩, .string ⟨#[98, 105, 116]⟩, .string ⟨#[112, 105, 99, 107]⟩, .string ⟨#[110, 117, 109]⟩] (0, 0) _ rfl (f_new w _) Tryd.underlying53 rfl (by kernel_rfl)) rfl ?_
  exact ⟨rfl, (Below.refl _ w).alloc (Nat.le_refl _) _⟩
def word (kd : Int) : ByteArray := if kd = 1 then ⟨#[98, 105, 116]⟩ else if kd = 2 then ⟨#[112, 105, 99, 107]⟩ else ⟨#[110, 117, 109]⟩
def askTxt (kd need : Int) (s : ByteArray) : ByteArray := (((word kd ++ ⟨#[32]⟩) ++ ⟨(Lib.itoa need).toArray⟩) ++ ⟨#[32]⟩) ++ s
theorem ask_no (k : Nat) (kd need n d : Int) (w : World) (h : impl_AskOk.f k kd need n d = some false) :
    Calls Tryd.prog 18 #[.agg #[.int .i64 kd, .int .i64 need, .int .i64 n, .int .i64 d]] w fun e w' => e = .returned (.string ⟨#[]⟩) ∧ Below w.heap.size w w' := by
  have hb0 : Below w.heap.size w (w.alloc (.cells #[.int .i64 kd, .int .i64 need, .int .i64 n, .int .i64 d] 32)) := (Below.refl _ w).alloc (Nat.le_refl _) _
  have HB0 := Go.Lib.hid hb0
  have HH := Go.Lib.hid h
  clear hb0 h
  go_enter Tryd.func18, Tryd.ntmps18
  go_wp2_with (go_at_call 28; refine (impl_AskOk.calls k kd need n d false _ HH.out).mono ?_; rintro e w4 ⟨rfl, hb4⟩; have hbw := (show Below w.heap.size w w4 from below_then HB0.out (by simp) hb4))
  go_ret
  exact ⟨rfl, hbw⟩
set_option maxRecDepth 100000 in
set_option maxHeartbeats 4000000 in
theorem ask_yes1 (k : Nat) (need n d : Int) (s : ByteArray) (hs : s.size ≤ 100) (hneed : 0 ≤ need ∧ need ≤ 999) (w : World) (h : impl_AskOk.f k 1 need n d = some true) (hf : impl_FracText.f k n d = some s) (hE : Env w) :
    Calls Tryd.prog 18 #[.agg #[.int .i64 1, .int .i64 need, .int .i64 n, .int .i64 d]] w fun e w' => e = .returned (.string (askTxt 1 need s)) ∧ Below w.heap.size w w' := by
  have hb0 : Below w.heap.size w (w.alloc (.cells #[.int .i64 1, .int .i64 need, .int .i64 n, .int .i64 d] 32)) := (Below.refl _ w).alloc (Nat.le_refl _) _
  have hbx : (w.alloc (.cells #[.int .i64 1, .int .i64 need, .int .i64 n, .int .i64 d] 32)).heap[w.heap.size]? = some (.cells #[.int .i64 1, .int .i64 need, .int .i64 n, .int .i64 d] 32 (0, 0)) := f_new w _
  have hN := itoa_short need (by omega) (by omega)
  have hK := kindNames_calls
  have hI := fun (W : World) (h : Below w.heap.size w W) => itoa_calls need (by omega) (by omega) W (Env.below hE h)
  have hJ := fun (W : World) (h : Below w.heap.size w W) => impl_FracText.calls k n d s W hf (Env.below hE h)
  have eA : askTxt 1 need s = (((⟨#[98, 105, 116]⟩ ++ ⟨#[32]⟩) ++ ⟨(Lib.itoa need).toArray⟩) ++ ⟨#[32]⟩) ++ s := rfl
  rw [eA]
  have sN : (⟨(Lib.itoa need).toArray⟩ : ByteArray).size ≤ 5 := by simpa [ByteArray.size] using hN
  generalize (⟨(Lib.itoa need).toArray⟩ : ByteArray) = ti at *
  have sW : (⟨#[98, 105, 116]⟩ : ByteArray).size ≤ 4 := by decide
  generalize (⟨#[98, 105, 116]⟩ : ByteArray) = tb at *
  generalize (⟨#[112, 105, 99, 107]⟩ : ByteArray) = tp at *
  generalize (⟨#[110, 117, 109]⟩ : ByteArray) = tm at *
  have g1 : (9223372036854775807 < tb.size + 1) = False := eq_false (by omega)
  have g2 : (9223372036854775807 < tb.size + 1 + ti.size) = False := eq_false (by omega)
  have g3 : (9223372036854775807 < tb.size + 1 + ti.size + 1) = False := eq_false (by omega)
  have g4 : (9223372036854775807 < tb.size + 1 + ti.size + 1 + s.size) = False := eq_false (by omega)
  have hix : ∀ W : World, (Instr.index 53 (.agg #[.string ⟨#[]⟩, .string tb, .string tp, .string tm]) (.int .i64 1)).run Tryd.prog W = .ok (.string tb) W := fun W => run_index_row Tryd.underlying53 info9q Tryd.underlying9 rfl #[.string ⟨#[]⟩, .string tb, .string tp, .string tm] 1 (by decide) _ rfl W
  have HI := Go.Lib.hid hI
  have HJ := Go.Lib.hid hJ
  have HK := Go.Lib.hid hK
  have HB0 := Go.Lib.hid hb0
  have HBX := Go.Lib.hid hbx
  have HH := Go.Lib.hid h
  clear hE hb0 hI hJ hK hN sN sW hbx h hf eA hneed hs
  go_enter Tryd.func18, Tryd.ntmps18
  go_wp2_with (go_at_call 28; refine (impl_AskOk.calls k 1 need n d true _ HH.out).mono ?_; rintro e w4 ⟨rfl, hb4⟩; have hbw := (show Below w.heap.size w w4 from below_then HB0.out (by simp) hb4); have hb4' := (hb4.block w.heap.size (f_lt HBX.out)).trans HBX.out; obtain ⟨x0, x1, x2, x3⟩ := f_four hb4'; have HBW := Go.Lib.hid hbw; have HB4 := Go.Lib.hid hb4'; clear hb4 hbw hb4')
  go_region_held3 (fun w' => w'.cell? ⟨w.heap.size, 0, none⟩ = some (.int .i64 1) ∧ w'.cell? ⟨w.heap.size, 1, none⟩ = some (.int .i64 need) ∧ w'.cell? ⟨w.heap.size, 2, none⟩ = some (.int .i64 n) ∧ w'.cell? ⟨w.heap.size, 3, none⟩ = some (.int .i64 d)) (first | (refine ⟨?_, ?_, ?_, ?_⟩ <;> assumption) | go_keep) (first | (go_at_call 37; (with_reducible refine (HK.out _).mono ?_); rintro e w5 ⟨rfl, hb5⟩; have hbw := (show Below w.heap.size w w5 from below_then (by first | exact HBW.out | exact below_drew HBW.out | exact pw_below_drewN HBW.out _) (by have := HBW.out.size; simp; omega) hb5); have hb5' := (hb5.block w.heap.size (f_lt HB4.out)).trans HB4.out; obtain ⟨y0, y1, y2, y3⟩ := f_four hb5'; have HBV := Go.Lib.hid hbw; have HB5 := Go.Lib.hid hb5'; clear hb5 hbw hb5') | (go_at_call 38; (with_reducible refine (HI.out _ ?qb).mono ?_); (case qb => first | exact HBV.out | exact below_drew HBV.out | exact pw_below_drewN HBV.out _); rintro e w6 ⟨rfl, hb6⟩; have hbw := (show Below w.heap.size w w6 from below_then (by first | exact HBV.out | exact below_drew HBV.out | exact pw_below_drewN HBV.out _) (by have := HBV.out.size; simp; omega) hb6); have hb6' := (hb6.block w.heap.size (f_lt HB5.out)).trans HB5.out; obtain ⟨z0, z1, z2, z3⟩ := f_four hb6'; have HBU := Go.Lib.hid hbw; have HB6 := Go.Lib.hid hb6'; clear hb6 hbw hb6') | (go_at_call 15; (with_reducible refine (HJ.out _ ?qb).mono ?_); (case qb => first | exact HBU.out | exact below_drew HBU.out | exact pw_below_drewN HBU.out _); rintro e w7 ⟨rfl, hb7⟩; have hbw := (show Below w.heap.size w w7 from below_then (by first | exact HBU.out | exact below_drew HBU.out | exact pw_below_drewN HBU.out _) (by have := HBU.out.size; simp; omega) hb7); have HBT := Go.Lib.hid hbw; obtain ⟨u0, u1, u2, u3⟩ := f_four ((hb7.block w.heap.size (f_lt HB6.out)).trans HB6.out); clear hb7 hbw))
  all_goals go_wp2
  all_goals go_ret
  all_goals exact ⟨rfl, HBT.out⟩
set_option maxRecDepth 100000 in
set_option maxHeartbeats 4000000 in
theorem ask_yes2 (k : Nat) (need n d : Int) (s : ByteArray) (hs : s.size ≤ 100) (hneed : 0 ≤ need ∧ need ≤ 999) (w : World) (h : impl_AskOk.f k 2 need n d = some true) (hf : impl_FracText.f k n d = some s) (hE : Env w) :
    Calls Tryd.prog 18 #[.agg #[.int .i64 2, .int .i64 need, .int .i64 n, .int .i64 d]] w fun e w' => e = .returned (.string (askTxt 2 need s)) ∧ Below w.heap.size w w' := by
  have hb0 : Below w.heap.size w (w.alloc (.cells #[.int .i64 2, .int .i64 need, .int .i64 n, .int .i64 d] 32)) := (Below.refl _ w).alloc (Nat.le_refl _) _
  have hbx : (w.alloc (.cells #[.int .i64 2, .int .i64 need, .int .i64 n, .int .i64 d] 32)).heap[w.heap.size]? = some (.cells #[.int .i64 2, .int .i64 need, .int .i64 n, .int .i64 d] 32 (0, 0)) := f_new w _
  have hN := itoa_short need (by omega) (by omega)
  have hK := kindNames_calls
  have hI := fun (W : World) (h : Below w.heap.size w W) => itoa_calls need (by omega) (by omega) W (Env.below hE h)
  have hJ := fun (W : World) (h : Below w.heap.size w W) => impl_FracText.calls k n d s W hf (Env.below hE h)
  have eA : askTxt 2 need s = (((⟨#[112, 105, 99, 107]⟩ ++ ⟨#[32]⟩) ++ ⟨(Lib.itoa need).toArray⟩) ++ ⟨#[32]⟩) ++ s := rfl
  rw [eA]
  have sN : (⟨(Lib.itoa need).toArray⟩ : ByteArray).size ≤ 5 := by simpa [ByteArray.size] using hN
  generalize (⟨(Lib.itoa need).toArray⟩ : ByteArray) = ti at *
  have sW : (⟨#[112, 105, 99, 107]⟩ : ByteArray).size ≤ 4 := by decide
  generalize (⟨#[98, 105, 116]⟩ : ByteArray) = tb at *
  generalize (⟨#[112, 105, 99, 107]⟩ : ByteArray) = tp at *
  generalize (⟨#[110, 117, 109]⟩ : ByteArray) = tm at *
  have g1 : (9223372036854775807 < tp.size + 1) = False := eq_false (by omega)
  have g2 : (9223372036854775807 < tp.size + 1 + ti.size) = False := eq_false (by omega)
  have g3 : (9223372036854775807 < tp.size + 1 + ti.size + 1) = False := eq_false (by omega)
  have g4 : (9223372036854775807 < tp.size + 1 + ti.size + 1 + s.size) = False := eq_false (by omega)
  have hix : ∀ W : World, (Instr.index 53 (.agg #[.string ⟨#[]⟩, .string tb, .string tp, .string tm]) (.int .i64 2)).run Tryd.prog W = .ok (.string tp) W := fun W => run_index_row Tryd.underlying53 info9q Tryd.underlying9 rfl #[.string ⟨#[]⟩, .string tb, .string tp, .string tm] 2 (by decide) _ rfl W
  have HI := Go.Lib.hid hI
  have HJ := Go.Lib.hid hJ
  have HK := Go.Lib.hid hK
  have HB0 := Go.Lib.hid hb0
  have HBX := Go.Lib.hid hbx
  have HH := Go.Lib.hid h
  clear hE hb0 hI hJ hK hN sN sW hbx h hf eA hneed hs
  go_enter Tryd.func18, Tryd.ntmps18
  go_wp2_with (go_at_call 28; refine (impl_AskOk.calls k 2 need n d true _ HH.out).mono ?_; rintro e w4 ⟨rfl, hb4⟩; have hbw := (show Below w.heap.size w w4 from below_then HB0.out (by simp) hb4); have hb4' := (hb4.block w.heap.size (f_lt HBX.out)).trans HBX.out; obtain ⟨x0, x1, x2, x3⟩ := f_four hb4'; have HBW := Go.Lib.hid hbw; have HB4 := Go.Lib.hid hb4'; clear hb4 hbw hb4')
  go_region_held3 (fun w' => w'.cell? ⟨w.heap.size, 0, none⟩ = some (.int .i64 2) ∧ w'.cell? ⟨w.heap.size, 1, none⟩ = some (.int .i64 need) ∧ w'.cell? ⟨w.heap.size, 2, none⟩ = some (.int .i64 n) ∧ w'.cell? ⟨w.heap.size, 3, none⟩ = some (.int .i64 d)) (first | (refine ⟨?_, ?_, ?_, ?_⟩ <;> assumption) | go_keep) (first | (go_at_call 37; (with_reducible refine (HK.out _).mono ?_); rintro e w5 ⟨rfl, hb5⟩; have hbw := (show Below w.heap.size w w5 from below_then (by first | exact HBW.out | exact below_drew HBW.out | exact pw_below_drewN HBW.out _) (by have := HBW.out.size; simp; omega) hb5); have hb5' := (hb5.block w.heap.size (f_lt HB4.out)).trans HB4.out; obtain ⟨y0, y1, y2, y3⟩ := f_four hb5'; have HBV := Go.Lib.hid hbw; have HB5 := Go.Lib.hid hb5'; clear hb5 hbw hb5') | (go_at_call 38; (with_reducible refine (HI.out _ ?qb).mono ?_); (case qb => first | exact HBV.out | exact below_drew HBV.out | exact pw_below_drewN HBV.out _); rintro e w6 ⟨rfl, hb6⟩; have hbw := (show Below w.heap.size w w6 from below_then (by first | exact HBV.out | exact below_drew HBV.out | exact pw_below_drewN HBV.out _) (by have := HBV.out.size; simp; omega) hb6); have hb6' := (hb6.block w.heap.size (f_lt HB5.out)).trans HB5.out; obtain ⟨z0, z1, z2, z3⟩ := f_four hb6'; have HBU := Go.Lib.hid hbw; have HB6 := Go.Lib.hid hb6'; clear hb6 hbw hb6') | (go_at_call 15; (with_reducible refine (HJ.out _ ?qb).mono ?_); (case qb => first | exact HBU.out | exact below_drew HBU.out | exact pw_below_drewN HBU.out _); rintro e w7 ⟨rfl, hb7⟩; have hbw := (show Below w.heap.size w w7 from below_then (by first | exact HBU.out | exact below_drew HBU.out | exact pw_below_drewN HBU.out _) (by have := HBU.out.size; simp; omega) hb7); have HBT := Go.Lib.hid hbw; obtain ⟨u0, u1, u2, u3⟩ := f_four ((hb7.block w.heap.size (f_lt HB6.out)).trans HB6.out); clear hb7 hbw))
  all_goals go_wp2
  all_goals go_ret
  all_goals exact ⟨rfl, HBT.out⟩
set_option maxRecDepth 100000 in
set_option maxHeartbeats 4000000 in
theorem ask_yes3 (k : Nat) (need n d : Int) (s : ByteArray) (hs : s.size ≤ 100) (hneed : 0 ≤ need ∧ need ≤ 999) (w : World) (h : impl_AskOk.f k 3 need n d = some true) (hf : impl_FracText.f k n d = some s) (hE : Env w) :
    Calls Tryd.prog 18 #[.agg #[.int .i64 3, .int .i64 need, .int .i64 n, .int .i64 d]] w fun e w' => e = .returned (.string (askTxt 3 need s)) ∧ Below w.heap.size w w' := by
  have hb0 : Below w.heap.size w (w.alloc (.cells #[.int .i64 3, .int .i64 need, .int .i64 n, .int .i64 d] 32)) := (Below.refl _ w).alloc (Nat.le_refl _) _
  have hbx : (w.alloc (.cells #[.int .i64 3, .int .i64 need, .int .i64 n, .int .i64 d] 32)).heap[w.heap.size]? = some (.cells #[.int .i64 3, .int .i64 need, .int .i64 n, .int .i64 d] 32 (0, 0)) := f_new w _
  have hN := itoa_short need (by omega) (by omega)
  have hK := kindNames_calls
  have hI := fun (W : World) (h : Below w.heap.size w W) => itoa_calls need (by omega) (by omega) W (Env.below hE h)
  have hJ := fun (W : World) (h : Below w.heap.size w W) => impl_FracText.calls k n d s W hf (Env.below hE h)
  have eA : askTxt 3 need s = (((⟨#[110, 117, 109]⟩ ++ ⟨#[32]⟩) ++ ⟨(Lib.itoa need).toArray⟩) ++ ⟨#[32]⟩) ++ s := rfl
  rw [eA]
  have sN : (⟨(Lib.itoa need).toArray⟩ : ByteArray).size ≤ 5 := by simpa [ByteArray.size] using hN
  generalize (⟨(Lib.itoa need).toArray⟩ : ByteArray) = ti at *
  have sW : (⟨#[110, 117, 109]⟩ : ByteArray).size ≤ 4 := by decide
  generalize (⟨#[98, 105, 116]⟩ : ByteArray) = tb at *
  generalize (⟨#[112, 105, 99, 107]⟩ : ByteArray) = tp at *
  generalize (⟨#[110, 117, 109]⟩ : ByteArray) = tm at *
  have g1 : (9223372036854775807 < tm.size + 1) = False := eq_false (by omega)
  have g2 : (9223372036854775807 < tm.size + 1 + ti.size) = False := eq_false (by omega)
  have g3 : (9223372036854775807 < tm.size + 1 + ti.size + 1) = False := eq_false (by omega)
  have g4 : (9223372036854775807 < tm.size + 1 + ti.size + 1 + s.size) = False := eq_false (by omega)
  have hix : ∀ W : World, (Instr.index 53 (.agg #[.string ⟨#[]⟩, .string tb, .string tp, .string tm]) (.int .i64 3)).run Tryd.prog W = .ok (.string tm) W := fun W => run_index_row Tryd.underlying53 info9q Tryd.underlying9 rfl #[.string ⟨#[]⟩, .string tb, .string tp, .string tm] 3 (by decide) _ rfl W
  have HI := Go.Lib.hid hI
  have HJ := Go.Lib.hid hJ
  have HK := Go.Lib.hid hK
  have HB0 := Go.Lib.hid hb0
  have HBX := Go.Lib.hid hbx
  have HH := Go.Lib.hid h
  clear hE hb0 hI hJ hK hN sN sW hbx h hf eA hneed hs
  go_enter Tryd.func18, Tryd.ntmps18
  go_wp2_with (go_at_call 28; refine (impl_AskOk.calls k 3 need n d true _ HH.out).mono ?_; rintro e w4 ⟨rfl, hb4⟩; have hbw := (show Below w.heap.size w w4 from below_then HB0.out (by simp) hb4); have hb4' := (hb4.block w.heap.size (f_lt HBX.out)).trans HBX.out; obtain ⟨x0, x1, x2, x3⟩ := f_four hb4'; have HBW := Go.Lib.hid hbw; have HB4 := Go.Lib.hid hb4'; clear hb4 hbw hb4')
  go_region_held3 (fun w' => w'.cell? ⟨w.heap.size, 0, none⟩ = some (.int .i64 3) ∧ w'.cell? ⟨w.heap.size, 1, none⟩ = some (.int .i64 need) ∧ w'.cell? ⟨w.heap.size, 2, none⟩ = some (.int .i64 n) ∧ w'.cell? ⟨w.heap.size, 3, none⟩ = some (.int .i64 d)) (first | (refine ⟨?_, ?_, ?_, ?_⟩ <;> assumption) | go_keep) (first | (go_at_call 37; (with_reducible refine (HK.out _).mono ?_); rintro e w5 ⟨rfl, hb5⟩; have hbw := (show Below w.heap.size w w5 from below_then (by first | exact HBW.out | exact below_drew HBW.out | exact pw_below_drewN HBW.out _) (by have := HBW.out.size; simp; omega) hb5); have hb5' := (hb5.block w.heap.size (f_lt HB4.out)).trans HB4.out; obtain ⟨y0, y1, y2, y3⟩ := f_four hb5'; have HBV := Go.Lib.hid hbw; have HB5 := Go.Lib.hid hb5'; clear hb5 hbw hb5') | (go_at_call 38; (with_reducible refine (HI.out _ ?qb).mono ?_); (case qb => first | exact HBV.out | exact below_drew HBV.out | exact pw_below_drewN HBV.out _); rintro e w6 ⟨rfl, hb6⟩; have hbw := (show Below w.heap.size w w6 from below_then (by first | exact HBV.out | exact below_drew HBV.out | exact pw_below_drewN HBV.out _) (by have := HBV.out.size; simp; omega) hb6); have hb6' := (hb6.block w.heap.size (f_lt HB5.out)).trans HB5.out; obtain ⟨z0, z1, z2, z3⟩ := f_four hb6'; have HBU := Go.Lib.hid hbw; have HB6 := Go.Lib.hid hb6'; clear hb6 hbw hb6') | (go_at_call 15; (with_reducible refine (HJ.out _ ?qb).mono ?_); (case qb => first | exact HBU.out | exact below_drew HBU.out | exact pw_below_drewN HBU.out _); rintro e w7 ⟨rfl, hb7⟩; have hbw := (show Below w.heap.size w w7 from below_then (by first | exact HBU.out | exact below_drew HBU.out | exact pw_below_drewN HBU.out _) (by have := HBU.out.size; simp; omega) hb7); have HBT := Go.Lib.hid hbw; obtain ⟨u0, u1, u2, u3⟩ := f_four ((hb7.block w.heap.size (f_lt HB6.out)).trans HB6.out); clear hb7 hbw))
  all_goals go_wp2
  all_goals go_ret
  all_goals exact ⟨rfl, HBT.out⟩
def impl_AskText.f (k : Nat) (a0_0 a0_1 a0_2 a0_3 : Int) : Option ByteArray := (impl_AskOk.f k a0_0 a0_1 a0_2 a0_3).bind fun t => if t = true then ((impl_FracText.f k a0_2 a0_3).bind fun s => if 1 ≤ a0_0 ∧ a0_0 ≤ 3 ∧ 0 ≤ a0_1 ∧ a0_1 ≤ 999 ∧ s.size ≤ 100 then some (askTxt a0_0 a0_1 s) else none) else some ⟨#[]⟩
theorem impl_AskText.mono : ∀ a0 a1 a2 a3 k, LeO (impl_AskText.f k a0 a1 a2 a3) (impl_AskText.f (k + 1) a0 a1 a2 a3) := by
  intro a0 a1 a2 a3 k
  unfold impl_AskText.f
  exact LeO.bind (impl_AskOk.mono _ _ _ _ _) (fun t => LeO.ite (LeO.bind (impl_FracText.mono _ _ _) (fun _ => LeO.refl _)) (LeO.refl _))
theorem impl_AskText.calls (k : Nat) (a0_0 : Int) (a0_1 : Int) (a0_2 : Int) (a0_3 : Int) (r : ByteArray) (w : World) (h : impl_AskText.f k a0_0 a0_1 a0_2 a0_3 = some r) (hE : Env w) :
    Calls Tryd.prog 18 #[.agg #[.int .i64 a0_0, .int .i64 a0_1, .int .i64 a0_2, .int .i64 a0_3]] w fun e w' => e = .returned (.string r) ∧ Below w.heap.size w w' := by
  unfold impl_AskText.f at h
  obtain ⟨t, ht, h⟩ := Option.bind_eq_some_iff.1 h
  cases t
  · obtain rfl : (⟨#[]⟩ : ByteArray) = r := by simpa using h
    exact ask_no k a0_0 a0_1 a0_2 a0_3 w ht
  · rw [if_pos rfl] at h
    obtain ⟨s, hs, h⟩ := Option.bind_eq_some_iff.1 h
    split at h
    · rename_i hb
      obtain rfl := Option.some.inj h
      have h3 : a0_0 = 1 ∨ a0_0 = 2 ∨ a0_0 = 3 := by omega
      rcases h3 with rfl | rfl | rfl
      · exact ask_yes1 k a0_1 a0_2 a0_3 s hb.2.2.2.2 ⟨hb.2.2.1, hb.2.2.2.1⟩ w ht hs hE
      · exact ask_yes2 k a0_1 a0_2 a0_3 s hb.2.2.2.2 ⟨hb.2.2.1, hb.2.2.2.1⟩ w ht hs hE
      · exact ask_yes3 k a0_1 a0_2 a0_3 s hb.2.2.2.2 ⟨hb.2.2.1, hb.2.2.2.1⟩ w ht hs hE
    · cases h

/-! ### laws_FnExactAskText: function 4 -/
def laws_FnExactAskText.f (k : Nat) (a0_0 : Int) (a0_1 : Int) (a0_2 : Int) (a0_3 : Int) : Option (Bool) := (laws_toAsk.f a0_0 a0_1 a0_2 a0_3).bind fun bt149 => ((spec_AskText.f k bt149.1 bt149.2.1 bt149.2.2.1 bt149.2.2.2).bind fun t153 => ((laws_toAsk.f a0_0 a0_1 a0_2 a0_3).bind fun bt154 => ((impl_AskText.f k bt154.1 bt154.2.1 bt154.2.2.1 bt154.2.2.2).bind fun t158 => (if t158.toList = t153.toList then (some true) else (some false)))))
theorem laws_FnExactAskText.mono : ∀ a0 a1 a2 a3 k, LeO (laws_FnExactAskText.f k a0 a1 a2 a3) (laws_FnExactAskText.f (k + 1) a0 a1 a2 a3) := by
  intro a0 a1 a2 a3 k
  unfold laws_FnExactAskText.f
  repeat' first
      | (with_reducible exact impl_AskText.mono _ _ _ _ _)
      | (with_reducible exact spec_AskText.mono _ _ _ _ _)
      | (with_reducible exact LeO.refl _)
      | (with_reducible exact LeO.none _)
      | (with_reducible refine LeO.ite ?_ ?_)
      | (with_reducible refine LeO.bind ?_ (fun _ => ?_))
      | exact impl_AskText.mono _ _ _ _ _
      | exact spec_AskText.mono _ _ _ _ _
      | exact LeO.none _
      | refine LeO.ite ?_ ?_
      | refine LeO.bind ?_ (fun _ => ?_)
set_option maxHeartbeats 8000000 in
set_option maxRecDepth 100000 in
theorem laws_FnExactAskText.calls (k : Nat) (a0_0 : Int) (a0_1 : Int) (a0_2 : Int) (a0_3 : Int) (r : Bool) (w : World) (h : laws_FnExactAskText.f k a0_0 a0_1 a0_2 a0_3 = some r) (hrt : r = true) (hE : Env w) :
    Calls Tryd.prog 4 #[.agg #[.int .i64 a0_0, .int .i64 a0_1, .int .i64 a0_2, .int .i64 a0_3]] w fun e w' => e = .returned (.bool r) ∧ Below w.heap.size w w' := by
  have HENV := Aside0.mk hE
  clear hE
  have HRT := Aside0.mk hrt
  clear hrt
  have hu29 := Tryd.underlying29
  have HB := Aside0.mk (Below.refl w.heap.size w)
  have H : ((laws_toAsk.f a0_0 a0_1 a0_2 a0_3).bind fun bt149 => ((spec_AskText.f k bt149.1 bt149.2.1 bt149.2.2.1 bt149.2.2.2).bind fun t153 => ((laws_toAsk.f a0_0 a0_1 a0_2 a0_3).bind fun bt154 => ((impl_AskText.f k bt154.1 bt154.2.1 bt154.2.2.1 bt154.2.2.2).bind fun t158 => (if t158.toList = t153.toList then (some true) else (some false)))))) = some r := h
  clear h
  replace H := Option.bind_eq_some_iff.mp H
  obtain ⟨⟨t149, t150, t151, t152⟩, A20, H⟩ := H
  replace H : ((spec_AskText.f k t149 t150 t151 t152).bind fun t153 => ((laws_toAsk.f a0_0 a0_1 a0_2 a0_3).bind fun bt154 => ((impl_AskText.f k bt154.1 bt154.2.1 bt154.2.2.1 bt154.2.2.2).bind fun t158 => (if t158.toList = t153.toList then (some true) else (some false))))) = some r := H
  have A2 := Aside0.mk A20
  clear A20
  replace H := Option.bind_eq_some_iff.mp H
  obtain ⟨t153, A30, H⟩ := H
  replace H : ((laws_toAsk.f a0_0 a0_1 a0_2 a0_3).bind fun bt154 => ((impl_AskText.f k bt154.1 bt154.2.1 bt154.2.2.1 bt154.2.2.2).bind fun t158 => (if t158.toList = t153.toList then (some true) else (some false)))) = some r := H
  have A3 := Aside0.mk A30
  clear A30
  replace H := Option.bind_eq_some_iff.mp H
  obtain ⟨⟨t154, t155, t156, t157⟩, A40, H⟩ := H
  replace H : ((impl_AskText.f k t154 t155 t156 t157).bind fun t158 => (if t158.toList = t153.toList then (some true) else (some false))) = some r := H
  have A4 := Aside0.mk A40
  clear A40
  replace H := Option.bind_eq_some_iff.mp H
  obtain ⟨t158, A50, H⟩ := H
  replace H : (if t158.toList = t153.toList then (some true) else (some false)) = some r := H
  have A5 := Aside0.mk A50
  clear A50
  by_cases c6 : t158.toList = t153.toList
  · rw [if_pos c6] at H
    have c6b0 : (t158.toList == t153.toList) = true := beq_iff_eq.mpr c6
    have c6b1 : (t158.toList != t153.toList) = false := bne_eq_false_iff_eq.mpr c6
    clear c6
    obtain rfl := Option.some.inj H
    go_enter Tryd.func4, Tryd.ntmps4
    go_wp2_with (first | ((with_reducible refine gate_dst (N := 1) rfl ?_); refine box_event ?hg (N := 1) ?hd (cs := #[.int .i64 a0_0, .int .i64 a0_1, .int .i64 a0_2, .int .i64 a0_3]) (t := 29) ?hr ?_; (case hd => rfl); (case hg => rfl); (case hr => first | (go_simp; done) | (go_simp; rfl)); intro gb148 hg w7 hbox hb; have n0_ := Aside0.mk (below_step (by repeat (first | (with_reducible first | exact HB.out | apply below_alloc | apply pw_below_drewN | apply below_drew1) | exact HB.out)) hb); have n1_ := Aside0.mk (hbox); have n2_ := Aside0.mk ((by rw [hg]; exact (below_size (by repeat (first | (with_reducible first | exact HB.out | apply below_alloc | apply pw_below_drewN | apply below_drew1) | exact HB.out))) : w.heap.size ≤ gb148)); have n3_ := Aside0.mk ((by rw [hg]; exact (below_size (by repeat (first | (with_reducible first | exact HB.out | apply below_alloc | apply pw_below_drewN | apply below_drew1) | exact HB.out))) : w.heap.size ≤ gb148)); clear HB; have HB := n0_; have BK148 := n1_; have GW148 := n2_; have GE148 := n3_; clear n0_ n1_ n2_ n3_; clear hb hbox hg; have hcz8_0 : w7.cell? ⟨gb148, 0, none⟩ = some (.int .i64 a0_0) := (blk_cell BK148.out 0).trans rfl; have hcz8_1 : w7.cell? ⟨gb148, 1, none⟩ = some (.int .i64 a0_1) := (blk_cell BK148.out 1).trans rfl; have hcz8_2 : w7.cell? ⟨gb148, 2, none⟩ = some (.int .i64 a0_2) := (blk_cell BK148.out 2).trans rfl; have hcz8_3 : w7.cell? ⟨gb148, 3, none⟩ = some (.int .i64 a0_3) := (blk_cell BK148.out 3).trans rfl; have hfz8_0 := blk_frozen BK148.out 0; have hfz8_1 := blk_frozen BK148.out 1; have hfz8_2 := blk_frozen BK148.out 2; have hfz8_3 := blk_frozen BK148.out 3) | ((with_reducible refine gate_callee (f := 17) rfl ?_); refine goesL_ (some 6) rfl rfl Tryd.func17 (by kernel_rfl) rfl #[.agg #[.int .i64 a0_0, .int .i64 a0_1, .int .i64 a0_2, .int .i64 a0_3]] rfl (by (try simp only [List.map_toArray, List.map_cons, List.map_nil]); first | done | rfl | (simp only [List.length_drop, List.length_take]; rfl)) ?_; (with_reducible refine (laws_toAsk.calls a0_0 a0_1 a0_2 a0_3 t149 t150 t151 t152 _ A2.out).mono ?_); clear A2; rintro e w9 ⟨rfl, hb⟩; refine ⟨_, rfl, ?_⟩; have n0_ := Aside0.mk (blk_below (g := gb148) (o := .cells #[.int .i64 a0_0, .int .i64 a0_1, .int .i64 a0_2, .int .i64 a0_3] 29 (0, 0)) (by (with_reducible repeat (first | refine blk_drewN ?_ _ | refine blk_drew ?_ | refine blk_alloc ?_ _)); exact BK148.out) hb); have n1_ := Aside0.mk (below_step (by repeat (first | (with_reducible first | exact HB.out | apply below_alloc | apply pw_below_drewN | apply below_drew1 | refine below_set ?_ GE148.out) | exact HB.out)) hb); clear BK148; clear HB; have BK148 := n0_; have HB := n1_; clear n0_ n1_; (try clear hb); (try clear hb2); (try clear hk); (try clear hi)) | ((with_reducible refine gate_callee (f := 16) rfl ?_); refine goesL_ (some 7) rfl rfl Tryd.func16 (by kernel_rfl) rfl #[.agg #[.int .i64 t149, .int .i64 t150, .int .i64 t151, .int .i64 t152]] rfl (by (try simp only [List.map_toArray, List.map_cons, List.map_nil]); first | done | rfl | (simp only [List.length_drop, List.length_take]; rfl)) ?_; (with_reducible refine (spec_AskText.calls k t149 t150 t151 t152 t153 _ A3.out).mono ?_); rintro e w10 ⟨rfl, hb⟩; refine ⟨_, rfl, ?_⟩; have n0_ := Aside0.mk (blk_below (g := gb148) (o := .cells #[.int .i64 a0_0, .int .i64 a0_1, .int .i64 a0_2, .int .i64 a0_3] 29 (0, 0)) (by (with_reducible repeat (first | refine blk_drewN ?_ _ | refine blk_drew ?_ | refine blk_alloc ?_ _)); exact BK148.out) hb); have n1_ := Aside0.mk (below_step (by repeat (first | (with_reducible first | exact HB.out | apply below_alloc | apply pw_below_drewN | apply below_drew1 | refine below_set ?_ GE148.out) | exact HB.out)) hb); clear BK148; clear HB; have BK148 := n0_; have HB := n1_; clear n0_ n1_; (try clear hb); (try clear hb2); (try clear hk); (try clear hi); have hcz11_0 : w10.cell? ⟨gb148, 0, none⟩ = some (.int .i64 a0_0) := (blk_cell BK148.out 0).trans rfl; have hcz11_1 : w10.cell? ⟨gb148, 1, none⟩ = some (.int .i64 a0_1) := (blk_cell BK148.out 1).trans rfl; have hcz11_2 : w10.cell? ⟨gb148, 2, none⟩ = some (.int .i64 a0_2) := (blk_cell BK148.out 2).trans rfl; have hcz11_3 : w10.cell? ⟨gb148, 3, none⟩ = some (.int .i64 a0_3) := (blk_cell BK148.out 3).trans rfl; have hfz11_0 := blk_frozen BK148.out 0; have hfz11_1 := blk_frozen BK148.out 1; have hfz11_2 := blk_frozen BK148.out 2; have hfz11_3 := blk_frozen BK148.out 3) | ((with_reducible refine gate_callee (f := 17) rfl ?_); refine goesL_ (some 9) rfl rfl Tryd.func17 (by kernel_rfl) rfl #[.agg #[.int .i64 a0_0, .int .i64 a0_1, .int .i64 a0_2, .int .i64 a0_3]] rfl (by (try simp only [List.map_toArray, List.map_cons, List.map_nil]); first | done | rfl | (simp only [List.length_drop, List.length_take]; rfl)) ?_; (with_reducible refine (laws_toAsk.calls a0_0 a0_1 a0_2 a0_3 t154 t155 t156 t157 _ A4.out).mono ?_); clear A4; rintro e w12 ⟨rfl, hb⟩; refine ⟨_, rfl, ?_⟩; have n0_ := Aside0.mk (blk_below (g := gb148) (o := .cells #[.int .i64 a0_0, .int .i64 a0_1, .int .i64 a0_2, .int .i64 a0_3] 29 (0, 0)) (by (with_reducible repeat (first | refine blk_drewN ?_ _ | refine blk_drew ?_ | refine blk_alloc ?_ _)); exact BK148.out) hb); have n1_ := Aside0.mk (below_step (by repeat (first | (with_reducible first | exact HB.out | apply below_alloc | apply pw_below_drewN | apply below_drew1 | refine below_set ?_ GE148.out) | exact HB.out)) hb); clear BK148; clear HB; have BK148 := n0_; have HB := n1_; clear n0_ n1_; (try clear hb); (try clear hb2); (try clear hk); (try clear hi)) | ((with_reducible refine gate_callee (f := 18) rfl ?_); refine goesL_ (some 10) rfl rfl Tryd.func18 (by kernel_rfl) rfl #[.agg #[.int .i64 t154, .int .i64 t155, .int .i64 t156, .int .i64 t157]] rfl (by (try simp only [List.map_toArray, List.map_cons, List.map_nil]); first | done | rfl | (simp only [List.length_drop, List.length_take]; rfl)) ?_; (with_reducible refine (impl_AskText.calls k t154 t155 t156 t157 t158 _ A5.out (Env.below HENV.out (by repeat (first | (with_reducible first | exact HB.out | apply below_alloc | apply pw_below_drewN | apply below_drew1 | refine below_set ?_ GE148.out) | exact HB.out)))).mono ?_); rintro e w13 ⟨rfl, hb⟩; refine ⟨_, rfl, ?_⟩; have n0_ := Aside0.mk (blk_below (g := gb148) (o := .cells #[.int .i64 a0_0, .int .i64 a0_1, .int .i64 a0_2, .int .i64 a0_3] 29 (0, 0)) (by (with_reducible repeat (first | refine blk_drewN ?_ _ | refine blk_drew ?_ | refine blk_alloc ?_ _)); exact BK148.out) hb); have n1_ := Aside0.mk (below_step (by repeat (first | (with_reducible first | exact HB.out | apply below_alloc | apply pw_below_drewN | apply below_drew1 | refine below_set ?_ GE148.out) | exact HB.out)) hb); clear BK148; clear HB; have BK148 := n0_; have HB := n1_; clear n0_ n1_; (try clear hb); (try clear hb2); (try clear hk); (try clear hi)))
    go_ret
    exact ⟨by first | rfl | (simp [errW_none, errW_some] <;> rfl) | (simp [*, errW_none, errW_some] <;> rfl), by repeat (first | (with_reducible first | exact HB.out | apply below_alloc | apply pw_below_drewN | apply below_drew1 | refine below_set ?_ GE148.out) | exact HB.out)⟩
  · rw [if_neg c6] at H
    have c6b0 : (t158.toList == t153.toList) = false := beq_eq_false_iff_ne.mpr c6
    have c6b1 : (t158.toList != t153.toList) = true := bne_iff_ne.mpr c6
    exact absurd (Option.some.inj (H.trans (congrArg some HRT.out))) (by decide)

end Go.Proofs.YthcbichnjgkjiaaDoor.PFnExactAskText
