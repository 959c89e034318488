-- The walk of FnLedgerForm, by hand over the printed contracts.
import Derived.Test.YtncngkfgalokoaaPLedx5
import Derived.Test.YtncngkfgalokoaaPLedx9
import Derived.Deep.RegionHeld3
namespace Go.Proofs.Ytncngkfgalokoaa.PLed
open Go.RowKit Go.Proofs.YtncngkfgalokoaaW.PrintWords Go.Proofs.YtncngkfgalokoaaW.PrintLast Go.Proofs.YtncngkfgalokoaaW.PrintMore
set_option linter.unusedVariables false
set_option linter.unusedSimpArgs false
/-! ### laws_FnLedgerForm: function 4 -/
theorem fm_cut (t e : TypeId) (kh : IntKind) {i : TypeInfo} (ht : Try.prog.underlying t = some (.slice e)) (hi : Try.prog.info? e = some i) (A : Option Addr) (n c : Nat) (j : Int) (h0 : 0 ≤ j) (hm : j ≤ n) (hc : n ≤ c) :
    ∀ W : World, (Instr.slice t (.slice A n c) none (some (.int kh j)) none).run Try.prog W = .ok (.slice A j.toNat c) W := by
  intro W
  have hel : Try.prog.elem t = e := by simp [Program.elem, ht]
  have hu : Try.prog.underlying t = some (.slice (Try.prog.elem t)) := by rw [hel]; exact ht
  have ha : (A.map fun x => x.add 0) = A := by cases A <;> simp [Addr.add]
  rw [run_slice_h W t A n c hu kh j h0 (by omega), hel]
  simp [sizeOf, typeInfo, hi, sliced, Result.andThen, ha]
theorem fm_take {w : World} {A : Option Addr} {xs : List S29} {m : Nat} (h : Kd.C k29 w A xs.length xs) (hm : m ≤ xs.length) : Kd.C k29 w A (xs.take m).length (xs.take m) := by
  have hl : (xs.take m).length = m := by rw [List.length_take]; omega
  refine ⟨rfl, by rw [hl]; have := h.2.1; omega, fun hp => ?_⟩
  obtain ⟨ad, e, hc⟩ := h.2.2 (by omega)
  refine ⟨ad, e, fun j p hj => hc j p ?_⟩
  rw [List.getElem?_take] at hj
  split at hj
  · exact hj
  · cases hj
theorem fm_cell {w : World} {b : Nat} {cs : Array Value} {T : TypeId} {fr : Nat × Nat} (hb : w.heap[b]? = some (.cells cs T fr)) (j : Nat) : w.cell? ⟨b, j, none⟩ = cs[j]? := by simp [World.cell?, hb]
theorem fm_three {w : World} {b : Nat} {p q r : Value} {T : TypeId} {fr : Nat × Nat} (hb : w.heap[b]? = some (.cells #[p, q, r] T fr)) : w.cell? ⟨b, 0, none⟩ = some p ∧ w.cell? ⟨b, 1, none⟩ = some q ∧ w.cell? ⟨b, 2, none⟩ = some r := ⟨fm_cell hb 0, fm_cell hb 1, fm_cell hb 2⟩
theorem fm_new (w : World) (A : Obj) : (w.alloc A).heap[w.heap.size]? = some A := by
  show (w.heap.push _)[w.heap.size]? = _
  rw [Array.getElem?_push, if_pos rfl]
theorem fm_lt {w : World} {g : Nat} {o : Obj} (hg : w.heap[g]? = some o) : g < w.heap.size := (Array.getElem?_eq_some_iff.1 hg).1
theorem fm_big (A : Option Addr) (c : Nat) (l : List Int) (w : World) (hl : (1048576 : Int) < (l.length : Int)) :
    Calls Try.prog 4 #[.slice A l.length c] w fun e w' => e = .returned (.bool true) ∧ Below w.heap.size w w' := by
  go_enter Try.func4, Try.ntmps4
  go_wp2
  go_ret
  exact ⟨rfl, Below.refl _ _⟩
/-- The drawn ledger lies in a box at L. -/
structure FBox (w : World) (L : Nat) (a b : Int) (A : Option Addr) (c : Nat) (l : List S29) (W : World) : Prop where
  bx : W.heap[L]? = some (.cells #[.int .i64 a, .int .i64 b, .slice A l.length c] 32 (0, 0))
  C : Kd.C k29 W A l.length l
  bel : Below w.heap.size w W
theorem FBox.step {w W W' : World} {L : Nat} {a b : Int} {A : Option Addr} {c : Nat} {l : List S29} (h : FBox w L a b A c l W) (hb : Below W.heap.size W W') : FBox w L a b A c l W' :=
  ⟨(hb.block _ (fm_lt h.bx)).trans h.bx, Kd.C_below h.C hb, h.bel.trans (hb.mono h.bel.size)⟩
theorem fm_short (k : Nat) (A0 : Option Addr) (c0 : Nat) (l0 : List Int) (a b : Int) (l : List S29) (o : Bool) (w : World) (hr : Kd.C (Kd.int .u8) w A0 l0.length l0) (hc : l0.length ≤ c0) (hl : ¬ (1048576 : Int) < (l0.length : Int)) (hd : spec_DrawLedgerOk.f k l0 = some (a, b, l)) (h1 : impl_LedgerOk.f k a b l = some o) (h2 : spec_LedgerOk.f k a b l = some o) (hs : o = false ∨ l = []) :
    Calls Try.prog 4 #[.slice A0 l0.length c0] w fun e w' => e = .returned (.bool true) ∧ Below w.heap.size w w' := by
  have HR := Go.Lib.hid hr
  have HC := Go.Lib.hid hc
  have HD := Go.Lib.hid hd
  have H1 := Go.Lib.hid h1
  have H2 := Go.Lib.hid h2
  clear hr hc hd h1 h2
  rcases hs with rfl | rfl
  · go_enter Try.func4, Try.ntmps4
    go_wp2_with (first | (go_at_call 19; refine (spec_DrawLedgerOk.calls k A0 c0 l0 a b l _ HR.out HC.out HD.out).mono ?_; rintro e w4 ⟨v2, rfl, hR, hb4⟩; obtain ⟨A, c, rfl, hle, hC⟩ := Kd.R_reads hR; have HF := Go.Lib.hid (FBox.mk (w := w) (L := w4.heap.size) (a := a) (b := b) (c := c) (fm_new w4 _) (Kd.C_below hC ((Below.refl _ w4).alloc (Nat.le_refl _) _)) (hb4.alloc hb4.size _)); have HLE := Go.Lib.hid hle; clear hR hC hb4 hle) | (go_at_call 17; refine (impl_LedgerOk.calls k a b A c l false _ HF.out.C HLE.out H1.out).mono ?_; rintro e w5 ⟨rfl, hb5⟩; have HG := Go.Lib.hid (HF.out.step hb5); obtain ⟨x0, x1, x2⟩ := fm_three HG.out.bx; clear hb5) | (go_at_call 15; refine (spec_LedgerOk.calls k a b A c l false _ HI.out.C HLE.out H2.out).mono ?_; rintro e w7 ⟨rfl, hb7⟩; have hbz := HI.out.bel.trans (hb7.mono HI.out.bel.size)) | (go_at_call 15; refine (spec_LedgerOk.calls k a b A c l false _ HG.out.C HLE.out H2.out).mono ?_; rintro e w6 ⟨rfl, hb6⟩; have HI := Go.Lib.hid (HG.out.step hb6); clear x0 x1 x2; obtain ⟨y0, y1, y2⟩ := fm_three HI.out.bx; clear hb6))
    go_ret
    exact ⟨rfl, hbz⟩
  · cases o
    all_goals (
      go_enter Try.func4, Try.ntmps4
      go_wp2_with (first | (go_at_call 19; refine (spec_DrawLedgerOk.calls k A0 c0 l0 a b [] _ HR.out HC.out HD.out).mono ?_; rintro e w4 ⟨v2, rfl, hR, hb4⟩; obtain ⟨A, c, rfl, hle, hC⟩ := Kd.R_reads hR; have HF := Go.Lib.hid (FBox.mk (w := w) (L := w4.heap.size) (a := a) (b := b) (c := c) (fm_new w4 _) (Kd.C_below hC ((Below.refl _ w4).alloc (Nat.le_refl _) _)) (hb4.alloc hb4.size _)); have HLE := Go.Lib.hid hle; clear hR hC hb4 hle) | (go_at_call 17; refine (impl_LedgerOk.calls k a b A c [] _ _ HF.out.C HLE.out H1.out).mono ?_; rintro e w5 ⟨rfl, hb5⟩; have HG := Go.Lib.hid (HF.out.step hb5); obtain ⟨x0, x1, x2⟩ := fm_three HG.out.bx; clear hb5) | (go_at_call 15; refine (spec_LedgerOk.calls k a b A c [] _ _ HI.out.C HLE.out H2.out).mono ?_; rintro e w7 ⟨rfl, hb7⟩; have hbz := HI.out.bel.trans (hb7.mono HI.out.bel.size)) | (go_at_call 15; refine (spec_LedgerOk.calls k a b A c [] _ _ HG.out.C HLE.out H2.out).mono ?_; rintro e w6 ⟨rfl, hb6⟩; have HI := Go.Lib.hid (HG.out.step hb6); clear x0 x1 x2; obtain ⟨y0, y1, y2⟩ := fm_three HI.out.bx; clear hb6))
      go_ret
      exact ⟨rfl, hbz⟩)
theorem fm_i29 : ∃ i, Try.prog.info? 29 = some i := by
  have h := info29
  cases e : Try.prog.info? 29 with
  | none => rw [e] at h; cases h
  | some i => exact ⟨i, rfl⟩
/-- Three boxes: the shorter ledger, the sum, the ledger of no cap. -/
structure GBox (w : World) (X S N : Nat) (a b sn sd : Int) (A : Option Addr) (c : Nat) (l : List S29) (W : World) : Prop where
  x : W.heap[X]? = some (.cells #[.int .i64 a, .int .i64 b, .slice A (l.length - 1) c] 32 (0, 0))
  s : W.heap[S]? = some (.cells #[.int .i64 sn, .int .i64 sd] 29 (0, 0))
  n : W.heap[N]? = some (.cells #[.int .i64 0, .int .i64 1, .slice A l.length c] 32 (0, 0))
  C : Kd.C k29 W A l.length l
  bel : Below w.heap.size w W
theorem GBox.step {w W W' : World} {X S N : Nat} {a b sn sd : Int} {A : Option Addr} {c : Nat} {l : List S29} (h : GBox w X S N a b sn sd A c l W) (hb : Below W.heap.size W W') : GBox w X S N a b sn sd A c l W' :=
  ⟨(hb.block _ (fm_lt h.x)).trans h.x, (hb.block _ (fm_lt h.s)).trans h.s, (hb.block _ (fm_lt h.n)).trans h.n, Kd.C_below h.C hb, h.bel.trans (hb.mono h.bel.size)⟩
theorem GBox.drew {w W : World} {X S N : Nat} {a b sn sd : Int} {A : Option Addr} {c : Nat} {l : List S29} (h : GBox w X S N a b sn sd A c l W) : GBox w X S N a b sn sd A c l W.drew := h.step (below_drew (Below.refl _ _))
theorem GBox.cells {w W : World} {X S N : Nat} {a b sn sd : Int} {A : Option Addr} {c : Nat} {l : List S29} (h : GBox w X S N a b sn sd A c l W) :
    W.cell? ⟨X, 0, none⟩ = some (.int .i64 a) ∧ W.cell? ⟨X, 1, none⟩ = some (.int .i64 b) ∧ W.cell? ⟨X, 2, none⟩ = some (.slice A (l.length - 1) c) ∧ W.cell? ⟨S, 0, none⟩ = some (.int .i64 sn) ∧
    W.cell? ⟨N, 0, none⟩ = some (.int .i64 0) ∧ W.cell? ⟨N, 1, none⟩ = some (.int .i64 1) ∧ W.cell? ⟨N, 2, none⟩ = some (.slice A l.length c) :=
  ⟨fm_cell h.x 0, fm_cell h.x 1, fm_cell h.x 2, fm_cell h.s 0, fm_cell h.n 0, fm_cell h.n 1, fm_cell h.n 2⟩
theorem fm_less (k : Nat) {w W : World} {X S N : Nat} {a b sn sd : Int} {A : Option Addr} {c : Nat} {l : List S29} {o1 : Bool} (h : GBox w X S N a b sn sd A c l W) (hc : l.length ≤ c) (hm1 : impl_LedgerOk.f k a b (l.take (l.length - 1)) = some o1) :
    Calls Try.prog 17 #[.agg #[.int .i64 a, .int .i64 b, .slice A (l.length - 1) c]] W fun e w' => e = .returned (.bool o1) ∧ Below W.heap.size W w' := by
  have hl : (l.take (l.length - 1)).length = l.length - 1 := by rw [List.length_take]; omega
  have := impl_LedgerOk.calls k a b A c (l.take (l.length - 1)) o1 W (fm_take h.C (by omega)) (by omega) hm1
  rw [hl] at this
  exact this
set_option maxRecDepth 20000 in
set_option maxHeartbeats 4000000 in
theorem fm_long (k : Nat) (A0 : Option Addr) (c0 : Nat) (l0 : List Int) (a b sn sd : Int) (st : Bool) (l : List S29) (o2 : Bool) (w : World) (hr : Kd.C (Kd.int .u8) w A0 l0.length l0) (hc : l0.length ≤ c0) (hl : ¬ (1048576 : Int) < (l0.length : Int)) (hd : spec_DrawLedgerOk.f k l0 = some (a, b, l)) (h1 : impl_LedgerOk.f k a b l = some true) (h2 : spec_LedgerOk.f k a b l = some true) (hne : ¬ (l.length : Int) = 0)
    (hsum : impl_LedgerSum.f k a b l = some (sn, sd, st)) (hm1 : impl_LedgerOk.f k a b (l.take (l.length - 1)) = some true) (hm2 : impl_LedgerOk.f k 0 1 l = some o2) :
    Calls Try.prog 4 #[.slice A0 l0.length c0] w fun e w' => e = .returned (.bool (o2 == (sn == 0))) ∧ Below w.heap.size w w' := by
  have HR := Go.Lib.hid hr
  have HC := Go.Lib.hid hc
  have HD := Go.Lib.hid hd
  have H1 := Go.Lib.hid h1
  have H2 := Go.Lib.hid h2
  have H3 := Go.Lib.hid hsum
  have H4 := Go.Lib.hid hm1
  have H5 := Go.Lib.hid hm2
  have HI29 := Go.Lib.hid fm_i29
  clear hr hc hd h1 h2 hsum hm1 hm2
  go_enter Try.func4, Try.ntmps4
  go_wp2_with (first | (go_at_call 19; go_loud (refine (spec_DrawLedgerOk.calls k A0 c0 l0 a b l _ HR.out HC.out HD.out).mono ?_; rintro e w4 ⟨v2, rfl, hR, hb4⟩; obtain ⟨A, c, rfl, hle, hC⟩ := Kd.R_reads hR; have hcut := fm_cut 30 29 .i64 Try.underlying30 HI29.out.choose_spec A l.length c ((l.length : Int) - 1) (by omega) (by omega) hle; have HF := Go.Lib.hid (FBox.mk (w := w) (L := w4.heap.size) (a := a) (b := b) (c := c) (fm_new w4 _) (Kd.C_below hC ((Below.refl _ w4).alloc (Nat.le_refl _) _)) (hb4.alloc hb4.size _)); have HLE := Go.Lib.hid hle; clear hR hC hb4 hle)) | (go_at_call 17; refine (impl_LedgerOk.calls k a b A c l true _ HF.out.C HLE.out H1.out).mono ?_; rintro e w5 ⟨rfl, hb5⟩; have HG := Go.Lib.hid (HF.out.step hb5); obtain ⟨x0, x1, x2⟩ := fm_three HG.out.bx; clear hb5) | (go_at_call 15; refine (spec_LedgerOk.calls k a b A c l true _ HG.out.C HLE.out H2.out).mono ?_; rintro e w6 ⟨rfl, hb6⟩; have HI := Go.Lib.hid (HG.out.step hb6); clear x0 x1 x2; obtain ⟨y0, y1, y2⟩ := fm_three HI.out.bx; clear hb6))
  have hb := HI.out.C.2.1
  have hw2 : IntKind.i64.wrap ((l.length : Int) - 1) = (l.length : Int) - 1 := by rw [IntKind.wrap_i64]; omega
  go_region_held3 (fun w' => w'.cell? ⟨w4.heap.size, 0, none⟩ = some (.int .i64 a) ∧ w'.cell? ⟨w4.heap.size, 1, none⟩ = some (.int .i64 b) ∧ w'.cell? ⟨w4.heap.size, 2, none⟩ = some (.slice A l.length c)) (first | (refine ⟨?_, ?_, ?_⟩ <;> assumption) | go_keep) (fail)
  clear hcut y0 y1 y2
  obtain ⟨W8, hW8⟩ : ∃ W, W = (w6.alloc (.cells #[.int .i64 a, .int .i64 b, .slice A (l.length - 1) c] 32)).drew := ⟨_, rfl⟩
  have hF8 : FBox w w4.heap.size a b A c l W8 := by rw [hW8]; exact HI.out.step (below_drew ((Below.refl _ w6).alloc (Nat.le_refl _) _))
  have hX8 : W8.heap[w6.heap.size]? = some (.cells #[.int .i64 a, .int .i64 b, .slice A (l.length - 1) c] 32 (0, 0)) := by rw [hW8]; exact fm_new w6 _
  rw [← hW8]
  clear hW8
  obtain ⟨y0, y1, y2⟩ := fm_three hF8.bx
  have HF8 := Go.Lib.hid hF8
  have HX8 := Go.Lib.hid hX8
  clear hF8 hX8
  go_wp2_with (first | (go_at_call 20; go_loud (refine (impl_LedgerSum.calls k a b A c l sn sd st _ HF8.out.C HLE.out H3.out).mono ?_; rintro e w9 ⟨rfl, hb9⟩; have HF9 := Go.Lib.hid (HF8.out.step hb9); have HX9 := Go.Lib.hid ((hb9.block _ (fm_lt HX8.out)).trans HX8.out); obtain ⟨z0, z1, z2⟩ := fm_three HF9.out.bx; clear y0 y1 y2; have hz1 : ∀ o, (w9.alloc o).cell? ⟨w4.heap.size, 2, none⟩ = some (.slice A l.length c) := fun o => (fm_three (HF9.out.step ((Below.refl _ w9).alloc (Nat.le_refl _) o)).bx).2.2; clear hb9)))
  obtain ⟨W10, hW10⟩ : ∃ W, W = (w9.alloc (.cells #[.int .i64 sn, .int .i64 sd] 29)).alloc (.cells #[.int .i64 0, .int .i64 1, .slice A l.length c] 32) := ⟨_, rfl⟩
  have hG : GBox w w6.heap.size w9.heap.size (w9.heap.size + 1) a b sn sd A c l W10 := by
    rw [hW10]
    have b1 : Below w9.heap.size w9 (w9.alloc (.cells #[.int .i64 sn, .int .i64 sd] 29)) := (Below.refl _ w9).alloc (Nat.le_refl _) _
    have b2 := (Below.refl _ (w9.alloc (.cells #[.int .i64 sn, .int .i64 sd] 29))).alloc (Nat.le_refl _) (.cells #[.int .i64 0, .int .i64 1, .slice A l.length c] 32)
    have n1 := fm_new w9 (.cells #[.int .i64 sn, .int .i64 sd] 29)
    have n2 := fm_new (w9.alloc (.cells #[.int .i64 sn, .int .i64 sd] 29)) (.cells #[.int .i64 0, .int .i64 1, .slice A l.length c] 32)
    have hs : (w9.alloc (.cells #[.int .i64 sn, .int .i64 sd] 29)).heap.size = w9.heap.size + 1 := by show (w9.heap.push _).size = _; rw [Array.size_push]
    have x1 := (b1.block _ (fm_lt HX9.out)).trans HX9.out
    have f := (HF9.out.step b1).step b2
    exact ⟨(b2.block _ (fm_lt x1)).trans x1, (b2.block _ (fm_lt n1)).trans n1, hs ▸ n2, f.C, f.bel⟩
  rw [← hW10]
  clear hW10 z0 z1 z2 hz1
  have hK1 := fun W h => fm_less k (W := W) (w := w) (X := w6.heap.size) (S := w9.heap.size) (N := w9.heap.size + 1) (sn := sn) (sd := sd) (A := A) h HLE.out H4.out
  have hK2 := fun W (h : GBox w w6.heap.size w9.heap.size (w9.heap.size + 1) a b sn sd A c l W) => impl_LedgerOk.calls k 0 1 A c l o2 W h.C HLE.out H5.out
  have HK1 := Go.Lib.hid hK1
  have HK2 := Go.Lib.hid hK2
  have HG10 := Go.Lib.hid hG
  obtain ⟨y0, y1, y2, y3, y4, y5, y6⟩ := hG.cells
  clear hK1 hK2 hG HF HG HI HF8 HF9 HX8 HX9 H1 H2 H3 H4 H5 HD HI29
  go_region_held3 (fun w' => w'.cell? ⟨w6.heap.size, 0, none⟩ = some (.int .i64 a) ∧ w'.cell? ⟨w6.heap.size, 1, none⟩ = some (.int .i64 b) ∧ w'.cell? ⟨w6.heap.size, 2, none⟩ = some (.slice A (l.length - 1) c) ∧ w'.cell? ⟨w9.heap.size, 0, none⟩ = some (.int .i64 sn) ∧ w'.cell? ⟨w9.heap.size + 1, 0, none⟩ = some (.int .i64 0) ∧ w'.cell? ⟨w9.heap.size + 1, 1, none⟩ = some (.int .i64 1) ∧ w'.cell? ⟨w9.heap.size + 1, 2, none⟩ = some (.slice A l.length c)) (first | (refine ⟨?_, ?_, ?_, ?_, ?_, ?_, ?_⟩ <;> assumption) | go_keep) (first | (go_at_call 17; (with_reducible refine (HK1.out _ ?qb).mono ?_); (case qb => first | exact HG10.out | exact HG10.out.drew); rintro e w11 ⟨rfl, hb11⟩; have HG11 := Go.Lib.hid ((by first | exact HG10.out | exact HG10.out.drew : GBox w w6.heap.size w9.heap.size (w9.heap.size + 1) a b sn sd A c l _).step hb11); obtain ⟨u0, u1, u2, u3, u4, u5, u6⟩ := HG11.out.cells; clear hb11) | (go_at_call 17; (with_reducible refine (HK2.out _ ?qb).mono ?_); (case qb => first | exact HG11.out | exact HG11.out.drew); rintro e w12 ⟨rfl, hb12⟩; have HG12 := Go.Lib.hid ((by first | exact HG11.out | exact HG11.out.drew : GBox w w6.heap.size w9.heap.size (w9.heap.size + 1) a b sn sd A c l _).step hb12); obtain ⟨v0, v1, v2, v3, v4, v5, v6⟩ := HG12.out.cells; clear hb12))
  all_goals go_wp2
  all_goals go_ret
  all_goals (refine ⟨rfl, ?_⟩)
  all_goals (first | exact HG12.out.bel | exact HG12.out.drew.bel | exact pw_below_drewN HG12.out.bel _)
/-- What the function answers (none where it does not answer true). -/
def laws_FnLedgerForm.f (k : Nat) (l0 : List Int) : Option Bool := if (1048576 : Int) < (l0.length : Int) then some true else (spec_DrawLedgerOk.f k l0).bind fun t => (impl_LedgerOk.f k t.1 t.2.1 t.2.2).bind fun o => (spec_LedgerOk.f k t.1 t.2.1 t.2.2).bind fun o2 =>
  if o = o2 then (if o = false ∨ t.2.2 = [] then some true else (impl_LedgerSum.f k t.1 t.2.1 t.2.2).bind fun s => (impl_LedgerOk.f k t.1 t.2.1 (t.2.2.take (t.2.2.length - 1))).bind fun p => (impl_LedgerOk.f k 0 1 t.2.2).bind fun q => if p = true then some (q == (s.1 == 0)) else none) else none
theorem laws_FnLedgerForm.calls (k : Nat) (A0 : Option Addr) (c0 : Nat) (l0 : List Int) (r : Bool) (w : World) (hr0 : Kd.C (Kd.int .u8) w A0 l0.length l0) (hc0 : l0.length ≤ c0) (h : laws_FnLedgerForm.f k l0 = some r) (hrt : r = true) :
    Calls Try.prog 4 #[.slice A0 l0.length c0] w fun e w' => e = .returned (.bool r) ∧ Below w.heap.size w w' := by
  subst hrt
  unfold laws_FnLedgerForm.f at h
  by_cases hl : (1048576 : Int) < (l0.length : Int)
  · exact fm_big A0 c0 l0 w hl
  rw [if_neg hl] at h
  obtain ⟨⟨a, b, l⟩, hd, h6⟩ := Option.bind_eq_some_iff.1 h
  obtain ⟨o, h1, h7⟩ := Option.bind_eq_some_iff.1 h6
  obtain ⟨o2, h2, h8⟩ := Option.bind_eq_some_iff.1 h7
  clear h h6 h7
  dsimp only at h1 h2 h8
  split at h8
  · rename_i ho
    subst ho
    split at h8
    · rename_i hs
      exact fm_short k A0 c0 l0 a b l o w hr0 hc0 hl hd h1 h2 hs
    · rename_i hs
      obtain ⟨⟨sn, sd, st⟩, h3, h9⟩ := Option.bind_eq_some_iff.1 h8
      obtain ⟨p, h4, h10⟩ := Option.bind_eq_some_iff.1 h9
      obtain ⟨q, h5, h11⟩ := Option.bind_eq_some_iff.1 h10
      clear h8 h9 h10
      split at h11
      · rename_i hp
        subst hp
        have ho : o = true := by
          cases o
          · exact absurd (.inl rfl) hs
          · rfl
        subst ho
        have hne : ¬ (l.length : Int) = 0 := fun e => hs (.inr (List.length_eq_zero_iff.1 (by omega)))
        have he : (q == (sn == 0)) = true := Option.some.inj h11
        have := fm_long k A0 c0 l0 a b sn sd st l q w hr0 hc0 hl hd h1 h2 hne h3 h4 h5
        rw [he] at this
        exact this
      · cases h11
  · cases h8
def laws_FnLedgerForm.Pure : Prop := ∀ (l0 : List Int), l0.length ≤ maxLen → l0.length * 1 ≤ 140737488351232 → (∀ x ∈ l0, (Lit.int .u8 x).wf = true) → ∃ k, laws_FnLedgerForm.f k l0 = some true
theorem laws_FnLedgerForm.walk (P : laws_FnLedgerForm.Pure) (a0 : Option Addr) (len0 cap0 : Nat) (z0 : List Int) (w : World) (w0 : (a0 = none ∧ len0 = 0 ∧ cap0 = 0 ∧ z0 = []) ∨ ∃ x, a0 = some x ∧ len0 ≤ cap0 ∧ cap0 ≤ maxLen ∧ z0.length = cap0 ∧ (∀ i, i < z0.length → w.cell? (x.add i) = some (.int .u8 (z0.getD i 0))) ∧ ∀ n ∈ z0, (Lit.int .u8 n).wf = true) (y0 : len0 * 1 ≤ 140737488351232) :
    Calls Try.prog 4 #[.slice a0 len0 cap0] w fun e w' => e = .returned (.bool true) ∧ Below w.heap.size w w' := by
  obtain ⟨l0, rfl, hr0, hm0, hw0, hc0⟩ := ReadsInt.ofRowC w0
  obtain ⟨k, h⟩ := P l0 hm0 y0 hw0
  refine (laws_FnLedgerForm.calls k _ _ l0 true w (Kd.C_of_reads (d := (0 : Int)) (h1 := fun _ => rfl) hr0) hc0 h rfl).mono ?_
  rintro e w' ⟨rfl, hd⟩
  exact ⟨rfl, hd⟩
end Go.Proofs.Ytncngkfgalokoaa.PLed
