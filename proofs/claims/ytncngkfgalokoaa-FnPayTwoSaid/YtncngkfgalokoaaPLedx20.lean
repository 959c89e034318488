-- The walk of FnPayTwo, by hand over the printed contracts.
import Derived.Test.YtncngkfgalokoaaPLedx11
import Derived.Test.YtncngkfgalokoaaPLedx15
import Derived.Test.YtncngkfgalokoaaPLedx18
namespace Go.Proofs.Ytncngkfgalokoaa.PLed
open Go.RowKit Go.Proofs.YtncngkfgalokoaaW.PrintWords Go.Proofs.YtncngkfgalokoaaW.PrintLast Go.Proofs.YtncngkfgalokoaaW.PrintMore
set_option linter.unusedVariables false
set_option linter.unusedSimpArgs false
/-! ### laws_FnPayTwo: function 13 -/
theorem pt_cell {w : World} {b : Nat} {cs : Array Value} {T : TypeId} {fr : Nat × Nat} (hb : w.heap[b]? = some (.cells cs T fr)) (j : Nat) : w.cell? ⟨b, j, none⟩ = cs[j]? := by simp [World.cell?, hb]
theorem pt_new (w : World) (A : Obj) : (w.alloc A).heap[w.heap.size]? = some A := by
  show (w.heap.push _)[w.heap.size]? = _
  rw [Array.getElem?_push, if_pos rfl]
theorem pt_lt {w : World} {g : Nat} {o : Obj} (hg : w.heap[g]? = some o) : g < w.heap.size := (Array.getElem?_eq_some_iff.1 hg).1
theorem pt_sz (w : World) (o : Obj) : (w.alloc o).heap.size = w.heap.size + 1 := by show (w.heap.push _).size = _; rw [Array.size_push]
/-- What is held of a world: the boxes, and the rows of charges. -/
structure St (w : World) (bs : List (Nat × Array Value × TypeId)) (rs : List (Option Addr × List S29)) (W : World) : Prop where
  box : ∀ (i : Nat) b, bs[i]? = some b → W.heap[b.1]? = some (.cells b.2.1 b.2.2 (0, 0))
  row : ∀ (i : Nat) r, rs[i]? = some r → Kd.C k29 W r.1 r.2.length r.2
  bel : Below w.heap.size w W
variable {w W W' : World} {bs : List (Nat × Array Value × TypeId)} {rs : List (Option Addr × List S29)}
theorem St.step (h : St w bs rs W) (hb : Below W.heap.size W W') : St w bs rs W' :=
  ⟨fun i b e => (hb.block _ (pt_lt (h.box i b e))).trans (h.box i b e), fun i r e => Kd.C_below (h.row i r e) hb, h.bel.trans (hb.mono h.bel.size)⟩
theorem St.alloc (h : St w bs rs W) (o : Obj) : St w bs rs (W.alloc o) := h.step ((Below.refl _ W).alloc (Nat.le_refl _) o)
theorem St.push (h : St w bs rs W) {p : Nat} (hp : p = W.heap.size) (cs : Array Value) (T : TypeId) : St w ((p, cs, T) :: bs) rs (W.alloc (.cells cs T)) :=
  ⟨fun i b e => by
    cases i with
    | zero => obtain rfl := Option.some.inj e; subst hp; exact pt_new W _
    | succ i => exact (h.alloc _).box i b e, (h.alloc _).row, (h.alloc _).bel⟩
theorem St.add (h : St w bs rs W) {A : Option Addr} {l : List S29} (hr : Kd.C k29 W A l.length l) : St w bs ((A, l) :: rs) W :=
  ⟨h.box, fun i r e => by
    cases i with
    | zero => obtain rfl := Option.some.inj e; exact hr
    | succ i => exact h.row i r e, h.bel⟩
theorem St.three (h : St w bs rs W) (i : Nat) {p : Nat} {x y z : Value} {T : TypeId} (e : bs[i]? = some (p, #[x, y, z], T)) : W.cell? ⟨p, 0, none⟩ = some x ∧ W.cell? ⟨p, 1, none⟩ = some y ∧ W.cell? ⟨p, 2, none⟩ = some z :=
  ⟨pt_cell (h.box i _ e) 0, pt_cell (h.box i _ e) 1, pt_cell (h.box i _ e) 2⟩
theorem St.two (h : St w bs rs W) (i : Nat) {p : Nat} {x y : Value} {T : TypeId} (e : bs[i]? = some (p, #[x, y], T)) : W.cell? ⟨p, 0, none⟩ = some x ∧ W.cell? ⟨p, 1, none⟩ = some y :=
  ⟨pt_cell (h.box i _ e) 0, pt_cell (h.box i _ e) 1⟩
theorem St.threeA (h : St w bs rs W) (i : Nat) {p : Nat} {x y z : Value} {T : TypeId} (e : bs[i]? = some (p, #[x, y, z], T)) : (∀ o, (W.alloc o).cell? ⟨p, 0, none⟩ = some x) ∧ (∀ o, (W.alloc o).cell? ⟨p, 1, none⟩ = some y) ∧ (∀ o, (W.alloc o).cell? ⟨p, 2, none⟩ = some z) :=
  ⟨fun o => ((h.alloc o).three i e).1, fun o => ((h.alloc o).three i e).2.1, fun o => ((h.alloc o).three i e).2.2⟩
theorem St.twoA (h : St w bs rs W) (i : Nat) {p : Nat} {x y : Value} {T : TypeId} (e : bs[i]? = some (p, #[x, y], T)) : (∀ o, (W.alloc o).cell? ⟨p, 0, none⟩ = some x) ∧ (∀ o, (W.alloc o).cell? ⟨p, 1, none⟩ = some y) :=
  ⟨fun o => ((h.alloc o).two i e).1, fun o => ((h.alloc o).two i e).2⟩
theorem V_opens {W : World} {base : Nat} {ok : Nat → Prop} {v : Value} {xs : List S29} (h : Kd.V k29 29 W base ok v xs) : ∃ A c, v = .slice A xs.length c ∧ xs.length ≤ c ∧ Kd.C k29 W A xs.length xs := by
  obtain ⟨A, c, rfl⟩ := Kd.V_slice h
  exact ⟨A, c, rfl, (Kd.V_reads' h).2.1, (Kd.V_reads' h).2.2⟩
theorem St.start (hb : Below w.heap.size w W) : St w [] [] W := ⟨fun i b e => (by simp at e), fun i r e => (by simp at e), hb⟩
set_option maxRecDepth 20000 in
set_option maxHeartbeats 8000000 in
theorem pt_notL (k : Nat) (A0 A1 : Option Addr) (c0 c1 : Nat) (l0 l1 : List Int) (w : World) (hr : Kd.C (Kd.int .u8) w A0 l0.length l0) (hc : l0.length ≤ c0) (hl : (l0.length : Int) ≤ 1048576) (hl1 : (l1.length : Int) ≤ 1048576) (a b x y : Int) (l : List S29) (hD : spec_DrawLedgerPay.f k l0 = some (a, b, l, x, y)) (p q : Int) (m : List S29) (o : Bool) (h1 : spec_LedgerPay.f k a b l x y = some (p, q, m, o)) (h2 : impl_LedgerPay.f k a b l x y = some (p, q, m, o)) (h3 : laws_loLedger.f k p q m p q m = some true) (h4 : spec_LedgerOk.f k a b l = some false) : Calls Try.prog 13 #[.slice A0 l0.length c0, .slice A1 l1.length c1] w fun e w' => e = .returned (.bool true) ∧ Below w.heap.size w w' := by
  have HR := Go.Lib.hid hr
  have HC := Go.Lib.hid hc
  have HD := Go.Lib.hid hD
  have H1 := Go.Lib.hid h1
  have H2 := Go.Lib.hid h2
  have H3 := Go.Lib.hid h3
  have H4 := Go.Lib.hid h4
  clear hr hc hD h1 h2 h3 h4
  go_enter Try.func13, Try.ntmps13
  go_wp2_with (first | (go_at_call 26; (refine (spec_DrawLedgerPay.calls k A0 c0 l0 a b l x y _ HR.out HC.out HD.out).mono ?_; rintro e w1 ⟨v2, rfl, hR, hb⟩; obtain ⟨A, c, rfl, hle, hC⟩ := Kd.R_reads hR; have HLE := Go.Lib.hid hle; have HS1 := Go.Lib.hid ((((St.start hb).add hC).push rfl #[.int .i64 a, .int .i64 b, .slice A l.length c] 32).push (p := w1.heap.size + 1) (pt_sz _ _).symm #[.int .i64 x, .int .i64 y] 29); clear hR hC hb hle)) | (go_at_call 27; (refine (spec_LedgerPay.calls k a b A c l x y p q m o _ (HS1.out.row 0 _ rfl) HLE.out H1.out).mono ?_; rintro e w3 ⟨v3, rfl, hR, hb⟩; obtain ⟨Aw, cw, rfl, hle, hC⟩ := Kd.R_reads hR; have HLW := Go.Lib.hid hle; have h2 := (HS1.out.step hb).add hC; obtain ⟨L0, L1, L2⟩ := h2.threeA 1 rfl; obtain ⟨F0, F1⟩ := h2.twoA 0 rfl; have HS2 := Go.Lib.hid (h2.push rfl #[.int .i64 p, .int .i64 q, .slice Aw m.length cw] 32); clear hR hC hb hle h2)) | (go_at_call 28; (refine (impl_LedgerPay.calls k a b A c l x y p q m o _ (HS2.out.row 1 _ rfl) HLE.out H2.out).mono ?_; rintro e w5 ⟨v4, rfl, hV, hb⟩; obtain ⟨Ax, cx, rfl, hle, hC⟩ := V_opens hV; have HLX := Go.Lib.hid hle; have h3 := (HS2.out.step hb).add hC; clear L0 L1 L2 F0 F1; obtain ⟨W0, W1, W2⟩ := h3.threeA 0 rfl; obtain ⟨F0, F1⟩ := h3.twoA 1 rfl; obtain ⟨L0, L1, L2⟩ := h3.threeA 2 rfl; have HS3 := Go.Lib.hid (h3.push rfl #[.int .i64 p, .int .i64 q, .slice Ax m.length cx] 32); clear hV hC hb hle h3)) | (go_at_call 29; (refine (laws_loLedger.calls k p q Ax cx m p q Aw cw m true _ (HS5.out.row 0 _ rfl) HLX.out (HS5.out.row 1 _ rfl) HLW.out H3.out).mono ?_; rintro e w20 ⟨rfl, hb⟩; have HE := Go.Lib.hid (HS5.out.step hb); clear hb)) | (go_at_call 29; (refine (laws_loLedger.calls k p q Ax cx m p q Aw cw m true _ (HS3.out.row 0 _ rfl) HLX.out (HS3.out.row 1 _ rfl) HLW.out H3.out).mono ?_; rintro e w7 ⟨rfl, hb⟩; have h4 := HS3.out.step hb; clear W0 W1 W2 F0 F1 L0 L1 L2; obtain ⟨X0, X1, X2⟩ := h4.three 0 rfl; obtain ⟨W0, W1, W2⟩ := h4.three 1 rfl; obtain ⟨F0, F1⟩ := h4.two 2 rfl; obtain ⟨L0, L1, L2⟩ := h4.three 3 rfl; have HS4 := Go.Lib.hid h4; clear hb h4)) | (go_at_call 15; (refine (spec_LedgerOk.calls k a b A c l false _ (HS4.out.row 2 _ rfl) HLE.out H4.out).mono ?_; rintro e w8 ⟨rfl, hb⟩; have h5 := HS4.out.step hb; clear X0 X1 X2 W0 W1 W2 F0 F1 L0 L1 L2; obtain ⟨X0, X1, X2⟩ := h5.three 0 rfl; obtain ⟨W0, W1, W2⟩ := h5.three 1 rfl; obtain ⟨F0, F1⟩ := h5.two 2 rfl; obtain ⟨L0, L1, L2⟩ := h5.three 3 rfl; have HS5 := Go.Lib.hid h5; clear hb h5)))
  all_goals go_ret
  all_goals exact ⟨rfl, HE.out.bel⟩
set_option maxRecDepth 20000 in
set_option maxHeartbeats 8000000 in
theorem pt_notF (k : Nat) (A0 A1 : Option Addr) (c0 c1 : Nat) (l0 l1 : List Int) (w : World) (hr : Kd.C (Kd.int .u8) w A0 l0.length l0) (hc : l0.length ≤ c0) (hl : (l0.length : Int) ≤ 1048576) (hl1 : (l1.length : Int) ≤ 1048576) (a b x y : Int) (l : List S29) (hD : spec_DrawLedgerPay.f k l0 = some (a, b, l, x, y)) (p q : Int) (m : List S29) (o : Bool) (h1 : spec_LedgerPay.f k a b l x y = some (p, q, m, o)) (h2 : impl_LedgerPay.f k a b l x y = some (p, q, m, o)) (h3 : laws_loLedger.f k p q m p q m = some true) (h4 : spec_LedgerOk.f k a b l = some true) (h5 : spec_FracOk.f k x y = some false) : Calls Try.prog 13 #[.slice A0 l0.length c0, .slice A1 l1.length c1] w fun e w' => e = .returned (.bool true) ∧ Below w.heap.size w w' := by
  have HR := Go.Lib.hid hr
  have HC := Go.Lib.hid hc
  have HD := Go.Lib.hid hD
  have H1 := Go.Lib.hid h1
  have H2 := Go.Lib.hid h2
  have H3 := Go.Lib.hid h3
  have H4 := Go.Lib.hid h4
  have H5 := Go.Lib.hid h5
  clear hr hc hD h1 h2 h3 h4 h5
  go_enter Try.func13, Try.ntmps13
  go_wp2_with (first | (go_at_call 26; (refine (spec_DrawLedgerPay.calls k A0 c0 l0 a b l x y _ HR.out HC.out HD.out).mono ?_; rintro e w1 ⟨v2, rfl, hR, hb⟩; obtain ⟨A, c, rfl, hle, hC⟩ := Kd.R_reads hR; have HLE := Go.Lib.hid hle; have HS1 := Go.Lib.hid ((((St.start hb).add hC).push rfl #[.int .i64 a, .int .i64 b, .slice A l.length c] 32).push (p := w1.heap.size + 1) (pt_sz _ _).symm #[.int .i64 x, .int .i64 y] 29); clear hR hC hb hle)) | (go_at_call 27; (refine (spec_LedgerPay.calls k a b A c l x y p q m o _ (HS1.out.row 0 _ rfl) HLE.out H1.out).mono ?_; rintro e w3 ⟨v3, rfl, hR, hb⟩; obtain ⟨Aw, cw, rfl, hle, hC⟩ := Kd.R_reads hR; have HLW := Go.Lib.hid hle; have h2 := (HS1.out.step hb).add hC; obtain ⟨L0, L1, L2⟩ := h2.threeA 1 rfl; obtain ⟨F0, F1⟩ := h2.twoA 0 rfl; have HS2 := Go.Lib.hid (h2.push rfl #[.int .i64 p, .int .i64 q, .slice Aw m.length cw] 32); clear hR hC hb hle h2)) | (go_at_call 28; (refine (impl_LedgerPay.calls k a b A c l x y p q m o _ (HS2.out.row 1 _ rfl) HLE.out H2.out).mono ?_; rintro e w5 ⟨v4, rfl, hV, hb⟩; obtain ⟨Ax, cx, rfl, hle, hC⟩ := V_opens hV; have HLX := Go.Lib.hid hle; have h3 := (HS2.out.step hb).add hC; clear L0 L1 L2 F0 F1; obtain ⟨W0, W1, W2⟩ := h3.threeA 0 rfl; obtain ⟨F0, F1⟩ := h3.twoA 1 rfl; obtain ⟨L0, L1, L2⟩ := h3.threeA 2 rfl; have HS3 := Go.Lib.hid (h3.push rfl #[.int .i64 p, .int .i64 q, .slice Ax m.length cx] 32); clear hV hC hb hle h3)) | (go_at_call 29; (refine (laws_loLedger.calls k p q Ax cx m p q Aw cw m true _ (HS6.out.row 0 _ rfl) HLX.out (HS6.out.row 1 _ rfl) HLW.out H3.out).mono ?_; rintro e w20 ⟨rfl, hb⟩; have HE := Go.Lib.hid (HS6.out.step hb); clear hb)) | (go_at_call 29; (refine (laws_loLedger.calls k p q Ax cx m p q Aw cw m true _ (HS3.out.row 0 _ rfl) HLX.out (HS3.out.row 1 _ rfl) HLW.out H3.out).mono ?_; rintro e w7 ⟨rfl, hb⟩; have h4 := HS3.out.step hb; clear W0 W1 W2 F0 F1 L0 L1 L2; obtain ⟨X0, X1, X2⟩ := h4.three 0 rfl; obtain ⟨W0, W1, W2⟩ := h4.three 1 rfl; obtain ⟨F0, F1⟩ := h4.two 2 rfl; obtain ⟨L0, L1, L2⟩ := h4.three 3 rfl; have HS4 := Go.Lib.hid h4; clear hb h4)) | (go_at_call 15; (refine (spec_LedgerOk.calls k a b A c l true _ (HS4.out.row 2 _ rfl) HLE.out H4.out).mono ?_; rintro e w8 ⟨rfl, hb⟩; have h5 := HS4.out.step hb; clear X0 X1 X2 W0 W1 W2 F0 F1 L0 L1 L2; obtain ⟨X0, X1, X2⟩ := h5.three 0 rfl; obtain ⟨W0, W1, W2⟩ := h5.three 1 rfl; obtain ⟨F0, F1⟩ := h5.two 2 rfl; obtain ⟨L0, L1, L2⟩ := h5.three 3 rfl; have HS5 := Go.Lib.hid h5; clear hb h5)) | (go_at_call 30; (refine (spec_FracOk.calls k x y false _ H5.out).mono ?_; rintro e w9 ⟨rfl, hb⟩; have h6 := HS5.out.step hb; clear X0 X1 X2 W0 W1 W2 F0 F1 L0 L1 L2; obtain ⟨X0, X1, X2⟩ := h6.three 0 rfl; obtain ⟨W0, W1, W2⟩ := h6.three 1 rfl; obtain ⟨F0, F1⟩ := h6.two 2 rfl; obtain ⟨L0, L1, L2⟩ := h6.three 3 rfl; have HS6 := Go.Lib.hid h6; clear hb h6)))
  all_goals go_ret
  all_goals exact ⟨rfl, HE.out.bel⟩
set_option maxRecDepth 20000 in
set_option maxHeartbeats 8000000 in
theorem pt_no (k : Nat) (A0 A1 : Option Addr) (c0 c1 : Nat) (l0 l1 : List Int) (w : World) (hr : Kd.C (Kd.int .u8) w A0 l0.length l0) (hc : l0.length ≤ c0) (hl : (l0.length : Int) ≤ 1048576) (hl1 : (l1.length : Int) ≤ 1048576) (a b x y : Int) (l : List S29) (hD : spec_DrawLedgerPay.f k l0 = some (a, b, l, x, y)) (p q : Int) (m : List S29) (h1 : spec_LedgerPay.f k a b l x y = some (p, q, m, false)) (h2 : impl_LedgerPay.f k a b l x y = some (p, q, m, false)) (h3 : laws_loLedger.f k p q m p q m = some true) (h4 : spec_LedgerOk.f k a b l = some true) (h5 : spec_FracOk.f k x y = some true) (gn gd : Int) (gm : Bool) (h6 : impl_FracOf.f k (1 + (l1.length : Int) % 3) (1 + (l1.length : Int) % 4) = some (gn, gd, gm)) (h20 : laws_loLedger.f k p q m a b l = some true) : Calls Try.prog 13 #[.slice A0 l0.length c0, .slice A1 l1.length c1] w fun e w' => e = .returned (.bool true) ∧ Below w.heap.size w w' := by
  have HR := Go.Lib.hid hr
  have HC := Go.Lib.hid hc
  have HD := Go.Lib.hid hD
  have H1 := Go.Lib.hid h1
  have H2 := Go.Lib.hid h2
  have H3 := Go.Lib.hid h3
  have H4 := Go.Lib.hid h4
  have H5 := Go.Lib.hid h5
  have H6 := Go.Lib.hid h6
  have H20 := Go.Lib.hid h20
  clear hr hc hD h1 h2 h3 h4 h5 h6 h20
  go_enter Try.func13, Try.ntmps13
  go_wp2_with (first | (go_at_call 26; (refine (spec_DrawLedgerPay.calls k A0 c0 l0 a b l x y _ HR.out HC.out HD.out).mono ?_; rintro e w1 ⟨v2, rfl, hR, hb⟩; obtain ⟨A, c, rfl, hle, hC⟩ := Kd.R_reads hR; have HLE := Go.Lib.hid hle; have HS1 := Go.Lib.hid ((((St.start hb).add hC).push rfl #[.int .i64 a, .int .i64 b, .slice A l.length c] 32).push (p := w1.heap.size + 1) (pt_sz _ _).symm #[.int .i64 x, .int .i64 y] 29); clear hR hC hb hle)) | (go_at_call 27; (refine (spec_LedgerPay.calls k a b A c l x y p q m false _ (HS1.out.row 0 _ rfl) HLE.out H1.out).mono ?_; rintro e w3 ⟨v3, rfl, hR, hb⟩; obtain ⟨Aw, cw, rfl, hle, hC⟩ := Kd.R_reads hR; have HLW := Go.Lib.hid hle; have h2 := (HS1.out.step hb).add hC; obtain ⟨L0, L1, L2⟩ := h2.threeA 1 rfl; obtain ⟨F0, F1⟩ := h2.twoA 0 rfl; have HS2 := Go.Lib.hid (h2.push rfl #[.int .i64 p, .int .i64 q, .slice Aw m.length cw] 32); clear hR hC hb hle h2)) | (go_at_call 28; (refine (impl_LedgerPay.calls k a b A c l x y p q m false _ (HS2.out.row 1 _ rfl) HLE.out H2.out).mono ?_; rintro e w5 ⟨v4, rfl, hV, hb⟩; obtain ⟨Ax, cx, rfl, hle, hC⟩ := V_opens hV; have HLX := Go.Lib.hid hle; have h3 := (HS2.out.step hb).add hC; clear L0 L1 L2 F0 F1; obtain ⟨W0, W1, W2⟩ := h3.threeA 0 rfl; obtain ⟨F0, F1⟩ := h3.twoA 1 rfl; obtain ⟨L0, L1, L2⟩ := h3.threeA 2 rfl; have HS3 := Go.Lib.hid (h3.push rfl #[.int .i64 p, .int .i64 q, .slice Ax m.length cx] 32); clear hV hC hb hle h3)) | (go_at_call 29; (refine (laws_loLedger.calls k p q Ax cx m a b A c l true _ (HS7.out.row 0 _ rfl) HLX.out (HS7.out.row 2 _ rfl) HLE.out H20.out).mono ?_; rintro e w20 ⟨rfl, hb⟩; have HE := Go.Lib.hid (HS7.out.step hb); clear hb)) | (go_at_call 29; (refine (laws_loLedger.calls k p q Ax cx m p q Aw cw m true _ (HS3.out.row 0 _ rfl) HLX.out (HS3.out.row 1 _ rfl) HLW.out H3.out).mono ?_; rintro e w7 ⟨rfl, hb⟩; have h4 := HS3.out.step hb; clear W0 W1 W2 F0 F1 L0 L1 L2; obtain ⟨X0, X1, X2⟩ := h4.three 0 rfl; obtain ⟨W0, W1, W2⟩ := h4.three 1 rfl; obtain ⟨F0, F1⟩ := h4.two 2 rfl; obtain ⟨L0, L1, L2⟩ := h4.three 3 rfl; have HS4 := Go.Lib.hid h4; clear hb h4)) | (go_at_call 15; (refine (spec_LedgerOk.calls k a b A c l true _ (HS4.out.row 2 _ rfl) HLE.out H4.out).mono ?_; rintro e w8 ⟨rfl, hb⟩; have h5 := HS4.out.step hb; clear X0 X1 X2 W0 W1 W2 F0 F1 L0 L1 L2; obtain ⟨X0, X1, X2⟩ := h5.three 0 rfl; obtain ⟨W0, W1, W2⟩ := h5.three 1 rfl; obtain ⟨F0, F1⟩ := h5.two 2 rfl; obtain ⟨L0, L1, L2⟩ := h5.three 3 rfl; have HS5 := Go.Lib.hid h5; clear hb h5)) | (go_at_call 30; (refine (spec_FracOk.calls k x y true _ H5.out).mono ?_; rintro e w9 ⟨rfl, hb⟩; have h6 := HS5.out.step hb; clear X0 X1 X2 W0 W1 W2 F0 F1 L0 L1 L2; obtain ⟨X0, X1, X2⟩ := h6.three 0 rfl; obtain ⟨W0, W1, W2⟩ := h6.three 1 rfl; obtain ⟨F0, F1⟩ := h6.two 2 rfl; obtain ⟨L0, L1, L2⟩ := h6.three 3 rfl; have HS6 := Go.Lib.hid h6; clear hb h6)) | (go_at_call 35; (refine (impl_FracOf.calls k (1 + (l1.length : Int) % 3) (1 + (l1.length : Int) % 4) gn gd gm _ H6.out).mono ?_; rintro e w10 ⟨rfl, hb⟩; have h7 := HS6.out.step hb; clear X0 X1 X2 W0 W1 W2 F0 F1 L0 L1 L2; obtain ⟨X0, X1, X2⟩ := h7.threeA 0 rfl; obtain ⟨F0, F1⟩ := h7.twoA 2 rfl; obtain ⟨L0, L1, L2⟩ := h7.threeA 3 rfl; have HS7 := Go.Lib.hid (h7.push rfl #[.int .i64 gn, .int .i64 gd] 29); clear hb h7)))
  all_goals go_ret
  all_goals exact ⟨rfl, HE.out.bel⟩
set_option maxRecDepth 20000 in
set_option maxHeartbeats 8000000 in
theorem pt_yes (k : Nat) (A0 A1 : Option Addr) (c0 c1 : Nat) (l0 l1 : List Int) (w : World) (hr : Kd.C (Kd.int .u8) w A0 l0.length l0) (hc : l0.length ≤ c0) (hl : (l0.length : Int) ≤ 1048576) (hl1 : (l1.length : Int) ≤ 1048576) (a b x y : Int) (l : List S29) (hD : spec_DrawLedgerPay.f k l0 = some (a, b, l, x, y)) (p q : Int) (m : List S29) (h1 : spec_LedgerPay.f k a b l x y = some (p, q, m, true)) (h2 : impl_LedgerPay.f k a b l x y = some (p, q, m, true)) (h3 : laws_loLedger.f k p q m p q m = some true) (h4 : spec_LedgerOk.f k a b l = some true) (h5 : spec_FracOk.f k x y = some true) (gn gd : Int) (h6 : impl_FracOf.f k (1 + (l1.length : Int) % 3) (1 + (l1.length : Int) % 4) = some (gn, gd, true)) (p1 q1 : Int) (m1 : List S29) (one : Bool) (h7 : impl_LedgerPay.f k p q m gn gd = some (p1, q1, m1, one)) (p2 q2 : Int) (m2 : List S29) (two : Bool) (h8 : impl_LedgerPay.f k a b l gn gd = some (p2, q2, m2, two)) (p3 q3 : Int) (m3 : List S29) (three : Bool) (h9 : impl_LedgerPay.f k p2 q2 m2 x y = some (p3, q3, m3, three)) (sn sd : Int) (st : Bool) (h10 : impl_LedgerSum.f k p1 q1 m1 = some (sn, sd, st)) (tn td : Int) (tt : Bool) (h11 : impl_LedgerSum.f k p3 q3 m3 = some (tn, td, tt)) (hst : one = false ∨ two = false ∨ three = false ∨ (sn = tn ∧ sd = td)) : Calls Try.prog 13 #[.slice A0 l0.length c0, .slice A1 l1.length c1] w fun e w' => e = .returned (.bool true) ∧ Below w.heap.size w w' := by
  have HR := Go.Lib.hid hr
  have HC := Go.Lib.hid hc
  have HD := Go.Lib.hid hD
  have H1 := Go.Lib.hid h1
  have H2 := Go.Lib.hid h2
  have H3 := Go.Lib.hid h3
  have H4 := Go.Lib.hid h4
  have H5 := Go.Lib.hid h5
  have H6 := Go.Lib.hid h6
  have H7 := Go.Lib.hid h7
  have H8 := Go.Lib.hid h8
  have H9 := Go.Lib.hid h9
  have H10 := Go.Lib.hid h10
  have H11 := Go.Lib.hid h11
  clear hr hc hD h1 h2 h3 h4 h5 h6 h7 h8 h9 h10 h11
  go_enter Try.func13, Try.ntmps13
  go_wp2_with (first | (go_at_call 26; (refine (spec_DrawLedgerPay.calls k A0 c0 l0 a b l x y _ HR.out HC.out HD.out).mono ?_; rintro e w1 ⟨v2, rfl, hR, hb⟩; obtain ⟨A, c, rfl, hle, hC⟩ := Kd.R_reads hR; have HLE := Go.Lib.hid hle; have HS1 := Go.Lib.hid ((((St.start hb).add hC).push rfl #[.int .i64 a, .int .i64 b, .slice A l.length c] 32).push (p := w1.heap.size + 1) (pt_sz _ _).symm #[.int .i64 x, .int .i64 y] 29); clear hR hC hb hle)) | (go_at_call 27; (refine (spec_LedgerPay.calls k a b A c l x y p q m true _ (HS1.out.row 0 _ rfl) HLE.out H1.out).mono ?_; rintro e w3 ⟨v3, rfl, hR, hb⟩; obtain ⟨Aw, cw, rfl, hle, hC⟩ := Kd.R_reads hR; have HLW := Go.Lib.hid hle; have h2 := (HS1.out.step hb).add hC; obtain ⟨L0, L1, L2⟩ := h2.threeA 1 rfl; obtain ⟨F0, F1⟩ := h2.twoA 0 rfl; have HS2 := Go.Lib.hid (h2.push rfl #[.int .i64 p, .int .i64 q, .slice Aw m.length cw] 32); clear hR hC hb hle h2)) | (go_at_call 28; (refine (impl_LedgerPay.calls k p2 q2 Az cz m2 x y p3 q3 m3 three _ (HS9.out.row 0 _ rfl) HLZ.out H9.out).mono ?_; rintro e w13 ⟨v7, rfl, hV, hb⟩; obtain ⟨Au, cu, rfl, hle, hC⟩ := V_opens hV; have HLU := Go.Lib.hid hle; have h10 := (HS9.out.step hb).add hC; clear F0 F1; obtain ⟨Y0, Y1, Y2⟩ := h10.threeA 1 rfl; have HS10 := Go.Lib.hid (h10.push rfl #[.int .i64 p3, .int .i64 q3, .slice Au m3.length cu] 32); clear hV hC hb hle h10)) | (go_at_call 28; (refine (impl_LedgerPay.calls k a b A c l gn gd p2 q2 m2 two _ (HS8.out.row 3 _ rfl) HLE.out H8.out).mono ?_; rintro e w12 ⟨v6, rfl, hV, hb⟩; obtain ⟨Az, cz, rfl, hle, hC⟩ := V_opens hV; have HLZ := Go.Lib.hid hle; have h9 := (HS8.out.step hb).add hC; clear F0 F1 L0 L1 L2 G0 G1; obtain ⟨F0, F1⟩ := h9.twoA 4 rfl; have HS9 := Go.Lib.hid (h9.push rfl #[.int .i64 p2, .int .i64 q2, .slice Az m2.length cz] 32); clear hV hC hb hle h9)) | (go_at_call 28; (refine (impl_LedgerPay.calls k p q Ax cx m gn gd p1 q1 m1 one _ (HS7.out.row 0 _ rfl) HLX.out H7.out).mono ?_; rintro e w11 ⟨v5, rfl, hV, hb⟩; obtain ⟨Ay, cy, rfl, hle, hC⟩ := V_opens hV; have HLY := Go.Lib.hid hle; have h8 := (HS7.out.step hb).add hC; clear X0 X1 X2 F0 F1 L0 L1 L2; obtain ⟨F0, F1⟩ := h8.twoA 3 rfl; obtain ⟨L0, L1, L2⟩ := h8.threeA 4 rfl; obtain ⟨G0, G1⟩ := h8.twoA 0 rfl; have HS8 := Go.Lib.hid (h8.push rfl #[.int .i64 p1, .int .i64 q1, .slice Ay m1.length cy] 32); clear hV hC hb hle h8)) | (go_at_call 28; (refine (impl_LedgerPay.calls k a b A c l x y p q m true _ (HS2.out.row 1 _ rfl) HLE.out H2.out).mono ?_; rintro e w5 ⟨v4, rfl, hV, hb⟩; obtain ⟨Ax, cx, rfl, hle, hC⟩ := V_opens hV; have HLX := Go.Lib.hid hle; have h3 := (HS2.out.step hb).add hC; clear L0 L1 L2 F0 F1; obtain ⟨W0, W1, W2⟩ := h3.threeA 0 rfl; obtain ⟨F0, F1⟩ := h3.twoA 1 rfl; obtain ⟨L0, L1, L2⟩ := h3.threeA 2 rfl; have HS3 := Go.Lib.hid (h3.push rfl #[.int .i64 p, .int .i64 q, .slice Ax m.length cx] 32); clear hV hC hb hle h3)) | (go_at_call 29; (refine (laws_loLedger.calls k p q Ax cx m p q Aw cw m true _ (HS3.out.row 0 _ rfl) HLX.out (HS3.out.row 1 _ rfl) HLW.out H3.out).mono ?_; rintro e w7 ⟨rfl, hb⟩; have h4 := HS3.out.step hb; clear W0 W1 W2 F0 F1 L0 L1 L2; obtain ⟨X0, X1, X2⟩ := h4.three 0 rfl; obtain ⟨W0, W1, W2⟩ := h4.three 1 rfl; obtain ⟨F0, F1⟩ := h4.two 2 rfl; obtain ⟨L0, L1, L2⟩ := h4.three 3 rfl; have HS4 := Go.Lib.hid h4; clear hb h4)) | (go_at_call 15; (refine (spec_LedgerOk.calls k a b A c l true _ (HS4.out.row 2 _ rfl) HLE.out H4.out).mono ?_; rintro e w8 ⟨rfl, hb⟩; have h5 := HS4.out.step hb; clear X0 X1 X2 W0 W1 W2 F0 F1 L0 L1 L2; obtain ⟨X0, X1, X2⟩ := h5.three 0 rfl; obtain ⟨W0, W1, W2⟩ := h5.three 1 rfl; obtain ⟨F0, F1⟩ := h5.two 2 rfl; obtain ⟨L0, L1, L2⟩ := h5.three 3 rfl; have HS5 := Go.Lib.hid h5; clear hb h5)) | (go_at_call 30; (refine (spec_FracOk.calls k x y true _ H5.out).mono ?_; rintro e w9 ⟨rfl, hb⟩; have h6 := HS5.out.step hb; clear X0 X1 X2 W0 W1 W2 F0 F1 L0 L1 L2; obtain ⟨X0, X1, X2⟩ := h6.three 0 rfl; obtain ⟨W0, W1, W2⟩ := h6.three 1 rfl; obtain ⟨F0, F1⟩ := h6.two 2 rfl; obtain ⟨L0, L1, L2⟩ := h6.three 3 rfl; have HS6 := Go.Lib.hid h6; clear hb h6)) | (go_at_call 35; (refine (impl_FracOf.calls k (1 + (l1.length : Int) % 3) (1 + (l1.length : Int) % 4) gn gd true _ H6.out).mono ?_; rintro e w10 ⟨rfl, hb⟩; have h7 := HS6.out.step hb; clear X0 X1 X2 W0 W1 W2 F0 F1 L0 L1 L2; obtain ⟨X0, X1, X2⟩ := h7.threeA 0 rfl; obtain ⟨F0, F1⟩ := h7.twoA 2 rfl; obtain ⟨L0, L1, L2⟩ := h7.threeA 3 rfl; have HS7 := Go.Lib.hid (h7.push rfl #[.int .i64 gn, .int .i64 gd] 29); clear hb h7)) | (go_at_call 20; (refine (impl_LedgerSum.calls k p3 q3 Au cu m3 tn td tt _ (HS11.out.row 0 _ rfl) HLU.out H11.out).mono ?_; rintro e w15 ⟨rfl, hb⟩; have h12 := HS11.out.step hb; clear U0 U1 U2; obtain ⟨S0, S1⟩ := h12.twoA 0 rfl; have HS12 := Go.Lib.hid (h12.push rfl #[.int .i64 tn, .int .i64 td] 29); clear hb h12)) | (go_at_call 20; (refine (impl_LedgerSum.calls k p1 q1 Ay cy m1 sn sd st _ (HS10.out.row 2 _ rfl) HLY.out H10.out).mono ?_; rintro e w14 ⟨rfl, hb⟩; have h11 := HS10.out.step hb; clear Y0 Y1 Y2; obtain ⟨U0, U1, U2⟩ := h11.threeA 0 rfl; have HS11 := Go.Lib.hid (h11.push rfl #[.int .i64 sn, .int .i64 sd] 29); clear hb h11)))
  all_goals go_ret
  all_goals first | exact ⟨rfl, HS12.out.bel⟩ | (exfalso; revert hst; simp [*])

theorem pt_big (A0 A1 : Option Addr) (c0 c1 : Nat) (l0 l1 : List Int) (w : World) (h : (1048576 : Int) < (l0.length : Int) ∨ (1048576 : Int) < (l1.length : Int)) :
    Calls Try.prog 13 #[.slice A0 l0.length c0, .slice A1 l1.length c1] w fun e w' => e = .returned (.bool true) ∧ Below w.heap.size w w' := by
  by_cases h0 : (1048576 : Int) < (l0.length : Int)
  · go_enter Try.func13, Try.ntmps13
    go_wp2
    go_ret
    exact ⟨rfl, Below.refl _ _⟩
  · have h1 : (1048576 : Int) < (l1.length : Int) := h.resolve_left h0
    go_enter Try.func13, Try.ntmps13
    go_wp2
    go_ret
    exact ⟨rfl, Below.refl _ _⟩
deriving instance DecidableEq for S29
/-- What the function answers (none where it does not answer true). -/
def laws_FnPayTwo.f (k : Nat) (l0 l1 : List Int) : Option Bool := if (1048576 : Int) < (l0.length : Int) ∨ (1048576 : Int) < (l1.length : Int) then some true else
  (spec_DrawLedgerPay.f k l0).bind fun t => (spec_LedgerPay.f k t.1 t.2.1 t.2.2.1 t.2.2.2.1 t.2.2.2.2).bind fun u => (impl_LedgerPay.f k t.1 t.2.1 t.2.2.1 t.2.2.2.1 t.2.2.2.2).bind fun v => if v = u then
  (laws_loLedger.f k u.1 u.2.1 u.2.2.1 u.1 u.2.1 u.2.2.1).bind fun e => if e = true then (spec_LedgerOk.f k t.1 t.2.1 t.2.2.1).bind fun okl => if okl = false then some true else
  (spec_FracOk.f k t.2.2.2.1 t.2.2.2.2).bind fun okf => if okf = false then some true else (impl_FracOf.f k (1 + (l1.length : Int) % 3) (1 + (l1.length : Int) % 4)).bind fun g =>
  if u.2.2.2 = false then ((laws_loLedger.f k u.1 u.2.1 u.2.2.1 t.1 t.2.1 t.2.2.1).bind fun e2 => if e2 = true then some true else none) else if g.2.2 = true then
  (impl_LedgerPay.f k u.1 u.2.1 u.2.2.1 g.1 g.2.1).bind fun y => (impl_LedgerPay.f k t.1 t.2.1 t.2.2.1 g.1 g.2.1).bind fun z => (impl_LedgerPay.f k z.1 z.2.1 z.2.2.1 t.2.2.2.1 t.2.2.2.2).bind fun x =>
  (impl_LedgerSum.f k y.1 y.2.1 y.2.2.1).bind fun s => (impl_LedgerSum.f k x.1 x.2.1 x.2.2.1).bind fun r => if y.2.2.2 = false ∨ z.2.2.2 = false ∨ x.2.2.2 = false ∨ (s.1 = r.1 ∧ s.2.1 = r.2.1) then some true else none
  else none else none else none
theorem laws_FnPayTwo.calls (k : Nat) (A0 : Option Addr) (c0 : Nat) (l0 : List Int) (A1 : Option Addr) (c1 : Nat) (l1 : List Int) (r : Bool) (w : World) (hr0 : Kd.C (Kd.int .u8) w A0 l0.length l0) (hc0 : l0.length ≤ c0) (h : laws_FnPayTwo.f k l0 l1 = some r) (hrt : r = true) :
    Calls Try.prog 13 #[.slice A0 l0.length c0, .slice A1 l1.length c1] w fun e w' => e = .returned (.bool r) ∧ Below w.heap.size w w' := by
  subst hrt
  unfold laws_FnPayTwo.f at h
  by_cases hb : (1048576 : Int) < (l0.length : Int) ∨ (1048576 : Int) < (l1.length : Int)
  · exact pt_big A0 A1 c0 c1 l0 l1 w hb
  rw [if_neg hb] at h
  have hl : (l0.length : Int) ≤ 1048576 := by omega
  have hl1 : (l1.length : Int) ≤ 1048576 := by omega
  obtain ⟨⟨a, b, l, x, y⟩, hD, g1⟩ := Option.bind_eq_some_iff.1 h
  obtain ⟨⟨p, q, m, o⟩, h1, g2⟩ := Option.bind_eq_some_iff.1 g1
  obtain ⟨v, h2, g3⟩ := Option.bind_eq_some_iff.1 g2
  clear h g1 g2
  dsimp only at h1 h2 g3
  split at g3
  case isFalse => cases g3
  rename_i hv
  subst hv
  obtain ⟨e, h3, g4⟩ := Option.bind_eq_some_iff.1 g3
  clear g3
  split at g4
  case isFalse => cases g4
  rename_i he
  subst he
  obtain ⟨okl, h4, g5⟩ := Option.bind_eq_some_iff.1 g4
  clear g4
  split at g5
  · rename_i he
    subst he
    exact pt_notL k A0 A1 c0 c1 l0 l1 w hr0 hc0 hl hl1 a b x y l hD p q m o h1 h2 h3 h4
  rename_i he
  obtain rfl : okl = true := by cases okl <;> simp_all
  clear he
  obtain ⟨okf, h5, g6⟩ := Option.bind_eq_some_iff.1 g5
  clear g5
  split at g6
  · rename_i he
    subst he
    exact pt_notF k A0 A1 c0 c1 l0 l1 w hr0 hc0 hl hl1 a b x y l hD p q m o h1 h2 h3 h4 h5
  rename_i he
  obtain rfl : okf = true := by cases okf <;> simp_all
  clear he
  obtain ⟨⟨gn, gd, gm⟩, h6, g7⟩ := Option.bind_eq_some_iff.1 g6
  clear g6
  dsimp only at g7
  split at g7
  · rename_i he
    subst he
    obtain ⟨e2, h20, g8⟩ := Option.bind_eq_some_iff.1 g7
    clear g7
    split at g8
    · rename_i he
      subst he
      exact pt_no k A0 A1 c0 c1 l0 l1 w hr0 hc0 hl hl1 a b x y l hD p q m h1 h2 h3 h4 h5 gn gd gm h6 h20
    · cases g8
  rename_i he
  obtain rfl : o = true := by cases o <;> simp_all
  clear he
  split at g7
  case isFalse => cases g7
  rename_i he
  subst he
  obtain ⟨⟨p1, q1, m1, one⟩, h7, g8⟩ := Option.bind_eq_some_iff.1 g7
  obtain ⟨⟨p2, q2, m2, two⟩, h8, g9⟩ := Option.bind_eq_some_iff.1 g8
  obtain ⟨⟨p3, q3, m3, three⟩, h9, g10⟩ := Option.bind_eq_some_iff.1 g9
  obtain ⟨⟨sn, sd, st⟩, h10, g11⟩ := Option.bind_eq_some_iff.1 g10
  obtain ⟨⟨tn, td, tt⟩, h11, g12⟩ := Option.bind_eq_some_iff.1 g11
  clear g7 g8 g9 g10 g11
  dsimp only at h7 h8 h9 h10 h11 g12
  split at g12
  · rename_i hst
    exact pt_yes k A0 A1 c0 c1 l0 l1 w hr0 hc0 hl hl1 a b x y l hD p q m h1 h2 h3 h4 h5 gn gd h6 p1 q1 m1 one h7 p2 q2 m2 two h8 p3 q3 m3 three h9 sn sd st h10 tn td tt h11 hst
  · cases g12
def laws_FnPayTwo.Pure : Prop := ∀ (l0 : List Int) (l1 : List Int), l0.length ≤ maxLen → l0.length * 1 ≤ 140737488351232 → (∀ x ∈ l0, (Lit.int .u8 x).wf = true) → l1.length ≤ maxLen → l1.length * 1 ≤ 140737488351232 → (∀ x ∈ l1, (Lit.int .u8 x).wf = true) → ∃ k, laws_FnPayTwo.f k l0 l1 = some true
theorem laws_FnPayTwo.walk (P : laws_FnPayTwo.Pure) (a0 : Option Addr) (len0 cap0 : Nat) (z0 : List Int) (a1 : Option Addr) (len1 cap1 : Nat) (z1 : List Int) (w : World) (w0 : (a0 = none ∧ len0 = 0 ∧ cap0 = 0 ∧ z0 = []) ∨ ∃ x, a0 = some x ∧ len0 ≤ cap0 ∧ cap0 ≤ maxLen ∧ z0.length = cap0 ∧ (∀ i, i < z0.length → w.cell? (x.add i) = some (.int .u8 (z0.getD i 0))) ∧ ∀ n ∈ z0, (Lit.int .u8 n).wf = true) (y0 : len0 * 1 ≤ 140737488351232) (w1 : (a1 = none ∧ len1 = 0 ∧ cap1 = 0 ∧ z1 = []) ∨ ∃ x, a1 = some x ∧ len1 ≤ cap1 ∧ cap1 ≤ maxLen ∧ z1.length = cap1 ∧ (∀ i, i < z1.length → w.cell? (x.add i) = some (.int .u8 (z1.getD i 0))) ∧ ∀ n ∈ z1, (Lit.int .u8 n).wf = true) (y1 : len1 * 1 ≤ 140737488351232) :
    Calls Try.prog 13 #[.slice a0 len0 cap0, .slice a1 len1 cap1] w fun e w' => e = .returned (.bool true) ∧ Below w.heap.size w w' := by
  obtain ⟨l0, rfl, hr0, hm0, hw0, hc0⟩ := ReadsInt.ofRowC w0
  obtain ⟨l1, rfl, hr1, hm1, hw1, hc1⟩ := ReadsInt.ofRowC w1
  obtain ⟨k, h⟩ := P l0 l1 hm0 y0 hw0 hm1 y1 hw1
  refine (laws_FnPayTwo.calls k _ _ l0 _ _ l1 true w (Kd.C_of_reads (d := (0 : Int)) (h1 := fun _ => rfl) hr0) hc0 h rfl).mono ?_
  rintro e w' ⟨rfl, hd⟩
  exact ⟨rfl, hd⟩
end Go.Proofs.Ytncngkfgalokoaa.PLed

