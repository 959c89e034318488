-- Written by a program of this session over the kit's printer, with contracts proved by hand; Lean checks it.
import Derived.Test.YtncngkfgalokoaaPFnExactLedgerCanx0
import Derived.Test.YtncngkfgalokoaaPFnExactLedgerCanx4
import Derived.Test.YtncngkfgalokoaaPFnExactLedgerCanx5
namespace Go.Proofs.Ytncngkfgalokoaa.PFnExactLedgerCan
open Go.RowKit Go.Proofs.YtncngkfgalokoaaW.PrintWords Go.Proofs.YtncngkfgalokoaaW.PrintLast Go.Proofs.YtncngkfgalokoaaW.PrintMore
attribute [local go_sem] max2_int min2_int max_two min_two max_three min_three max_four min_four   -- for this text's walks alone
set_option linter.unusedVariables false
set_option linter.unusedSimpArgs false

/-! ### impl_LedgerSum: function 20 -/
-- The numbers of functions and types are those of the seat of the ledgers.
def addAll (k : Nat) : Int → Int → List (Int × Int) → Option (Option (Int × Int))
  | n, d, [] => some (some (n, d))
  | n, d, z :: zs => (impl_FracSum.f k n d z.1 z.2).bind fun r => if r.2.2 = true then addAll k r.1 r.2.1 zs else some none
def addEnd (k : Nat) (a0 a1 : Int) : Option (Int × Int) → Option (Int × Int × Bool)
  | none => some (0, 0, false)
  | some s => (impl_FracCmp.f k s.1 s.2 a0 a1).bind fun c => if c > 0 then some (0, 0, false) else some (s.1, s.2, true)
def impl_LedgerSum.f (k : Nat) (a0_0 a0_1 : Int) (l0_2 : List S29) : Option (Int × Int × Bool) := (impl_FracOk.f k a0_0 a0_1).bind fun t => if t = true then (if l0_2.length ≤ 8 then (addAll k 0 1 (ChargesGiv.prs l0_2)).bind (addEnd k a0_0 a0_1) else some (0, 0, false)) else some (0, 0, false)
theorem addAll_mono (k : Nat) (l : List (Int × Int)) : ∀ n d, LeO (addAll k n d l) (addAll (k + 1) n d l) := by
  induction l with
  | nil => exact fun n d => LeO.refl _
  | cons z zs ih =>
    intro n d
    simp only [addAll]
    exact LeO.bind (impl_FracSum.mono _ _ _ _ _) (fun r => LeO.ite (ih _ _) (LeO.refl _))
theorem addEnd_mono (k : Nat) (a0 a1 : Int) (s : Option (Int × Int)) : LeO (addEnd k a0 a1 s) (addEnd (k + 1) a0 a1 s) := by
  cases s with
  | none => exact LeO.refl _
  | some s =>
    simp only [addEnd]
    exact LeO.bind (impl_FracCmp.mono _ _ _ _ _) (fun _ => LeO.refl _)
theorem impl_LedgerSum.mono : ∀ a0 a1 a2 k, LeO (impl_LedgerSum.f k a0 a1 a2) (impl_LedgerSum.f (k + 1) a0 a1 a2) := by
  intro a0 a1 a2 k
  unfold impl_LedgerSum.f
  exact LeO.bind (impl_FracOk.mono _ _ _) (fun t => LeO.ite (LeO.ite (LeO.bind (addAll_mono k _ _ _) (fun s => addEnd_mono k a0 a1 s)) (LeO.refl _)) (LeO.refl _))
theorem l_cell {w : World} {b : Nat} {cs : Array Value} {T : TypeId} {fr : Nat × Nat} (hb : w.heap[b]? = some (.cells cs T fr)) (j : Nat) : w.cell? ⟨b, j, none⟩ = cs[j]? := by simp [World.cell?, hb]
theorem l_frozen {w : World} {b : Nat} {cs : Array Value} {T : TypeId} (hb : w.heap[b]? = some (.cells cs T (0, 0))) (j : Nat) : w.frozen? ⟨b, j, none⟩ = false := by simp [World.frozen?, hb]
theorem l_lt {w : World} {g : Nat} {o : Obj} (hg : w.heap[g]? = some o) : g < w.heap.size := (Array.getElem?_eq_some_iff.1 hg).1
theorem l_two (w : World) (A B : Obj) : ((w.alloc A).alloc B).heap[w.heap.size]? = some A ∧ ((w.alloc A).alloc B).heap[w.heap.size + 1]? = some B := by
  constructor
  · rw [Below.heap_alloc _ _ _ (by simp)]
    show (w.heap.push _)[w.heap.size]? = _
    rw [Array.getElem?_push, if_pos rfl]
  · show ((w.alloc A).heap.push _)[w.heap.size + 1]? = _
    rw [Array.getElem?_push, if_pos (by simp)]
theorem l_new (w : World) (A : Obj) : (w.alloc A).heap[w.heap.size]? = some A := by
  show (w.heap.push _)[w.heap.size]? = _
  rw [Array.getElem?_push, if_pos rfl]
/-- The two boxes with which the function begins: the ledger, the result. -/
structure LBox (w : World) (a0 a1 : Int) (sl : Value) (W : World) : Prop where
  b0 : W.heap[w.heap.size]? = some (.cells #[.int .i64 a0, .int .i64 a1, sl] 32 (0, 0))
  b1 : W.heap[w.heap.size + 1]? = some (.cells #[.int .i64 0, .int .i64 0] 29 (0, 0))
  bel : Below w.heap.size w W
theorem LBox.start (w : World) (a0 a1 : Int) (sl : Value) : LBox w a0 a1 sl ((w.alloc (.cells #[.int .i64 a0, .int .i64 a1, sl] 32)).alloc (.cells #[.int .i64 0, .int .i64 0] 29)) :=
  ⟨(l_two w _ _).1, (l_two w _ _).2, ((Below.refl _ w).alloc (Nat.le_refl _) _).alloc (by simp) _⟩
theorem LBox.step {w W W' : World} {a0 a1 : Int} {sl : Value} (h : LBox w a0 a1 sl W) (hb : Below W.heap.size W W') : LBox w a0 a1 sl W' :=
  ⟨(hb.block _ (l_lt h.b0)).trans h.b0, (hb.block _ (l_lt h.b1)).trans h.b1, h.bel.trans (hb.mono h.bel.size)⟩
theorem LBox.cells {w W : World} {a0 a1 : Int} {sl : Value} (h : LBox w a0 a1 sl W) :
    W.cell? ⟨w.heap.size, 0, none⟩ = some (.int .i64 a0) ∧ W.cell? ⟨w.heap.size, 1, none⟩ = some (.int .i64 a1) ∧ W.cell? ⟨w.heap.size, 2, none⟩ = some sl ∧
    W.cell? ⟨w.heap.size + 1, 0, none⟩ = some (.int .i64 0) ∧ W.cell? ⟨w.heap.size + 1, 1, none⟩ = some (.int .i64 0) ∧ W.frozen? ⟨w.heap.size + 1, 0, none⟩ = false ∧ W.frozen? ⟨w.heap.size + 1, 1, none⟩ = false :=
  ⟨l_cell h.b0 0, l_cell h.b0 1, l_cell h.b0 2, l_cell h.b1 0, l_cell h.b1 1, l_frozen h.b1 0, l_frozen h.b1 1⟩
theorem l_put {W : World} {b : Nat} {T : TypeId} {x y : Value} (h : W.heap[b]? = some (.cells #[x, y] T (0, 0))) (u v : Value) : ((W.setCell ⟨b, 0, none⟩ u).setCell ⟨b, 1, none⟩ v).heap[b]? = some (.cells #[u, v] T (0, 0)) := by
  refine blk_put (cs := #[u, y]) ?_ 1 _ rfl
  exact blk_put (cs := #[x, y]) h 0 _ rfl
theorem l_below {W W' : World} {m b : Nat} (h : Below m W W') (hb : m ≤ b) (u v : Value) : Below m W ((W'.setCell ⟨b, 0, none⟩ u).setCell ⟨b, 1, none⟩ v) := (h.setCell (p := ⟨b, 0, none⟩) hb u).setCell (p := ⟨b, 1, none⟩) hb v
theorem ls_no (k : Nat) (a0_0 : Int) (a0_1 : Int) (A0_2 : Option Addr) (c0_2 : Nat) (n : Nat) (w : World) (h : impl_FracOk.f k a0_0 a0_1 = some false) :
    Calls Try.prog 20 #[.agg #[.int .i64 a0_0, .int .i64 a0_1, .slice A0_2 n c0_2]] w fun e w' => e = .returned (.tuple #[.agg #[.int .i64 0, .int .i64 0], .bool false]) ∧ Below w.heap.size w w' := by
  have HF := Go.Lib.hid h
  clear h
  go_enter Try.func20, Try.ntmps20
  go_wp2_with (go_at_call 45; refine (impl_FracOk.calls k a0_0 a0_1 false _ HF.out).mono ?_; rintro e w' ⟨rfl, hb⟩; have hL := (LBox.start w a0_0 a0_1 _).step hb; obtain ⟨c0, c1, c2, c3, c4, f3, f4⟩ := hL.cells)
  refine bodyPost_ret (results_ct rfl _ _ (w.heap.size + 1) 29 #[.int .i64 0, .int .i64 0] (0, 0) _ rfl (l_put hL.b1 _ _) Try.underlying29 rfl (by kernel_rfl)) rfl ?_
  exact ⟨rfl, l_below hL.bel (by omega) _ _⟩
theorem ls_big (k : Nat) (a0_0 : Int) (a0_1 : Int) (A0_2 : Option Addr) (c0_2 : Nat) (n : Nat) (w : World) (h : impl_FracOk.f k a0_0 a0_1 = some true) (hn : ¬ n ≤ 8) :
    Calls Try.prog 20 #[.agg #[.int .i64 a0_0, .int .i64 a0_1, .slice A0_2 n c0_2]] w fun e w' => e = .returned (.tuple #[.agg #[.int .i64 0, .int .i64 0], .bool false]) ∧ Below w.heap.size w w' := by
  have HF := Go.Lib.hid h
  have hn2 : (8 : Int) < (n : Int) := by omega
  clear h hn
  go_enter Try.func20, Try.ntmps20
  go_wp2_with (go_at_call 45; refine (impl_FracOk.calls k a0_0 a0_1 true _ HF.out).mono ?_; rintro e w' ⟨rfl, hb⟩; have hL := (LBox.start w a0_0 a0_1 _).step hb; obtain ⟨c0, c1, c2, c3, c4, f3, f4⟩ := hL.cells)
  refine bodyPost_ret (results_ct rfl _ _ (w.heap.size + 1) 29 #[.int .i64 0, .int .i64 0] (0, 0) _ rfl (l_put hL.b1 _ _) Try.underlying29 rfl (by kernel_rfl)) rfl ?_
  exact ⟨rfl, l_below hL.bel (by omega) _ _⟩
/-- The sum lies in a box of its own. -/
structure LSt (w : World) (a0 a1 : Int) (sl : Value) (S : Nat) (n d : Int) (W : World) : Prop where
  box : LBox w a0 a1 sl W
  bS : W.heap[S]? = some (.cells #[.int .i64 n, .int .i64 d] 29 (0, 0))
  lt : w.heap.size + 1 < S
theorem LSt.step {w W W' : World} {a0 a1 : Int} {sl : Value} {S : Nat} {n d : Int} (h : LSt w a0 a1 sl S n d W) (hb : Below W.heap.size W W') : LSt w a0 a1 sl S n d W' :=
  ⟨h.box.step hb, (hb.block _ (l_lt h.bS)).trans h.bS, h.lt⟩
theorem LSt.put {w W : World} {a0 a1 : Int} {sl : Value} {S : Nat} {n d : Int} (h : LSt w a0 a1 sl S n d W) (n' d' : Int) : LSt w a0 a1 sl S n' d' ((W.setCell ⟨S, 0, none⟩ (.int .i64 n')).setCell ⟨S, 1, none⟩ (.int .i64 d')) :=
  ⟨⟨by rw [Below.heap_setCell _ _ _ _ (by have := h.lt; show w.heap.size ≠ S; omega), Below.heap_setCell _ _ _ _ (by have := h.lt; show w.heap.size ≠ S; omega)]; exact h.box.b0,
    by rw [Below.heap_setCell _ _ _ _ (by have := h.lt; show w.heap.size + 1 ≠ S; omega), Below.heap_setCell _ _ _ _ (by have := h.lt; show w.heap.size + 1 ≠ S; omega)]; exact h.box.b1,
    l_below h.box.bel (by have := h.lt; omega) _ _⟩, l_put h.bS _ _, h.lt⟩
theorem LSt.cells {w W : World} {a0 a1 : Int} {sl : Value} {S : Nat} {n d : Int} (h : LSt w a0 a1 sl S n d W) :
    W.cell? ⟨S, 0, none⟩ = some (.int .i64 n) ∧ W.cell? ⟨S, 1, none⟩ = some (.int .i64 d) ∧ W.frozen? ⟨S, 0, none⟩ = false ∧ W.frozen? ⟨S, 1, none⟩ = false := ⟨l_cell h.bS 0, l_cell h.bS 1, l_frozen h.bS 0, l_frozen h.bS 1⟩
theorem Chain_below {W W' : World} {N m : Nat} {p : Option Addr} {zs : List (Int × Int)} (h : ChargesGiv.Chain W N p zs) (hb : Below m W W') (hm : W.heap.size ≤ m) : ChargesGiv.Chain W' N p zs :=
  h.step fun b cs _ hbk => hb.block _ (Nat.lt_of_lt_of_le (l_lt hbk) hm)
theorem Chain_put {W : World} {N S : Nat} {p : Option Addr} {zs : List (Int × Int)} (h : ChargesGiv.Chain W N p zs) (hS : S < N) (u v : Value) : ChargesGiv.Chain ((W.setCell ⟨S, 0, none⟩ u).setCell ⟨S, 1, none⟩ v) N p zs :=
  h.step fun b cs hN hbk => by
    rw [Below.heap_setCell _ _ _ _ (by show b ≠ S; omega), Below.heap_setCell _ _ _ _ (by show b ≠ S; omega)]
/-- Behind a round's sum: the box of the next sum lies at nx; the charge's node at b; what follows it from q on. -/
structure NSt (w : World) (a0 a1 : Int) (sl : Value) (S : Nat) (n d : Int) (N b nx : Nat) (z : Int × Int) (q : Option Addr) (zs : List (Int × Int)) (x y : Int) (W : World) : Prop where
  st : LSt w a0 a1 sl S n d W
  nd : W.heap[b]? = some (.cells #[.int .i64 z.1, .int .i64 z.2, .pointer q] 66 (0, 0))
  nb : W.heap[nx]? = some (.cells #[.int .i64 x, .int .i64 y] 29 (0, 0))
  ch : ChargesGiv.Chain W N q zs
theorem NSt.a {w W w4 : World} {a0 a1 : Int} {sl : Value} {S : Nat} {n d : Int} {N b : Nat} {z : Int × Int} {q : Option Addr} {zs : List (Int × Int)} (h : LSt w a0 a1 sl S n d W) (hb : W.heap[b]? = some (.cells #[.int .i64 z.1, .int .i64 z.2, .pointer q] 66 (0, 0))) (hc : ChargesGiv.Chain W N q zs) (hw : Below W.heap.size W w4) (x y : Int) :
    NSt w a0 a1 sl S n d N b w4.heap.size z q zs x y (w4.alloc (.cells #[.int .i64 x, .int .i64 y] 29)) :=
  have hw2 : Below W.heap.size W (w4.alloc (.cells #[.int .i64 x, .int .i64 y] 29)) := hw.alloc hw.size _
  ⟨h.step hw2, (hw2.block _ (l_lt hb)).trans hb, l_new w4 _, Chain_below hc hw2 (Nat.le_refl _)⟩
theorem NSt.b {w W w4 : World} {a0 a1 : Int} {sl : Value} {S : Nat} {n d : Int} {N b : Nat} {z : Int × Int} {q : Option Addr} {zs : List (Int × Int)} (h : LSt w a0 a1 sl S n d W) (hb : W.heap[b]? = some (.cells #[.int .i64 z.1, .int .i64 z.2, .pointer q] 66 (0, 0))) (hc : ChargesGiv.Chain W N q zs) (hw : Below W.heap.size W w4) (hq : w4.heap[W.heap.size]? = some (.cells #[.int .i64 0, .int .i64 0] 29 (0, 0))) (x y : Int) :
    NSt w a0 a1 sl S n d N b W.heap.size z q zs x y ((w4.setCell ⟨W.heap.size, 0, none⟩ (.int .i64 x)).setCell ⟨W.heap.size, 1, none⟩ (.int .i64 y)) :=
  have hw2 := l_below hw (Nat.le_refl _) (.int .i64 x) (.int .i64 y)
  ⟨h.step hw2, (hw2.block _ (l_lt hb)).trans hb, l_put hq _ _, Chain_below hc hw2 (Nat.le_refl _)⟩
theorem l_next {wr w4 : World} (hb4 : Below (wr.alloc (.cells #[.int .i64 0, .int .i64 0] 29)).drew.heap.size (wr.alloc (.cells #[.int .i64 0, .int .i64 0] 29)).drew w4) :
    w4.heap[wr.heap.size]? = some (.cells #[.int .i64 0, .int .i64 0] 29 (0, 0)) := (hb4.block wr.heap.size (l_lt (l_new wr _))).trans (l_new wr _)
set_option maxHeartbeats 2000000 in
theorem ls_yes (k : Nat) (a0_0 : Int) (a0_1 : Int) (A0_2 : Option Addr) (c0_2 : Nat) (l : List S29) (s : Option (Int × Int)) (r1 r2 : Int) (r3 : Bool) (w : World) (hr : Kd.C k29 w A0_2 l.length l) (h : impl_FracOk.f k a0_0 a0_1 = some true) (hn : l.length ≤ 8) (hs : addAll k 0 1 (ChargesGiv.prs l) = some s) (he : addEnd k a0_0 a0_1 s = some (r1, r2, r3)) :
    Calls Try.prog 20 #[.agg #[.int .i64 a0_0, .int .i64 a0_1, .slice A0_2 l.length c0_2]] w fun e w' => e = .returned (.tuple #[.agg #[.int .i64 r1, .int .i64 r2], .bool r3]) ∧ Below w.heap.size w w' := by
  have HF := Go.Lib.hid h
  have HR := Go.Lib.hid hr
  have HS := Go.Lib.hid hs
  have HE := Go.Lib.hid he
  have HN := Go.Lib.hid hn
  have hn2 : ¬ (8 : Int) < (l.length : Int) := by omega
  clear h hr hs he hn
  go_enter Try.func20, Try.ntmps20
  go_wp2_with (first | (go_at_call 45; refine (impl_FracOk.calls k a0_0 a0_1 true _ HF.out).mono ?_; rintro e w' ⟨rfl, hb⟩; have hL := (LBox.start w a0_0 a0_1 (.slice A0_2 l.length c0_2)).step hb; obtain ⟨c0, c1, c2, c3, c4, f3, f4⟩ := hL.cells; have c2a := fun o => pw_cell_below ((Below.refl _ w').alloc (Nat.le_refl _) o) c2) | (go_at_call 46; refine (ChargesGiv.chargesOf_calls A0_2 c0_2 l _ (Kd.C_below HR.out (hL.bel.alloc hL.bel.size _)) (Nat.le_trans HN.out (by omega))).mono ?_; rintro e w3 ⟨p0, rfl, hch, hb3⟩))
  have hS := l_lt hL.b1
  have hst0 : LSt w a0_0 a0_1 (.slice A0_2 l.length c0_2) w'.heap.size 0 1 (w'.alloc (.cells #[.int .i64 0, .int .i64 1] 29)) := ⟨hL.step ((Below.refl _ w').alloc (Nat.le_refl _) _), l_new w' _, hS⟩
  have hst1 := hst0.step hb3
  have hN : w'.heap.size < (w'.alloc (.cells #[.int .i64 0, .int .i64 1] 29)).heap.size := by simp
  generalize w'.heap.size = S at *
  generalize (w'.alloc (.cells #[.int .i64 0, .int .i64 1] 29)).heap.size = N at *
  clear hb hL c0 c1 c2 c3 c4 f3 f4 c2a hst0 hb3 hS
  go_loopg [5] (ChargesGiv.prs l).length (fun gk v5 wr => ∃ p rest n d, v5 = .pointer p ∧ gk = rest.length ∧ ChargesGiv.Chain wr N p rest ∧ LSt w a0_0 a0_1 (.slice A0_2 l.length c0_2) S n d wr ∧ addAll k n d rest = some s)
  case atStart => exact ⟨p0, _, 0, 1, rfl, rfl, hch, hst1, HS.out⟩
  case round =>
    clear HS
    obtain ⟨p, rest, n, d, rfl, rfl, hch, hst, hs⟩ := hrel
    obtain ⟨c0, c1, c2, c3, c4, f3, f4⟩ := hst.box.cells
    obtain ⟨s0, s1, g0, g1⟩ := hst.cells
    cases rest with
    | nil =>
      obtain rfl : p = none := hch
      obtain rfl := Option.some.inj hs
      obtain ⟨c, hc, he⟩ := Option.bind_eq_some_iff.1 HE.out
      have HCC := Go.Lib.hid hc
      have hst' := Go.Lib.hid hst
      clear hc hs hch HE hst
      by_cases hcc : c > 0
      · rw [if_pos hcc] at he
        obtain ⟨rfl, rfl, rfl⟩ : 0 = r1 ∧ 0 = r2 ∧ false = r3 := by simpa using he
        clear he
        go_wp2_with (go_at_call 25; refine (impl_FracCmp.calls k n d a0_0 a0_1 c _ HCC.out).mono ?_; rintro e w4 ⟨rfl, hb4⟩; have hst4 := hst'.out.step hb4; obtain ⟨x0, x1, x2, x3, x4, y3, y4⟩ := hst4.box.cells)
        refine bodyPost_ret (results_ct rfl _ _ (w.heap.size + 1) 29 #[.int .i64 0, .int .i64 0] (0, 0) _ rfl (l_put hst4.box.b1 _ _) Try.underlying29 rfl (by kernel_rfl)) rfl ?_
        exact ⟨rfl, l_below hst4.box.bel (by omega) _ _⟩
      · rw [if_neg hcc] at he
        obtain ⟨rfl, rfl, rfl⟩ : n = r1 ∧ d = r2 ∧ true = r3 := by simpa using he
        clear he
        go_wp2_with (go_at_call 25; refine (impl_FracCmp.calls k n d a0_0 a0_1 c _ HCC.out).mono ?_; rintro e w4 ⟨rfl, hb4⟩; have hst4 := hst'.out.step hb4; obtain ⟨x0, x1, x2, x3, x4, y3, y4⟩ := hst4.box.cells; obtain ⟨z0, z1, _, _⟩ := hst4.cells)
        refine bodyPost_ret (results_ct rfl _ _ (w.heap.size + 1) 29 #[.int .i64 n, .int .i64 d] (0, 0) _ rfl (l_put hst4.box.b1 _ _) Try.underlying29 rfl (by kernel_rfl)) rfl ?_
        exact ⟨rfl, l_below hst4.box.bel (by omega) _ _⟩
    | cons z zs =>
      obtain ⟨b, q, rfl, hNb, hbk, hch2⟩ := hch
      have b0 := l_cell hbk 0
      have b1 := l_cell hbk 1
      simp only [List.getElem?_toArray, List.getElem?_cons_zero, List.getElem?_cons_succ] at b0 b1
      have s0a := fun o => pw_cell_below ((Below.refl _ wr).alloc (Nat.le_refl _) o) s0
      have s1a := fun o => pw_cell_below ((Below.refl _ wr).alloc (Nat.le_refl _) o) s1
      have b0a := fun o => pw_cell_below ((Below.refl _ wr).alloc (Nat.le_refl _) o) b0
      have b1a := fun o => pw_cell_below ((Below.refl _ wr).alloc (Nat.le_refl _) o) b1
      obtain ⟨⟨x, y, o⟩, hx, hs2⟩ := Option.bind_eq_some_iff.1 hs
      have HX := Go.Lib.hid hx
      have HST := Go.Lib.hid hst
      have HBK := Go.Lib.hid hbk
      have HCH := Go.Lib.hid hch2
      have hbS : S < b := by omega
      clear hs hx hst hbk hch2
      cases o
      · obtain rfl : none = s := by simpa using hs2
        obtain ⟨rfl, rfl, rfl⟩ : 0 = r1 ∧ 0 = r2 ∧ false = r3 := by simpa [addEnd] using HE.out
        clear hs2 HE
        go_wp2
        go_region_with (go_at_call 24; refine (impl_FracSum.calls k n d z.1 z.2 x y false _ HX.out).mono ?_; rintro e w4 ⟨rfl, hb4⟩; (first | have hbw : Below wr.heap.size wr w4 := below_then ((Below.refl _ _).drew) (by simp) hb4 | (have hbw : Below wr.heap.size wr w4 := below_then ((below_alloc (Below.refl _ _) _).drew) (by simp) hb4; have hq4 := l_next hb4; have q0 := l_cell hq4 0; have q1 := l_cell hq4 1; have q2 := l_frozen hq4 0; have q3 := l_frozen hq4 1)))
        all_goals (first
          | (have hNN := NSt.b HST.out HBK.out HCH.out hbw hq4 x y; clear q0 q1 q2 q3 hq4; generalize (w4.setCell ⟨wr.heap.size, 0, none⟩ (.int .i64 x)).setCell ⟨wr.heap.size, 1, none⟩ (.int .i64 y) = W5 at hNN ⊢; generalize wr.heap.size = nx at hNN ⊢)
          | (have hNN := NSt.a HST.out HBK.out HCH.out hbw x y; generalize w4.alloc (.cells #[.int .i64 x, .int .i64 y] 29) = W5 at hNN ⊢; generalize w4.heap.size = nx at hNN ⊢))
        all_goals (clear c0 c1 c2 c3 c4 f3 f4 s0 s1 g0 g1 s0a s1a b0a b1a b0 b1)
        all_goals (obtain ⟨c0, c1, c2, c3, c4, f3, f4⟩ := hNN.st.box.cells; obtain ⟨s0, s1, g0, g1⟩ := hNN.st.cells; have n0 := l_cell hNN.nb 0; have n1 := l_cell hNN.nb 1; have d2 := l_cell hNN.nd 2)
        all_goals (simp only [List.getElem?_toArray, List.getElem?_cons_zero, List.getElem?_cons_succ] at n0 n1 d2)
        all_goals (have HNN := Go.Lib.hid hNN; clear hNN HST HBK HCH)
        all_goals go_wp2
        all_goals (refine bodyPost_ret (results_ct rfl _ _ (w.heap.size + 1) 29 #[.int .i64 0, .int .i64 0] (0, 0) _ rfl (l_put HNN.out.st.box.b1 _ _) Try.underlying29 rfl (by kernel_rfl)) rfl ?_)
        all_goals exact ⟨rfl, l_below HNN.out.st.box.bel (by omega) _ _⟩
      · have hs3 : addAll k x y zs = some s := by simpa using hs2
        have HS3 := Go.Lib.hid hs3
        clear hs2 hs3
        go_wp2
        go_region_with (go_at_call 24; refine (impl_FracSum.calls k n d z.1 z.2 x y true _ HX.out).mono ?_; rintro e w4 ⟨rfl, hb4⟩; (first | have hbw : Below wr.heap.size wr w4 := below_then ((Below.refl _ _).drew) (by simp) hb4 | (have hbw : Below wr.heap.size wr w4 := below_then ((below_alloc (Below.refl _ _) _).drew) (by simp) hb4; have hq4 := l_next hb4; have q0 := l_cell hq4 0; have q1 := l_cell hq4 1; have q2 := l_frozen hq4 0; have q3 := l_frozen hq4 1)))
        all_goals (first
          | (have hNN := NSt.b HST.out HBK.out HCH.out hbw hq4 x y; clear q0 q1 q2 q3 hq4; generalize (w4.setCell ⟨wr.heap.size, 0, none⟩ (.int .i64 x)).setCell ⟨wr.heap.size, 1, none⟩ (.int .i64 y) = W5 at hNN ⊢; generalize wr.heap.size = nx at hNN ⊢)
          | (have hNN := NSt.a HST.out HBK.out HCH.out hbw x y; generalize w4.alloc (.cells #[.int .i64 x, .int .i64 y] 29) = W5 at hNN ⊢; generalize w4.heap.size = nx at hNN ⊢))
        all_goals (clear c0 c1 c2 c3 c4 f3 f4 s0 s1 g0 g1 s0a s1a b0a b1a b0 b1)
        all_goals (obtain ⟨c0, c1, c2, c3, c4, f3, f4⟩ := hNN.st.box.cells; obtain ⟨s0, s1, g0, g1⟩ := hNN.st.cells; have n0 := l_cell hNN.nb 0; have n1 := l_cell hNN.nb 1; have d2 := l_cell hNN.nd 2)
        all_goals (simp only [List.getElem?_toArray, List.getElem?_cons_zero, List.getElem?_cons_succ] at n0 n1 d2)
        all_goals (have HNN := Go.Lib.hid hNN; clear hNN HST HBK HCH)
        all_goals go_wp2
        all_goals go_roundg zs.length
        all_goals (first | (simp; done) | exact ⟨q, zs, x, y, rfl, rfl, Chain_put HNN.out.ch (by omega) _ _, HNN.out.st.put x y, HS3.out⟩)
theorem impl_LedgerSum.calls (k : Nat) (a0_0 : Int) (a0_1 : Int) (A0_2 : Option Addr) (c0_2 : Nat) (l0_2 : List (S29)) (r1 : Int) (r2 : Int) (r3 : Bool) (w : World) (hr0_2 : Kd.C k29 w A0_2 l0_2.length l0_2) (hc0_2 : l0_2.length ≤ c0_2) (h : impl_LedgerSum.f k a0_0 a0_1 l0_2 = some (r1, r2, r3)) :
    Calls Try.prog 20 #[.agg #[.int .i64 a0_0, .int .i64 a0_1, .slice A0_2 l0_2.length c0_2]] w fun e w' => e = .returned (.tuple #[.agg #[.int .i64 r1, .int .i64 r2], .bool r3]) ∧ Below w.heap.size w w' := by
  unfold impl_LedgerSum.f at h
  obtain ⟨t, ht, h⟩ := Option.bind_eq_some_iff.1 h
  cases t
  · obtain ⟨rfl, rfl, rfl⟩ : 0 = r1 ∧ 0 = r2 ∧ false = r3 := by simpa using h
    exact ls_no k a0_0 a0_1 A0_2 c0_2 _ w ht
  · rw [if_pos rfl] at h
    by_cases hn : l0_2.length ≤ 8
    · rw [if_pos hn] at h
      obtain ⟨s, hs, he⟩ := Option.bind_eq_some_iff.1 h
      exact ls_yes k a0_0 a0_1 A0_2 c0_2 l0_2 s r1 r2 r3 w hr0_2 ht hn hs he
    · rw [if_neg hn] at h
      obtain ⟨rfl, rfl, rfl⟩ : 0 = r1 ∧ 0 = r2 ∧ false = r3 := by simpa using h
      exact ls_big k a0_0 a0_1 A0_2 c0_2 _ w ht hn

/-! ### impl_LedgerOk: function 17 -/
def impl_LedgerOk.f (k : Nat) (a0_0 : Int) (a0_1 : Int) (l0_2 : List (S29)) : Option (Bool) := (impl_LedgerSum.f k a0_0 a0_1 l0_2).bind fun bt210 => (some bt210.2.2)
theorem impl_LedgerOk.mono : ∀ a0 a1 a2 k, LeO (impl_LedgerOk.f k a0 a1 a2) (impl_LedgerOk.f (k + 1) a0 a1 a2) := by
  intro a0 a1 a2 k
  unfold impl_LedgerOk.f
  repeat' first
      | (with_reducible exact impl_LedgerSum.mono _ _ _ _)
      | (with_reducible exact LeO.refl _)
      | (with_reducible exact LeO.none _)
      | (with_reducible refine LeO.ite ?_ ?_)
      | (with_reducible refine LeO.bind ?_ (fun _ => ?_))
      | exact impl_LedgerSum.mono _ _ _ _
      | exact LeO.none _
      | refine LeO.ite ?_ ?_
      | refine LeO.bind ?_ (fun _ => ?_)
set_option maxHeartbeats 8000000 in
set_option maxRecDepth 100000 in
theorem impl_LedgerOk.calls (k : Nat) (a0_0 : Int) (a0_1 : Int) (A0_2 : Option Addr) (c0_2 : Nat) (l0_2 : List (S29)) (r : Bool) (w : World) (hr0_2 : Kd.C k29 w A0_2 l0_2.length l0_2) (hc0_2 : l0_2.length ≤ c0_2) (h : impl_LedgerOk.f k a0_0 a0_1 l0_2 = some r) :
    Calls Try.prog 17 #[.agg #[.int .i64 a0_0, .int .i64 a0_1, .slice A0_2 l0_2.length c0_2]] w fun e w' => e = .returned (.bool r) ∧ Below w.heap.size w w' := by
  have hu32 := Try.underlying32
  have hu29 := Try.underlying29
  have HR0_2 := Aside0.mk hr0_2
  have HC0_2 := Aside0.mk hc0_2
  clear hr0_2 hc0_2
  have HB := Aside0.mk (Below.refl w.heap.size w)
  have H : ((impl_LedgerSum.f k a0_0 a0_1 l0_2).bind fun bt210 => (some bt210.2.2)) = some r := h
  clear h
  replace H := Option.bind_eq_some_iff.mp H
  obtain ⟨⟨t210, t211, t212⟩, A20, H⟩ := H
  replace H : (some t212) = some r := H
  have A2 := Aside0.mk A20
  clear A20
  obtain rfl := Option.some.inj H
  go_enter Try.func17, Try.ntmps17
  go_wp2_with (first | ((with_reducible refine gate_dst (N := 1) rfl ?_); refine box_event ?hg (N := 1) ?hd (cs := #[.int .i64 a0_0, .int .i64 a0_1, .slice A0_2 l0_2.length c0_2]) (t := 32) ?hr ?_; (case hd => rfl); (case hg => rfl); (case hr => first | (go_simp; done) | (go_simp; rfl)); intro gb209 hg w3 hbox hb; have n0_ := Aside0.mk (below_step (by repeat (first | (with_reducible first | exact HB.out | apply below_alloc | apply pw_below_drewN | apply below_drew1) | exact HB.out)) hb); have n1_ := Aside0.mk (hbox); have n2_ := Aside0.mk ((by rw [hg]; exact (below_size (by repeat (first | (with_reducible first | exact HB.out | apply below_alloc | apply pw_below_drewN | apply below_drew1) | exact HB.out))) : w.heap.size ≤ gb209)); have n3_ := Aside0.mk ((by rw [hg]; exact (below_size (by repeat (first | (with_reducible first | exact HB.out | apply below_alloc | apply pw_below_drewN | apply below_drew1) | exact HB.out))) : w.heap.size ≤ gb209)); clear HB; have HB := n0_; have BK209 := n1_; have GW209 := n2_; have GE209 := n3_; clear n0_ n1_ n2_ n3_; clear hb hbox hg; have hcz4_0 : w3.cell? ⟨gb209, 0, none⟩ = some (.int .i64 a0_0) := (blk_cell BK209.out 0).trans rfl; have hcz4_1 : w3.cell? ⟨gb209, 1, none⟩ = some (.int .i64 a0_1) := (blk_cell BK209.out 1).trans rfl; have hcz4_2 : w3.cell? ⟨gb209, 2, none⟩ = some (.slice A0_2 l0_2.length c0_2) := (blk_cell BK209.out 2).trans rfl; have hfz4_0 := blk_frozen BK209.out 0; have hfz4_1 := blk_frozen BK209.out 1; have hfz4_2 := blk_frozen BK209.out 2) | ((with_reducible refine gate_callee (f := 20) rfl ?_); refine goesL_ (some 7) rfl rfl Try.func20 (by kernel_rfl) rfl #[.agg #[.int .i64 a0_0, .int .i64 a0_1, .slice A0_2 l0_2.length c0_2]] rfl (by (try simp only [List.map_toArray, List.map_cons, List.map_nil]); first | done | rfl | (simp only [List.length_drop, List.length_take]; rfl)) ?_; (with_reducible refine (impl_LedgerSum.calls k a0_0 a0_1 _ _ l0_2 t210 t211 t212 _ ?side1 ?side2 A2.out).mono ?_); (case side1 => repeat (first | exact (Kd.C_below HR0_2.out HB.out) | (with_reducible refine Kd.C_alloc ?_ _) | (with_reducible refine Kd.C_drewN ?_ _) | (with_reducible refine Kd.C_drew ?_))); (case side2 => exact HC0_2.out); rintro e w5 ⟨rfl, hb⟩; refine ⟨_, rfl, ?_⟩; have n0_ := Aside0.mk (blk_below (g := gb209) (o := .cells #[.int .i64 a0_0, .int .i64 a0_1, .slice A0_2 l0_2.length c0_2] 32 (0, 0)) (by (with_reducible repeat (first | refine blk_drewN ?_ _ | refine blk_drew ?_ | refine blk_alloc ?_ _)); exact BK209.out) hb); have n1_ := Aside0.mk (below_step (by repeat (first | (with_reducible first | exact HB.out | apply below_alloc | apply pw_below_drewN | apply below_drew1 | refine below_set ?_ GE209.out) | exact HB.out)) hb); clear BK209; clear HB; have BK209 := n0_; have HB := n1_; clear n0_ n1_; (try clear hb); (try clear hb2); (try clear hk); (try clear hi)) | ((with_reducible refine gate_dst (N := 3) rfl ?_); refine box_event ?hg (N := 3) ?hd (cs := #[.int .i64 0, .int .i64 0]) (t := 29) ?hr ?_; (case hd => rfl); (case hg => rfl); (case hr => first | (go_simp; done) | (go_simp; rfl)); intro gb213 hg w6 hbox hb; have n0_ := Aside0.mk (blk_below (g := gb209) (o := .cells #[.int .i64 a0_0, .int .i64 a0_1, .slice A0_2 l0_2.length c0_2] 32 (0, 0)) (by (with_reducible repeat (first | refine blk_drewN ?_ _ | refine blk_drew ?_ | refine blk_alloc ?_ _)); exact BK209.out) hb); have n1_ := Aside0.mk (below_step (by repeat (first | (with_reducible first | exact HB.out | apply below_alloc | apply pw_below_drewN | apply below_drew1 | refine below_set ?_ GE209.out) | exact HB.out)) hb); have n2_ := Aside0.mk (hbox); have n3_ := Aside0.mk ((by rw [hg]; exact (below_size (by repeat (first | (with_reducible first | exact HB.out | apply below_alloc | apply pw_below_drewN | apply below_drew1 | refine below_set ?_ GE209.out) | exact HB.out))) : w.heap.size ≤ gb213)); have n4_ := Aside0.mk ((by rw [hg]; exact (below_size (by repeat (first | (with_reducible first | exact HB.out | apply below_alloc | apply pw_below_drewN | apply below_drew1 | refine below_set ?_ GE209.out) | exact HB.out))) : w.heap.size ≤ gb213)); have n5_ := Aside0.mk ((by rw [hg]; exact Nat.ne_of_lt (blk_lt (g := gb209) (o := .cells #[.int .i64 a0_0, .int .i64 a0_1, .slice A0_2 l0_2.length c0_2] 32 (0, 0)) (by (with_reducible repeat (first | refine blk_drewN ?_ _ | refine blk_drew ?_ | refine blk_alloc ?_ _)); exact BK209.out)) : gb209 ≠ gb213)); have n6_ := Aside0.mk ((by rw [hg]; exact Nat.ne_of_gt (blk_lt (g := gb209) (o := .cells #[.int .i64 a0_0, .int .i64 a0_1, .slice A0_2 l0_2.length c0_2] 32 (0, 0)) (by (with_reducible repeat (first | refine blk_drewN ?_ _ | refine blk_drew ?_ | refine blk_alloc ?_ _)); exact BK209.out)) : gb213 ≠ gb209)); clear BK209; clear HB; have BK209 := n0_; have HB := n1_; have BK213 := n2_; have GW213 := n3_; have GE213 := n4_; have NB209_213 := n5_; have NB213_209 := n6_; clear n0_ n1_ n2_ n3_ n4_ n5_ n6_; clear hb hbox hg; have hnb7 := NB213_209.out; have hnc7 := NB209_213.out; have hcz8_0 : w6.cell? ⟨gb213, 0, none⟩ = some (.int .i64 0) := (blk_cell BK213.out 0).trans rfl; have hcz8_1 : w6.cell? ⟨gb213, 1, none⟩ = some (.int .i64 0) := (blk_cell BK213.out 1).trans rfl; have hfz8_0 := blk_frozen BK213.out 0; have hfz8_1 := blk_frozen BK213.out 1))
  go_ret
  exact ⟨by first | rfl | (simp [errW_none, errW_some] <;> rfl) | (simp [*, errW_none, errW_some] <;> rfl), by repeat (first | (with_reducible first | exact HB.out | apply below_alloc | apply pw_below_drewN | apply below_drew1 | refine below_set ?_ GE209.out | refine below_set ?_ GE213.out) | exact HB.out)⟩

/-! ### impl_LedgerPay: function 28 -/
-- The numbers of functions and types are those of the seat of the ledgers.
namespace PayGiv
theorem l_cell {w : World} {b : Nat} {cs : Array Value} {T : TypeId} {fr : Nat × Nat} (hb : w.heap[b]? = some (.cells cs T fr)) (j : Nat) : w.cell? ⟨b, j, none⟩ = cs[j]? := by simp [World.cell?, hb]
theorem l_new (w : World) (A : Obj) : (w.alloc A).heap[w.heap.size]? = some A := by
  show (w.heap.push _)[w.heap.size]? = _
  rw [Array.getElem?_push, if_pos rfl]
theorem lclip_calls (A : Option Addr) (n cap : Nat) (w : World) (hn : n ≤ cap) :
    Calls Try.prog 51 #[.slice A n cap] w fun e w' => e = .returned (.slice A n n) ∧ w' = w := by
  obtain ⟨i9, hi9, hz9, hsz9, _⟩ := info_parts info29
  go_enter Try.func51, Try.ntmps51
  go_wp2
  go_ret
  exact ⟨rfl, rfl⟩
theorem kd_empty (w : World) (ok : Nat → Prop) (hok : ok w.heap.size) : Kd.R k29 29 (w.alloc (.cells #[] 29)) w.heap.size ok (.slice (some ⟨w.heap.size, 0, none⟩) 0 0) [] := by
  refine ⟨fun k hk => ?_, [], ⟨by simp, .inr ⟨w.heap.size, 0, #[], rfl, Nat.le_refl _, l_new w _, Nat.le_refl _, by simp [maxLen], by simp, by simp⟩⟩, Reps.none _ _⟩
  have : w.heap.size = k := by simpa [Value.ownBlock] using hk
  subst this
  exact hok
/-- The cells of a row of fractions. -/
def fcs (l : List S29) : List Value := l.flatMap fun z => [.int .i64 z.f0, .int .i64 z.f1]
theorem fcs_length (l : List S29) : (fcs l).length = l.length * 2 := by
  induction l with
  | nil => rfl
  | cons z zs ih => simp only [fcs, List.flatMap_cons, List.length_append, List.length_cons, List.length_nil] at *; omega
theorem fcs_get (l : List S29) : ∀ j (hj : j < l.length), (fcs l)[j * 2]? = some (.int .i64 (l[j]).f0) ∧ (fcs l)[j * 2 + 1]? = some (.int .i64 (l[j]).f1) := by
  induction l with
  | nil => intro j hj; simp at hj
  | cons z zs ih =>
    intro j hj
    have e : fcs (z :: zs) = .int .i64 z.f0 :: .int .i64 z.f1 :: fcs zs := rfl
    rw [e]
    cases j with
    | zero => exact ⟨rfl, rfl⟩
    | succ j =>
      have h := ih j (by simpa using hj)
      have e1 : (j + 1) * 2 = j * 2 + 1 + 1 := by omega
      rw [e1]
      simpa using h
theorem fcs_read {w : World} {A : Option Addr} {l : List S29} (h : Kd.C k29 w A l.length l) (ad : Addr) (hA : A = some ad) : ∀ j u, (fcs l)[j]? = some u → w.cell? (ad.add j) = some u := by
  intro j u hu
  have hj : j < (fcs l).length := (List.getElem?_eq_some_iff.1 hu).1
  rw [fcs_length] at hj
  obtain ⟨ad', e, hc⟩ := h.2.2 (by omega)
  rw [hA] at e
  obtain rfl := Option.some.inj e
  have hq : j / 2 < l.length := by omega
  obtain ⟨c, hl, hK, hcc⟩ := hc (j / 2) l[j / 2] (List.getElem?_eq_getElem hq)
  obtain rfl := k29_open hK
  have hg := fcs_get l (j / 2) hq
  have hm : j = j / 2 * 2 ∨ j = j / 2 * 2 + 1 := by omega
  rcases hm with hm | hm
  · rw [hm, hg.1] at hu
    rw [hm]
    exact hcc 0 u (by simpa using hu)
  · rw [hm, hg.2] at hu
    rw [hm]
    exact hcc 1 u (by simpa using hu)
theorem fcs_one (l : List S29) : ∀ u ∈ fcs l, u.oneCell' = true := by
  intro u hu
  unfold fcs at hu
  obtain ⟨z, _, hz⟩ := List.mem_flatMap.1 hu
  rcases List.mem_cons.1 hz with rfl | hz
  · rfl
  · obtain rfl := List.mem_singleton.1 hz
    rfl
theorem fcs_own {w : World} {base : Nat} {v : Value} {l : List S29} (ok : Nat → Prop) (h : w.ownsRow base 29 2 v l.length (fcs l)) (hok : ∀ k, v.ownBlock = some k → ok k) : Kd.R k29 29 w base ok v l := by
  refine ⟨hok, fcs l, h, ⟨by rw [fcs_length]; rfl, fun j p hp => ?_⟩⟩
  obtain ⟨hj, rfl⟩ := List.getElem?_eq_some_iff.1 hp
  have hg := fcs_get l j hj
  have e : ((fcs l).drop (j * k29.sz)).take k29.sz = [.int .i64 (l[j]).f0, .int .i64 (l[j]).f1] := by
    show ((fcs l).drop (j * 2)).take 2 = _
    apply List.ext_getElem?
    intro i
    rw [List.getElem?_take, List.getElem?_drop]
    rcases i with _ | _ | i
    · simpa using hg.1
    · simpa using hg.2
    · rw [if_neg (by omega)]; rfl
  rw [e]
  exact k29_mkM _ _ _ _
theorem lclone_calls (A : Option Addr) (cap : Nat) (l : List S29) (w : World) (h : Kd.C k29 w A l.length l) (hl : l.length ≤ 1000) :
    Calls Try.prog 60 #[.slice A l.length cap] w fun e w' => ∃ A' c', e = .returned (.slice A' l.length c') ∧ l.length ≤ c' ∧ Kd.F k29 w' (fun k => w.heap.size ≤ k) A' l.length l ∧ (A' = none → l.length = 0) ∧ Below w.heap.size w w' := by
  have hsz := fcs_length l
  obtain ⟨i9, hi9, hz9, hsz9, hby9⟩ := info_parts info29
  have heq := fun (W : World) a n c => Lib.run_eql_slice_nil (P := Try.prog) W 30 29 a n c 0 0 Try.underlying30
  cases A with
  | none =>
    have h0 : l = [] := by
      cases l with
      | nil => rfl
      | cons z zs =>
        obtain ⟨ad, e, _⟩ := h.2.2 (by simp)
        cases e
    subst h0
    clear h hl hsz
    go_enter Try.func60, Try.ntmps60
    go_wp2
    go_ret
    exact ⟨none, 0, rfl, Nat.le_refl _, Kd.F_nil _ _ _, fun _ => trivial, Below.refl _ _⟩
  | some ad =>
    by_cases h0 : l = []
    · subst h0
      clear h hl hsz
      go_enter Try.func60, Try.ntmps60
      go_wp2
      go_ret
      have hR := kd_empty w (fun k => w.heap.size ≤ k) (Nat.le_refl _)
      exact ⟨_, 0, rfl, Nat.le_refl _, (Kd.V_at (Kd.R_V (base' := w.heap.size) hR)).2.2, fun _ => trivial, (Below.refl _ w).alloc (Nat.le_refl _) _⟩
    · have hpos : 0 < l.length := List.length_pos_iff.2 h0
      have HR := Go.Lib.hid (fcs_read h ad rfl)
      have HSZ := Go.Lib.hid hsz
      clear h hsz
      go_enter Try.func60, Try.ntmps60
      go_wp2_with (at_builtin; refine wpList_append_grows _ rfl _ _ 30 rfl 29 i9 (.agg #[.int .i64 0, .int .i64 0]) 2 16 Try.underlying30 hi9 hz9 hsz9 hby9 rfl (by decide) (some ⟨w.heap.size, 0, none⟩) 0 0 [] rfl (fun h => by cases h) rfl (fun b hb j u hu => by simp at hu) ad l.length cap (fcs l) rfl HSZ.out (fun j u hu => pw_cell_below ((Below.refl _ w).alloc (Nat.le_refl _) _) (HR.out j u hu)) (fcs_one l) (by omega) (by simp only [maxLen]; omega) (by omega) ?_; intro v' w' hown hgr; have HO := Go.Lib.hid hown; have HG := Go.Lib.hid hgr; clear hown hgr)
      go_ret
      have hown := HO.out
      rw [Nat.zero_add, List.nil_append] at hown
      have hbw : Below w.heap.size w w' := pw_below_grown ((Below.refl _ w).alloc (Nat.le_refl _) _) none (by simp) HG.out (fun k hk => by cases hk)
      have hR := fcs_own (fun k => w.heap.size ≤ k) (own_weaken (base' := w.heap.size) hown (by simp)) (fun k hk => by have := own_base hown k hk; simp at this; omega)
      obtain ⟨A', c', rfl, hle, hF⟩ := Kd.R_V (base' := w.heap.size) hR
      refine ⟨A', c', rfl, hle, hF, fun hA => ?_, hbw⟩
      subst hA
      obtain ⟨ad', e, _⟩ := (Kd.F_now hF).2.2 hpos
      cases e
theorem l_two (w : World) (A B : Obj) : ((w.alloc A).alloc B).heap[w.heap.size]? = some A ∧ ((w.alloc A).alloc B).heap[w.heap.size + 1]? = some B := by
  constructor
  · rw [Below.heap_alloc _ _ _ (by simp)]
    exact l_new w A
  · show ((w.alloc A).heap.push _)[w.heap.size + 1]? = _
    rw [Array.getElem?_push, if_pos (by simp)]
theorem l_frozen {w : World} {b : Nat} {cs : Array Value} {T : TypeId} (hb : w.heap[b]? = some (.cells cs T (0, 0))) (j : Nat) : w.frozen? ⟨b, j, none⟩ = false := by simp [World.frozen?, hb]
theorem l_lt {w : World} {g : Nat} {o : Obj} (hg : w.heap[g]? = some o) : g < w.heap.size := (Array.getElem?_eq_some_iff.1 hg).1
theorem l_put3 {W : World} {b : Nat} {T : TypeId} {x y z : Value} (h : W.heap[b]? = some (.cells #[x, y, z] T (0, 0))) (u v t : Value) : (((W.setCell ⟨b, 0, none⟩ u).setCell ⟨b, 1, none⟩ v).setCell ⟨b, 2, none⟩ t).heap[b]? = some (.cells #[u, v, t] T (0, 0)) := by
  refine blk_put (cs := #[u, v, z]) ?_ 2 _ rfl
  refine blk_put (cs := #[u, y, z]) ?_ 1 _ rfl
  exact blk_put (cs := #[x, y, z]) h 0 _ rfl
theorem l_below3 {W W' : World} {m b : Nat} (h : Below m W W') (hb : m ≤ b) (u v t : Value) : Below m W (((W'.setCell ⟨b, 0, none⟩ u).setCell ⟨b, 1, none⟩ v).setCell ⟨b, 2, none⟩ t) := ((h.setCell (p := ⟨b, 0, none⟩) hb u).setCell (p := ⟨b, 1, none⟩) hb v).setCell (p := ⟨b, 2, none⟩) hb t
/-- The two boxes with which 'copied' begins. -/
structure CBox (w : World) (a0 a1 : Int) (sl : Value) (W : World) : Prop where
  b0 : W.heap[w.heap.size]? = some (.cells #[.int .i64 a0, .int .i64 a1, sl] 32 (0, 0))
  b1 : W.heap[w.heap.size + 1]? = some (.cells #[.int .i64 0, .int .i64 0, .slice none 0 0] 32 (0, 0))
  bel : Below w.heap.size w W
theorem CBox.start (w : World) (a0 a1 : Int) (sl : Value) : CBox w a0 a1 sl ((w.alloc (.cells #[.int .i64 a0, .int .i64 a1, sl] 32)).alloc (.cells #[.int .i64 0, .int .i64 0, .slice none 0 0] 32)) :=
  ⟨(l_two w _ _).1, (l_two w _ _).2, ((Below.refl _ w).alloc (Nat.le_refl _) _).alloc (by simp) _⟩
theorem CBox.step {w W W' : World} {a0 a1 : Int} {sl : Value} (h : CBox w a0 a1 sl W) (hb : Below W.heap.size W W') : CBox w a0 a1 sl W' :=
  ⟨(hb.block _ (l_lt h.b0)).trans h.b0, (hb.block _ (l_lt h.b1)).trans h.b1, h.bel.trans (hb.mono h.bel.size)⟩
theorem CBox.cells {w W : World} {a0 a1 : Int} {sl : Value} (h : CBox w a0 a1 sl W) :
    W.cell? ⟨w.heap.size, 0, none⟩ = some (.int .i64 a0) ∧ W.cell? ⟨w.heap.size, 1, none⟩ = some (.int .i64 a1) ∧ W.cell? ⟨w.heap.size, 2, none⟩ = some sl ∧
    W.cell? ⟨w.heap.size + 1, 0, none⟩ = some (.int .i64 0) ∧ W.cell? ⟨w.heap.size + 1, 1, none⟩ = some (.int .i64 0) ∧ W.cell? ⟨w.heap.size + 1, 2, none⟩ = some (.slice none 0 0) ∧ W.frozen? ⟨w.heap.size + 1, 0, none⟩ = false ∧ W.frozen? ⟨w.heap.size + 1, 1, none⟩ = false ∧ W.frozen? ⟨w.heap.size + 1, 2, none⟩ = false :=
  ⟨l_cell h.b0 0, l_cell h.b0 1, l_cell h.b0 2, l_cell h.b1 0, l_cell h.b1 1, l_cell h.b1 2, l_frozen h.b1 0, l_frozen h.b1 1, l_frozen h.b1 2⟩
theorem lF_below {W : World} {ok : Nat → Prop} {A : Option Addr} {n : Nat} {xs : List S29} {b : Nat} (h : Kd.F k29 W ok A n xs) (hok : ∀ k, ok k → k ≠ b) (u v t : Value) : Kd.F k29 (((W.setCell ⟨b, 0, none⟩ u).setCell ⟨b, 1, none⟩ v).setCell ⟨b, 2, none⟩ t) ok A n xs :=
  Kd.F_far (p := ⟨b, 2, none⟩) (Kd.F_far (p := ⟨b, 1, none⟩) (Kd.F_far (p := ⟨b, 0, none⟩) h hok u) hok v) hok t
set_option maxHeartbeats 4000000 in
theorem lcopied_calls (a0 a1 : Int) (A : Option Addr) (cap : Nat) (l : List S29) (w : World) (h : Kd.C k29 w A l.length l) (hl : l.length ≤ 1000) :
    Calls Try.prog 50 #[.agg #[.int .i64 a0, .int .i64 a1, .slice A l.length cap]] w fun e w' => ∃ A', e = .returned (.agg #[.int .i64 a0, .int .i64 a1, .slice A' l.length l.length]) ∧ Kd.F k29 w' (fun k => w.heap.size ≤ k) A' l.length l ∧ (A' = none → l.length = 0) ∧ Below w.heap.size w w' := by
  have HR := Go.Lib.hid h
  have HL := Go.Lib.hid hl
  have HS := Go.Lib.hid (CBox.start w a0 a1 (.slice A l.length cap))
  clear h hl
  go_enter Try.func50, Try.ntmps50
  go_wp2
  go_region_with (first | (go_at_call 60; refine (lclone_calls A cap l _ (Kd.C_below HR.out (by repeat (first | exact Below.refl _ _ | apply pw_below_drewN | apply below_drew1 | apply below_alloc))) HL.out).mono ?_; rintro e w4 ⟨A4, c4, rfl, hle, hF, hA, hb4⟩; have HF := Go.Lib.hid hF; have HA := Go.Lib.hid hA; clear hF hA; have hcb := HS.out.step (below_then (by repeat (first | exact Below.refl _ _ | apply pw_below_drewN | apply below_drew1)) (by simp) hb4); obtain ⟨x0, x1, x2, x3, x4, x5, y3, y4, y5⟩ := hcb.cells) | (go_at_call 51; refine (lclip_calls A4 _ c4 _ hle).mono ?_; rintro e w5 ⟨rfl, rfl⟩))
  all_goals go_wp2
  all_goals (refine bodyPost_ret (results_cell_row rfl _ _ (w.heap.size + 1) 32 #[.int .i64 a0, .int .i64 a1, .slice A4 l.length l.length] (0, 0) _ rfl (l_put3 hcb.b1 _ _ _) Try.underlying32 rfl (by kernel_rfl)) rfl ?_)
  all_goals exact ⟨A4, rfl, Kd.F_mono (lF_below (b := w.heap.size + 1) HF.out (fun k hk => by simp at hk; omega) _ _ _) (fun k hk => by simp at hk; omega), HA.out, l_below3 hcb.bel (by omega) _ _ _⟩
theorem below_grown {w w1 : World} (h : w.grownBy w1 none) : Below w.heap.size w w1 := ⟨h.os, h.tape, h.output, h.size, fun i hi => h.block i hi (by simp)⟩
theorem l_three (w : World) (A B C : Obj) : (((w.alloc A).alloc B).alloc C).heap[w.heap.size]? = some A ∧ (((w.alloc A).alloc B).alloc C).heap[w.heap.size + 1]? = some B ∧ (((w.alloc A).alloc B).alloc C).heap[w.heap.size + 2]? = some C := by
  obtain ⟨h1, h2⟩ := l_two w A B
  refine ⟨?_, ?_, ?_⟩
  · rw [Below.heap_alloc _ _ _ (l_lt h1)]; exact h1
  · rw [Below.heap_alloc _ _ _ (l_lt h2)]; exact h2
  · have := l_new ((w.alloc A).alloc B) C
    simpa using this
/-- The three boxes with which 'LedgerPay' begins. -/
structure PBox (w : World) (a0 a1 : Int) (sl : Value) (x0 x1 : Int) (W : World) : Prop where
  b0 : W.heap[w.heap.size]? = some (.cells #[.int .i64 a0, .int .i64 a1, sl] 32 (0, 0))
  b1 : W.heap[w.heap.size + 1]? = some (.cells #[.int .i64 x0, .int .i64 x1] 29 (0, 0))
  b2 : W.heap[w.heap.size + 2]? = some (.cells #[.int .i64 0, .int .i64 0, .slice none 0 0] 32 (0, 0))
  bel : Below w.heap.size w W
theorem PBox.start (w : World) (a0 a1 : Int) (sl : Value) (x0 x1 : Int) : PBox w a0 a1 sl x0 x1 (((w.alloc (.cells #[.int .i64 a0, .int .i64 a1, sl] 32)).alloc (.cells #[.int .i64 x0, .int .i64 x1] 29)).alloc (.cells #[.int .i64 0, .int .i64 0, .slice none 0 0] 32)) :=
  ⟨(l_three w _ _ _).1, (l_three w _ _ _).2.1, (l_three w _ _ _).2.2, (((Below.refl _ w).alloc (Nat.le_refl _) _).alloc (by simp) _).alloc (by simp; omega) _⟩
theorem PBox.step {w W W' : World} {a0 a1 : Int} {sl : Value} {x0 x1 : Int} (h : PBox w a0 a1 sl x0 x1 W) (hb : Below W.heap.size W W') : PBox w a0 a1 sl x0 x1 W' :=
  ⟨(hb.block _ (l_lt h.b0)).trans h.b0, (hb.block _ (l_lt h.b1)).trans h.b1, (hb.block _ (l_lt h.b2)).trans h.b2, h.bel.trans (hb.mono h.bel.size)⟩
theorem PBox.cells {w W : World} {a0 a1 : Int} {sl : Value} {x0 x1 : Int} (h : PBox w a0 a1 sl x0 x1 W) :
    W.cell? ⟨w.heap.size, 0, none⟩ = some (.int .i64 a0) ∧ W.cell? ⟨w.heap.size, 1, none⟩ = some (.int .i64 a1) ∧ W.cell? ⟨w.heap.size, 2, none⟩ = some sl ∧
    W.cell? ⟨w.heap.size + 1, 0, none⟩ = some (.int .i64 x0) ∧ W.cell? ⟨w.heap.size + 1, 1, none⟩ = some (.int .i64 x1) ∧
    W.cell? ⟨w.heap.size + 2, 0, none⟩ = some (.int .i64 0) ∧ W.cell? ⟨w.heap.size + 2, 1, none⟩ = some (.int .i64 0) ∧ W.cell? ⟨w.heap.size + 2, 2, none⟩ = some (.slice none 0 0) ∧ W.frozen? ⟨w.heap.size + 2, 0, none⟩ = false ∧ W.frozen? ⟨w.heap.size + 2, 1, none⟩ = false ∧ W.frozen? ⟨w.heap.size + 2, 2, none⟩ = false :=
  ⟨l_cell h.b0 0, l_cell h.b0 1, l_cell h.b0 2, l_cell h.b1 0, l_cell h.b1 1, l_cell h.b2 0, l_cell h.b2 1, l_cell h.b2 2, l_frozen h.b2 0, l_frozen h.b2 1, l_frozen h.b2 2⟩
theorem PBox.far {w W : World} {a0 a1 : Int} {sl : Value} {x0 x1 : Int} (h : PBox w a0 a1 sl x0 x1 W) (O : Nat) (hO : w.heap.size + 2 < O) (v : Value) : PBox w a0 a1 sl x0 x1 (W.setCell ⟨O, 2, none⟩ v) :=
  ⟨by rw [Below.heap_setCell _ _ _ _ (by show w.heap.size ≠ O; omega)]; exact h.b0, by rw [Below.heap_setCell _ _ _ _ (by show w.heap.size + 1 ≠ O; omega)]; exact h.b1,
   by rw [Below.heap_setCell _ _ _ _ (by show w.heap.size + 2 ≠ O; omega)]; exact h.b2, h.bel.setCell (p := ⟨O, 2, none⟩) (by show w.heap.size ≤ O; omega) v⟩
theorem l_box (w : World) (o : Obj) (x0 x1 : Int) : ∀ j u, [Value.int .i64 x0, Value.int .i64 x1][j]? = some u → ((w.alloc o).alloc (.cells #[.int .i64 x0, .int .i64 x1] 29)).cell? ((⟨w.heap.size + 1, 0, none⟩ : Addr).add j) = some u := by
  have hy := (l_two w o (.cells #[.int .i64 x0, .int .i64 x1] 29)).2
  intro j u hu
  rcases j with _ | _ | j
  · rw [show (⟨w.heap.size + 1, 0, none⟩ : Addr).add 0 = ⟨w.heap.size + 1, 0, none⟩ from rfl, l_cell hy 0]; exact hu
  · rw [show (⟨w.heap.size + 1, 0, none⟩ : Addr).add 1 = ⟨w.heap.size + 1, 1, none⟩ from rfl, l_cell hy 1]; exact hu
  · simp at hu
theorem l_onec (x0 x1 : Int) : ∀ u ∈ [Value.int .i64 x0, Value.int .i64 x1], u.oneCell' = true := by
  intro u hu
  rcases List.mem_cons.1 hu with rfl | hu
  · rfl
  · obtain rfl := List.mem_singleton.1 hu
    rfl
theorem fcs_snoc (l : List S29) (x0 x1 : Int) : fcs (l ++ [⟨x0, x1⟩]) = fcs l ++ [.int .i64 x0, .int .i64 x1] := by simp [fcs]
theorem lp_app {w w6 w7 : World} {a0 a1 x0 x1 : Int} {sl : Value} {l l2 : List S29} {A6 : Option Addr} {v7 : Value} (HP6 : PBox w a0 a1 sl x0 x1 w6) (hl2 : l2 = l ++ [⟨x0, x1⟩])
    (hown : w7.ownsRow ((w6.alloc (.cells #[.int .i64 a0, .int .i64 a1, .slice A6 l.length l.length] 32)).alloc (.cells #[.int .i64 x0, .int .i64 x1] 29)).heap.size 29 2 v7 (l.length + 1) (fcs l ++ [.int .i64 x0, .int .i64 x1]))
    (hgr : ((w6.alloc (.cells #[.int .i64 a0, .int .i64 a1, .slice A6 l.length l.length] 32)).alloc (.cells #[.int .i64 x0, .int .i64 x1] 29)).grownBy w7 none) :
    ∃ A7 c7, v7 = .slice A7 l2.length c7 ∧ l2.length ≤ c7 ∧ Kd.F k29 w7 (fun k => w6.heap.size + 2 ≤ k) A7 l2.length l2 ∧ PBox w a0 a1 sl x0 x1 w7 ∧ w7.heap[w6.heap.size]? = some (.cells #[.int .i64 a0, .int .i64 a1, .slice A6 l.length l.length] 32 (0, 0)) := by
  have hbw7 := below_grown hgr
  have hO7 := (hbw7.block _ (l_lt (l_two w6 _ _).1)).trans (l_two w6 (.cells #[.int .i64 a0, .int .i64 a1, .slice A6 l.length l.length] 32) (.cells #[.int .i64 x0, .int .i64 x1] 29)).1
  have hown2 : w7.ownsRow ((w6.alloc (.cells #[.int .i64 a0, .int .i64 a1, .slice A6 l.length l.length] 32)).alloc (.cells #[.int .i64 x0, .int .i64 x1] 29)).heap.size 29 2 v7 l2.length (fcs l2) := by
    rw [hl2, List.length_append, fcs_snoc]; exact hown
  have hsz : ((w6.alloc (.cells #[.int .i64 a0, .int .i64 a1, .slice A6 l.length l.length] 32)).alloc (.cells #[.int .i64 x0, .int .i64 x1] 29)).heap.size = w6.heap.size + 2 := by simp
  have hR7 := fcs_own (fun k => w6.heap.size + 2 ≤ k) hown2 (fun k hk => by have := own_base hown2 k hk; omega)
  obtain ⟨A7, c7, e7, hle7, hF7⟩ := Kd.R_V (base' := w6.heap.size) hR7
  exact ⟨A7, c7, e7, hle7, hF7, (HP6.step (((Below.refl _ w6).alloc (Nat.le_refl _) _).alloc (by simp) _)).step hbw7, hO7⟩
section
variable {okf : Int → Int → List S29 → Option Bool} (hok : ∀ (a0 a1 : Int) (A : Option Addr) (c : Nat) (l : List S29) (r : Bool) (w : World), Kd.C k29 w A l.length l → l.length ≤ c → okf a0 a1 l = some r → Calls Try.prog 17 #[.agg #[.int .i64 a0, .int .i64 a1, .slice A l.length c]] w fun e w' => e = .returned (.bool r) ∧ Below w.heap.size w w')
include hok
theorem lp_no1 (a0 a1 x0 x1 : Int) (A : Option Addr) (c : Nat) (l : List S29) (w : World) (hr : Kd.C k29 w A l.length l) (hc : l.length ≤ c) (h1 : okf a0 a1 l = some false) :
    Calls Try.prog 28 #[.agg #[.int .i64 a0, .int .i64 a1, .slice A l.length c], .agg #[.int .i64 x0, .int .i64 x1]] w fun e w' => e = .returned (.tuple #[.agg #[.int .i64 0, .int .i64 0, .slice none 0 0], .bool false]) ∧ Below w.heap.size w w' := by
  have HR := Go.Lib.hid hr
  have HC := Go.Lib.hid hc
  have H1 := Go.Lib.hid h1
  have HOK := Go.Lib.hid hok
  have HS := Go.Lib.hid (PBox.start w a0 a1 (.slice A l.length c) x0 x1)
  clear hr hc h1 hok
  go_enter Try.func28, Try.ntmps28
  go_wp2_with (go_at_call 17; refine (HOK.out a0 a1 A c l false _ (Kd.C_below HR.out HS.out.bel) HC.out H1.out).mono ?_; rintro e w4 ⟨rfl, hb4⟩; have hpb := HS.out.step hb4; obtain ⟨c0, c1, c2, d0, d1, e0, e1, e2, f0, f1, f2⟩ := hpb.cells)
  refine bodyPost_ret (results_ct rfl _ _ (w.heap.size + 2) 32 #[.int .i64 0, .int .i64 0, .slice none 0 0] (0, 0) _ rfl (l_put3 hpb.b2 _ _ _) Try.underlying32 rfl (by kernel_rfl)) rfl ?_
  exact ⟨rfl, l_below3 hpb.bel (by omega) _ _ _⟩
theorem lp_no2 (k : Nat) (a0 a1 x0 x1 : Int) (A : Option Addr) (c : Nat) (l : List S29) (w : World) (hr : Kd.C k29 w A l.length l) (hc : l.length ≤ c) (h1 : okf a0 a1 l = some true) (h2 : impl_FracOk.f k x0 x1 = some false) :
    Calls Try.prog 28 #[.agg #[.int .i64 a0, .int .i64 a1, .slice A l.length c], .agg #[.int .i64 x0, .int .i64 x1]] w fun e w' => e = .returned (.tuple #[.agg #[.int .i64 0, .int .i64 0, .slice none 0 0], .bool false]) ∧ Below w.heap.size w w' := by
  have HR := Go.Lib.hid hr
  have HC := Go.Lib.hid hc
  have H1 := Go.Lib.hid h1
  have H2 := Go.Lib.hid h2
  have HOK := Go.Lib.hid hok
  have HS := Go.Lib.hid (PBox.start w a0 a1 (.slice A l.length c) x0 x1)
  clear hr hc h1 h2 hok
  go_enter Try.func28, Try.ntmps28
  go_wp2_with (first | (go_at_call 17; refine (HOK.out a0 a1 A c l true _ (Kd.C_below HR.out HS.out.bel) HC.out H1.out).mono ?_; rintro e w4 ⟨rfl, hb4⟩; have HP4 := Go.Lib.hid (HS.out.step hb4); obtain ⟨-, -, -, d0, d1, -⟩ := HP4.out.cells; clear hb4) | (go_at_call 45; refine (impl_FracOk.calls k x0 x1 false _ H2.out).mono ?_; rintro e w5 ⟨rfl, hb5⟩; have hpb := HP4.out.step hb5; obtain ⟨c0, c1, c2, d0, d1, e0, e1, e2, f0, f1, f2⟩ := hpb.cells))
  refine bodyPost_ret (results_ct rfl _ _ (w.heap.size + 2) 32 #[.int .i64 0, .int .i64 0, .slice none 0 0] (0, 0) _ rfl (l_put3 hpb.b2 _ _ _) Try.underlying32 rfl (by kernel_rfl)) rfl ?_
  exact ⟨rfl, l_below3 hpb.bel (by omega) _ _ _⟩
set_option maxHeartbeats 4000000 in
theorem lp_yes (k : Nat) (a0 a1 x0 x1 : Int) (A : Option Addr) (c : Nat) (l : List S29) (w : World) (hr : Kd.C k29 w A l.length l) (hc : l.length ≤ c) (hl : l.length ≤ 100) (h1 : okf a0 a1 l = some true) (h2 : impl_FracOk.f k x0 x1 = some true) (h3 : okf a0 a1 (l ++ [⟨x0, x1⟩]) = some true) :
    Calls Try.prog 28 #[.agg #[.int .i64 a0, .int .i64 a1, .slice A l.length c], .agg #[.int .i64 x0, .int .i64 x1]] w fun e w' => ∃ v2_, e = .returned (.tuple #[.agg #[.int .i64 a0, .int .i64 a1, v2_], .bool true]) ∧ Kd.V k29 29 w' w.heap.size (fun k_ => w.heap.size ≤ k_) v2_ (l ++ [⟨x0, x1⟩]) ∧ Below w.heap.size w w' := by
  obtain ⟨i9, hi9, hz9, hsz9, hby9⟩ := info_parts info29
  obtain ⟨l2, hl2⟩ : ∃ l2, l2 = l ++ [(⟨x0, x1⟩ : S29)] := ⟨_, rfl⟩
  rw [← hl2] at h3 ⊢
  have HL2 := Go.Lib.hid hl2
  have HL := Go.Lib.hid hl
  have HR := Go.Lib.hid hr
  have HC := Go.Lib.hid hc
  have H1 := Go.Lib.hid h1
  have H2 := Go.Lib.hid h2
  have H3 := Go.Lib.hid h3
  have HOK := Go.Lib.hid hok
  have HS := Go.Lib.hid (PBox.start w a0 a1 (.slice A l.length c) x0 x1)
  clear hr hc h1 h2 h3 hok hl2 hl
  go_enter Try.func28, Try.ntmps28
  go_wp2_with (first | (go_at_call 17; refine (HOK.out a0 a1 A7 l2.length l2 true _ (Kd.F_now (Kd.F_far (p := ⟨w6.heap.size, 2, none⟩) HF7.out (fun k hk => by simp at hk ⊢; omega) _)) (Nat.le_refl _) H3.out).mono ?_; rintro e w9 ⟨rfl, hb9⟩; clear o0 o1 o2 q2; have hP9 := (HP7.out.far w6.heap.size hlt6 (.slice A7 l2.length l2.length)).step hb9; have hO9 := (hb9.block w6.heap.size (l_lt (blk_put (cs := #[.int .i64 a0, .int .i64 a1, .slice A6 l.length l.length]) HO7.out 2 (.slice A7 l2.length l2.length) rfl))).trans (blk_put (cs := #[.int .i64 a0, .int .i64 a1, .slice A6 l.length l.length]) HO7.out 2 (.slice A7 l2.length l2.length) rfl); obtain ⟨-, -, -, -, -, e0, e1, e2, f0, f1, f2⟩ := hP9.cells; have o0 := l_cell hO9 0; have o1 := l_cell hO9 1; have o2 := l_cell hO9 2; simp only [List.getElem?_toArray, List.setIfInBounds_toArray, List.set_cons_zero, List.set_cons_succ, List.getElem?_cons_zero, List.getElem?_cons_succ] at o0 o1 o2; have hF9 := Kd.F_below (Kd.F_far (p := ⟨w6.heap.size, 2, none⟩) HF7.out (fun k hk => by simp at hk ⊢; omega) (.slice A7 l2.length l2.length)) hb9; have HP9 := Go.Lib.hid hP9; have HF9 := Go.Lib.hid hF9; clear hb9 hP9 hO9 hF9) | (go_at_call 17; refine (HOK.out a0 a1 A c l true _ (Kd.C_below HR.out HS.out.bel) HC.out H1.out).mono ?_; rintro e w4 ⟨rfl, hb4⟩; have HP4 := Go.Lib.hid (HS.out.step hb4); obtain ⟨-, -, -, d0, d1, -⟩ := HP4.out.cells; clear hb4) | (go_at_call 45; refine (impl_FracOk.calls k x0 x1 true _ H2.out).mono ?_; rintro e w5 ⟨rfl, hb5⟩; clear d0 d1; have HP5 := Go.Lib.hid (HP4.out.step hb5); obtain ⟨c0, c1, c2, -⟩ := HP5.out.cells; clear hb5) | (go_at_call 50; refine (lcopied_calls a0 a1 A c l _ (Kd.C_below HR.out HP5.out.bel) (by have := HL.out; omega)).mono ?_; rintro e w6 ⟨A6, rfl, hF6, hA6, hb6⟩; clear c0 c1 c2; have HP6 := Go.Lib.hid (HP5.out.step hb6); have d0 := fun o => l_cell (HP6.out.step ((Below.refl _ w6).alloc (Nat.le_refl _) o)).b1 0; have d1 := fun o => l_cell (HP6.out.step ((Below.refl _ w6).alloc (Nat.le_refl _) o)).b1 1; simp only [List.getElem?_toArray, List.getElem?_cons_zero, List.getElem?_cons_succ] at d0 d1; have HF6 := Go.Lib.hid hF6; have HA6 := Go.Lib.hid hA6; clear hF6 hA6 hb6) | (at_builtin; refine wpList_append_grows _ rfl _ _ 30 rfl 29 i9 (.agg #[.int .i64 0, .int .i64 0]) 2 16 Try.underlying30 hi9 hz9 hsz9 hby9 rfl (by decide) A6 l.length l.length (fcs l) rfl (fun h => ⟨HA6.out h, HA6.out h⟩) (fcs_length l) (fun b hb => fcs_read (Kd.C_below (Kd.F_now HF6.out) ((below_alloc (Below.refl _ w6) _).alloc (by simp) _)) b hb) ⟨w6.heap.size + 1, 0, none⟩ 1 1 [.int .i64 x0, .int .i64 x1] rfl rfl (l_box w6 _ x0 x1) (l_onec x0 x1) (by omega) (by simp only [maxLen]; have := HL.out; omega) (by have := HL.out; omega) ?_; intro v7 w7 hown hgr; obtain ⟨A7, c7, rfl, hle7, hF7, hP7, hO7⟩ := lp_app HP6.out HL2.out hown hgr; clear hown hgr d0 d1; have o0 := l_cell hO7 0; have o1 := l_cell hO7 1; have o2 := l_cell hO7 2; have q2 := l_frozen hO7 2; simp only [List.getElem?_toArray, List.getElem?_cons_zero, List.getElem?_cons_succ] at o0 o1 o2; have hlt6 := l_lt HP6.out.b2; have HP7 := Go.Lib.hid hP7; have HO7 := Go.Lib.hid hO7; have HF7 := Go.Lib.hid hF7; clear hP7 hO7 hF7) | (go_at_call 51; refine (lclip_calls A7 l2.length c7 _ hle7).mono ?_; rintro e w8 ⟨rfl, rfl⟩))
  refine bodyPost_ret (results_ct rfl _ _ (w.heap.size + 2) 32 #[.int .i64 a0, .int .i64 a1, .slice A7 l2.length l2.length] (0, 0) _ rfl (l_put3 HP9.out.b2 _ _ _) Try.underlying32 rfl (by kernel_rfl)) rfl ?_
  exact ⟨_, rfl, Kd.V_mk (Nat.le_refl _) (Kd.F_mono (lF_below (b := w.heap.size + 2) HF9.out (fun k hk => by (try simp at hk); omega) _ _ _) (fun k hk => by (try simp at hk); omega)), l_below3 HP9.out.bel (by omega) _ _ _⟩
set_option maxHeartbeats 4000000 in
theorem lp_back (k : Nat) (a0 a1 x0 x1 : Int) (A : Option Addr) (c : Nat) (l : List S29) (w : World) (hr : Kd.C k29 w A l.length l) (hc : l.length ≤ c) (hl : l.length ≤ 100) (h1 : okf a0 a1 l = some true) (h2 : impl_FracOk.f k x0 x1 = some true) (h3 : okf a0 a1 (l ++ [⟨x0, x1⟩]) = some false) :
    Calls Try.prog 28 #[.agg #[.int .i64 a0, .int .i64 a1, .slice A l.length c], .agg #[.int .i64 x0, .int .i64 x1]] w fun e w' => ∃ v2_, e = .returned (.tuple #[.agg #[.int .i64 a0, .int .i64 a1, v2_], .bool false]) ∧ Kd.V k29 29 w' w.heap.size (fun k_ => w.heap.size ≤ k_) v2_ (l) ∧ Below w.heap.size w w' := by
  obtain ⟨i9, hi9, hz9, hsz9, hby9⟩ := info_parts info29
  obtain ⟨l2, hl2⟩ : ∃ l2, l2 = l ++ [(⟨x0, x1⟩ : S29)] := ⟨_, rfl⟩
  rw [← hl2] at h3
  have HL2 := Go.Lib.hid hl2
  have HL := Go.Lib.hid hl
  have HR := Go.Lib.hid hr
  have HC := Go.Lib.hid hc
  have H1 := Go.Lib.hid h1
  have H2 := Go.Lib.hid h2
  have H3 := Go.Lib.hid h3
  have HOK := Go.Lib.hid hok
  have HS := Go.Lib.hid (PBox.start w a0 a1 (.slice A l.length c) x0 x1)
  clear hr hc h1 h2 h3 hok hl2 hl
  go_enter Try.func28, Try.ntmps28
  go_wp2_with (first | (go_at_call 17; refine (HOK.out a0 a1 A7 l2.length l2 false _ (Kd.F_now (Kd.F_far (p := ⟨w6.heap.size, 2, none⟩) HF7.out (fun k hk => by simp at hk ⊢; omega) _)) (Nat.le_refl _) H3.out).mono ?_; rintro e w9 ⟨rfl, hb9⟩; clear o0 o1 o2 q2; have hP9 := (HP7.out.far w6.heap.size hlt6 (.slice A7 l2.length l2.length)).step hb9; have hO9 := (hb9.block w6.heap.size (l_lt (blk_put (cs := #[.int .i64 a0, .int .i64 a1, .slice A6 l.length l.length]) HO7.out 2 (.slice A7 l2.length l2.length) rfl))).trans (blk_put (cs := #[.int .i64 a0, .int .i64 a1, .slice A6 l.length l.length]) HO7.out 2 (.slice A7 l2.length l2.length) rfl); obtain ⟨c0, c1, c2, -⟩ := hP9.cells; have HP9 := Go.Lib.hid hP9; clear hb9 hP9 hO9) | (go_at_call 50; refine (lcopied_calls a0 a1 A c l _ (Kd.C_below HR.out HP9.out.bel) (by have := HL.out; omega)).mono ?_; rintro e w10 ⟨A10, rfl, hF10, hA10, hb10⟩; have hP10 := HP9.out.step hb10; obtain ⟨-, -, -, -, -, e0, e1, e2, f0, f1, f2⟩ := hP10.cells; have hbel9 := HP9.out.bel.size; have hlt9 := l_lt HP9.out.b2; have HF10 := Go.Lib.hid hF10; have HP10 := Go.Lib.hid hP10; clear hF10 hA10 hb10 hP10) | (go_at_call 17; refine (HOK.out a0 a1 A c l true _ (Kd.C_below HR.out HS.out.bel) HC.out H1.out).mono ?_; rintro e w4 ⟨rfl, hb4⟩; have HP4 := Go.Lib.hid (HS.out.step hb4); obtain ⟨-, -, -, d0, d1, -⟩ := HP4.out.cells; clear hb4) | (go_at_call 45; refine (impl_FracOk.calls k x0 x1 true _ H2.out).mono ?_; rintro e w5 ⟨rfl, hb5⟩; clear d0 d1; have HP5 := Go.Lib.hid (HP4.out.step hb5); obtain ⟨c0, c1, c2, -⟩ := HP5.out.cells; clear hb5) | (go_at_call 50; refine (lcopied_calls a0 a1 A c l _ (Kd.C_below HR.out HP5.out.bel) (by have := HL.out; omega)).mono ?_; rintro e w6 ⟨A6, rfl, hF6, hA6, hb6⟩; clear c0 c1 c2; have HP6 := Go.Lib.hid (HP5.out.step hb6); have d0 := fun o => l_cell (HP6.out.step ((Below.refl _ w6).alloc (Nat.le_refl _) o)).b1 0; have d1 := fun o => l_cell (HP6.out.step ((Below.refl _ w6).alloc (Nat.le_refl _) o)).b1 1; simp only [List.getElem?_toArray, List.getElem?_cons_zero, List.getElem?_cons_succ] at d0 d1; have HF6 := Go.Lib.hid hF6; have HA6 := Go.Lib.hid hA6; clear hF6 hA6 hb6) | (at_builtin; refine wpList_append_grows _ rfl _ _ 30 rfl 29 i9 (.agg #[.int .i64 0, .int .i64 0]) 2 16 Try.underlying30 hi9 hz9 hsz9 hby9 rfl (by decide) A6 l.length l.length (fcs l) rfl (fun h => ⟨HA6.out h, HA6.out h⟩) (fcs_length l) (fun b hb => fcs_read (Kd.C_below (Kd.F_now HF6.out) ((below_alloc (Below.refl _ w6) _).alloc (by simp) _)) b hb) ⟨w6.heap.size + 1, 0, none⟩ 1 1 [.int .i64 x0, .int .i64 x1] rfl rfl (l_box w6 _ x0 x1) (l_onec x0 x1) (by omega) (by simp only [maxLen]; have := HL.out; omega) (by have := HL.out; omega) ?_; intro v7 w7 hown hgr; obtain ⟨A7, c7, rfl, hle7, hF7, hP7, hO7⟩ := lp_app HP6.out HL2.out hown hgr; clear hown hgr d0 d1; have o0 := l_cell hO7 0; have o1 := l_cell hO7 1; have o2 := l_cell hO7 2; have q2 := l_frozen hO7 2; simp only [List.getElem?_toArray, List.getElem?_cons_zero, List.getElem?_cons_succ] at o0 o1 o2; have hlt6 := l_lt HP6.out.b2; have HP7 := Go.Lib.hid hP7; have HO7 := Go.Lib.hid hO7; have HF7 := Go.Lib.hid hF7; clear hP7 hO7 hF7) | (go_at_call 51; refine (lclip_calls A7 l2.length c7 _ hle7).mono ?_; rintro e w8 ⟨rfl, rfl⟩))
  refine bodyPost_ret (results_ct rfl _ _ (w.heap.size + 2) 32 #[.int .i64 a0, .int .i64 a1, .slice A10 l.length l.length] (0, 0) _ rfl (l_put3 HP10.out.b2 _ _ _) Try.underlying32 rfl (by kernel_rfl)) rfl ?_
  exact ⟨_, rfl, Kd.V_mk (Nat.le_refl _) (Kd.F_mono (lF_below (b := w.heap.size + 2) HF10.out (fun k hk => by (try simp at hk); omega) _ _ _) (fun k hk => by (try simp at hk); omega)), l_below3 HP10.out.bel (by omega) _ _ _⟩
end
end PayGiv
def impl_LedgerPay.f (k : Nat) (a0_0 a0_1 : Int) (l0_2 : List (S29)) (a1_0 a1_1 : Int) : Option (Int × Int × (List (S29)) × Bool) := (impl_LedgerOk.f k a0_0 a0_1 l0_2).bind fun t => if t = true then ((impl_FracOk.f k a1_0 a1_1).bind fun u => if u = true then (if l0_2.length ≤ 100 then ((impl_LedgerOk.f k a0_0 a0_1 (l0_2 ++ [(⟨a1_0, a1_1⟩ : S29)])).bind fun v => if v = true then some (a0_0, a0_1, l0_2 ++ [(⟨a1_0, a1_1⟩ : S29)], true) else some (a0_0, a0_1, l0_2, false)) else none) else some (0, 0, [], false)) else some (0, 0, [], false)
theorem impl_LedgerPay.mono : ∀ a0 a1 a2 a3 a4 k, LeO (impl_LedgerPay.f k a0 a1 a2 a3 a4) (impl_LedgerPay.f (k + 1) a0 a1 a2 a3 a4) := by
  intro a0 a1 a2 a3 a4 k
  unfold impl_LedgerPay.f
  exact LeO.bind (impl_LedgerOk.mono _ _ _ _) (fun t => LeO.ite (LeO.bind (impl_FracOk.mono _ _ _) (fun u => LeO.ite (LeO.ite (LeO.bind (impl_LedgerOk.mono _ _ _ _) (fun v => LeO.refl _)) (LeO.refl _)) (LeO.refl _))) (LeO.refl _))
theorem impl_LedgerPay.calls (k : Nat) (a0_0 : Int) (a0_1 : Int) (A0_2 : Option Addr) (c0_2 : Nat) (l0_2 : List (S29)) (a1_0 : Int) (a1_1 : Int) (r1 : Int) (r2 : Int) (r3 : List (S29)) (r4 : Bool) (w : World) (hr0_2 : Kd.C k29 w A0_2 l0_2.length l0_2) (hc0_2 : l0_2.length ≤ c0_2) (h : impl_LedgerPay.f k a0_0 a0_1 l0_2 a1_0 a1_1 = some (r1, r2, r3, r4)) :
    Calls Try.prog 28 #[.agg #[.int .i64 a0_0, .int .i64 a0_1, .slice A0_2 l0_2.length c0_2], .agg #[.int .i64 a1_0, .int .i64 a1_1]] w fun e w' => ∃ v2_ : Value, e = .returned (.tuple #[.agg #[.int .i64 r1, .int .i64 r2, v2_], .bool r4]) ∧ Kd.V k29 29 w' w.heap.size (fun k_ => (w.heap.size ≤ k_)) v2_ r3 ∧ Below w.heap.size w w' := by
  have hok : ∀ (a0 a1 : Int) (A : Option Addr) (c : Nat) (l : List S29) (r : Bool) (w : World), Kd.C k29 w A l.length l → l.length ≤ c → impl_LedgerOk.f k a0 a1 l = some r → Calls Try.prog 17 #[.agg #[.int .i64 a0, .int .i64 a1, .slice A l.length c]] w fun e w' => e = .returned (.bool r) ∧ Below w.heap.size w w' :=
    fun a0 a1 A c l r w h1 h2 h3 => impl_LedgerOk.calls k a0 a1 A c l r w h1 h2 h3
  unfold impl_LedgerPay.f at h
  obtain ⟨t, ht, h⟩ := Option.bind_eq_some_iff.1 h
  cases t
  · obtain ⟨rfl, rfl, rfl, rfl⟩ : 0 = r1 ∧ 0 = r2 ∧ [] = r3 ∧ false = r4 := by simpa using h
    exact (PayGiv.lp_no1 hok a0_0 a0_1 a1_0 a1_1 A0_2 c0_2 l0_2 w hr0_2 hc0_2 ht).mono fun e w' ⟨he, hb⟩ => ⟨_, he, Kd.V_nil _ _ _ _ _, hb⟩
  · rw [if_pos rfl] at h
    obtain ⟨u, hu, h⟩ := Option.bind_eq_some_iff.1 h
    cases u
    · obtain ⟨rfl, rfl, rfl, rfl⟩ : 0 = r1 ∧ 0 = r2 ∧ [] = r3 ∧ false = r4 := by simpa using h
      exact (PayGiv.lp_no2 hok k a0_0 a0_1 a1_0 a1_1 A0_2 c0_2 l0_2 w hr0_2 hc0_2 ht hu).mono fun e w' ⟨he, hb⟩ => ⟨_, he, Kd.V_nil _ _ _ _ _, hb⟩
    · rw [if_pos rfl] at h
      split at h
      · rename_i hl
        obtain ⟨v, hv, h⟩ := Option.bind_eq_some_iff.1 h
        cases v
        · obtain ⟨rfl, rfl, rfl, rfl⟩ : a0_0 = r1 ∧ a0_1 = r2 ∧ l0_2 = r3 ∧ false = r4 := by simpa using h
          exact PayGiv.lp_back hok k a0_0 a0_1 a1_0 a1_1 A0_2 c0_2 l0_2 w hr0_2 hc0_2 hl ht hu hv
        · obtain ⟨rfl, rfl, rfl, rfl⟩ : a0_0 = r1 ∧ a0_1 = r2 ∧ l0_2 ++ [(⟨a1_0, a1_1⟩ : S29)] = r3 ∧ true = r4 := by simpa using h
          exact PayGiv.lp_yes hok k a0_0 a0_1 a1_0 a1_1 A0_2 c0_2 l0_2 w hr0_2 hc0_2 hl ht hu hv
      · cases h

/-! ### impl_LedgerCan: function 33 -/
def impl_LedgerCan.f (k : Nat) (a0_0 : Int) (a0_1 : Int) (l0_2 : List (S29)) (a1_0 : Int) (a1_1 : Int) : Option (Bool) := (impl_LedgerPay.f k a0_0 a0_1 l0_2 a1_0 a1_1).bind fun bt216 => (some bt216.2.2.2)
theorem impl_LedgerCan.mono : ∀ a0 a1 a2 a3 a4 k, LeO (impl_LedgerCan.f k a0 a1 a2 a3 a4) (impl_LedgerCan.f (k + 1) a0 a1 a2 a3 a4) := by
  intro a0 a1 a2 a3 a4 k
  unfold impl_LedgerCan.f
  repeat' first
      | (with_reducible exact impl_LedgerPay.mono _ _ _ _ _ _)
      | (with_reducible exact LeO.refl _)
      | (with_reducible exact LeO.none _)
      | (with_reducible refine LeO.ite ?_ ?_)
      | (with_reducible refine LeO.bind ?_ (fun _ => ?_))
      | exact impl_LedgerPay.mono _ _ _ _ _ _
      | exact LeO.none _
      | refine LeO.ite ?_ ?_
      | refine LeO.bind ?_ (fun _ => ?_)
set_option maxHeartbeats 8000000 in
set_option maxRecDepth 100000 in
theorem impl_LedgerCan.calls (k : Nat) (a0_0 : Int) (a0_1 : Int) (A0_2 : Option Addr) (c0_2 : Nat) (l0_2 : List (S29)) (a1_0 : Int) (a1_1 : Int) (r : Bool) (w : World) (hr0_2 : Kd.C k29 w A0_2 l0_2.length l0_2) (hc0_2 : l0_2.length ≤ c0_2) (h : impl_LedgerCan.f k a0_0 a0_1 l0_2 a1_0 a1_1 = some r) :
    Calls Try.prog 33 #[.agg #[.int .i64 a0_0, .int .i64 a0_1, .slice A0_2 l0_2.length c0_2], .agg #[.int .i64 a1_0, .int .i64 a1_1]] w fun e w' => e = .returned (.bool r) ∧ Below w.heap.size w w' := by
  have hu32 := Try.underlying32
  have hu29 := Try.underlying29
  have HR0_2 := Aside0.mk hr0_2
  have HC0_2 := Aside0.mk hc0_2
  clear hr0_2 hc0_2
  have HB := Aside0.mk (Below.refl w.heap.size w)
  have H : ((impl_LedgerPay.f k a0_0 a0_1 l0_2 a1_0 a1_1).bind fun bt216 => (some bt216.2.2.2)) = some r := h
  clear h
  replace H := Option.bind_eq_some_iff.mp H
  obtain ⟨⟨t216, t217, t218, t221⟩, A30, H⟩ := H
  replace H : (some t221) = some r := H
  have A3 := Aside0.mk A30
  clear A30
  obtain rfl := Option.some.inj H
  go_enter Try.func33, Try.ntmps33
  go_wp2_with (first | ((with_reducible refine gate_dst (N := 2) rfl ?_); refine box_event ?hg (N := 2) ?hd (cs := #[.int .i64 a0_0, .int .i64 a0_1, .slice A0_2 l0_2.length c0_2]) (t := 32) ?hr ?_; (case hd => rfl); (case hg => rfl); (case hr => first | (go_simp; done) | (go_simp; rfl)); intro gb214 hg w4 hbox hb; have n0_ := Aside0.mk (below_step (by repeat (first | (with_reducible first | exact HB.out | apply below_alloc | apply pw_below_drewN | apply below_drew1) | exact HB.out)) hb); have n1_ := Aside0.mk (hbox); have n2_ := Aside0.mk ((by rw [hg]; exact (below_size (by repeat (first | (with_reducible first | exact HB.out | apply below_alloc | apply pw_below_drewN | apply below_drew1) | exact HB.out))) : w.heap.size ≤ gb214)); have n3_ := Aside0.mk ((by rw [hg]; exact (below_size (by repeat (first | (with_reducible first | exact HB.out | apply below_alloc | apply pw_below_drewN | apply below_drew1) | exact HB.out))) : w.heap.size ≤ gb214)); clear HB; have HB := n0_; have BK214 := n1_; have GW214 := n2_; have GE214 := n3_; clear n0_ n1_ n2_ n3_; clear hb hbox hg) | ((with_reducible refine gate_dst (N := 3) rfl ?_); refine box_event ?hg (N := 3) ?hd (cs := #[.int .i64 a1_0, .int .i64 a1_1]) (t := 29) ?hr ?_; (case hd => rfl); (case hg => rfl); (case hr => first | (go_simp; done) | (go_simp; rfl)); intro gb215 hg w5 hbox hb; have n0_ := Aside0.mk (blk_below (g := gb214) (o := .cells #[.int .i64 a0_0, .int .i64 a0_1, .slice A0_2 l0_2.length c0_2] 32 (0, 0)) (by (with_reducible repeat (first | refine blk_drewN ?_ _ | refine blk_drew ?_ | refine blk_alloc ?_ _)); exact BK214.out) hb); have n1_ := Aside0.mk (below_step (by repeat (first | (with_reducible first | exact HB.out | apply below_alloc | apply pw_below_drewN | apply below_drew1 | refine below_set ?_ GE214.out) | exact HB.out)) hb); have n2_ := Aside0.mk (hbox); have n3_ := Aside0.mk ((by rw [hg]; exact (below_size (by repeat (first | (with_reducible first | exact HB.out | apply below_alloc | apply pw_below_drewN | apply below_drew1 | refine below_set ?_ GE214.out) | exact HB.out))) : w.heap.size ≤ gb215)); have n4_ := Aside0.mk ((by rw [hg]; exact (below_size (by repeat (first | (with_reducible first | exact HB.out | apply below_alloc | apply pw_below_drewN | apply below_drew1 | refine below_set ?_ GE214.out) | exact HB.out))) : w.heap.size ≤ gb215)); have n5_ := Aside0.mk ((by rw [hg]; exact Nat.ne_of_lt (blk_lt (g := gb214) (o := .cells #[.int .i64 a0_0, .int .i64 a0_1, .slice A0_2 l0_2.length c0_2] 32 (0, 0)) (by (with_reducible repeat (first | refine blk_drewN ?_ _ | refine blk_drew ?_ | refine blk_alloc ?_ _)); exact BK214.out)) : gb214 ≠ gb215)); have n6_ := Aside0.mk ((by rw [hg]; exact Nat.ne_of_gt (blk_lt (g := gb214) (o := .cells #[.int .i64 a0_0, .int .i64 a0_1, .slice A0_2 l0_2.length c0_2] 32 (0, 0)) (by (with_reducible repeat (first | refine blk_drewN ?_ _ | refine blk_drew ?_ | refine blk_alloc ?_ _)); exact BK214.out)) : gb215 ≠ gb214)); clear BK214; clear HB; have BK214 := n0_; have HB := n1_; have BK215 := n2_; have GW215 := n3_; have GE215 := n4_; have NB214_215 := n5_; have NB215_214 := n6_; clear n0_ n1_ n2_ n3_ n4_ n5_ n6_; clear hb hbox hg; have hnb6 := NB214_215.out; have hnc6 := NB215_214.out; have hcz7_0 : w5.cell? ⟨gb214, 0, none⟩ = some (.int .i64 a0_0) := (blk_cell BK214.out 0).trans rfl; have hcz7_1 : w5.cell? ⟨gb214, 1, none⟩ = some (.int .i64 a0_1) := (blk_cell BK214.out 1).trans rfl; have hcz7_2 : w5.cell? ⟨gb214, 2, none⟩ = some (.slice A0_2 l0_2.length c0_2) := (blk_cell BK214.out 2).trans rfl; have hfz7_0 := blk_frozen BK214.out 0; have hfz7_1 := blk_frozen BK214.out 1; have hfz7_2 := blk_frozen BK214.out 2; have hcz8_0 : w5.cell? ⟨gb215, 0, none⟩ = some (.int .i64 a1_0) := (blk_cell BK215.out 0).trans rfl; have hcz8_1 : w5.cell? ⟨gb215, 1, none⟩ = some (.int .i64 a1_1) := (blk_cell BK215.out 1).trans rfl; have hfz8_0 := blk_frozen BK215.out 0; have hfz8_1 := blk_frozen BK215.out 1) | ((with_reducible refine gate_callee (f := 28) rfl ?_); refine goesL_ (some 10) rfl rfl Try.func28 (by kernel_rfl) rfl #[.agg #[.int .i64 a0_0, .int .i64 a0_1, .slice A0_2 l0_2.length c0_2], .agg #[.int .i64 a1_0, .int .i64 a1_1]] rfl (by (try simp only [List.map_toArray, List.map_cons, List.map_nil]); first | done | rfl | (simp only [List.length_drop, List.length_take]; rfl)) ?_; (with_reducible refine (impl_LedgerPay.calls k a0_0 a0_1 _ _ l0_2 a1_0 a1_1 t216 t217 t218 t221 _ ?side1 ?side2 A3.out).mono ?_); (case side1 => repeat (first | exact (Kd.C_below HR0_2.out HB.out) | (with_reducible refine Kd.C_alloc ?_ _) | (with_reducible refine Kd.C_drewN ?_ _) | (with_reducible refine Kd.C_drew ?_))); (case side2 => exact HC0_2.out); rintro e w9 ⟨v219, rfl, ho0, hb⟩; refine ⟨_, rfl, ?_⟩; have n0_ := Aside0.mk (Kd.V_lower (Kd.V_mono (ok' := fun k_ => k_ ≠ gb214 ∧ k_ ≠ gb215) ho0 (fun k_ hk_ => ⟨(Kd.freshB (g := gb214) (o := .cells #[.int .i64 a0_0, .int .i64 a0_1, .slice A0_2 l0_2.length c0_2] 32 (0, 0)) (by (with_reducible repeat (first | refine blk_drewN ?_ _ | refine blk_drew ?_ | refine blk_alloc ?_ _)); exact BK214.out) k_ hk_), (Kd.freshB (g := gb215) (o := .cells #[.int .i64 a1_0, .int .i64 a1_1] 29 (0, 0)) (by (with_reducible repeat (first | refine blk_drewN ?_ _ | refine blk_drew ?_ | refine blk_alloc ?_ _)); exact BK215.out) k_ hk_)⟩)) (below_size (by repeat (first | (with_reducible first | exact HB.out | apply below_alloc | apply pw_below_drewN | apply below_drew1 | refine below_set ?_ GE214.out | refine below_set ?_ GE215.out) | exact HB.out)))); have n1_ := Aside0.mk (blk_below (g := gb214) (o := .cells #[.int .i64 a0_0, .int .i64 a0_1, .slice A0_2 l0_2.length c0_2] 32 (0, 0)) (by (with_reducible repeat (first | refine blk_drewN ?_ _ | refine blk_drew ?_ | refine blk_alloc ?_ _)); exact BK214.out) hb); have n2_ := Aside0.mk (blk_below (g := gb215) (o := .cells #[.int .i64 a1_0, .int .i64 a1_1] 29 (0, 0)) (by (with_reducible repeat (first | refine blk_drewN ?_ _ | refine blk_drew ?_ | refine blk_alloc ?_ _)); exact BK215.out) hb); have n3_ := Aside0.mk (below_step (by repeat (first | (with_reducible first | exact HB.out | apply below_alloc | apply pw_below_drewN | apply below_drew1 | refine below_set ?_ GE214.out | refine below_set ?_ GE215.out) | exact HB.out)) hb); clear BK214; clear BK215; clear HB; have HO220 := n0_; have BK214 := n1_; have BK215 := n2_; have HB := n3_; clear n0_ n1_ n2_ n3_; (try clear hb); (try clear hb2); (try clear hk); (try clear hi); (try clear ho0)) | ((with_reducible refine gate_dst (N := 5) rfl ?_); refine box_event ?hg (N := 5) ?hd (cs := #[.int .i64 0, .int .i64 0, .slice none 0 0]) (t := 32) ?hr ?_; (case hd => rfl); (case hg => rfl); (case hr => first | (go_simp; done) | (go_simp; rfl)); intro gb222 hg w10 hbox hb; have n0_ := Aside0.mk (Kd.V_below (Kd.V_elderB (by (with_reducible repeat (first | apply Kd.V_alloc | apply Kd.V_drewN | apply Kd.V_drew)); exact HO220.out) gb222 (Nat.le_of_eq hg.symm)) hb); have n1_ := Aside0.mk (blk_below (g := gb214) (o := .cells #[.int .i64 a0_0, .int .i64 a0_1, .slice A0_2 l0_2.length c0_2] 32 (0, 0)) (by (with_reducible repeat (first | refine blk_drewN ?_ _ | refine blk_drew ?_ | refine blk_alloc ?_ _)); exact BK214.out) hb); have n2_ := Aside0.mk (blk_below (g := gb215) (o := .cells #[.int .i64 a1_0, .int .i64 a1_1] 29 (0, 0)) (by (with_reducible repeat (first | refine blk_drewN ?_ _ | refine blk_drew ?_ | refine blk_alloc ?_ _)); exact BK215.out) hb); have n3_ := Aside0.mk (below_step (by repeat (first | (with_reducible first | exact HB.out | apply below_alloc | apply pw_below_drewN | apply below_drew1 | refine below_set ?_ GE214.out | refine below_set ?_ GE215.out) | exact HB.out)) hb); have n4_ := Aside0.mk (hbox); have n5_ := Aside0.mk ((by rw [hg]; exact (below_size (by repeat (first | (with_reducible first | exact HB.out | apply below_alloc | apply pw_below_drewN | apply below_drew1 | refine below_set ?_ GE214.out | refine below_set ?_ GE215.out) | exact HB.out))) : w.heap.size ≤ gb222)); have n6_ := Aside0.mk ((by rw [hg]; exact (below_size (by repeat (first | (with_reducible first | exact HB.out | apply below_alloc | apply pw_below_drewN | apply below_drew1 | refine below_set ?_ GE214.out | refine below_set ?_ GE215.out) | exact HB.out))) : w.heap.size ≤ gb222)); have n7_ := Aside0.mk ((by rw [hg]; exact Nat.ne_of_lt (blk_lt (g := gb214) (o := .cells #[.int .i64 a0_0, .int .i64 a0_1, .slice A0_2 l0_2.length c0_2] 32 (0, 0)) (by (with_reducible repeat (first | refine blk_drewN ?_ _ | refine blk_drew ?_ | refine blk_alloc ?_ _)); exact BK214.out)) : gb214 ≠ gb222)); have n8_ := Aside0.mk ((by rw [hg]; exact Nat.ne_of_gt (blk_lt (g := gb214) (o := .cells #[.int .i64 a0_0, .int .i64 a0_1, .slice A0_2 l0_2.length c0_2] 32 (0, 0)) (by (with_reducible repeat (first | refine blk_drewN ?_ _ | refine blk_drew ?_ | refine blk_alloc ?_ _)); exact BK214.out)) : gb222 ≠ gb214)); have n9_ := Aside0.mk ((by rw [hg]; exact Nat.ne_of_lt (blk_lt (g := gb215) (o := .cells #[.int .i64 a1_0, .int .i64 a1_1] 29 (0, 0)) (by (with_reducible repeat (first | refine blk_drewN ?_ _ | refine blk_drew ?_ | refine blk_alloc ?_ _)); exact BK215.out)) : gb215 ≠ gb222)); have n10_ := Aside0.mk ((by rw [hg]; exact Nat.ne_of_gt (blk_lt (g := gb215) (o := .cells #[.int .i64 a1_0, .int .i64 a1_1] 29 (0, 0)) (by (with_reducible repeat (first | refine blk_drewN ?_ _ | refine blk_drew ?_ | refine blk_alloc ?_ _)); exact BK215.out)) : gb222 ≠ gb215)); clear HO220; clear BK214; clear BK215; clear HB; have HO220 := n0_; have BK214 := n1_; have BK215 := n2_; have HB := n3_; have BK222 := n4_; have GW222 := n5_; have GE222 := n6_; have NB214_222 := n7_; have NB222_214 := n8_; have NB215_222 := n9_; have NB222_215 := n10_; clear n0_ n1_ n2_ n3_ n4_ n5_ n6_ n7_ n8_ n9_ n10_; clear hb hbox hg; have hnb11 := NB222_214.out; have hnc11 := NB214_222.out; have hnb12 := NB222_215.out; have hnc12 := NB215_222.out; have hcz13_0 : w10.cell? ⟨gb222, 0, none⟩ = some (.int .i64 0) := (blk_cell BK222.out 0).trans rfl; have hcz13_1 : w10.cell? ⟨gb222, 1, none⟩ = some (.int .i64 0) := (blk_cell BK222.out 1).trans rfl; have hcz13_2 : w10.cell? ⟨gb222, 2, none⟩ = some (.slice none 0 0) := (blk_cell BK222.out 2).trans rfl; have hfz13_0 := blk_frozen BK222.out 0; have hfz13_1 := blk_frozen BK222.out 1; have hfz13_2 := blk_frozen BK222.out 2; obtain ⟨Ao14, co14, eo14⟩ := Kd.V_slice HO220.out; subst eo14))
  go_ret
  exact ⟨by first | rfl | (simp [errW_none, errW_some] <;> rfl) | (simp [*, errW_none, errW_some] <;> rfl), by repeat (first | (with_reducible first | exact HB.out | apply below_alloc | apply pw_below_drewN | apply below_drew1 | refine below_set ?_ GE214.out | refine below_set ?_ GE215.out | refine below_set ?_ GE222.out) | exact HB.out)⟩

end Go.Proofs.Ytncngkfgalokoaa.PFnExactLedgerCan
