-- Written by a program of this session over the kit's printer, with contracts proved by hand; Lean checks it.
import Derived.Test.YthcbichnjgkjiaaDoorPFnAskStrictx0
import Derived.Test.YthcbichnjgkjiaaDoorPFnAskStrictx2
namespace Go.Proofs.YthcbichnjgkjiaaDoor.PFnAskStrict
open Go.RowKit Go.Proofs.YthcbichnjgkjiaaDoorW.PrintWords Go.Proofs.YthcbichnjgkjiaaDoorW.PrintLast Go.Proofs.YthcbichnjgkjiaaDoorW.PrintMore
attribute [local go_sem] max2_int min2_int max_two min_two max_three min_three max_four min_four   -- for this text's walks alone
set_option linter.unusedVariables false
set_option linter.unusedSimpArgs false

/-! ### impl_AskRead: function 27 -/
-- The numbers of functions and types are those of the seat of the texts.
def pieces (s : ByteArray) : List ByteArray := Lib.splitB ⟨#[32]⟩ 0 (Lib.countB s ⟨#[32]⟩) s
def kindF (s : ByteArray) : Int := if s.toList = [98, 105, 116] then 1 else if s.toList = [112, 105, 99, 107] then 2 else if s.toList = [110, 117, 109] then 3 else 0
def askEnd (k : Nat) (s : ByteArray) (c e n d : Int) : Option (Int × Int × Int × Int × Bool) := (impl_AskOk.f k c e n d).bind fun o => if o = true then ((impl_AskText.f k c e n d).bind fun u => if u.toList = s.toList then some (c, e, n, d, true) else some (0, 0, 0, 0, false)) else some (0, 0, 0, 0, false)
def askThree (k : Nat) (s x y z : ByteArray) : Option (Int × Int × Int × Int × Bool) := (impl_FracRead.f k z).bind fun t => match Lib.atoiAll y.data.toList with
  | .ok e => if t.2.2 = true then askEnd k s (kindF x) e t.1 t.2.1 else some (0, 0, 0, 0, false)
  | _ => some (0, 0, 0, 0, false)
set_option maxRecDepth 100000 in
set_option maxHeartbeats 1000000 in
theorem kindOf_calls (s : ByteArray) (w : World) :
    Calls Tryd.prog 50 #[.string s] w fun e w' => e = .returned (.int .i64 (kindF s)) ∧ Below w.heap.size w w' := by
  have h0 : ∀ W : World, (Instr.index 53 (.agg #[.string ⟨#[]⟩, .string ⟨#[98, 105, 116]⟩, .string ⟨#[112, 105, 99, 107]⟩, .string ⟨#[110, 117, 109]⟩]) (.int .i64 0)).run Tryd.prog W = .ok (.string ⟨#[]⟩) W := fun W => run_index_row Tryd.underlying53 info9q Tryd.underlying9 rfl _ 0 (by decide) _ rfl W
  have h1 : ∀ W : World, (Instr.index 53 (.agg #[.string ⟨#[]⟩, .string ⟨#[98, 105, 116]⟩, .string ⟨#[112, 105, 99, 107]⟩, .string ⟨#[110, 117, 109]⟩]) (.int .i64 1)).run Tryd.prog W = .ok (.string ⟨#[98, 105, 116]⟩) W := fun W => run_index_row Tryd.underlying53 info9q Tryd.underlying9 rfl _ 1 (by decide) _ rfl W
  have h2 : ∀ W : World, (Instr.index 53 (.agg #[.string ⟨#[]⟩, .string ⟨#[98, 105, 116]⟩, .string ⟨#[112, 105, 99, 107]⟩, .string ⟨#[110, 117, 109]⟩]) (.int .i64 2)).run Tryd.prog W = .ok (.string ⟨#[112, 105, 99, 107]⟩) W := fun W => run_index_row Tryd.underlying53 info9q Tryd.underlying9 rfl _ 2 (by decide) _ rfl W
  have h3 : ∀ W : World, (Instr.index 53 (.agg #[.string ⟨#[]⟩, .string ⟨#[98, 105, 116]⟩, .string ⟨#[112, 105, 99, 107]⟩, .string ⟨#[110, 117, 109]⟩]) (.int .i64 3)).run Tryd.prog W = .ok (.string ⟨#[110, 117, 109]⟩) W := fun W => run_index_row Tryd.underlying53 info9q Tryd.underlying9 rfl _ 3 (by decide) _ rfl W
  have HK := Go.Lib.hid (fun W => kindNames_calls W)
  go_enter Tryd.func50, Tryd.ntmps50
  go_wp2_with (go_at_call 37; (with_reducible refine (HK.out _).mono ?_); rintro e w1 ⟨rfl, hb⟩)
  go_loop [6] (fun v6 => ∃ k : Nat, k ≤ 4 ∧ v6 = .int .i64 k ∧ (1 < k → ¬ s.toList = [98, 105, 116]) ∧ (2 < k → ¬ s.toList = [112, 105, 99, 107]) ∧ (3 < k → ¬ s.toList = [110, 117, 109])) (fun v6 => 4 - (intOf v6).toNat)
  case atStart => exact ⟨0, by omega, rfl, by omega, by omega, by omega⟩
  case round =>
    obtain ⟨k, hk, rfl, e1, e2, e3⟩ := hrel
    have hc : k = 0 ∨ k = 1 ∨ k = 2 ∨ k = 3 ∨ k = 4 := by omega
    rcases hc with rfl | rfl | rfl | rfl | rfl
    · go_wp2
      all_goals exact ⟨⟨1, by omega, rfl, by omega, by omega, by omega⟩, by decide⟩
    · go_wp2
      · go_ret
        exact ⟨by unfold kindF; rw [if_pos ‹[98, 105, 116] = s.toList›.symm]; rfl, hb⟩
      · exact absurd ‹(!s.toList.isEmpty) = false› (by rw [← ‹[98, 105, 116] = s.toList›]; decide)
      · exact ⟨⟨2, by omega, rfl, fun _ e => ‹¬[98, 105, 116] = s.toList› e.symm, by omega, by omega⟩, by decide⟩
    · go_wp2
      · go_ret
        exact ⟨by unfold kindF; rw [if_neg (e1 (by omega))]; rw [if_pos ‹[112, 105, 99, 107] = s.toList›.symm]; rfl, hb⟩
      · exact absurd ‹(!s.toList.isEmpty) = false› (by rw [← ‹[112, 105, 99, 107] = s.toList›]; decide)
      · exact ⟨⟨3, by omega, rfl, fun _ => e1 (by omega), fun _ e => ‹¬[112, 105, 99, 107] = s.toList› e.symm, by omega⟩, by decide⟩
    · go_wp2
      · go_ret
        exact ⟨by unfold kindF; rw [if_neg (e1 (by omega))]; rw [if_neg (e2 (by omega))]; rw [if_pos ‹[110, 117, 109] = s.toList›.symm]; rfl, hb⟩
      · exact absurd ‹(!s.toList.isEmpty) = false› (by rw [← ‹[110, 117, 109] = s.toList›]; decide)
      · exact ⟨⟨4, by omega, rfl, fun _ => e1 (by omega), fun _ => e2 (by omega), fun _ e => ‹¬[110, 117, 109] = s.toList› e.symm⟩, by decide⟩
    · go_wp2
      go_ret
      exact ⟨by unfold kindF; rw [if_neg (e1 (by omega)), if_neg (e2 (by omega)), if_neg (e3 (by omega))]; rfl, hb⟩
theorem split_sizes (sep : ByteArray) : ∀ (k : Nat) (s : ByteArray), ∀ x ∈ Lib.splitB sep 0 k s, x.size ≤ s.size
  | 0, s, x, hx => by rw [Lib.splitB_zero, List.mem_singleton] at hx; rw [hx]; exact Nat.le_refl _
  | k + 1, s, x, hx => by
    unfold Lib.splitB at hx
    split at hx
    · rw [List.mem_singleton] at hx; rw [hx]; exact Nat.le_refl _
    · rcases List.mem_cons.1 hx with rfl | hx
      · rw [ByteArray.size_extract]; omega
      · have := split_sizes sep k _ x hx
        rw [ByteArray.size_extract] at this
        omega
theorem pieces_len (s : ByteArray) : (pieces s).length = Lib.countB s ⟨#[32]⟩ + 1 := Lib.splitB_all _ (by decide) 0 _ s rfl
theorem count_fits (s : ByteArray) (hs : s.size ≤ 4294967280) : Lib.countB s ⟨#[32]⟩ ≤ 4294967280 := Nat.le_trans (Lib.countB_le ⟨#[32]⟩ (by decide) _ s (Nat.le_refl _)) hs
theorem splitS_calls (s : ByteArray) (hs : s.size ≤ 4294967280) (w : World) (hE : Env w) :
    Calls Tryd.prog 49 #[.string s, .string ⟨#[32]⟩] w fun e w' => e = .returned (.slice (some ⟨w.heap.size, 0, none⟩) (pieces s).length (pieces s).length) ∧ w'.heap[w.heap.size]? = some (.cells ((pieces s).map Value.string).toArray 9 (0, 0)) ∧ Below w.heap.size w w' := by
  obtain ⟨m, hm⟩ := hE.mx
  refine (Tryd.strings_Split s ⟨#[32]⟩ m w (by omega) hm (by decide)).mono ?_
  rintro e w' ⟨rfl, rfl⟩
  exact ⟨by rw [pieces_len], f_new w _, (Below.refl _ w).alloc (Nat.le_refl _) _⟩
/-- The box of the result and the row of pieces. -/
structure ABox (w : World) (p : Nat) (l : List ByteArray) (W : World) : Prop where
  b : W.heap[w.heap.size]? = some (.cells #[.int .i64 0, .int .i64 0, .int .i64 0, .int .i64 0] 32 (0, 0))
  r : W.heap[p]? = some (.cells (l.map Value.string).toArray 9 (0, 0))
  bel : Below w.heap.size w W
theorem ABox.step {w W W' : World} {p : Nat} {l : List ByteArray} (h : ABox w p l W) (hb : Below W.heap.size W W') : ABox w p l W' := ⟨(hb.block _ (f_lt h.b)).trans h.b, (hb.block _ (f_lt h.r)).trans h.r, h.bel.trans (hb.mono h.bel.size)⟩
theorem ABox.start {w W : World} {l : List ByteArray} (p : Nat) (hp : p = (w.alloc (.cells #[.int .i64 0, .int .i64 0, .int .i64 0, .int .i64 0] 32)).heap.size) (hr : W.heap[(w.alloc (.cells #[.int .i64 0, .int .i64 0, .int .i64 0, .int .i64 0] 32)).heap.size]? = some (.cells (l.map Value.string).toArray 9 (0, 0))) (hb : Below (w.alloc (.cells #[.int .i64 0, .int .i64 0, .int .i64 0, .int .i64 0] 32)).heap.size (w.alloc (.cells #[.int .i64 0, .int .i64 0, .int .i64 0, .int .i64 0] 32)) W) : ABox w p l W :=
  have h0 : Below w.heap.size w (w.alloc (.cells #[.int .i64 0, .int .i64 0, .int .i64 0, .int .i64 0] 32)) := (Below.refl _ w).alloc (Nat.le_refl _) _
  ⟨(hb.block _ (f_lt (f_new w _))).trans (f_new w _), by rw [hp]; exact hr, h0.trans (hb.mono h0.size)⟩
theorem four_put {W : World} {b : Nat} {T : TypeId} {x y z t : Value} (h : W.heap[b]? = some (.cells #[x, y, z, t] T (0, 0))) (p q u v : Value) : ((((W.setCell ⟨b, 0, none⟩ p).setCell ⟨b, 1, none⟩ q).setCell ⟨b, 2, none⟩ u).setCell ⟨b, 3, none⟩ v).heap[b]? = some (.cells #[p, q, u, v] T (0, 0)) := by
  refine blk_put (cs := #[p, q, u, t]) ?_ 3 _ rfl
  refine blk_put (cs := #[p, q, z, t]) ?_ 2 _ rfl
  refine blk_put (cs := #[p, y, z, t]) ?_ 1 _ rfl
  exact blk_put (cs := #[x, y, z, t]) h 0 _ rfl
theorem four_below {W W' : World} {m b : Nat} (h : Below m W W') (hb : m ≤ b) (p q u v : Value) : Below m W ((((W'.setCell ⟨b, 0, none⟩ p).setCell ⟨b, 1, none⟩ q).setCell ⟨b, 2, none⟩ u).setCell ⟨b, 3, none⟩ v) := (((h.setCell (p := ⟨b, 0, none⟩) hb p).setCell (p := ⟨b, 1, none⟩) hb q).setCell (p := ⟨b, 2, none⟩) hb u).setCell (p := ⟨b, 3, none⟩) hb v
theorem four_cells {W : World} {b : Nat} {T : TypeId} {x y z t : Value} (h : W.heap[b]? = some (.cells #[x, y, z, t] T (0, 0))) : W.cell? ⟨b, 0, none⟩ = some x ∧ W.cell? ⟨b, 1, none⟩ = some y ∧ W.cell? ⟨b, 2, none⟩ = some z ∧ W.cell? ⟨b, 3, none⟩ = some t ∧ W.frozen? ⟨b, 0, none⟩ = false ∧ W.frozen? ⟨b, 1, none⟩ = false ∧ W.frozen? ⟨b, 2, none⟩ = false ∧ W.frozen? ⟨b, 3, none⟩ = false :=
  ⟨f_cell h 0, f_cell h 1, f_cell h 2, f_cell h 3, fr_frozen h 0, fr_frozen h 1, fr_frozen h 2, fr_frozen h 3⟩
set_option maxHeartbeats 2000000 in
theorem askRead_not3 (s : ByteArray) (hs : s.size ≤ 4294967280) (hl : (pieces s).length ≠ 3) (w : World) (hE : Env w) :
    Calls Tryd.prog 27 #[.string s] w fun e w' => e = .returned (.tuple #[.agg #[.int .i64 0, .int .i64 0, .int .i64 0, .int .i64 0], .bool false]) ∧ Below w.heap.size w w' := by
  have h0 : Below w.heap.size w (w.alloc (.cells #[.int .i64 0, .int .i64 0, .int .i64 0, .int .i64 0] 32)) := (Below.refl _ w).alloc (Nat.le_refl _) _
  have HC := Go.Lib.hid (splitS_calls s hs _ (Env.below hE h0))
  have hbig := count_fits s hs
  have hpl := pieces_len s
  have hl3 : ((Lib.countB s ⟨#[32]⟩ : Int) + 1 != 3) = true := by simp only [bne_iff_ne, ne_eq]; omega
  clear hE hs h0 hl hbig
  go_enter Tryd.func27, Tryd.ntmps27
  go_wp2_with (go_at_call 49; (with_reducible refine HC.out.mono ?_); rintro e w1 ⟨rfl, hr1, hb1⟩; have HB := Go.Lib.hid (ABox.start (w.heap.size + 1) (by simp) hr1 hb1); obtain ⟨x0, x1, x2, x3, f0, f1, f2, f3⟩ := four_cells HB.out.b; clear hb1 hr1)
  refine bodyPost_ret (results_ct rfl _ _ w.heap.size 32 #[.int .i64 0, .int .i64 0, .int .i64 0, .int .i64 0] (0, 0) _ rfl (four_put HB.out.b _ _ _ _) Tryd.underlying32 rfl (by kernel_rfl)) rfl ?_
  exact ⟨rfl, four_below HB.out.bel (Nat.le_refl _) _ _ _ _⟩
theorem four_far {W : World} {b c j : Nat} {v p q u t : Value} (h : W.cell? ⟨c, j, none⟩ = some v) (hne : c ≠ b) : ((((W.setCell ⟨b, 0, none⟩ p).setCell ⟨b, 1, none⟩ q).setCell ⟨b, 2, none⟩ u).setCell ⟨b, 3, none⟩ t).cell? ⟨c, j, none⟩ = some v := by
  have e : ∀ i, (⟨b, i, none⟩ : Addr) ≠ ⟨c, j, none⟩ := fun i e => hne (by injection e with e; exact e.symm)
  rw [World.cell?_setCell_other _ _ _ _ (e 3), World.cell?_setCell_other _ _ _ _ (e 2), World.cell?_setCell_other _ _ _ _ (e 1), World.cell?_setCell_other _ _ _ _ (e 0)]
  exact h
theorem zero_kept {W w' : World} {b : Nat} {o : Obj} (h : b = W.heap.size) (hb : Below (W.alloc o).drew.heap.size (W.alloc o).drew w') : w'.heap[b]? = some o := by
  have hs : (W.alloc o).drew.heap.size = W.heap.size + 1 := by simp
  rw [h]
  exact (hb.block _ (by omega)).trans (f_new W o)
/-- The boxes: the result, the row of three, the cost, the question. -/
structure ABox2 (w : World) (p : Nat) (l : List ByteArray) (q : Nat) (n d : Int) (W : World) : Prop where
  a : ABox w p l W
  f : W.heap[q]? = some (.cells #[.int .i64 n, .int .i64 d] 25 (0, 0))
theorem ABox2.step {w W W' : World} {p q : Nat} {l : List ByteArray} {n d : Int} (h : ABox2 w p l q n d W) (hb : Below W.heap.size W W') : ABox2 w p l q n d W' := ⟨h.a.step hb, (hb.block _ (f_lt h.f)).trans h.f⟩
theorem ABox.push {w W : World} {p : Nat} {l : List ByteArray} (h : ABox w p l W) (n d : Int) : ABox2 w p l W.heap.size n d (W.alloc (.cells #[.int .i64 n, .int .i64 d] 25)) := ⟨h.step ((Below.refl _ W).alloc (Nat.le_refl _) _), f_new W _⟩
structure ABox3 (w : World) (q : Nat) (c e n d : Int) (W : World) : Prop where
  b : W.heap[w.heap.size]? = some (.cells #[.int .i64 0, .int .i64 0, .int .i64 0, .int .i64 0] 32 (0, 0))
  f : W.heap[q]? = some (.cells #[.int .i64 c, .int .i64 e, .int .i64 n, .int .i64 d] 32 (0, 0))
  bel : Below w.heap.size w W
theorem ABox3.step {w W W' : World} {q : Nat} {c e n d : Int} (h : ABox3 w q c e n d W) (hb : Below W.heap.size W W') : ABox3 w q c e n d W' := ⟨(hb.block _ (f_lt h.b)).trans h.b, (hb.block _ (f_lt h.f)).trans h.f, h.bel.trans (hb.mono h.bel.size)⟩
theorem ABox.ask {w W : World} {p : Nat} {l : List ByteArray} (h : ABox w p l W) (c e n d : Int) : ABox3 w W.heap.size c e n d (W.alloc (.cells #[.int .i64 c, .int .i64 e, .int .i64 n, .int .i64 d] 32)) :=
  have k := h.step ((Below.refl _ W).alloc (Nat.le_refl _) (.cells #[.int .i64 c, .int .i64 e, .int .i64 n, .int .i64 d] 32))
  ⟨k.b, f_new W _, k.bel⟩
theorem ABox.put {w W : World} {p q : Nat} {l : List ByteArray} (h : ABox w p l W) (hz : W.heap[q]? = some (.cells #[.int .i64 0, .int .i64 0, .int .i64 0, .int .i64 0] 32 (0, 0))) (hq : w.heap.size < q) (c e n d : Int) : ABox3 w q c e n d ((((W.setCell ⟨q, 0, none⟩ (.int .i64 c)).setCell ⟨q, 1, none⟩ (.int .i64 e)).setCell ⟨q, 2, none⟩ (.int .i64 n)).setCell ⟨q, 3, none⟩ (.int .i64 d)) := by
  refine ⟨?_, four_put hz _ _ _ _, four_below h.bel (by omega) _ _ _ _⟩
  have hk : w.heap.size ≠ q := by omega
  rw [Below.heap_setCell _ _ _ _ hk, Below.heap_setCell _ _ _ _ hk, Below.heap_setCell _ _ _ _ hk, Below.heap_setCell _ _ _ _ hk]
  exact h.b
theorem ABox.pc {w W : World} {p : Nat} {x y z : ByteArray} (h : ABox w p [x, y, z] W) : W.cell? ⟨p, 0, none⟩ = some (.string x) ∧ W.cell? ⟨p, 1, none⟩ = some (.string y) ∧ W.cell? ⟨p, 2, none⟩ = some (.string z) := ⟨f_cell h.r 0, f_cell h.r 1, f_cell h.r 2⟩
theorem ABox2.fc {w W : World} {p q : Nat} {l : List ByteArray} {n d : Int} (h : ABox2 w p l q n d W) : W.cell? ⟨q, 0, none⟩ = some (.int .i64 n) ∧ W.cell? ⟨q, 1, none⟩ = some (.int .i64 d) := ⟨f_cell h.f 0, f_cell h.f 1⟩
set_option maxHeartbeats 4000000 in
theorem askRead_atoi (s : ByteArray) (hs : s.size ≤ 4294967280) (k : Nat) (x y z : ByteArray) (hp : pieces s = [x, y, z]) (n d : Int) (fo : Bool) (hf : impl_FracRead.f k z = some (n, d, fo)) (h1 : ∀ v, Lib.atoiAll y.data.toList ≠ .ok v) (w : World) (hE : Env w) :
    Calls Tryd.prog 27 #[.string s] w fun e w' => e = .returned (.tuple #[.agg #[.int .i64 0, .int .i64 0, .int .i64 0, .int .i64 0], .bool false]) ∧ Below w.heap.size w w' := by
  have hsz := split_sizes ⟨#[32]⟩ (Lib.countB s ⟨#[32]⟩) s
  have hsz' : ∀ x ∈ pieces s, x.size ≤ s.size := hsz
  rw [hp] at hsz'
  have hy := hsz' y (by simp)
  have hpl : Lib.countB s ⟨#[32]⟩ = 2 := by have := pieces_len s; rw [hp] at this; simpa using this.symm
  have h0 : Below w.heap.size w (w.alloc (.cells #[.int .i64 0, .int .i64 0, .int .i64 0, .int .i64 0] 32)) := (Below.refl _ w).alloc (Nat.le_refl _) _
  have HC := Go.Lib.hid (splitS_calls s hs _ (Env.below hE h0))
  rw [hp] at HC
  have HA := Go.Lib.hid (fun W (h : ABox w (w.heap.size + 1) [x, y, z] W) => atoi_no y (by omega) h1 W (Env.below hE h.bel))
  have HF := Go.Lib.hid (fun W (h : ABox w (w.heap.size + 1) [x, y, z] W) => impl_FracRead.calls k z n d fo W hf (Env.below hE h.bel))
  have HK := Go.Lib.hid (kindOf_calls x)
  clear hE hs h0 hsz hsz' hy h1 hf hp
  generalize kindF x = kx at *
  go_enter Tryd.func27, Tryd.ntmps27
  go_wp2_with (first | (go_at_call 49; (with_reducible refine HC.out.mono ?_); rintro e w1 ⟨rfl, hr1, hb1⟩; have HB := Go.Lib.hid (ABox.start (w.heap.size + 1) (by simp) hr1 hb1); obtain ⟨c0, c1, c2⟩ := HB.out.pc; clear hb1 hr1) | (go_at_call 45; (with_reducible refine (HA.out _ HB.out).mono ?_); rintro e w2 ⟨v, Nv, rfl, hb1⟩; have HB2 := Go.Lib.hid (HB.out.step hb1); clear c0 c1 c2; obtain ⟨c0, c1, c2⟩ := HB2.out.pc; clear hb1) | (go_at_call 22; (with_reducible refine (HF.out _ HB2.out).mono ?_); rintro e w3 ⟨rfl, hb1⟩; have L3 := f_lt (HB2.out.step hb1).r; have n0 : w3.heap.size ≠ w3.heap.size + 1 := (by omega); have n2 : w.heap.size + 1 ≠ w3.heap.size + 1 := (by omega); have HB3 := Go.Lib.hid ((HB2.out.step hb1).push n d); clear c0 c1 c2; obtain ⟨c0, c1, c2⟩ := HB3.out.a.pc; obtain ⟨q0, q1⟩ := HB3.out.fc; clear hb1))
  go_region_held3 (fun W => W.cell? ⟨w3.heap.size, 0, none⟩ = some (.int .i64 n) ∧ W.cell? ⟨w3.heap.size, 1, none⟩ = some (.int .i64 d) ∧ W.cell? ⟨w.heap.size + 1, 0, none⟩ = some (.string x)) (first | with_reducible exact ⟨k0, k1, k2⟩ | with_reducible exact ⟨four_far k0 n0, four_far k1 n0, four_far k2 n2⟩ | go_keep) ((go_at_call 50; (with_reducible refine (HK.out _).mono ?_); rintro e w4 ⟨rfl, hb1⟩; have hbc : Below (w3.alloc (.cells #[.int .i64 n, .int .i64 d] 25)).heap.size (w3.alloc (.cells #[.int .i64 n, .int .i64 d] 25)) w4 := below_then (by first | exact below_drew (Below.refl _ _) | exact below_drew ((Below.refl _ _).alloc (Nat.le_refl _) _)) (by simp) hb1; have HB4 := Go.Lib.hid (HB3.out.a.step hbc); have k0 := cell_below q0 hbc; have k1 := cell_below q1 hbc; have k2 := cell_below c0 hbc; try (have z9 : w4.heap[w3.heap.size + 1]? = some (.cells #[.int .i64 0, .int .i64 0, .int .i64 0, .int .i64 0] 32 (0, 0)) := zero_kept (by simp) hb1; obtain ⟨y0, y1, y2, y3, g0, g1, g2, g3⟩ := four_cells z9; have Z9 := Go.Lib.hid z9; clear z9); clear hb1 hbc))
  · have H := HB4.out.ask kx v n d
    generalize (w4.alloc (.cells #[.int .i64 kx, .int .i64 v, .int .i64 n, .int .i64 d] 32)) = w5 at H ⊢
    have H5 := Go.Lib.hid H
    clear H HB4 HB3 HB2 HB HA HF HK HC c0 c1 c2 q0 q1 k0 k1 k2 L3 n0 n2
    obtain ⟨x0, x1, x2, x3, f0, f1, f2, f3⟩ := four_cells H5.out.b
    obtain ⟨y0, y1, y2, y3, g0, g1, g2, g3⟩ := four_cells H5.out.f
    go_wp2
    (refine bodyPost_ret (results_ct rfl _ _ w.heap.size 32 #[.int .i64 0, .int .i64 0, .int .i64 0, .int .i64 0] (0, 0) _ rfl (four_put H5.out.b _ _ _ _) Tryd.underlying32 rfl (by kernel_rfl)) rfl ?_; exact ⟨rfl, four_below H5.out.bel (Nat.le_refl _) _ _ _ _⟩)
  · have H := HB4.out.put Z9.out (by omega) kx v n d
    generalize ((((w4.setCell ⟨w3.heap.size + 1, 0, none⟩ (.int .i64 kx)).setCell ⟨w3.heap.size + 1, 1, none⟩ (.int .i64 v)).setCell ⟨w3.heap.size + 1, 2, none⟩ (.int .i64 n)).setCell ⟨w3.heap.size + 1, 3, none⟩ (.int .i64 d)) = w5 at H ⊢
    have H5 := Go.Lib.hid H
    clear H Z9 HB4 HB3 HB2 HB HA HF HK HC c0 c1 c2 q0 q1 k0 k1 k2 y0 y1 y2 y3 g0 g1 g2 g3 L3 n0 n2
    obtain ⟨x0, x1, x2, x3, f0, f1, f2, f3⟩ := four_cells H5.out.b
    obtain ⟨y0, y1, y2, y3, g0, g1, g2, g3⟩ := four_cells H5.out.f
    go_wp2
    (refine bodyPost_ret (results_ct rfl _ _ w.heap.size 32 #[.int .i64 0, .int .i64 0, .int .i64 0, .int .i64 0] (0, 0) _ rfl (four_put H5.out.b _ _ _ _) Tryd.underlying32 rfl (by kernel_rfl)) rfl ?_; exact ⟨rfl, four_below H5.out.bel (Nat.le_refl _) _ _ _ _⟩)
set_option maxHeartbeats 4000000 in
theorem askRead_frac (s : ByteArray) (hs : s.size ≤ 4294967280) (k : Nat) (x y z : ByteArray) (hp : pieces s = [x, y, z]) (n d : Int) (hf : impl_FracRead.f k z = some (n, d, false)) (need : Int) (h1 : Lib.atoiAll y.data.toList = .ok need) (w : World) (hE : Env w) :
    Calls Tryd.prog 27 #[.string s] w fun e w' => e = .returned (.tuple #[.agg #[.int .i64 0, .int .i64 0, .int .i64 0, .int .i64 0], .bool false]) ∧ Below w.heap.size w w' := by
  have hsz := split_sizes ⟨#[32]⟩ (Lib.countB s ⟨#[32]⟩) s
  have hsz' : ∀ x ∈ pieces s, x.size ≤ s.size := hsz
  rw [hp] at hsz'
  have hy := hsz' y (by simp)
  have hpl : Lib.countB s ⟨#[32]⟩ = 2 := by have := pieces_len s; rw [hp] at this; simpa using this.symm
  have h0 : Below w.heap.size w (w.alloc (.cells #[.int .i64 0, .int .i64 0, .int .i64 0, .int .i64 0] 32)) := (Below.refl _ w).alloc (Nat.le_refl _) _
  have HC := Go.Lib.hid (splitS_calls s hs _ (Env.below hE h0))
  rw [hp] at HC
  have HA := Go.Lib.hid (fun W (h : ABox w (w.heap.size + 1) [x, y, z] W) => atoi_yes y (by omega) need h1 W)
  have HF := Go.Lib.hid (fun W (h : ABox w (w.heap.size + 1) [x, y, z] W) => impl_FracRead.calls k z n d false W hf (Env.below hE h.bel))
  have HK := Go.Lib.hid (kindOf_calls x)
  clear hE hs h0 hsz hsz' hy h1 hf hp
  generalize kindF x = kx at *
  go_enter Tryd.func27, Tryd.ntmps27
  go_wp2_with (first | (go_at_call 49; (with_reducible refine HC.out.mono ?_); rintro e w1 ⟨rfl, hr1, hb1⟩; have HB := Go.Lib.hid (ABox.start (w.heap.size + 1) (by simp) hr1 hb1); obtain ⟨c0, c1, c2⟩ := HB.out.pc; clear hb1 hr1) | (go_at_call 45; (with_reducible refine (HA.out _ HB.out).mono ?_); rintro e w2 ⟨rfl, hb1⟩; have HB2 := Go.Lib.hid (HB.out.step hb1); clear c0 c1 c2; obtain ⟨c0, c1, c2⟩ := HB2.out.pc; clear hb1) | (go_at_call 22; (with_reducible refine (HF.out _ HB2.out).mono ?_); rintro e w3 ⟨rfl, hb1⟩; have L3 := f_lt (HB2.out.step hb1).r; have n0 : w3.heap.size ≠ w3.heap.size + 1 := (by omega); have n2 : w.heap.size + 1 ≠ w3.heap.size + 1 := (by omega); have HB3 := Go.Lib.hid ((HB2.out.step hb1).push n d); clear c0 c1 c2; obtain ⟨c0, c1, c2⟩ := HB3.out.a.pc; obtain ⟨q0, q1⟩ := HB3.out.fc; clear hb1))
  go_region_held3 (fun W => W.cell? ⟨w3.heap.size, 0, none⟩ = some (.int .i64 n) ∧ W.cell? ⟨w3.heap.size, 1, none⟩ = some (.int .i64 d) ∧ W.cell? ⟨w.heap.size + 1, 0, none⟩ = some (.string x)) (first | with_reducible exact ⟨k0, k1, k2⟩ | with_reducible exact ⟨four_far k0 n0, four_far k1 n0, four_far k2 n2⟩ | go_keep) ((go_at_call 50; (with_reducible refine (HK.out _).mono ?_); rintro e w4 ⟨rfl, hb1⟩; have hbc : Below (w3.alloc (.cells #[.int .i64 n, .int .i64 d] 25)).heap.size (w3.alloc (.cells #[.int .i64 n, .int .i64 d] 25)) w4 := below_then (by first | exact below_drew (Below.refl _ _) | exact below_drew ((Below.refl _ _).alloc (Nat.le_refl _) _)) (by simp) hb1; have HB4 := Go.Lib.hid (HB3.out.a.step hbc); have k0 := cell_below q0 hbc; have k1 := cell_below q1 hbc; have k2 := cell_below c0 hbc; try (have z9 : w4.heap[w3.heap.size + 1]? = some (.cells #[.int .i64 0, .int .i64 0, .int .i64 0, .int .i64 0] 32 (0, 0)) := zero_kept (by simp) hb1; obtain ⟨y0, y1, y2, y3, g0, g1, g2, g3⟩ := four_cells z9; have Z9 := Go.Lib.hid z9; clear z9); clear hb1 hbc))
  · have H := HB4.out.ask kx need n d
    generalize (w4.alloc (.cells #[.int .i64 kx, .int .i64 need, .int .i64 n, .int .i64 d] 32)) = w5 at H ⊢
    have H5 := Go.Lib.hid H
    clear H HB4 HB3 HB2 HB HA HF HK HC c0 c1 c2 q0 q1 k0 k1 k2 L3 n0 n2
    obtain ⟨x0, x1, x2, x3, f0, f1, f2, f3⟩ := four_cells H5.out.b
    obtain ⟨y0, y1, y2, y3, g0, g1, g2, g3⟩ := four_cells H5.out.f
    go_wp2
    (refine bodyPost_ret (results_ct rfl _ _ w.heap.size 32 #[.int .i64 0, .int .i64 0, .int .i64 0, .int .i64 0] (0, 0) _ rfl (four_put H5.out.b _ _ _ _) Tryd.underlying32 rfl (by kernel_rfl)) rfl ?_; exact ⟨rfl, four_below H5.out.bel (Nat.le_refl _) _ _ _ _⟩)
  · have H := HB4.out.put Z9.out (by omega) kx need n d
    generalize ((((w4.setCell ⟨w3.heap.size + 1, 0, none⟩ (.int .i64 kx)).setCell ⟨w3.heap.size + 1, 1, none⟩ (.int .i64 need)).setCell ⟨w3.heap.size + 1, 2, none⟩ (.int .i64 n)).setCell ⟨w3.heap.size + 1, 3, none⟩ (.int .i64 d)) = w5 at H ⊢
    have H5 := Go.Lib.hid H
    clear H Z9 HB4 HB3 HB2 HB HA HF HK HC c0 c1 c2 q0 q1 k0 k1 k2 y0 y1 y2 y3 g0 g1 g2 g3 L3 n0 n2
    obtain ⟨x0, x1, x2, x3, f0, f1, f2, f3⟩ := four_cells H5.out.b
    obtain ⟨y0, y1, y2, y3, g0, g1, g2, g3⟩ := four_cells H5.out.f
    go_wp2
    (refine bodyPost_ret (results_ct rfl _ _ w.heap.size 32 #[.int .i64 0, .int .i64 0, .int .i64 0, .int .i64 0] (0, 0) _ rfl (four_put H5.out.b _ _ _ _) Tryd.underlying32 rfl (by kernel_rfl)) rfl ?_; exact ⟨rfl, four_below H5.out.bel (Nat.le_refl _) _ _ _ _⟩)
set_option maxHeartbeats 4000000 in
theorem askRead_ok (s : ByteArray) (hs : s.size ≤ 4294967280) (k : Nat) (x y z : ByteArray) (hp : pieces s = [x, y, z]) (n d : Int) (hf : impl_FracRead.f k z = some (n, d, true)) (need : Int) (h1 : Lib.atoiAll y.data.toList = .ok need) (hok : impl_AskOk.f k (kindF x) need n d = some false) (w : World) (hE : Env w) :
    Calls Tryd.prog 27 #[.string s] w fun e w' => e = .returned (.tuple #[.agg #[.int .i64 0, .int .i64 0, .int .i64 0, .int .i64 0], .bool false]) ∧ Below w.heap.size w w' := by
  have hsz := split_sizes ⟨#[32]⟩ (Lib.countB s ⟨#[32]⟩) s
  have hsz' : ∀ x ∈ pieces s, x.size ≤ s.size := hsz
  rw [hp] at hsz'
  have hy := hsz' y (by simp)
  have hpl : Lib.countB s ⟨#[32]⟩ = 2 := by have := pieces_len s; rw [hp] at this; simpa using this.symm
  have h0 : Below w.heap.size w (w.alloc (.cells #[.int .i64 0, .int .i64 0, .int .i64 0, .int .i64 0] 32)) := (Below.refl _ w).alloc (Nat.le_refl _) _
  have HC := Go.Lib.hid (splitS_calls s hs _ (Env.below hE h0))
  rw [hp] at HC
  have HA := Go.Lib.hid (fun W (h : ABox w (w.heap.size + 1) [x, y, z] W) => atoi_yes y (by omega) need h1 W)
  have HF := Go.Lib.hid (fun W (h : ABox w (w.heap.size + 1) [x, y, z] W) => impl_FracRead.calls k z n d true W hf (Env.below hE h.bel))
  have HK := Go.Lib.hid (kindOf_calls x)
  have HO := Go.Lib.hid (fun W => impl_AskOk.calls k (kindF x) need n d false W hok)
  clear hE hs h0 hsz hsz' hy h1 hf hp hok
  generalize kindF x = kx at *
  go_enter Tryd.func27, Tryd.ntmps27
  go_wp2_with (first | (go_at_call 49; (with_reducible refine HC.out.mono ?_); rintro e w1 ⟨rfl, hr1, hb1⟩; have HB := Go.Lib.hid (ABox.start (w.heap.size + 1) (by simp) hr1 hb1); obtain ⟨c0, c1, c2⟩ := HB.out.pc; clear hb1 hr1) | (go_at_call 45; (with_reducible refine (HA.out _ HB.out).mono ?_); rintro e w2 ⟨rfl, hb1⟩; have HB2 := Go.Lib.hid (HB.out.step hb1); clear c0 c1 c2; obtain ⟨c0, c1, c2⟩ := HB2.out.pc; clear hb1) | (go_at_call 22; (with_reducible refine (HF.out _ HB2.out).mono ?_); rintro e w3 ⟨rfl, hb1⟩; have L3 := f_lt (HB2.out.step hb1).r; have n0 : w3.heap.size ≠ w3.heap.size + 1 := (by omega); have n2 : w.heap.size + 1 ≠ w3.heap.size + 1 := (by omega); have HB3 := Go.Lib.hid ((HB2.out.step hb1).push n d); clear c0 c1 c2; obtain ⟨c0, c1, c2⟩ := HB3.out.a.pc; obtain ⟨q0, q1⟩ := HB3.out.fc; clear hb1))
  go_region_held3 (fun W => W.cell? ⟨w3.heap.size, 0, none⟩ = some (.int .i64 n) ∧ W.cell? ⟨w3.heap.size, 1, none⟩ = some (.int .i64 d) ∧ W.cell? ⟨w.heap.size + 1, 0, none⟩ = some (.string x)) (first | with_reducible exact ⟨k0, k1, k2⟩ | with_reducible exact ⟨four_far k0 n0, four_far k1 n0, four_far k2 n2⟩ | go_keep) ((go_at_call 50; (with_reducible refine (HK.out _).mono ?_); rintro e w4 ⟨rfl, hb1⟩; have hbc : Below (w3.alloc (.cells #[.int .i64 n, .int .i64 d] 25)).heap.size (w3.alloc (.cells #[.int .i64 n, .int .i64 d] 25)) w4 := below_then (by first | exact below_drew (Below.refl _ _) | exact below_drew ((Below.refl _ _).alloc (Nat.le_refl _) _)) (by simp) hb1; have HB4 := Go.Lib.hid (HB3.out.a.step hbc); have k0 := cell_below q0 hbc; have k1 := cell_below q1 hbc; have k2 := cell_below c0 hbc; try (have z9 : w4.heap[w3.heap.size + 1]? = some (.cells #[.int .i64 0, .int .i64 0, .int .i64 0, .int .i64 0] 32 (0, 0)) := zero_kept (by simp) hb1; obtain ⟨y0, y1, y2, y3, g0, g1, g2, g3⟩ := four_cells z9; have Z9 := Go.Lib.hid z9; clear z9); clear hb1 hbc))
  · have H := HB4.out.ask kx need n d
    generalize (w4.alloc (.cells #[.int .i64 kx, .int .i64 need, .int .i64 n, .int .i64 d] 32)) = w5 at H ⊢
    have H5 := Go.Lib.hid H
    clear H HB4 HB3 HB2 HB HA HF HK HC c0 c1 c2 q0 q1 k0 k1 k2 L3 n0 n2
    obtain ⟨x0, x1, x2, x3, f0, f1, f2, f3⟩ := four_cells H5.out.b
    obtain ⟨y0, y1, y2, y3, g0, g1, g2, g3⟩ := four_cells H5.out.f
    go_wp2_with (first | (go_at_call 28; (with_reducible refine (HO.out _).mono ?_); rintro e w6 ⟨rfl, hb1⟩; have H6 := Go.Lib.hid (H5.out.step hb1); clear x0 x1 x2 x3 f0 f1 f2 f3 y0 y1 y2 y3 g0 g1 g2 g3; obtain ⟨x0, x1, x2, x3, f0, f1, f2, f3⟩ := four_cells H6.out.b; obtain ⟨y0, y1, y2, y3, g0, g1, g2, g3⟩ := four_cells H6.out.f; clear hb1))
    (refine bodyPost_ret (results_ct rfl _ _ w.heap.size 32 #[.int .i64 0, .int .i64 0, .int .i64 0, .int .i64 0] (0, 0) _ rfl (four_put H6.out.b _ _ _ _) Tryd.underlying32 rfl (by kernel_rfl)) rfl ?_; exact ⟨rfl, four_below H6.out.bel (Nat.le_refl _) _ _ _ _⟩)
  · have H := HB4.out.put Z9.out (by omega) kx need n d
    generalize ((((w4.setCell ⟨w3.heap.size + 1, 0, none⟩ (.int .i64 kx)).setCell ⟨w3.heap.size + 1, 1, none⟩ (.int .i64 need)).setCell ⟨w3.heap.size + 1, 2, none⟩ (.int .i64 n)).setCell ⟨w3.heap.size + 1, 3, none⟩ (.int .i64 d)) = w5 at H ⊢
    have H5 := Go.Lib.hid H
    clear H Z9 HB4 HB3 HB2 HB HA HF HK HC c0 c1 c2 q0 q1 k0 k1 k2 y0 y1 y2 y3 g0 g1 g2 g3 L3 n0 n2
    obtain ⟨x0, x1, x2, x3, f0, f1, f2, f3⟩ := four_cells H5.out.b
    obtain ⟨y0, y1, y2, y3, g0, g1, g2, g3⟩ := four_cells H5.out.f
    go_wp2_with (first | (go_at_call 28; (with_reducible refine (HO.out _).mono ?_); rintro e w6 ⟨rfl, hb1⟩; have H6 := Go.Lib.hid (H5.out.step hb1); clear x0 x1 x2 x3 f0 f1 f2 f3 y0 y1 y2 y3 g0 g1 g2 g3; obtain ⟨x0, x1, x2, x3, f0, f1, f2, f3⟩ := four_cells H6.out.b; obtain ⟨y0, y1, y2, y3, g0, g1, g2, g3⟩ := four_cells H6.out.f; clear hb1))
    (refine bodyPost_ret (results_ct rfl _ _ w.heap.size 32 #[.int .i64 0, .int .i64 0, .int .i64 0, .int .i64 0] (0, 0) _ rfl (four_put H6.out.b _ _ _ _) Tryd.underlying32 rfl (by kernel_rfl)) rfl ?_; exact ⟨rfl, four_below H6.out.bel (Nat.le_refl _) _ _ _ _⟩)
set_option maxHeartbeats 4000000 in
theorem askRead_text (s : ByteArray) (hs : s.size ≤ 4294967280) (k : Nat) (x y z : ByteArray) (hp : pieces s = [x, y, z]) (n d : Int) (hf : impl_FracRead.f k z = some (n, d, true)) (need : Int) (h1 : Lib.atoiAll y.data.toList = .ok need) (hok : impl_AskOk.f k (kindF x) need n d = some true) (u : ByteArray) (hu : impl_AskText.f k (kindF x) need n d = some u) (ht : ¬ u.toList = s.toList) (w : World) (hE : Env w) :
    Calls Tryd.prog 27 #[.string s] w fun e w' => e = .returned (.tuple #[.agg #[.int .i64 0, .int .i64 0, .int .i64 0, .int .i64 0], .bool false]) ∧ Below w.heap.size w w' := by
  have hsz := split_sizes ⟨#[32]⟩ (Lib.countB s ⟨#[32]⟩) s
  have hsz' : ∀ x ∈ pieces s, x.size ≤ s.size := hsz
  rw [hp] at hsz'
  have hy := hsz' y (by simp)
  have hpl : Lib.countB s ⟨#[32]⟩ = 2 := by have := pieces_len s; rw [hp] at this; simpa using this.symm
  have h0 : Below w.heap.size w (w.alloc (.cells #[.int .i64 0, .int .i64 0, .int .i64 0, .int .i64 0] 32)) := (Below.refl _ w).alloc (Nat.le_refl _) _
  have HC := Go.Lib.hid (splitS_calls s hs _ (Env.below hE h0))
  rw [hp] at HC
  have HA := Go.Lib.hid (fun W (h : ABox w (w.heap.size + 1) [x, y, z] W) => atoi_yes y (by omega) need h1 W)
  have HF := Go.Lib.hid (fun W (h : ABox w (w.heap.size + 1) [x, y, z] W) => impl_FracRead.calls k z n d true W hf (Env.below hE h.bel))
  have HK := Go.Lib.hid (kindOf_calls x)
  have HO := Go.Lib.hid (fun W => impl_AskOk.calls k (kindF x) need n d true W hok)
  have HT := Go.Lib.hid (fun W (h : Below w.heap.size w W) => impl_AskText.calls k (kindF x) need n d u W hu (Env.below hE h))
  clear hE hs h0 hsz hsz' hy h1 hf hp hok hu
  generalize kindF x = kx at *
  go_enter Tryd.func27, Tryd.ntmps27
  go_wp2_with (first | (go_at_call 49; (with_reducible refine HC.out.mono ?_); rintro e w1 ⟨rfl, hr1, hb1⟩; have HB := Go.Lib.hid (ABox.start (w.heap.size + 1) (by simp) hr1 hb1); obtain ⟨c0, c1, c2⟩ := HB.out.pc; clear hb1 hr1) | (go_at_call 45; (with_reducible refine (HA.out _ HB.out).mono ?_); rintro e w2 ⟨rfl, hb1⟩; have HB2 := Go.Lib.hid (HB.out.step hb1); clear c0 c1 c2; obtain ⟨c0, c1, c2⟩ := HB2.out.pc; clear hb1) | (go_at_call 22; (with_reducible refine (HF.out _ HB2.out).mono ?_); rintro e w3 ⟨rfl, hb1⟩; have L3 := f_lt (HB2.out.step hb1).r; have n0 : w3.heap.size ≠ w3.heap.size + 1 := (by omega); have n2 : w.heap.size + 1 ≠ w3.heap.size + 1 := (by omega); have HB3 := Go.Lib.hid ((HB2.out.step hb1).push n d); clear c0 c1 c2; obtain ⟨c0, c1, c2⟩ := HB3.out.a.pc; obtain ⟨q0, q1⟩ := HB3.out.fc; clear hb1))
  go_region_held3 (fun W => W.cell? ⟨w3.heap.size, 0, none⟩ = some (.int .i64 n) ∧ W.cell? ⟨w3.heap.size, 1, none⟩ = some (.int .i64 d) ∧ W.cell? ⟨w.heap.size + 1, 0, none⟩ = some (.string x)) (first | with_reducible exact ⟨k0, k1, k2⟩ | with_reducible exact ⟨four_far k0 n0, four_far k1 n0, four_far k2 n2⟩ | go_keep) ((go_at_call 50; (with_reducible refine (HK.out _).mono ?_); rintro e w4 ⟨rfl, hb1⟩; have hbc : Below (w3.alloc (.cells #[.int .i64 n, .int .i64 d] 25)).heap.size (w3.alloc (.cells #[.int .i64 n, .int .i64 d] 25)) w4 := below_then (by first | exact below_drew (Below.refl _ _) | exact below_drew ((Below.refl _ _).alloc (Nat.le_refl _) _)) (by simp) hb1; have HB4 := Go.Lib.hid (HB3.out.a.step hbc); have k0 := cell_below q0 hbc; have k1 := cell_below q1 hbc; have k2 := cell_below c0 hbc; try (have z9 : w4.heap[w3.heap.size + 1]? = some (.cells #[.int .i64 0, .int .i64 0, .int .i64 0, .int .i64 0] 32 (0, 0)) := zero_kept (by simp) hb1; obtain ⟨y0, y1, y2, y3, g0, g1, g2, g3⟩ := four_cells z9; have Z9 := Go.Lib.hid z9; clear z9); clear hb1 hbc))
  · have H := HB4.out.ask kx need n d
    generalize (w4.alloc (.cells #[.int .i64 kx, .int .i64 need, .int .i64 n, .int .i64 d] 32)) = w5 at H ⊢
    have H5 := Go.Lib.hid H
    clear H HB4 HB3 HB2 HB HA HF HK HC c0 c1 c2 q0 q1 k0 k1 k2 L3 n0 n2
    obtain ⟨x0, x1, x2, x3, f0, f1, f2, f3⟩ := four_cells H5.out.b
    obtain ⟨y0, y1, y2, y3, g0, g1, g2, g3⟩ := four_cells H5.out.f
    go_wp2_with (first | (go_at_call 28; (with_reducible refine (HO.out _).mono ?_); rintro e w6 ⟨rfl, hb1⟩; have H6 := Go.Lib.hid (H5.out.step hb1); clear x0 x1 x2 x3 f0 f1 f2 f3 y0 y1 y2 y3 g0 g1 g2 g3; obtain ⟨x0, x1, x2, x3, f0, f1, f2, f3⟩ := four_cells H6.out.b; obtain ⟨y0, y1, y2, y3, g0, g1, g2, g3⟩ := four_cells H6.out.f; clear hb1) | (go_at_call 18; (with_reducible refine (HT.out _ H6.out.bel).mono ?_); rintro e w7 ⟨rfl, hb1⟩; have H7 := Go.Lib.hid (H6.out.step hb1); clear x0 x1 x2 x3 f0 f1 f2 f3 y0 y1 y2 y3 g0 g1 g2 g3; obtain ⟨x0, x1, x2, x3, f0, f1, f2, f3⟩ := four_cells H7.out.b; obtain ⟨y0, y1, y2, y3, g0, g1, g2, g3⟩ := four_cells H7.out.f; clear hb1))
    all_goals first | (rename_i hh; exact absurd (by simpa using hh) ht) | (refine bodyPost_ret (results_ct rfl _ _ w.heap.size 32 #[.int .i64 0, .int .i64 0, .int .i64 0, .int .i64 0] (0, 0) _ rfl (four_put H7.out.b _ _ _ _) Tryd.underlying32 rfl (by kernel_rfl)) rfl ?_; exact ⟨rfl, four_below H7.out.bel (Nat.le_refl _) _ _ _ _⟩)
  · have H := HB4.out.put Z9.out (by omega) kx need n d
    generalize ((((w4.setCell ⟨w3.heap.size + 1, 0, none⟩ (.int .i64 kx)).setCell ⟨w3.heap.size + 1, 1, none⟩ (.int .i64 need)).setCell ⟨w3.heap.size + 1, 2, none⟩ (.int .i64 n)).setCell ⟨w3.heap.size + 1, 3, none⟩ (.int .i64 d)) = w5 at H ⊢
    have H5 := Go.Lib.hid H
    clear H Z9 HB4 HB3 HB2 HB HA HF HK HC c0 c1 c2 q0 q1 k0 k1 k2 y0 y1 y2 y3 g0 g1 g2 g3 L3 n0 n2
    obtain ⟨x0, x1, x2, x3, f0, f1, f2, f3⟩ := four_cells H5.out.b
    obtain ⟨y0, y1, y2, y3, g0, g1, g2, g3⟩ := four_cells H5.out.f
    go_wp2_with (first | (go_at_call 28; (with_reducible refine (HO.out _).mono ?_); rintro e w6 ⟨rfl, hb1⟩; have H6 := Go.Lib.hid (H5.out.step hb1); clear x0 x1 x2 x3 f0 f1 f2 f3 y0 y1 y2 y3 g0 g1 g2 g3; obtain ⟨x0, x1, x2, x3, f0, f1, f2, f3⟩ := four_cells H6.out.b; obtain ⟨y0, y1, y2, y3, g0, g1, g2, g3⟩ := four_cells H6.out.f; clear hb1) | (go_at_call 18; (with_reducible refine (HT.out _ H6.out.bel).mono ?_); rintro e w7 ⟨rfl, hb1⟩; have H7 := Go.Lib.hid (H6.out.step hb1); clear x0 x1 x2 x3 f0 f1 f2 f3 y0 y1 y2 y3 g0 g1 g2 g3; obtain ⟨x0, x1, x2, x3, f0, f1, f2, f3⟩ := four_cells H7.out.b; obtain ⟨y0, y1, y2, y3, g0, g1, g2, g3⟩ := four_cells H7.out.f; clear hb1))
    all_goals first | (rename_i hh; exact absurd (by simpa using hh) ht) | (refine bodyPost_ret (results_ct rfl _ _ w.heap.size 32 #[.int .i64 0, .int .i64 0, .int .i64 0, .int .i64 0] (0, 0) _ rfl (four_put H7.out.b _ _ _ _) Tryd.underlying32 rfl (by kernel_rfl)) rfl ?_; exact ⟨rfl, four_below H7.out.bel (Nat.le_refl _) _ _ _ _⟩)
set_option maxHeartbeats 4000000 in
theorem askRead_yes (s : ByteArray) (hs : s.size ≤ 4294967280) (k : Nat) (x y z : ByteArray) (hp : pieces s = [x, y, z]) (n d : Int) (hf : impl_FracRead.f k z = some (n, d, true)) (need : Int) (h1 : Lib.atoiAll y.data.toList = .ok need) (hok : impl_AskOk.f k (kindF x) need n d = some true) (u : ByteArray) (hu : impl_AskText.f k (kindF x) need n d = some u) (ht : u.toList = s.toList) (w : World) (hE : Env w) :
    Calls Tryd.prog 27 #[.string s] w fun e w' => e = .returned (.tuple #[.agg #[.int .i64 (kindF x), .int .i64 need, .int .i64 n, .int .i64 d], .bool true]) ∧ Below w.heap.size w w' := by
  have hsz := split_sizes ⟨#[32]⟩ (Lib.countB s ⟨#[32]⟩) s
  have hsz' : ∀ x ∈ pieces s, x.size ≤ s.size := hsz
  rw [hp] at hsz'
  have hy := hsz' y (by simp)
  have hpl : Lib.countB s ⟨#[32]⟩ = 2 := by have := pieces_len s; rw [hp] at this; simpa using this.symm
  have h0 : Below w.heap.size w (w.alloc (.cells #[.int .i64 0, .int .i64 0, .int .i64 0, .int .i64 0] 32)) := (Below.refl _ w).alloc (Nat.le_refl _) _
  have HC := Go.Lib.hid (splitS_calls s hs _ (Env.below hE h0))
  rw [hp] at HC
  have HA := Go.Lib.hid (fun W (h : ABox w (w.heap.size + 1) [x, y, z] W) => atoi_yes y (by omega) need h1 W)
  have HF := Go.Lib.hid (fun W (h : ABox w (w.heap.size + 1) [x, y, z] W) => impl_FracRead.calls k z n d true W hf (Env.below hE h.bel))
  have HK := Go.Lib.hid (kindOf_calls x)
  have HO := Go.Lib.hid (fun W => impl_AskOk.calls k (kindF x) need n d true W hok)
  have HT := Go.Lib.hid (fun W (h : Below w.heap.size w W) => impl_AskText.calls k (kindF x) need n d u W hu (Env.below hE h))
  clear hE hs h0 hsz hsz' hy h1 hf hp hok hu
  generalize kindF x = kx at *
  go_enter Tryd.func27, Tryd.ntmps27
  go_wp2_with (first | (go_at_call 49; (with_reducible refine HC.out.mono ?_); rintro e w1 ⟨rfl, hr1, hb1⟩; have HB := Go.Lib.hid (ABox.start (w.heap.size + 1) (by simp) hr1 hb1); obtain ⟨c0, c1, c2⟩ := HB.out.pc; clear hb1 hr1) | (go_at_call 45; (with_reducible refine (HA.out _ HB.out).mono ?_); rintro e w2 ⟨rfl, hb1⟩; have HB2 := Go.Lib.hid (HB.out.step hb1); clear c0 c1 c2; obtain ⟨c0, c1, c2⟩ := HB2.out.pc; clear hb1) | (go_at_call 22; (with_reducible refine (HF.out _ HB2.out).mono ?_); rintro e w3 ⟨rfl, hb1⟩; have L3 := f_lt (HB2.out.step hb1).r; have n0 : w3.heap.size ≠ w3.heap.size + 1 := (by omega); have n2 : w.heap.size + 1 ≠ w3.heap.size + 1 := (by omega); have HB3 := Go.Lib.hid ((HB2.out.step hb1).push n d); clear c0 c1 c2; obtain ⟨c0, c1, c2⟩ := HB3.out.a.pc; obtain ⟨q0, q1⟩ := HB3.out.fc; clear hb1))
  go_region_held3 (fun W => W.cell? ⟨w3.heap.size, 0, none⟩ = some (.int .i64 n) ∧ W.cell? ⟨w3.heap.size, 1, none⟩ = some (.int .i64 d) ∧ W.cell? ⟨w.heap.size + 1, 0, none⟩ = some (.string x)) (first | with_reducible exact ⟨k0, k1, k2⟩ | with_reducible exact ⟨four_far k0 n0, four_far k1 n0, four_far k2 n2⟩ | go_keep) ((go_at_call 50; (with_reducible refine (HK.out _).mono ?_); rintro e w4 ⟨rfl, hb1⟩; have hbc : Below (w3.alloc (.cells #[.int .i64 n, .int .i64 d] 25)).heap.size (w3.alloc (.cells #[.int .i64 n, .int .i64 d] 25)) w4 := below_then (by first | exact below_drew (Below.refl _ _) | exact below_drew ((Below.refl _ _).alloc (Nat.le_refl _) _)) (by simp) hb1; have HB4 := Go.Lib.hid (HB3.out.a.step hbc); have k0 := cell_below q0 hbc; have k1 := cell_below q1 hbc; have k2 := cell_below c0 hbc; try (have z9 : w4.heap[w3.heap.size + 1]? = some (.cells #[.int .i64 0, .int .i64 0, .int .i64 0, .int .i64 0] 32 (0, 0)) := zero_kept (by simp) hb1; obtain ⟨y0, y1, y2, y3, g0, g1, g2, g3⟩ := four_cells z9; have Z9 := Go.Lib.hid z9; clear z9); clear hb1 hbc))
  · have H := HB4.out.ask kx need n d
    generalize (w4.alloc (.cells #[.int .i64 kx, .int .i64 need, .int .i64 n, .int .i64 d] 32)) = w5 at H ⊢
    have H5 := Go.Lib.hid H
    clear H HB4 HB3 HB2 HB HA HF HK HC c0 c1 c2 q0 q1 k0 k1 k2 L3 n0 n2
    obtain ⟨x0, x1, x2, x3, f0, f1, f2, f3⟩ := four_cells H5.out.b
    obtain ⟨y0, y1, y2, y3, g0, g1, g2, g3⟩ := four_cells H5.out.f
    go_wp2_with (first | (go_at_call 28; (with_reducible refine (HO.out _).mono ?_); rintro e w6 ⟨rfl, hb1⟩; have H6 := Go.Lib.hid (H5.out.step hb1); clear x0 x1 x2 x3 f0 f1 f2 f3 y0 y1 y2 y3 g0 g1 g2 g3; obtain ⟨x0, x1, x2, x3, f0, f1, f2, f3⟩ := four_cells H6.out.b; obtain ⟨y0, y1, y2, y3, g0, g1, g2, g3⟩ := four_cells H6.out.f; clear hb1) | (go_at_call 18; (with_reducible refine (HT.out _ H6.out.bel).mono ?_); rintro e w7 ⟨rfl, hb1⟩; have H7 := Go.Lib.hid (H6.out.step hb1); clear x0 x1 x2 x3 f0 f1 f2 f3 y0 y1 y2 y3 g0 g1 g2 g3; obtain ⟨x0, x1, x2, x3, f0, f1, f2, f3⟩ := four_cells H7.out.b; obtain ⟨y0, y1, y2, y3, g0, g1, g2, g3⟩ := four_cells H7.out.f; clear hb1))
    (refine bodyPost_ret (results_ct rfl _ _ w.heap.size 32 #[.int .i64 kx, .int .i64 need, .int .i64 n, .int .i64 d] (0, 0) _ rfl (four_put H7.out.b _ _ _ _) Tryd.underlying32 rfl (by kernel_rfl)) rfl ?_; exact ⟨rfl, four_below H7.out.bel (Nat.le_refl _) _ _ _ _⟩)
  · have H := HB4.out.put Z9.out (by omega) kx need n d
    generalize ((((w4.setCell ⟨w3.heap.size + 1, 0, none⟩ (.int .i64 kx)).setCell ⟨w3.heap.size + 1, 1, none⟩ (.int .i64 need)).setCell ⟨w3.heap.size + 1, 2, none⟩ (.int .i64 n)).setCell ⟨w3.heap.size + 1, 3, none⟩ (.int .i64 d)) = w5 at H ⊢
    have H5 := Go.Lib.hid H
    clear H Z9 HB4 HB3 HB2 HB HA HF HK HC c0 c1 c2 q0 q1 k0 k1 k2 y0 y1 y2 y3 g0 g1 g2 g3 L3 n0 n2
    obtain ⟨x0, x1, x2, x3, f0, f1, f2, f3⟩ := four_cells H5.out.b
    obtain ⟨y0, y1, y2, y3, g0, g1, g2, g3⟩ := four_cells H5.out.f
    go_wp2_with (first | (go_at_call 28; (with_reducible refine (HO.out _).mono ?_); rintro e w6 ⟨rfl, hb1⟩; have H6 := Go.Lib.hid (H5.out.step hb1); clear x0 x1 x2 x3 f0 f1 f2 f3 y0 y1 y2 y3 g0 g1 g2 g3; obtain ⟨x0, x1, x2, x3, f0, f1, f2, f3⟩ := four_cells H6.out.b; obtain ⟨y0, y1, y2, y3, g0, g1, g2, g3⟩ := four_cells H6.out.f; clear hb1) | (go_at_call 18; (with_reducible refine (HT.out _ H6.out.bel).mono ?_); rintro e w7 ⟨rfl, hb1⟩; have H7 := Go.Lib.hid (H6.out.step hb1); clear x0 x1 x2 x3 f0 f1 f2 f3 y0 y1 y2 y3 g0 g1 g2 g3; obtain ⟨x0, x1, x2, x3, f0, f1, f2, f3⟩ := four_cells H7.out.b; obtain ⟨y0, y1, y2, y3, g0, g1, g2, g3⟩ := four_cells H7.out.f; clear hb1))
    (refine bodyPost_ret (results_ct rfl _ _ w.heap.size 32 #[.int .i64 kx, .int .i64 need, .int .i64 n, .int .i64 d] (0, 0) _ rfl (four_put H7.out.b _ _ _ _) Tryd.underlying32 rfl (by kernel_rfl)) rfl ?_; exact ⟨rfl, four_below H7.out.bel (Nat.le_refl _) _ _ _ _⟩)
def impl_AskRead.f (k : Nat) (a0 : ByteArray) : Option (Int × Int × Int × Int × Bool) := if a0.size ≤ 4294967280 then (match pieces a0 with
  | [x, y, z] => askThree k a0 x y z
  | _ => some (0, 0, 0, 0, false)) else none
theorem impl_AskRead.mono : ∀ a0 k, LeO (impl_AskRead.f k a0) (impl_AskRead.f (k + 1) a0) := by
  intro a0 k
  unfold impl_AskRead.f askThree askEnd
  split
  · split
    · refine LeO.bind (impl_FracRead.mono _ _) (fun t => ?_)
      split
      · exact LeO.ite (LeO.bind (impl_AskOk.mono _ _ _ _ _) (fun o => LeO.ite (LeO.bind (impl_AskText.mono _ _ _ _ _) (fun u => LeO.refl _)) (LeO.refl _))) (LeO.refl _)
      · exact LeO.refl _
    · exact LeO.refl _
  · exact LeO.refl _
theorem zero5 {r1 r2 r3 r4 : Int} {r5 : Bool} (h : some ((0 : Int), (0 : Int), (0 : Int), (0 : Int), false) = some (r1, r2, r3, r4, r5)) : r1 = 0 ∧ r2 = 0 ∧ r3 = 0 ∧ r4 = 0 ∧ r5 = false := by
  have e := Option.some.inj h
  simp only [Prod.mk.injEq] at e
  exact ⟨e.1.symm, e.2.1.symm, e.2.2.1.symm, e.2.2.2.1.symm, e.2.2.2.2.symm⟩
theorem impl_AskRead.calls (k : Nat) (a0 : ByteArray) (r1 : Int) (r2 : Int) (r3 : Int) (r4 : Int) (r5 : Bool) (w : World) (h : impl_AskRead.f k a0 = some (r1, r2, r3, r4, r5)) (hE : Env w) :
    Calls Tryd.prog 27 #[.string a0] w fun e w' => e = .returned (.tuple #[.agg #[.int .i64 r1, .int .i64 r2, .int .i64 r3, .int .i64 r4], .bool r5]) ∧ Below w.heap.size w w' := by
  unfold impl_AskRead.f at h
  split at h
  · rename_i hs
    split at h
    · rename_i x y z hp
      unfold askThree at h
      obtain ⟨⟨n, d, fo⟩, hf, h⟩ := Option.bind_eq_some_iff.1 h
      dsimp only at h
      split at h
      · rename_i need h1
        cases fo
        · rw [if_neg (by decide)] at h
          obtain ⟨rfl, rfl, rfl, rfl, rfl⟩ := zero5 h
          exact askRead_frac a0 hs k x y z hp n d hf need h1 w hE
        · rw [if_pos rfl] at h
          unfold askEnd at h
          obtain ⟨o, hok, h⟩ := Option.bind_eq_some_iff.1 h
          cases o
          · rw [if_neg (by decide)] at h
            obtain ⟨rfl, rfl, rfl, rfl, rfl⟩ := zero5 h
            exact askRead_ok a0 hs k x y z hp n d hf need h1 hok w hE
          · rw [if_pos rfl] at h
            obtain ⟨u, hu, h⟩ := Option.bind_eq_some_iff.1 h
            split at h
            · rename_i ht
              have e := Option.some.inj h
              simp only [Prod.mk.injEq] at e
              obtain ⟨rfl, rfl, rfl, rfl, rfl⟩ := e
              exact askRead_yes a0 hs k x y z hp n d hf need h1 hok u hu ht w hE
            · rename_i ht
              obtain ⟨rfl, rfl, rfl, rfl, rfl⟩ := zero5 h
              exact askRead_text a0 hs k x y z hp n d hf need h1 hok u hu ht w hE
      · rename_i h1
        obtain ⟨rfl, rfl, rfl, rfl, rfl⟩ := zero5 h
        exact askRead_atoi a0 hs k x y z hp n d fo hf (fun v e => h1 v e) w hE
    · rename_i hne
      obtain ⟨rfl, rfl, rfl, rfl, rfl⟩ := zero5 h
      refine askRead_not3 a0 hs (fun hl => ?_) w hE
      rcases hq : pieces a0 with _ | ⟨x, _ | ⟨y, _ | ⟨z, _ | ⟨t, l⟩⟩⟩⟩
      · rw [hq] at hl; cases hl
      · rw [hq] at hl; cases hl
      · rw [hq] at hl; cases hl
      · exact hne x y z hq
      · rw [hq] at hl; simp at hl
  · cases h

/-! ### spec_l6In: function 54 -/
def spec_l6In.f (a0 : Int) (a1 : Int) (a2 : Int) : Option (Bool) := if a0 ≥ a1 then (some (decide (a0 ≤ a2))) else (some false)
set_option maxHeartbeats 8000000 in
set_option maxRecDepth 100000 in
theorem spec_l6In.calls (a0 : Int) (a1 : Int) (a2 : Int) (r : Bool) (w : World) (h : spec_l6In.f a0 a1 a2 = some r) :
    Calls Tryd.prog 54 #[.int .i64 a0, .int .i64 a1, .int .i64 a2] w fun e w' => e = .returned (.bool r) ∧ Drawn0 w w' := by
  have H : (if a0 ≥ a1 then (some (decide (a0 ≤ a2))) else (some false)) = some r := h
  clear h
  by_cases c4 : a0 ≥ a1
  · rw [if_pos c4] at H
    have c4b0 : decide (a1 ≤ a0) = true := decide_eq_true c4
    clear c4
    obtain rfl := Option.some.inj H
    go_enter Tryd.func54, Tryd.ntmps54
    go_wp2
    go_ret
    exact ⟨by first | rfl | (simp; done) | (simp [*]; done), by repeat (first | exact Drawn0.refl _ | apply Drawn0.step)⟩
  · rw [if_neg c4] at H
    have c4b0 : decide (a1 ≤ a0) = false := decide_eq_false c4
    clear c4
    obtain rfl := Option.some.inj H
    go_enter Tryd.func54, Tryd.ntmps54
    go_wp2
    go_ret
    exact ⟨by first | rfl | (simp; done) | (simp [*]; done), by repeat (first | exact Drawn0.refl _ | apply Drawn0.step)⟩

/-! ### spec_l31Gcd: function 55 -/
def spec_l31Gcd.l0 : Nat → Int → Int → Option (Int)
  | 0, _, _ => none
  | k + 1, x0, x1 => if x1 > 0 then (if x1 = 0 then (none) else (spec_l31Gcd.l0 k x1 (Int.tmod x0 x1))) else (some x0)
def spec_l31Gcd.f (k : Nat) (a0 : Int) (a1 : Int) : Option (Int) := spec_l31Gcd.l0 k a0 a1
theorem spec_l31Gcd.mono_l : ∀ k, (∀ y0 y1, LeO (spec_l31Gcd.l0 k y0 y1) (spec_l31Gcd.l0 (k + 1) y0 y1))
  | 0 => fun _ _ r h => by simp [spec_l31Gcd.l0] at h
  | k + 1 => by
    have ih0 := spec_l31Gcd.mono_l k
    · intro y0 y1
      unfold spec_l31Gcd.l0
      repeat' first
      | (with_reducible exact ih0 _ _)
      | (with_reducible exact LeO.refl _)
      | (with_reducible exact LeO.none _)
      | (with_reducible refine LeO.ite ?_ ?_)
      | (with_reducible refine LeO.bind ?_ (fun _ => ?_))
      | exact ih0 _ _
      | exact LeO.none _
      | refine LeO.ite ?_ ?_
      | refine LeO.bind ?_ (fun _ => ?_)
theorem spec_l31Gcd.mono : ∀ a0 a1 k, LeO (spec_l31Gcd.f k a0 a1) (spec_l31Gcd.f (k + 1) a0 a1) := by
  intro a0 a1 k
  have ih0 := spec_l31Gcd.mono_l k
  unfold spec_l31Gcd.f
  repeat' first
      | (with_reducible exact ih0 _ _)
      | (with_reducible exact LeO.refl _)
      | (with_reducible exact LeO.none _)
      | (with_reducible refine LeO.ite ?_ ?_)
      | (with_reducible refine LeO.bind ?_ (fun _ => ?_))
      | exact ih0 _ _
      | exact LeO.none _
      | refine LeO.ite ?_ ?_
      | refine LeO.bind ?_ (fun _ => ?_)
set_option maxHeartbeats 8000000 in
set_option maxRecDepth 100000 in
theorem spec_l31Gcd.calls (k : Nat) (a0 : Int) (a1 : Int) (r : Int) (w : World) (h : spec_l31Gcd.f k a0 a1 = some r) :
    Calls Tryd.prog 55 #[.int .i64 a0, .int .i64 a1] w fun e w' => e = .returned (.int .i64 r) ∧ Drawn0 w w' := by
  have H : (spec_l31Gcd.l0 k a0 a1) = some r := h
  clear h
  have H' := Aside0.mk H
  clear H
  go_enter Tryd.func55, Tryd.ntmps55
  go_wp2
  go_loopg [0, 1] k (fun kq v0 v1 w' => ∃ (x0_1 : Int) (x1_1 : Int), v0 = .int .i64 x0_1 ∧ v1 = .int .i64 x1_1 ∧ Aside0 (spec_l31Gcd.l0 kq x0_1 x1_1 = some r) ∧ Aside0 (kq ≤ k) ∧ Drawn0 w w')
  case atStart => exact ⟨(a0), (a1), (by first | rfl | (simp; done) | (simp [*]; done)), (by first | rfl | (simp; done) | (simp [*]; done)), H', ⟨Nat.le_refl _⟩, by repeat (first | exact Drawn0.refl _ | apply Drawn0.step)⟩
  case round =>
    clear H'
    try clear p2
    obtain ⟨x0_1, x1_1, rfl, rfl, HA, HK1, ⟨m1, rfl⟩⟩ := hrel
    cases gk with
    | zero => exact absurd HA.out (by simp [spec_l31Gcd.l0])
    | succ k1 =>
      have H := HA.out
      clear HA
      simp only [spec_l31Gcd.l0] at H
      by_cases c3 : x1_1 > 0
      · rw [if_pos c3] at H
        have c3b0 : decide (0 < x1_1) = true := decide_eq_true c3
        clear c3
        by_cases c4 : x1_1 = 0
        · rw [if_pos c4] at H
          exact absurd H (by simp)
        · rw [if_neg c4] at H
          have c4b0 : (x1_1 == 0) = false := beq_eq_false_iff_ne.mpr c4
          have c4b1 : (x1_1 != 0) = true := bne_iff_ne.mpr c4
          have H' := Aside0.mk H
          clear H
          go_wp2
          go_roundg k1
          case measure => have := HK1.out; omega
          case rel => exact ⟨(x1_1), (Int.tmod x0_1 x1_1), (by first | rfl | (simp; done) | (simp [*]; done)), (by first | rfl | (simp; done) | (simp [*]; done)), H', ⟨by have := HK1.out; omega⟩, by repeat (first | exact Drawn0.refl _ | apply Drawn0.step)⟩
      · rw [if_neg c3] at H
        have c3b0 : decide (0 < x1_1) = false := decide_eq_false c3
        clear c3
        obtain rfl := Option.some.inj H
        go_wp2
        go_ret
        exact ⟨by first | rfl | (simp; done) | (simp [*]; done), by repeat (first | exact Drawn0.refl _ | apply Drawn0.step)⟩

/-! ### spec_FracOk: function 32 -/
def spec_FracOk.f (k : Nat) (a0_0 : Int) (a0_1 : Int) : Option (Bool) := (spec_l6In.f a0_0 0 999).bind fun t111 => (if t111 = true then ((spec_l6In.f a0_1 1 60).bind fun t112 => (if t112 = true then ((spec_l31Gcd.f k a0_0 a0_1).bind fun t113 => (some (t113 == 1))) else (some false))) else (some false))
theorem spec_FracOk.mono : ∀ a0 a1 k, LeO (spec_FracOk.f k a0 a1) (spec_FracOk.f (k + 1) a0 a1) := by
  intro a0 a1 k
  unfold spec_FracOk.f
  repeat' first
      | (with_reducible exact spec_l31Gcd.mono _ _ _)
      | (with_reducible exact LeO.refl _)
      | (with_reducible exact LeO.none _)
      | (with_reducible refine LeO.ite ?_ ?_)
      | (with_reducible refine LeO.bind ?_ (fun _ => ?_))
      | exact spec_l31Gcd.mono _ _ _
      | exact LeO.none _
      | refine LeO.ite ?_ ?_
      | refine LeO.bind ?_ (fun _ => ?_)
set_option maxHeartbeats 8000000 in
set_option maxRecDepth 100000 in
theorem spec_FracOk.calls (k : Nat) (a0_0 : Int) (a0_1 : Int) (r : Bool) (w : World) (h : spec_FracOk.f k a0_0 a0_1 = some r) :
    Calls Tryd.prog 32 #[.agg #[.int .i64 a0_0, .int .i64 a0_1]] w fun e w' => e = .returned (.bool r) ∧ Below w.heap.size w w' := by
  have hu25 := Tryd.underlying25
  have HB := Aside0.mk (Below.refl w.heap.size w)
  have H : ((spec_l6In.f a0_0 0 999).bind fun t111 => (if t111 = true then ((spec_l6In.f a0_1 1 60).bind fun t112 => (if t112 = true then ((spec_l31Gcd.f k a0_0 a0_1).bind fun t113 => (some (t113 == 1))) else (some false))) else (some false))) = some r := h
  clear h
  replace H := Option.bind_eq_some_iff.mp H
  obtain ⟨t111, A20, H⟩ := H
  replace H : (if t111 = true then ((spec_l6In.f a0_1 1 60).bind fun t112 => (if t112 = true then ((spec_l31Gcd.f k a0_0 a0_1).bind fun t113 => (some (t113 == 1))) else (some false))) else (some false)) = some r := H
  have A2 := Aside0.mk A20
  clear A20
  by_cases c3 : t111 = true
  · subst c3
    have H1 : ((spec_l6In.f a0_1 1 60).bind fun t112 => (if t112 = true then ((spec_l31Gcd.f k a0_0 a0_1).bind fun t113 => (some (t113 == 1))) else (some false))) = some r := by rw [if_pos rfl] at H; exact H
    clear H
    have H := H1
    clear H1
    replace H := Option.bind_eq_some_iff.mp H
    obtain ⟨t112, A40, H⟩ := H
    replace H : (if t112 = true then ((spec_l31Gcd.f k a0_0 a0_1).bind fun t113 => (some (t113 == 1))) else (some false)) = some r := H
    have A4 := Aside0.mk A40
    clear A40
    by_cases c5 : t112 = true
    · subst c5
      have H1 : ((spec_l31Gcd.f k a0_0 a0_1).bind fun t113 => (some (t113 == 1))) = some r := by rw [if_pos rfl] at H; exact H
      clear H
      have H := H1
      clear H1
      replace H := Option.bind_eq_some_iff.mp H
      obtain ⟨t113, A60, H⟩ := H
      replace H : (some (t113 == 1)) = some r := H
      have A6 := Aside0.mk A60
      clear A60
      obtain rfl := Option.some.inj H
      go_enter Tryd.func32, Tryd.ntmps32
      go_wp2_with (first | ((with_reducible refine gate_dst (N := 1) rfl ?_); refine box_event ?hg (N := 1) ?hd (cs := #[.int .i64 a0_0, .int .i64 a0_1]) (t := 25) ?hr ?_; (case hd => rfl); (case hg => rfl); (case hr => first | (go_simp; done) | (go_simp; rfl)); intro gb110 hg w7 hbox hb; have n0_ := Aside0.mk (below_step (by repeat (first | (with_reducible first | exact HB.out | apply below_alloc | apply pw_below_drewN | apply below_drew1) | exact HB.out)) hb); have n1_ := Aside0.mk (hbox); have n2_ := Aside0.mk ((by rw [hg]; exact (below_size (by repeat (first | (with_reducible first | exact HB.out | apply below_alloc | apply pw_below_drewN | apply below_drew1) | exact HB.out))) : w.heap.size ≤ gb110)); have n3_ := Aside0.mk ((by rw [hg]; exact (below_size (by repeat (first | (with_reducible first | exact HB.out | apply below_alloc | apply pw_below_drewN | apply below_drew1) | exact HB.out))) : w.heap.size ≤ gb110)); clear HB; have HB := n0_; have BK110 := n1_; have GW110 := n2_; have GE110 := n3_; clear n0_ n1_ n2_ n3_; clear hb hbox hg; have hcz8_0 : w7.cell? ⟨gb110, 0, none⟩ = some (.int .i64 a0_0) := (blk_cell BK110.out 0).trans rfl; have hcz8_1 : w7.cell? ⟨gb110, 1, none⟩ = some (.int .i64 a0_1) := (blk_cell BK110.out 1).trans rfl; have hfz8_0 := blk_frozen BK110.out 0; have hfz8_1 := blk_frozen BK110.out 1) | ((with_reducible refine gate_callee (f := 54) rfl ?_); refine goesL_ (some 5) rfl rfl Tryd.func54 (by kernel_rfl) rfl #[.int .i64 a0_0, .int .i64 0, .int .i64 999] rfl (by (try simp only [List.map_toArray, List.map_cons, List.map_nil]); first | done | rfl | (simp only [List.length_drop, List.length_take]; rfl)) ?_; (with_reducible refine (spec_l6In.calls a0_0 0 999 true _ A2.out).mono ?_); rintro e w' ⟨rfl, ⟨nd, rfl⟩⟩; refine ⟨_, rfl, ?_⟩) | (go_at_call 54; (with_reducible refine (spec_l6In.calls a0_1 1 60 true _ A4.out).mono ?_); rintro e w' ⟨rfl, ⟨nd, rfl⟩⟩) | (go_at_call 55; (with_reducible refine (spec_l31Gcd.calls k a0_0 a0_1 t113 _ A6.out).mono ?_); rintro e w' ⟨rfl, ⟨nd, rfl⟩⟩))
      go_ret
      exact ⟨by first | rfl | (simp [errW_none, errW_some] <;> rfl) | (simp [*, errW_none, errW_some] <;> rfl), by repeat (first | (with_reducible first | exact HB.out | apply below_alloc | apply pw_below_drewN | apply below_drew1 | refine below_set ?_ GE110.out) | exact HB.out)⟩
    · replace c5 := Bool.eq_false_iff.mpr c5
      subst c5
      have H1 : (some false) = some r := by rw [if_neg (show ¬ (false = true) by decide)] at H; exact H
      clear H
      have H := H1
      clear H1
      obtain rfl := Option.some.inj H
      go_enter Tryd.func32, Tryd.ntmps32
      go_wp2_with (first | ((with_reducible refine gate_dst (N := 1) rfl ?_); refine box_event ?hg (N := 1) ?hd (cs := #[.int .i64 a0_0, .int .i64 a0_1]) (t := 25) ?hr ?_; (case hd => rfl); (case hg => rfl); (case hr => first | (go_simp; done) | (go_simp; rfl)); intro gb110 hg w9 hbox hb; have n0_ := Aside0.mk (below_step (by repeat (first | (with_reducible first | exact HB.out | apply below_alloc | apply pw_below_drewN | apply below_drew1) | exact HB.out)) hb); have n1_ := Aside0.mk (hbox); have n2_ := Aside0.mk ((by rw [hg]; exact (below_size (by repeat (first | (with_reducible first | exact HB.out | apply below_alloc | apply pw_below_drewN | apply below_drew1) | exact HB.out))) : w.heap.size ≤ gb110)); have n3_ := Aside0.mk ((by rw [hg]; exact (below_size (by repeat (first | (with_reducible first | exact HB.out | apply below_alloc | apply pw_below_drewN | apply below_drew1) | exact HB.out))) : w.heap.size ≤ gb110)); clear HB; have HB := n0_; have BK110 := n1_; have GW110 := n2_; have GE110 := n3_; clear n0_ n1_ n2_ n3_; clear hb hbox hg; have hcz10_0 : w9.cell? ⟨gb110, 0, none⟩ = some (.int .i64 a0_0) := (blk_cell BK110.out 0).trans rfl; have hcz10_1 : w9.cell? ⟨gb110, 1, none⟩ = some (.int .i64 a0_1) := (blk_cell BK110.out 1).trans rfl; have hfz10_0 := blk_frozen BK110.out 0; have hfz10_1 := blk_frozen BK110.out 1) | ((with_reducible refine gate_callee (f := 54) rfl ?_); refine goesL_ (some 5) rfl rfl Tryd.func54 (by kernel_rfl) rfl #[.int .i64 a0_0, .int .i64 0, .int .i64 999] rfl (by (try simp only [List.map_toArray, List.map_cons, List.map_nil]); first | done | rfl | (simp only [List.length_drop, List.length_take]; rfl)) ?_; (with_reducible refine (spec_l6In.calls a0_0 0 999 true _ A2.out).mono ?_); rintro e w' ⟨rfl, ⟨nd, rfl⟩⟩; refine ⟨_, rfl, ?_⟩) | (go_at_call 54; (with_reducible refine (spec_l6In.calls a0_1 1 60 false _ A4.out).mono ?_); rintro e w' ⟨rfl, ⟨nd, rfl⟩⟩))
      go_ret
      exact ⟨by first | rfl | (simp [errW_none, errW_some] <;> rfl) | (simp [*, errW_none, errW_some] <;> rfl), by repeat (first | (with_reducible first | exact HB.out | apply below_alloc | apply pw_below_drewN | apply below_drew1 | refine below_set ?_ GE110.out) | exact HB.out)⟩
  · replace c3 := Bool.eq_false_iff.mpr c3
    subst c3
    have H1 : (some false) = some r := by rw [if_neg (show ¬ (false = true) by decide)] at H; exact H
    clear H
    have H := H1
    clear H1
    obtain rfl := Option.some.inj H
    go_enter Tryd.func32, Tryd.ntmps32
    go_wp2_with (first | ((with_reducible refine gate_dst (N := 1) rfl ?_); refine box_event ?hg (N := 1) ?hd (cs := #[.int .i64 a0_0, .int .i64 a0_1]) (t := 25) ?hr ?_; (case hd => rfl); (case hg => rfl); (case hr => first | (go_simp; done) | (go_simp; rfl)); intro gb110 hg w11 hbox hb; have n0_ := Aside0.mk (below_step (by repeat (first | (with_reducible first | exact HB.out | apply below_alloc | apply pw_below_drewN | apply below_drew1) | exact HB.out)) hb); have n1_ := Aside0.mk (hbox); have n2_ := Aside0.mk ((by rw [hg]; exact (below_size (by repeat (first | (with_reducible first | exact HB.out | apply below_alloc | apply pw_below_drewN | apply below_drew1) | exact HB.out))) : w.heap.size ≤ gb110)); have n3_ := Aside0.mk ((by rw [hg]; exact (below_size (by repeat (first | (with_reducible first | exact HB.out | apply below_alloc | apply pw_below_drewN | apply below_drew1) | exact HB.out))) : w.heap.size ≤ gb110)); clear HB; have HB := n0_; have BK110 := n1_; have GW110 := n2_; have GE110 := n3_; clear n0_ n1_ n2_ n3_; clear hb hbox hg; have hcz12_0 : w11.cell? ⟨gb110, 0, none⟩ = some (.int .i64 a0_0) := (blk_cell BK110.out 0).trans rfl; have hcz12_1 : w11.cell? ⟨gb110, 1, none⟩ = some (.int .i64 a0_1) := (blk_cell BK110.out 1).trans rfl; have hfz12_0 := blk_frozen BK110.out 0; have hfz12_1 := blk_frozen BK110.out 1) | ((with_reducible refine gate_callee (f := 54) rfl ?_); refine goesL_ (some 5) rfl rfl Tryd.func54 (by kernel_rfl) rfl #[.int .i64 a0_0, .int .i64 0, .int .i64 999] rfl (by (try simp only [List.map_toArray, List.map_cons, List.map_nil]); first | done | rfl | (simp only [List.length_drop, List.length_take]; rfl)) ?_; (with_reducible refine (spec_l6In.calls a0_0 0 999 false _ A2.out).mono ?_); rintro e w' ⟨rfl, ⟨nd, rfl⟩⟩; refine ⟨_, rfl, ?_⟩))
    go_ret
    exact ⟨by first | rfl | (simp [errW_none, errW_some] <;> rfl) | (simp [*, errW_none, errW_some] <;> rfl), by repeat (first | (with_reducible first | exact HB.out | apply below_alloc | apply pw_below_drewN | apply below_drew1 | refine below_set ?_ GE110.out) | exact HB.out)⟩

end Go.Proofs.YthcbichnjgkjiaaDoor.PFnAskStrict
