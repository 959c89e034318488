-- Written by a program of this session over the kit's printer, with contracts proved by hand; Lean checks it.
import Derived.Test.YtncngkfgalokoaaPLedx0
import Derived.Test.YtncngkfgalokoaaPLedx4
-- half its indentation
namespace Go.Proofs.Ytncngkfgalokoaa.PLed
open Go.RowKit Go.Proofs.YtncngkfgalokoaaW.PrintWords Go.Proofs.YtncngkfgalokoaaW.PrintLast Go.Proofs.YtncngkfgalokoaaW.PrintMore
attribute [local go_sem] max2_int min2_int max_two min_two max_three min_three max_four min_four   -- for this text's walks alone
set_option linter.unusedVariables false
set_option linter.unusedSimpArgs false

/-! ### impl_chargesOf: function 46 -/
namespace ChargesGiv
open Go.Shelf
attribute [local go_sem] Oper.semAt_some
/-- A fraction, as its two cells. -/
abbrev Fr := Int × Int
def frv (x : Fr) : Value := .agg #[.int .i64 x.1, .int .i64 x.2]
/-- What has come when k rounds of a row read backward are over. -/
def down (zs : List Fr) (k : Nat) : List (Nat × Fr) := (List.range k).map fun j => (zs.length - 1 - j, zs[zs.length - 1 - j]?.getD (0, 0))
/-- What a round keeps: what lay below n₀, and the box of the row. -/
def KeepB (n₀ Bs : Nat) (A B : World) : Prop := Below n₀ A B ∧ B.heap[Bs]? = A.heap[Bs]?
theorem KeepB.refl (n₀ Bs : Nat) (A : World) : KeepB n₀ Bs A A := ⟨Below.refl _ _, rfl⟩
theorem KeepB.trans {n₀ Bs : Nat} {A B C : World} (h : KeepB n₀ Bs A B) (k : KeepB n₀ Bs B C) : KeepB n₀ Bs A C := ⟨h.1.trans k.1, k.2.trans h.2⟩
theorem cellB {n₀ Bs : Nat} {A B : World} (h : KeepB n₀ Bs A B) : B.cell? ⟨Bs, 0, none⟩ = A.cell? ⟨Bs, 0, none⟩ := by unfold World.cell?; rw [h.2]
theorem down_succ (zs : List Fr) (k : Nat) : down zs (k + 1) = down zs k ++ [(zs.length - 1 - k, zs[zs.length - 1 - k]?.getD (0, 0))] := by simp [down, List.range_succ]
theorem down_length (zs : List Fr) (k : Nat) : (down zs k).length = k := by simp [down]
set_option maxRecDepth 100000 in
set_option maxHeartbeats 2000000 in
theorem back1_in (F : Fence) (n : Nat) (h61 : F.fn 61) (hro : F.round = none) (hn : 1 ≤ n) (l Bs n₀ b off cap : Nat) (zs : List Fr) (hreach : zs.length ≤ 100) (hb : b < n₀) (J Jx : List (Nat × Fr) → World → Prop)
  (hY : ∀ pre x W, J pre W → pre.length < zs.length → YieldAt F (n - 1) Try.prog l #[.int .i64 (x.1 : Int), .agg #[.int .i64 x.2.1, .int .i64 x.2.2]] W fun e W' =>
   (e = .returned (.bool true) ∧ J (pre ++ [x]) W' ∧ KeepB n₀ Bs W W') ∨ (e = .returned (.bool false) ∧ Jx (pre ++ [x]) W'))
  (W : World) (hBs : W.cell? ⟨Bs, 0, none⟩ = some (.slice (some ⟨b, off, none⟩) zs.length cap))
  (hc : ∀ j, j < zs.length → W.cell? ⟨b, off + j * 2, none⟩ = some (.int .i64 (zs[j]?.getD (0, 0)).1) ∧ W.cell? ⟨b, off + j * 2 + 1, none⟩ = some (.int .i64 (zs[j]?.getD (0, 0)).2)) (h0 : J [] W) :
  CallsIn F n Try.prog 61 #[.func (.yield l) #[] #[], .pointer (some ⟨Bs, 0, none⟩)] W fun e W' => (∃ v, e = .returned v) ∧
   (J (down zs zs.length) W' ∨ (∃ k, k ≤ zs.length ∧ Jx (down zs k) W')) := by
 refine callsIn_of_wp Try.func61 rfl h61 ?_ hro
 simp only [Try.ntmps61, List.size_toArray, List.length_cons, List.length_nil, Nat.reduceAdd, Nat.reduceSub, Array.replicate_succ, Array.replicate_zero, List.push_toArray, List.append_toArray, List.nil_append, List.cons_append]
 gi_wp2
 gi_loopw [3] (fun i wr => ∃ k : Nat, k ≤ zs.length ∧ i = .int .i64 ((zs.length : Int) - 1 - k) ∧ J (down zs k) wr ∧ KeepB n₀ Bs W wr)
  (fun i _ => (intOf i + 1).toNat)
 case atStart => exact ⟨0, Nat.zero_le _, by simp, h0, KeepB.refl _ _ _⟩
 case round =>
  obtain ⟨k, hk, rfl, hJs, hnx⟩ := hrel
  have hBs' := (cellB hnx).trans hBs
  by_cases hlt : k < zs.length
  ·obtain ⟨j, hj⟩ : ∃ j, j = zs.length - 1 - k := ⟨_, rfl⟩
   have hjl : j < zs.length := by omega
   have e : (zs.length : Int) - 1 - k = (j : Int) := by omega
   obtain ⟨hc1, hc2⟩ := hc j hjl
   have hc1 := (hnx.1.cell (p := ⟨b, off + j * 2, none⟩) hb).trans hc1
   have hc2 := (hnx.1.cell (p := ⟨b, off + j * 2 + 1, none⟩) hb).trans hc2
   rw [e]
   have HE := down_succ zs k
   rw [← hj] at HE
   clear hc
   generalize zs[j]?.getD (0, 0) = x at *
   have HEE := Go.Lib.hid HE
   have hjk : (j : Int) - 1 = (zs.length : Int) - 1 - ((k + 1 : Nat) : Int) := by omega
   have HJK := Go.Lib.hid hjk
   clear HE hj hjk e
   obtain ⟨fn, tmps, assign, body, hy, hR⟩ := hY _ (j, x) wr hJs (by rw [down_length]; exact hlt)
   dsimp only at hy
   gi_wp2
   refine hR.mono ?_
   rintro e W3 (⟨rfl, hJ3, hk3⟩ | ⟨rfl, hJx3⟩)
   ·gi_wp2
    go_roundw
    case rel => exact ⟨k + 1, by omega, by rw [← HJK.out], by rw [HEE.out]; exact hJ3, hnx.trans hk3⟩
    case measure => simp [intOf]
   ·gi_wp2
    refine bodyPost_ret (results_none rfl _ _ _) rfl ?_
    exact ⟨⟨_, rfl⟩, .inr ⟨k + 1, by omega, by rw [HEE.out]; exact hJx3⟩⟩
  ·obtain rfl : k = zs.length := by omega
   rw [show (zs.length : Int) - 1 - (zs.length : Int) = -1 by omega]
   gi_wp2
   go_end0
   exact ⟨⟨_, rfl⟩, .inl hJs⟩
set_option maxRecDepth 100000 in
set_option maxHeartbeats 1000000 in
theorem back1_nil_in (F : Fence) (n : Nat) (h61 : F.fn 61) (hro : F.round = none) (l Bs : Nat) (J : List (Nat × Fr) → World → Prop) (W : World) (A : Option Addr) (cap : Nat) (hBs : W.cell? ⟨Bs, 0, none⟩ = some (.slice A 0 cap)) (h0 : J [] W) :
  CallsIn F n Try.prog 61 #[.func (.yield l) #[] #[], .pointer (some ⟨Bs, 0, none⟩)] W fun e W' => (∃ v, e = .returned v) ∧ J [] W' := by
 refine callsIn_of_wp Try.func61 rfl h61 ?_ hro
 simp only [Try.ntmps61, List.size_toArray, List.length_cons, List.length_nil, Nat.reduceAdd, Nat.reduceSub, Array.replicate_succ, Array.replicate_zero, List.push_toArray, List.append_toArray, List.nil_append, List.cons_append]
 gi_wp2
 gi_loopw [3] (fun i wr => i = .int .i64 (-1) ∧ J [] wr) (fun _ _ => 0)
 case atStart => exact ⟨rfl, h0⟩
 case round =>
  obtain ⟨rfl, hJs⟩ := hrel
  gi_wp2
  go_end0
  exact ⟨⟨_, rfl⟩, hJs⟩
set_option maxHeartbeats 1000000 in
theorem back_in (F : Fence) (n : Nat) (h58 : F.fn 58) (hro : F.round = none) (a : Option Addr) (len cap : Nat) (w : World) :
  CallsIn F n Try.prog 58 #[.slice a len cap] w fun e w' => e = .returned (.func (.func 61) #[] #[.pointer (some ⟨w.heap.size, 0, none⟩)]) ∧ w' = w.alloc (.cells #[.slice a len cap] 30) := by
 refine callsIn_of_wp Try.func58 rfl h58 ?_ hro
 simp only [Try.ntmps58, List.size_toArray, List.length_cons, List.length_nil, Nat.reduceAdd, Nat.reduceSub, Array.replicate_succ, Array.replicate_zero, List.push_toArray, List.append_toArray, List.nil_append, List.cons_append]
 gi_wp2
 go_ret
 exact ⟨rfl, rfl⟩
/-- The row's value holds the fractions zs, in a block below n₀; or there are none. -/
def Frs (n₀ : Nat) (W : World) (sv : Value) (zs : List Fr) : Prop :=
 ∃ A cap, sv = .slice A zs.length cap ∧ (0 < zs.length → ∃ b off, A = some ⟨b, off, none⟩ ∧ b < n₀ ∧ ∀ j, j < zs.length → W.cell? ⟨b, off + j * 2, none⟩ = some (.int .i64 (zs[j]?.getD (0, 0)).1) ∧ W.cell? ⟨b, off + j * 2 + 1, none⟩ = some (.int .i64 (zs[j]?.getD (0, 0)).2))
abbrev encB (x : Nat × Fr) : Array Value := #[.int .i64 (x.1 : Int), .agg #[.int .i64 x.2.1, .int .i64 x.2.2]]
theorem back_stops (F : Fence) (n : Nat) (h61 : F.fn 61) (hro : F.round = none) (hn : 1 ≤ n) (Bs n₀ : Nat) (sv : Value) (zs : List Fr) (hreach : zs.length ≤ 100) (w : World) (hBs : Bs < w.heap.size) (hn₀ : n₀ ≤ w.heap.size)
  (hc : w.cell? ⟨Bs, 0, none⟩ = some sv) (hI : Frs n₀ w sv zs) :
  SeqStopsK F n Try.prog 61 #[.pointer (some ⟨Bs, 0, none⟩)] encB (KeepB n₀ Bs) (fun ys => ys = down zs zs.length) (fun _ => True) zs.length w := fun l J Jx W hW _ _ hY h0 => by
 have hc' := (hW.cell (p := ⟨Bs, 0, none⟩) hBs).trans hc
 obtain ⟨A, cap, rfl, hA⟩ := hI
 by_cases hz : 0 < zs.length
 ·obtain ⟨b, off, rfl, hb, hcs⟩ := hA hz
  have hcs' : ∀ j, j < zs.length → W.cell? ⟨b, off + j * 2, none⟩ = some (.int .i64 (zs[j]?.getD (0, 0)).1) ∧ W.cell? ⟨b, off + j * 2 + 1, none⟩ = some (.int .i64 (zs[j]?.getD (0, 0)).2) := fun j hj =>
   ⟨(hW.cell (p := ⟨b, off + j * 2, none⟩) (by show b < _; omega)).trans (hcs j hj).1, (hW.cell (p := ⟨b, off + j * 2 + 1, none⟩) (by show b < _; omega)).trans (hcs j hj).2⟩
  refine (back1_in F n h61 hro hn l Bs n₀ b off cap zs hreach hb J Jx hY W hc' hcs' h0).mono ?_
  rintro e W' ⟨he, hj | ⟨k, hk, hj⟩⟩
  ·exact ⟨he, .inl ⟨_, rfl, hj⟩⟩
  ·exact ⟨he, .inr ⟨_, trivial, hj⟩⟩
 ·have hz : zs = [] := List.eq_nil_of_length_eq_zero (by omega)
  subst hz
  exact (back1_nil_in F n h61 hro l Bs J W A cap hc' h0).mono fun e W' ⟨he, hj⟩ => ⟨he, .inl ⟨_, rfl, hj⟩⟩
/-- A list of charges from p on, in blocks from N on. -/
def Chain (W : World) (N : Nat) : Option Addr → List Fr → Prop
 | p, [] => p = none
 | p, z :: zs => ∃ b q, p = some ⟨b, 0, none⟩ ∧ N ≤ b ∧ W.heap[b]? = some (.cells #[.int .i64 z.1, .int .i64 z.2, .pointer q] 66 (0, 0)) ∧ Chain W N q zs
theorem Chain.step {A B : World} {N : Nat} (h : ∀ b cs, N ≤ b → A.heap[b]? = some (.cells cs 66 (0, 0)) → B.heap[b]? = A.heap[b]?) : ∀ {p : Option Addr} {zs : List Fr}, Chain A N p zs → Chain B N p zs
 | _, [], e => e
 | _, _ :: _, ⟨b, q, e, hN, hb, hc⟩ => ⟨b, q, e, hN, (h b _ hN hb).trans hb, hc.step h⟩
theorem blk_own {W W' : World} {row : Option Nat} {b : Nat} {cs : Array Value} {t : TypeId} (h : W.heap[b]? = some (.cells cs t (0, 0))) (hg : W.grownBy W' row) (hr : ∀ r, row = some r → ∃ o : Obj, W.heap[r]? = some o ∧ o.isCells = false) : W'.heap[b]? = W.heap[b]? := by
 refine hg.block b (Array.getElem?_eq_some_iff.1 h).1 (fun e => ?_)
 obtain ⟨o, ho, hc⟩ := hr b e.symm
 rw [h] at ho
 cases ho
 cases hc
theorem down_rev (zs : List Fr) : ((down zs zs.length).map (·.2)).reverse = zs := by
 apply List.ext_getElem
 ·simp [down]
 ·intro i h1 h2
  simp [down, List.getElem_reverse]
  rw [show zs.length - 1 - (zs.length - 1 - i) = i by omega]
  simp [h2]
set_option maxRecDepth 100000 in
set_option maxHeartbeats 4000000 in
theorem charges_in (F : Fence) (n : Nat) (h46 : F.fn 46) (h58 : F.fn 58) (h61 : F.fn 61) (hro : F.round = none) (hn : 6 ≤ n) (A : Option Addr) (cap : Nat) (zs : List Fr) (hz : zs.length ≤ 100) (w : World) (hI : Frs w.heap.size w (.slice A zs.length cap) zs) :
  CallsIn F n Try.prog 46 #[.slice A zs.length cap] w fun e W' => ∃ p, e = .returned (.pointer p) ∧ Chain W' w.heap.size p zs ∧ Below w.heap.size w W' := by
 have h1 : 1 ≤ n := by omega
 refine callsIn_of_wp_marks Try.func46 rfl h46 ?_ hro
 simp only [Try.ntmps46, List.size_toArray, List.length_cons, List.length_nil, Nat.reduceAdd, Nat.reduceSub, Array.replicate_succ, Array.replicate_zero, List.push_toArray, List.append_toArray, List.nil_append, List.cons_append]
 gi_wp2_with (gi_at_call 58; refine (back_in F (n - 1) h58 hro _ _ _ _).mono ?_; rintro e w' ⟨rfl, rfl⟩)
 have hB0 : Below w.heap.size w ((w.alloc (.cells #[.pointer none] 63)).alloc (.cells #[.slice A zs.length cap] 30)) := ((Below.refl _ w).alloc (Nat.le_refl _) _).alloc (by simp) _
 have hsz : ((w.alloc (.cells #[.pointer none] 63)).alloc (.cells #[.slice A zs.length cap] 30)).heap.size = w.heap.size + 2 := by simp
 have bF : ((w.alloc (.cells #[.pointer none] 63)).alloc (.cells #[.slice A zs.length cap] 30)).heap[w.heap.size]? = some (.cells #[.pointer none] 63 (0, 0)) := by
  rw [Below.heap_alloc _ _ _ (by simp)]
  show (w.heap.push _)[w.heap.size]? = _
  rw [Array.getElem?_push, if_pos rfl]
 have bS : ((w.alloc (.cells #[.pointer none] 63)).alloc (.cells #[.slice A zs.length cap] 30)).heap[w.heap.size + 1]? = some (.cells #[.slice A zs.length cap] 30 (0, 0)) := by
  show ((w.alloc (.cells #[.pointer none] 63)).heap.push _)[w.heap.size + 1]? = _
  rw [Array.getElem?_push, if_pos (by simp)]
 obtain ⟨W0, hW0⟩ : ∃ W0, (w.alloc (.cells #[.pointer none] 63)).alloc (.cells #[.slice A zs.length cap] 30) = W0 := ⟨_, rfl⟩
 rw [hW0] at hB0 hsz bF bS ⊢
 clear hW0
 have hI0 : Frs w.heap.size W0 (.slice A zs.length cap) zs := by
  obtain ⟨A', c', e, h⟩ := hI
  refine ⟨A', c', e, fun hp => ?_⟩
  obtain ⟨b, off, e2, hb, hc⟩ := h hp
  exact ⟨b, off, e2, hb, fun j hj => ⟨(hB0.cell (p := ⟨b, off + j * 2, none⟩) hb).trans (hc j hj).1, (hB0.cell (p := ⟨b, off + j * 2 + 1, none⟩) hb).trans (hc j hj).2⟩⟩
 have cS : W0.cell? ⟨w.heap.size + 1, 0, none⟩ = some (.slice A zs.length cap) := by simp [World.cell?, bS]
 refine wpIn_rangeFunc_ownH hro h1 (gf := 61) (lb := #[.pointer (some ⟨w.heap.size + 1, 0, none⟩)]) rfl h61 (enters_of Try.func61 (by kernel_rfl) rfl)
  (back_stops F (n - 1) h61 hro (by omega) (w.heap.size + 1) w.heap.size _ zs hz W0 (by omega) (by omega) cS hI0) KeepB.trans (fun W l o o' hl _ _ _ => ⟨⟨rfl, rfl, rfl, by simp, fun k hk => World.putObj_heap_other (by omega)⟩, World.putObj_heap_other (by omega)⟩) (Below.refl _ _) (fun _ => rfl)
  (fun pre W => (∃ p, W.heap[w.heap.size]? = some (.cells #[.pointer p] 63 (0, 0)) ∧ Chain W w.heap.size p (pre.map (·.2)).reverse) ∧ KeepB w.heap.size (w.heap.size + 1) W0 W)
  (fun _ _ _ => False)
  (fun s X Y row hs hg hr => by
   obtain ⟨⟨p, h1, h2⟩, h3⟩ := hs
   have hr' := fun r e => (hr r e).2
   have hblk : ∀ k, k < W0.heap.size → k < X.heap.size → Y.heap[k]? = X.heap[k]? := fun k hk hk2 => hg.block k hk2 (fun e => by have := (hr k e.symm).1; omega)
   have hs3 := h3.1.size
   refine ⟨⟨p, (hblk _ (by omega) (by omega)).trans h1, h2.step (fun b cs _ hb => blk_own hb hg hr')⟩, h3.trans ⟨⟨hg.os, hg.tape, hg.output, hg.size, fun k hk => hblk k (by omega) (by omega)⟩, hblk _ (by omega) (by omega)⟩⟩)
  (fun _ _ _ _ _ hs _ _ => hs)
  ⟨⟨none, bF, rfl⟩, KeepB.refl _ _ _⟩
  (fun x a' W => ∃ Bx, W0.heap.size ≤ Bx ∧ W.heap[Bx]? = some (.cells #[.int .i64 x.2.1, .int .i64 x.2.2] 29 (0, 0)) ∧ a' = { tmps := #[.slice A zs.length cap, undef, .pointer none, .pointer (some ⟨w.heap.size, 0, none⟩), undef, .pointer (some ⟨Bx, 0, none⟩), .slice A zs.length cap, .func (.func 61) #[] #[.pointer (some ⟨w.heap.size + 1, 0, none⟩)], .int .i64 (x.1 : Int), .agg #[.int .i64 x.2.1, .int .i64 x.2.2], undef, undef, undef, undef, undef], defers := [] })
  (fun x a' _ X Y row hs hg hr => by obtain ⟨Bx, h1, h2, h3⟩ := hs; exact ⟨Bx, h1, (blk_own h2 hg (fun r e => (hr r e).2)).trans h2, h3⟩)
  ?assign ?body ?done ?stop
 case assign =>
  rintro l pre x W K ⟨⟨p, h1, h2⟩, h3⟩ hK
  have hs3 := h3.1.size
  have hlt : ∀ k o, W.heap[k]? = some o → k < W.heap.size := fun k o h => (Array.getElem?_eq_some_iff.1 h).1
  have hk : KeepB w.heap.size (w.heap.size + 1) W (W.alloc (.cells #[.int .i64 x.2.1, .int .i64 x.2.2] 29)) := ⟨(Below.refl _ W).alloc (by omega) _, Below.heap_alloc _ _ _ (by omega)⟩
  gi_wp2
  refine hK _ _ ((KeepsOthers.alloc _ _).from _) hk ⟨⟨p, (Below.heap_alloc _ _ _ (hlt _ _ h1)).trans h1, h2.step (fun b cs _ hb => Below.heap_alloc _ _ _ (hlt _ _ hb))⟩, h3.trans hk⟩ ⟨W.heap.size, hs3, ?_, rfl⟩
  show (W.heap.push _)[W.heap.size]? = _
  rw [Array.getElem?_push, if_pos rfl]
 case body =>
  rintro l pre x a' W hl ⟨r, hr⟩ ⟨⟨p, h1, h2⟩, h3⟩ ⟨Bx, hBx, bX, rfl⟩ hlt
  have cX0 : W.cell? ⟨Bx, 0, none⟩ = some (.int .i64 x.2.1) := by simp [World.cell?, bX]
  have cX1 : W.cell? ⟨Bx, 1, none⟩ = some (.int .i64 x.2.2) := by simp [World.cell?, bX]
  have cF : W.cell? ⟨w.heap.size, 0, none⟩ = some (.pointer p) := by simp [World.cell?, h1]
  have fF : W.frozen? ⟨w.heap.size, 0, none⟩ = false := by simp [World.frozen?, h1]
  have hWs : w.heap.size < W.heap.size := (Array.getElem?_eq_some_iff.1 h1).1
  have hs3 := h3.1.size
  have hsz1 : ∀ v, (W.setCell ⟨w.heap.size, 0, none⟩ v).heap.size = W.heap.size := fun v => by simp [World.setCell]
  have hlt : ∀ k o, W.heap[k]? = some o → k < W.heap.size := fun k o h => (Array.getElem?_eq_some_iff.1 h).1
  have hold : ∀ v o k, k ≠ w.heap.size → k < W.heap.size → ((W.setCell ⟨w.heap.size, 0, none⟩ v).alloc o).heap[k]? = W.heap[k]? := fun v o k hk hk2 => by
   rw [Below.heap_alloc _ _ _ (by rw [hsz1]; exact hk2), Below.heap_setCell _ _ _ _ hk]
  have hnew : ∀ v o, ((W.setCell ⟨w.heap.size, 0, none⟩ v).alloc o).heap[W.heap.size]? = some o := fun v o => by
   rw [← hsz1 v]
   show (Array.push _ _)[_]? = _
   rw [Array.getElem?_push, if_pos rfl]
  have hbx : ∀ v o, ((W.setCell ⟨w.heap.size, 0, none⟩ v).alloc o).heap[w.heap.size]? = some (.cells #[v] 63 (0, 0)) := fun v o => by
   rw [Below.heap_alloc _ _ _ (by rw [hsz1]; exact hWs)]
   show (W.heap.modify w.heap.size _)[w.heap.size]? = _
   rw [Array.getElem?_modify, if_pos rfl, h1]
   rfl
  have hkk : ∀ v o, KeepB w.heap.size (w.heap.size + 1) W ((W.setCell ⟨w.heap.size, 0, none⟩ v).alloc o) := fun v o =>
   ⟨((Below.refl w.heap.size W).setCell (p := ⟨w.heap.size, 0, none⟩) (Nat.le_refl _) _).alloc (by rw [hsz1]; show w.heap.size ≤ W.heap.size; omega) _, hold v o _ (by omega) (by omega)⟩
  gi_wp2
  refine ⟨((KeepsOthers.setCell _ _ _).trans (KeepsOthers.alloc _ _)).from _, hkk _ _, ⟨_, hbx _ _, ?_⟩, h3.trans (hkk _ _)⟩
  rw [List.map_append, List.reverse_append]
  refine ⟨W.heap.size, p, rfl, by omega, hnew _ _, h2.step (fun b cs hN hb => hold _ _ _ (fun e => ?_) (hlt _ _ hb))⟩
  rw [e, h1] at hb
  cases hb
 case done =>
  rintro D ys W hD rfl ⟨⟨p, h1, h2⟩, h3⟩ hK
  have hK' := hK
  have cF : W.cell? ⟨w.heap.size, 0, none⟩ = some (.pointer p) := by simp [World.cell?, h1]
  gi_wp2
  refine ⟨by simp, .inl ⟨_, _, rfl, run_takeDeferred hK, ?_⟩⟩
  refine ⟨_, results_tmp rfl _ _ _, p, rfl, ?_, ?_⟩
  ·have e : ((down zs zs.length).map (·.2)).reverse = zs := down_rev zs
   rw [e] at h2
   refine h2.step (fun b cs hN hb => World.putObj_heap_other (fun e => ?_))
   rw [e, hK'] at hb
   cases hb
  ·exact (hB0.trans h3.1).trans ⟨rfl, rfl, rfl, by simp, fun k hk => World.putObj_heap_other (by omega)⟩
 case stop =>
  rintro D c pre W hD _ h _
  exact h.elim
def prs (l : List S29) : List Fr := l.map fun z => (z.f0, z.f1)
theorem prs_length (l : List S29) : (prs l).length = l.length := by simp [prs]
theorem frs_of {w : World} {A : Option Addr} {l : List S29} (h : Kd.C k29 w A l.length l) (cap : Nat) : Frs w.heap.size w (.slice A (prs l).length cap) (prs l) := by
 refine ⟨A, cap, rfl, fun hp => ?_⟩
 rw [prs_length] at hp
 obtain ⟨ad, rfl, hc⟩ := h.2.2 hp
 have key : ∀ j, j < l.length → w.cell? (ad.add (j * 2)) = some (.int .i64 ((prs l)[j]?.getD (0, 0)).1) ∧ w.cell? (ad.add (j * 2 + 1)) = some (.int .i64 ((prs l)[j]?.getD (0, 0)).2) := by
  intro j hj
  obtain ⟨c, hl, hK, hcc⟩ := hc j l[j] (List.getElem?_eq_getElem hj)
  obtain rfl := k29_open hK
  have e : (prs l)[j]?.getD (0, 0) = (l[j].f0, l[j].f1) := by simp [prs, hj]
  rw [e]
  exact ⟨hcc 0 _ rfl, hcc 1 _ rfl⟩
 obtain ⟨b, off, sp⟩ := ad
 have h0 := (key 0 hp).1
 have e0 : (⟨b, off, sp⟩ : Addr).add (0 * 2) = ⟨b, off, sp⟩ := by simp [Addr.add]
 rw [e0] at h0
 obtain rfl : sp = none := by
  cases sp with
  | none => rfl
  | some x =>
   unfold World.cell? at h0
   split at h0
   ·simp at h0
   ·cases h0
 refine ⟨b, off, rfl, World.block_lt_of_cell? w _ h0, fun j hj => ?_⟩
 rw [prs_length] at hj
 have ea : ∀ n, (⟨b, off, none⟩ : Addr).add n = ⟨b, off + n, none⟩ := fun n => by
  unfold Addr.add; split <;> simp_all
 have := key j hj
 rw [ea, ea] at this
 exact this
theorem chargesOf_calls (A : Option Addr) (cap : Nat) (l : List S29) (w : World) (h : Kd.C k29 w A l.length l) (hz : l.length ≤ 100) :
  Calls Try.prog 46 #[.slice A l.length cap] w fun e W' => ∃ p, e = .returned (.pointer p) ∧ Chain W' w.heap.size p (prs l) ∧ Below w.heap.size w W' := by
 have := callsIn_wide.1 (charges_in Fence.wide 6 trivial trivial trivial rfl (by omega) A cap (prs l) (by rw [prs_length]; exact hz) w (frs_of h cap))
 rw [prs_length] at this
 exact this
end ChargesGiv

/-! ### impl_LedgerSum: function 20 -/
-- The numbers of functions and types are those of the seat of the ledgers.
def addAll (k : Nat) : Int → Int → List (Int × Int) → Option (Option (Int × Int))
 | n, d, [] => some (some (n, d))
 | n, d, z :: zs => (impl_FracSum.f k n d z.1 z.2).bind fun r => if r.2.2 = true then addAll k r.1 r.2.1 zs else some none
def addEnd (k : Nat) (a0 a1 : Int) : Option (Int × Int) → Option (Int × Int × Bool)
 | none => some (0, 0, false)
 | some s => (impl_FracCmp.f k s.1 s.2 a0 a1).bind fun c => if c > 0 then some (0, 0, false) else some (s.1, s.2, true)
def impl_LedgerSum.f (k : Nat) (a0_0 a0_1 : Int) (l0_2 : List S29) : Option (Int × Int × Bool) := (impl_FracOk.f k a0_0 a0_1).bind fun t => if t = true then (if l0_2.length ≤ 8 then (addAll k 0 1 (ChargesGiv.prs l0_2)).bind (addEnd k a0_0 a0_1) else some (0, 0, false)) else some (0, 0, false)
theorem addAll_mono (k : Nat) (l : List (Int × Int)) : ∀ n d, LeO (addAll k n d l) (addAll (k + 1) n d l) := by
 induction l with
 | nil => exact fun n d => LeO.refl _
 | cons z zs ih =>
  intro n d
  simp only [addAll]
  exact LeO.bind (impl_FracSum.mono _ _ _ _ _) (fun r => LeO.ite (ih _ _) (LeO.refl _))
theorem addEnd_mono (k : Nat) (a0 a1 : Int) (s : Option (Int × Int)) : LeO (addEnd k a0 a1 s) (addEnd (k + 1) a0 a1 s) := by
 cases s with
 | none => exact LeO.refl _
 | some s =>
  simp only [addEnd]
  exact LeO.bind (impl_FracCmp.mono _ _ _ _ _) (fun _ => LeO.refl _)
theorem impl_LedgerSum.mono : ∀ a0 a1 a2 k, LeO (impl_LedgerSum.f k a0 a1 a2) (impl_LedgerSum.f (k + 1) a0 a1 a2) := by
 intro a0 a1 a2 k
 unfold impl_LedgerSum.f
 exact LeO.bind (impl_FracOk.mono _ _ _) (fun t => LeO.ite (LeO.ite (LeO.bind (addAll_mono k _ _ _) (fun s => addEnd_mono k a0 a1 s)) (LeO.refl _)) (LeO.refl _))
theorem l_cell {w : World} {b : Nat} {cs : Array Value} {T : TypeId} {fr : Nat × Nat} (hb : w.heap[b]? = some (.cells cs T fr)) (j : Nat) : w.cell? ⟨b, j, none⟩ = cs[j]? := by simp [World.cell?, hb]
theorem l_frozen {w : World} {b : Nat} {cs : Array Value} {T : TypeId} (hb : w.heap[b]? = some (.cells cs T (0, 0))) (j : Nat) : w.frozen? ⟨b, j, none⟩ = false := by simp [World.frozen?, hb]
theorem l_lt {w : World} {g : Nat} {o : Obj} (hg : w.heap[g]? = some o) : g < w.heap.size := (Array.getElem?_eq_some_iff.1 hg).1
theorem l_two (w : World) (A B : Obj) : ((w.alloc A).alloc B).heap[w.heap.size]? = some A ∧ ((w.alloc A).alloc B).heap[w.heap.size + 1]? = some B := by
 constructor
 ·rw [Below.heap_alloc _ _ _ (by simp)]
  show (w.heap.push _)[w.heap.size]? = _
  rw [Array.getElem?_push, if_pos rfl]
 ·show ((w.alloc A).heap.push _)[w.heap.size + 1]? = _
  rw [Array.getElem?_push, if_pos (by simp)]
theorem l_new (w : World) (A : Obj) : (w.alloc A).heap[w.heap.size]? = some A := by
 show (w.heap.push _)[w.heap.size]? = _
 rw [Array.getElem?_push, if_pos rfl]
/-- The two boxes with which the function begins: the ledger, the result. -/
structure LBox (w : World) (a0 a1 : Int) (sl : Value) (W : World) : Prop where
 b0 : W.heap[w.heap.size]? = some (.cells #[.int .i64 a0, .int .i64 a1, sl] 32 (0, 0))
 b1 : W.heap[w.heap.size + 1]? = some (.cells #[.int .i64 0, .int .i64 0] 29 (0, 0))
 bel : Below w.heap.size w W
theorem LBox.start (w : World) (a0 a1 : Int) (sl : Value) : LBox w a0 a1 sl ((w.alloc (.cells #[.int .i64 a0, .int .i64 a1, sl] 32)).alloc (.cells #[.int .i64 0, .int .i64 0] 29)) :=
 ⟨(l_two w _ _).1, (l_two w _ _).2, ((Below.refl _ w).alloc (Nat.le_refl _) _).alloc (by simp) _⟩
theorem LBox.step {w W W' : World} {a0 a1 : Int} {sl : Value} (h : LBox w a0 a1 sl W) (hb : Below W.heap.size W W') : LBox w a0 a1 sl W' :=
 ⟨(hb.block _ (l_lt h.b0)).trans h.b0, (hb.block _ (l_lt h.b1)).trans h.b1, h.bel.trans (hb.mono h.bel.size)⟩
theorem LBox.cells {w W : World} {a0 a1 : Int} {sl : Value} (h : LBox w a0 a1 sl W) :
  W.cell? ⟨w.heap.size, 0, none⟩ = some (.int .i64 a0) ∧ W.cell? ⟨w.heap.size, 1, none⟩ = some (.int .i64 a1) ∧ W.cell? ⟨w.heap.size, 2, none⟩ = some sl ∧
  W.cell? ⟨w.heap.size + 1, 0, none⟩ = some (.int .i64 0) ∧ W.cell? ⟨w.heap.size + 1, 1, none⟩ = some (.int .i64 0) ∧ W.frozen? ⟨w.heap.size + 1, 0, none⟩ = false ∧ W.frozen? ⟨w.heap.size + 1, 1, none⟩ = false :=
 ⟨l_cell h.b0 0, l_cell h.b0 1, l_cell h.b0 2, l_cell h.b1 0, l_cell h.b1 1, l_frozen h.b1 0, l_frozen h.b1 1⟩
theorem l_put {W : World} {b : Nat} {T : TypeId} {x y : Value} (h : W.heap[b]? = some (.cells #[x, y] T (0, 0))) (u v : Value) : ((W.setCell ⟨b, 0, none⟩ u).setCell ⟨b, 1, none⟩ v).heap[b]? = some (.cells #[u, v] T (0, 0)) := by
 refine blk_put (cs := #[u, y]) ?_ 1 _ rfl
 exact blk_put (cs := #[x, y]) h 0 _ rfl
theorem l_below {W W' : World} {m b : Nat} (h : Below m W W') (hb : m ≤ b) (u v : Value) : Below m W ((W'.setCell ⟨b, 0, none⟩ u).setCell ⟨b, 1, none⟩ v) := (h.setCell (p := ⟨b, 0, none⟩) hb u).setCell (p := ⟨b, 1, none⟩) hb v
theorem ls_no (k : Nat) (a0_0 : Int) (a0_1 : Int) (A0_2 : Option Addr) (c0_2 : Nat) (n : Nat) (w : World) (h : impl_FracOk.f k a0_0 a0_1 = some false) :
  Calls Try.prog 20 #[.agg #[.int .i64 a0_0, .int .i64 a0_1, .slice A0_2 n c0_2]] w fun e w' => e = .returned (.tuple #[.agg #[.int .i64 0, .int .i64 0], .bool false]) ∧ Below w.heap.size w w' := by
 have HF := Go.Lib.hid h
 clear h
 go_enter Try.func20, Try.ntmps20
 go_wp2_with (go_at_call 45; refine (impl_FracOk.calls k a0_0 a0_1 false _ HF.out).mono ?_; rintro e w' ⟨rfl, hb⟩; have hL := (LBox.start w a0_0 a0_1 _).step hb; obtain ⟨c0, c1, c2, c3, c4, f3, f4⟩ := hL.cells)
 refine bodyPost_ret (results_ct rfl _ _ (w.heap.size + 1) 29 #[.int .i64 0, .int .i64 0] (0, 0) _ rfl (l_put hL.b1 _ _) Try.underlying29 rfl (by kernel_rfl)) rfl ?_
 exact ⟨rfl, l_below hL.bel (by omega) _ _⟩
theorem ls_big (k : Nat) (a0_0 : Int) (a0_1 : Int) (A0_2 : Option Addr) (c0_2 : Nat) (n : Nat) (w : World) (h : impl_FracOk.f k a0_0 a0_1 = some true) (hn : ¬ n ≤ 8) :
  Calls Try.prog 20 #[.agg #[.int .i64 a0_0, .int .i64 a0_1, .slice A0_2 n c0_2]] w fun e w' => e = .returned (.tuple #[.agg #[.int .i64 0, .int .i64 0], .bool false]) ∧ Below w.heap.size w w' := by
 have HF := Go.Lib.hid h
 have hn2 : (8 : Int) < (n : Int) := by omega
 clear h hn
 go_enter Try.func20, Try.ntmps20
 go_wp2_with (go_at_call 45; refine (impl_FracOk.calls k a0_0 a0_1 true _ HF.out).mono ?_; rintro e w' ⟨rfl, hb⟩; have hL := (LBox.start w a0_0 a0_1 _).step hb; obtain ⟨c0, c1, c2, c3, c4, f3, f4⟩ := hL.cells)
 refine bodyPost_ret (results_ct rfl _ _ (w.heap.size + 1) 29 #[.int .i64 0, .int .i64 0] (0, 0) _ rfl (l_put hL.b1 _ _) Try.underlying29 rfl (by kernel_rfl)) rfl ?_
 exact ⟨rfl, l_below hL.bel (by omega) _ _⟩
/-- The sum lies in a box of its own. -/
structure LSt (w : World) (a0 a1 : Int) (sl : Value) (S : Nat) (n d : Int) (W : World) : Prop where
 box : LBox w a0 a1 sl W
 bS : W.heap[S]? = some (.cells #[.int .i64 n, .int .i64 d] 29 (0, 0))
 lt : w.heap.size + 1 < S
theorem LSt.step {w W W' : World} {a0 a1 : Int} {sl : Value} {S : Nat} {n d : Int} (h : LSt w a0 a1 sl S n d W) (hb : Below W.heap.size W W') : LSt w a0 a1 sl S n d W' :=
 ⟨h.box.step hb, (hb.block _ (l_lt h.bS)).trans h.bS, h.lt⟩
theorem LSt.put {w W : World} {a0 a1 : Int} {sl : Value} {S : Nat} {n d : Int} (h : LSt w a0 a1 sl S n d W) (n' d' : Int) : LSt w a0 a1 sl S n' d' ((W.setCell ⟨S, 0, none⟩ (.int .i64 n')).setCell ⟨S, 1, none⟩ (.int .i64 d')) :=
 ⟨⟨by rw [Below.heap_setCell _ _ _ _ (by have := h.lt; show w.heap.size ≠ S; omega), Below.heap_setCell _ _ _ _ (by have := h.lt; show w.heap.size ≠ S; omega)]; exact h.box.b0,
  by rw [Below.heap_setCell _ _ _ _ (by have := h.lt; show w.heap.size + 1 ≠ S; omega), Below.heap_setCell _ _ _ _ (by have := h.lt; show w.heap.size + 1 ≠ S; omega)]; exact h.box.b1,
  l_below h.box.bel (by have := h.lt; omega) _ _⟩, l_put h.bS _ _, h.lt⟩
theorem LSt.cells {w W : World} {a0 a1 : Int} {sl : Value} {S : Nat} {n d : Int} (h : LSt w a0 a1 sl S n d W) :
  W.cell? ⟨S, 0, none⟩ = some (.int .i64 n) ∧ W.cell? ⟨S, 1, none⟩ = some (.int .i64 d) ∧ W.frozen? ⟨S, 0, none⟩ = false ∧ W.frozen? ⟨S, 1, none⟩ = false := ⟨l_cell h.bS 0, l_cell h.bS 1, l_frozen h.bS 0, l_frozen h.bS 1⟩
theorem Chain_below {W W' : World} {N m : Nat} {p : Option Addr} {zs : List (Int × Int)} (h : ChargesGiv.Chain W N p zs) (hb : Below m W W') (hm : W.heap.size ≤ m) : ChargesGiv.Chain W' N p zs :=
 h.step fun b cs _ hbk => hb.block _ (Nat.lt_of_lt_of_le (l_lt hbk) hm)
theorem Chain_put {W : World} {N S : Nat} {p : Option Addr} {zs : List (Int × Int)} (h : ChargesGiv.Chain W N p zs) (hS : S < N) (u v : Value) : ChargesGiv.Chain ((W.setCell ⟨S, 0, none⟩ u).setCell ⟨S, 1, none⟩ v) N p zs :=
 h.step fun b cs hN hbk => by
  rw [Below.heap_setCell _ _ _ _ (by show b ≠ S; omega), Below.heap_setCell _ _ _ _ (by show b ≠ S; omega)]
/-- Behind a round's sum: the box of the next sum lies at nx; the charge's node at b; what follows it from q on. -/
structure NSt (w : World) (a0 a1 : Int) (sl : Value) (S : Nat) (n d : Int) (N b nx : Nat) (z : Int × Int) (q : Option Addr) (zs : List (Int × Int)) (x y : Int) (W : World) : Prop where
 st : LSt w a0 a1 sl S n d W
 nd : W.heap[b]? = some (.cells #[.int .i64 z.1, .int .i64 z.2, .pointer q] 66 (0, 0))
 nb : W.heap[nx]? = some (.cells #[.int .i64 x, .int .i64 y] 29 (0, 0))
 ch : ChargesGiv.Chain W N q zs
theorem NSt.a {w W w4 : World} {a0 a1 : Int} {sl : Value} {S : Nat} {n d : Int} {N b : Nat} {z : Int × Int} {q : Option Addr} {zs : List (Int × Int)} (h : LSt w a0 a1 sl S n d W) (hb : W.heap[b]? = some (.cells #[.int .i64 z.1, .int .i64 z.2, .pointer q] 66 (0, 0))) (hc : ChargesGiv.Chain W N q zs) (hw : Below W.heap.size W w4) (x y : Int) :
  NSt w a0 a1 sl S n d N b w4.heap.size z q zs x y (w4.alloc (.cells #[.int .i64 x, .int .i64 y] 29)) :=
 have hw2 : Below W.heap.size W (w4.alloc (.cells #[.int .i64 x, .int .i64 y] 29)) := hw.alloc hw.size _
 ⟨h.step hw2, (hw2.block _ (l_lt hb)).trans hb, l_new w4 _, Chain_below hc hw2 (Nat.le_refl _)⟩
theorem NSt.b {w W w4 : World} {a0 a1 : Int} {sl : Value} {S : Nat} {n d : Int} {N b : Nat} {z : Int × Int} {q : Option Addr} {zs : List (Int × Int)} (h : LSt w a0 a1 sl S n d W) (hb : W.heap[b]? = some (.cells #[.int .i64 z.1, .int .i64 z.2, .pointer q] 66 (0, 0))) (hc : ChargesGiv.Chain W N q zs) (hw : Below W.heap.size W w4) (hq : w4.heap[W.heap.size]? = some (.cells #[.int .i64 0, .int .i64 0] 29 (0, 0))) (x y : Int) :
  NSt w a0 a1 sl S n d N b W.heap.size z q zs x y ((w4.setCell ⟨W.heap.size, 0, none⟩ (.int .i64 x)).setCell ⟨W.heap.size, 1, none⟩ (.int .i64 y)) :=
 have hw2 := l_below hw (Nat.le_refl _) (.int .i64 x) (.int .i64 y)
 ⟨h.step hw2, (hw2.block _ (l_lt hb)).trans hb, l_put hq _ _, Chain_below hc hw2 (Nat.le_refl _)⟩
theorem l_next {wr w4 : World} (hb4 : Below (wr.alloc (.cells #[.int .i64 0, .int .i64 0] 29)).drew.heap.size (wr.alloc (.cells #[.int .i64 0, .int .i64 0] 29)).drew w4) :
  w4.heap[wr.heap.size]? = some (.cells #[.int .i64 0, .int .i64 0] 29 (0, 0)) := (hb4.block wr.heap.size (l_lt (l_new wr _))).trans (l_new wr _)
set_option maxHeartbeats 2000000 in
theorem ls_yes (k : Nat) (a0_0 : Int) (a0_1 : Int) (A0_2 : Option Addr) (c0_2 : Nat) (l : List S29) (s : Option (Int × Int)) (r1 r2 : Int) (r3 : Bool) (w : World) (hr : Kd.C k29 w A0_2 l.length l) (h : impl_FracOk.f k a0_0 a0_1 = some true) (hn : l.length ≤ 8) (hs : addAll k 0 1 (ChargesGiv.prs l) = some s) (he : addEnd k a0_0 a0_1 s = some (r1, r2, r3)) :
  Calls Try.prog 20 #[.agg #[.int .i64 a0_0, .int .i64 a0_1, .slice A0_2 l.length c0_2]] w fun e w' => e = .returned (.tuple #[.agg #[.int .i64 r1, .int .i64 r2], .bool r3]) ∧ Below w.heap.size w w' := by
 have HF := Go.Lib.hid h
 have HR := Go.Lib.hid hr
 have HS := Go.Lib.hid hs
 have HE := Go.Lib.hid he
 have HN := Go.Lib.hid hn
 have hn2 : ¬ (8 : Int) < (l.length : Int) := by omega
 clear h hr hs he hn
 go_enter Try.func20, Try.ntmps20
 go_wp2_with (first | (go_at_call 45; refine (impl_FracOk.calls k a0_0 a0_1 true _ HF.out).mono ?_; rintro e w' ⟨rfl, hb⟩; have hL := (LBox.start w a0_0 a0_1 (.slice A0_2 l.length c0_2)).step hb; obtain ⟨c0, c1, c2, c3, c4, f3, f4⟩ := hL.cells; have c2a := fun o => pw_cell_below ((Below.refl _ w').alloc (Nat.le_refl _) o) c2) | (go_at_call 46; refine (ChargesGiv.chargesOf_calls A0_2 c0_2 l _ (Kd.C_below HR.out (hL.bel.alloc hL.bel.size _)) (Nat.le_trans HN.out (by omega))).mono ?_; rintro e w3 ⟨p0, rfl, hch, hb3⟩))
 have hS := l_lt hL.b1
 have hst0 : LSt w a0_0 a0_1 (.slice A0_2 l.length c0_2) w'.heap.size 0 1 (w'.alloc (.cells #[.int .i64 0, .int .i64 1] 29)) := ⟨hL.step ((Below.refl _ w').alloc (Nat.le_refl _) _), l_new w' _, hS⟩
 have hst1 := hst0.step hb3
 have hN : w'.heap.size < (w'.alloc (.cells #[.int .i64 0, .int .i64 1] 29)).heap.size := by simp
 generalize w'.heap.size = S at *
 generalize (w'.alloc (.cells #[.int .i64 0, .int .i64 1] 29)).heap.size = N at *
 clear hb hL c0 c1 c2 c3 c4 f3 f4 c2a hst0 hb3 hS
 go_loopg [5] (ChargesGiv.prs l).length (fun gk v5 wr => ∃ p rest n d, v5 = .pointer p ∧ gk = rest.length ∧ ChargesGiv.Chain wr N p rest ∧ LSt w a0_0 a0_1 (.slice A0_2 l.length c0_2) S n d wr ∧ addAll k n d rest = some s)
 case atStart => exact ⟨p0, _, 0, 1, rfl, rfl, hch, hst1, HS.out⟩
 case round =>
  clear HS
  obtain ⟨p, rest, n, d, rfl, rfl, hch, hst, hs⟩ := hrel
  obtain ⟨c0, c1, c2, c3, c4, f3, f4⟩ := hst.box.cells
  obtain ⟨s0, s1, g0, g1⟩ := hst.cells
  cases rest with
  | nil =>
   obtain rfl : p = none := hch
   obtain rfl := Option.some.inj hs
   obtain ⟨c, hc, he⟩ := Option.bind_eq_some_iff.1 HE.out
   have HCC := Go.Lib.hid hc
   have hst' := Go.Lib.hid hst
   clear hc hs hch HE hst
   by_cases hcc : c > 0
   ·rw [if_pos hcc] at he
    obtain ⟨rfl, rfl, rfl⟩ : 0 = r1 ∧ 0 = r2 ∧ false = r3 := by simpa using he
    clear he
    go_wp2_with (go_at_call 25; refine (impl_FracCmp.calls k n d a0_0 a0_1 c _ HCC.out).mono ?_; rintro e w4 ⟨rfl, hb4⟩; have hst4 := hst'.out.step hb4; obtain ⟨x0, x1, x2, x3, x4, y3, y4⟩ := hst4.box.cells)
    refine bodyPost_ret (results_ct rfl _ _ (w.heap.size + 1) 29 #[.int .i64 0, .int .i64 0] (0, 0) _ rfl (l_put hst4.box.b1 _ _) Try.underlying29 rfl (by kernel_rfl)) rfl ?_
    exact ⟨rfl, l_below hst4.box.bel (by omega) _ _⟩
   ·rw [if_neg hcc] at he
    obtain ⟨rfl, rfl, rfl⟩ : n = r1 ∧ d = r2 ∧ true = r3 := by simpa using he
    clear he
    go_wp2_with (go_at_call 25; refine (impl_FracCmp.calls k n d a0_0 a0_1 c _ HCC.out).mono ?_; rintro e w4 ⟨rfl, hb4⟩; have hst4 := hst'.out.step hb4; obtain ⟨x0, x1, x2, x3, x4, y3, y4⟩ := hst4.box.cells; obtain ⟨z0, z1, _, _⟩ := hst4.cells)
    refine bodyPost_ret (results_ct rfl _ _ (w.heap.size + 1) 29 #[.int .i64 n, .int .i64 d] (0, 0) _ rfl (l_put hst4.box.b1 _ _) Try.underlying29 rfl (by kernel_rfl)) rfl ?_
    exact ⟨rfl, l_below hst4.box.bel (by omega) _ _⟩
  | cons z zs =>
   obtain ⟨b, q, rfl, hNb, hbk, hch2⟩ := hch
   have b0 := l_cell hbk 0
   have b1 := l_cell hbk 1
   simp only [List.getElem?_toArray, List.getElem?_cons_zero, List.getElem?_cons_succ] at b0 b1
   have s0a := fun o => pw_cell_below ((Below.refl _ wr).alloc (Nat.le_refl _) o) s0
   have s1a := fun o => pw_cell_below ((Below.refl _ wr).alloc (Nat.le_refl _) o) s1
   have b0a := fun o => pw_cell_below ((Below.refl _ wr).alloc (Nat.le_refl _) o) b0
   have b1a := fun o => pw_cell_below ((Below.refl _ wr).alloc (Nat.le_refl _) o) b1
   obtain ⟨⟨x, y, o⟩, hx, hs2⟩ := Option.bind_eq_some_iff.1 hs
   have HX := Go.Lib.hid hx
   have HST := Go.Lib.hid hst
   have HBK := Go.Lib.hid hbk
   have HCH := Go.Lib.hid hch2
   have hbS : S < b := by omega
   clear hs hx hst hbk hch2
   cases o
   ·obtain rfl : none = s := by simpa using hs2
    obtain ⟨rfl, rfl, rfl⟩ : 0 = r1 ∧ 0 = r2 ∧ false = r3 := by simpa [addEnd] using HE.out
    clear hs2 HE
    go_wp2
    go_region_with (go_at_call 24; refine (impl_FracSum.calls k n d z.1 z.2 x y false _ HX.out).mono ?_; rintro e w4 ⟨rfl, hb4⟩; (first | have hbw : Below wr.heap.size wr w4 := below_then ((Below.refl _ _).drew) (by simp) hb4 | (have hbw : Below wr.heap.size wr w4 := below_then ((below_alloc (Below.refl _ _) _).drew) (by simp) hb4; have hq4 := l_next hb4; have q0 := l_cell hq4 0; have q1 := l_cell hq4 1; have q2 := l_frozen hq4 0; have q3 := l_frozen hq4 1)))
    all_goals (first
     | (have hNN := NSt.b HST.out HBK.out HCH.out hbw hq4 x y; clear q0 q1 q2 q3 hq4; generalize (w4.setCell ⟨wr.heap.size, 0, none⟩ (.int .i64 x)).setCell ⟨wr.heap.size, 1, none⟩ (.int .i64 y) = W5 at hNN ⊢; generalize wr.heap.size = nx at hNN ⊢)
     | (have hNN := NSt.a HST.out HBK.out HCH.out hbw x y; generalize w4.alloc (.cells #[.int .i64 x, .int .i64 y] 29) = W5 at hNN ⊢; generalize w4.heap.size = nx at hNN ⊢))
    all_goals (clear c0 c1 c2 c3 c4 f3 f4 s0 s1 g0 g1 s0a s1a b0a b1a b0 b1)
    all_goals (obtain ⟨c0, c1, c2, c3, c4, f3, f4⟩ := hNN.st.box.cells; obtain ⟨s0, s1, g0, g1⟩ := hNN.st.cells; have n0 := l_cell hNN.nb 0; have n1 := l_cell hNN.nb 1; have d2 := l_cell hNN.nd 2)
    all_goals (simp only [List.getElem?_toArray, List.getElem?_cons_zero, List.getElem?_cons_succ] at n0 n1 d2)
    all_goals (have HNN := Go.Lib.hid hNN; clear hNN HST HBK HCH)
    all_goals go_wp2
    all_goals (refine bodyPost_ret (results_ct rfl _ _ (w.heap.size + 1) 29 #[.int .i64 0, .int .i64 0] (0, 0) _ rfl (l_put HNN.out.st.box.b1 _ _) Try.underlying29 rfl (by kernel_rfl)) rfl ?_)
    all_goals exact ⟨rfl, l_below HNN.out.st.box.bel (by omega) _ _⟩
   ·have hs3 : addAll k x y zs = some s := by simpa using hs2
    have HS3 := Go.Lib.hid hs3
    clear hs2 hs3
    go_wp2
    go_region_with (go_at_call 24; refine (impl_FracSum.calls k n d z.1 z.2 x y true _ HX.out).mono ?_; rintro e w4 ⟨rfl, hb4⟩; (first | have hbw : Below wr.heap.size wr w4 := below_then ((Below.refl _ _).drew) (by simp) hb4 | (have hbw : Below wr.heap.size wr w4 := below_then ((below_alloc (Below.refl _ _) _).drew) (by simp) hb4; have hq4 := l_next hb4; have q0 := l_cell hq4 0; have q1 := l_cell hq4 1; have q2 := l_frozen hq4 0; have q3 := l_frozen hq4 1)))
    all_goals (first
     | (have hNN := NSt.b HST.out HBK.out HCH.out hbw hq4 x y; clear q0 q1 q2 q3 hq4; generalize (w4.setCell ⟨wr.heap.size, 0, none⟩ (.int .i64 x)).setCell ⟨wr.heap.size, 1, none⟩ (.int .i64 y) = W5 at hNN ⊢; generalize wr.heap.size = nx at hNN ⊢)
     | (have hNN := NSt.a HST.out HBK.out HCH.out hbw x y; generalize w4.alloc (.cells #[.int .i64 x, .int .i64 y] 29) = W5 at hNN ⊢; generalize w4.heap.size = nx at hNN ⊢))
    all_goals (clear c0 c1 c2 c3 c4 f3 f4 s0 s1 g0 g1 s0a s1a b0a b1a b0 b1)
    all_goals (obtain ⟨c0, c1, c2, c3, c4, f3, f4⟩ := hNN.st.box.cells; obtain ⟨s0, s1, g0, g1⟩ := hNN.st.cells; have n0 := l_cell hNN.nb 0; have n1 := l_cell hNN.nb 1; have d2 := l_cell hNN.nd 2)
    all_goals (simp only [List.getElem?_toArray, List.getElem?_cons_zero, List.getElem?_cons_succ] at n0 n1 d2)
    all_goals (have HNN := Go.Lib.hid hNN; clear hNN HST HBK HCH)
    all_goals go_wp2
    all_goals go_roundg zs.length
    all_goals (first | (simp; done) | exact ⟨q, zs, x, y, rfl, rfl, Chain_put HNN.out.ch (by omega) _ _, HNN.out.st.put x y, HS3.out⟩)
theorem impl_LedgerSum.calls (k : Nat) (a0_0 : Int) (a0_1 : Int) (A0_2 : Option Addr) (c0_2 : Nat) (l0_2 : List (S29)) (r1 : Int) (r2 : Int) (r3 : Bool) (w : World) (hr0_2 : Kd.C k29 w A0_2 l0_2.length l0_2) (hc0_2 : l0_2.length ≤ c0_2) (h : impl_LedgerSum.f k a0_0 a0_1 l0_2 = some (r1, r2, r3)) :
  Calls Try.prog 20 #[.agg #[.int .i64 a0_0, .int .i64 a0_1, .slice A0_2 l0_2.length c0_2]] w fun e w' => e = .returned (.tuple #[.agg #[.int .i64 r1, .int .i64 r2], .bool r3]) ∧ Below w.heap.size w w' := by
 unfold impl_LedgerSum.f at h
 obtain ⟨t, ht, h⟩ := Option.bind_eq_some_iff.1 h
 cases t
 ·obtain ⟨rfl, rfl, rfl⟩ : 0 = r1 ∧ 0 = r2 ∧ false = r3 := by simpa using h
  exact ls_no k a0_0 a0_1 A0_2 c0_2 _ w ht
 ·rw [if_pos rfl] at h
  by_cases hn : l0_2.length ≤ 8
  ·rw [if_pos hn] at h
   obtain ⟨s, hs, he⟩ := Option.bind_eq_some_iff.1 h
   exact ls_yes k a0_0 a0_1 A0_2 c0_2 l0_2 s r1 r2 r3 w hr0_2 ht hn hs he
  ·rw [if_neg hn] at h
   obtain ⟨rfl, rfl, rfl⟩ : 0 = r1 ∧ 0 = r2 ∧ false = r3 := by simpa using h
   exact ls_big k a0_0 a0_1 A0_2 c0_2 _ w ht hn

/-! ### impl_LedgerOk: function 17 -/
def impl_LedgerOk.f (k : Nat) (a0_0 : Int) (a0_1 : Int) (l0_2 : List (S29)) : Option (Bool) := (impl_LedgerSum.f k a0_0 a0_1 l0_2).bind fun bt156 => (some bt156.2.2)
theorem impl_LedgerOk.mono : ∀ a0 a1 a2 k, LeO (impl_LedgerOk.f k a0 a1 a2) (impl_LedgerOk.f (k + 1) a0 a1 a2) := by
 intro a0 a1 a2 k
 unfold impl_LedgerOk.f
 repeat' first
   | (with_reducible exact impl_LedgerSum.mono _ _ _ _)
   | (with_reducible exact LeO.refl _)
   | (with_reducible exact LeO.none _)
   | (with_reducible refine LeO.ite ?_ ?_)
   | (with_reducible refine LeO.bind ?_ (fun _ => ?_))
   | exact impl_LedgerSum.mono _ _ _ _
   | exact LeO.none _
   | refine LeO.ite ?_ ?_
   | refine LeO.bind ?_ (fun _ => ?_)
set_option maxHeartbeats 8000000 in
set_option maxRecDepth 100000 in
theorem impl_LedgerOk.calls (k : Nat) (a0_0 : Int) (a0_1 : Int) (A0_2 : Option Addr) (c0_2 : Nat) (l0_2 : List (S29)) (r : Bool) (w : World) (hr0_2 : Kd.C k29 w A0_2 l0_2.length l0_2) (hc0_2 : l0_2.length ≤ c0_2) (h : impl_LedgerOk.f k a0_0 a0_1 l0_2 = some r) :
  Calls Try.prog 17 #[.agg #[.int .i64 a0_0, .int .i64 a0_1, .slice A0_2 l0_2.length c0_2]] w fun e w' => e = .returned (.bool r) ∧ Below w.heap.size w w' := by
 have hu32 := Try.underlying32
 have hu29 := Try.underlying29
 have HR0_2 := Aside0.mk hr0_2
 have HC0_2 := Aside0.mk hc0_2
 clear hr0_2 hc0_2
 have HB := Aside0.mk (Below.refl w.heap.size w)
 have H : ((impl_LedgerSum.f k a0_0 a0_1 l0_2).bind fun bt156 => (some bt156.2.2)) = some r := h
 clear h
 replace H := Option.bind_eq_some_iff.mp H
 obtain ⟨⟨t156, t157, t158⟩, A20, H⟩ := H
 replace H : (some t158) = some r := H
 have A2 := Aside0.mk A20
 clear A20
 obtain rfl := Option.some.inj H
 go_enter Try.func17, Try.ntmps17
 go_wp2_with (first | ((with_reducible refine gate_dst (N := 1) rfl ?_); refine box_event ?hg (N := 1) ?hd (cs := #[.int .i64 a0_0, .int .i64 a0_1, .slice A0_2 l0_2.length c0_2]) (t := 32) ?hr ?_; (case hd => rfl); (case hg => rfl); (case hr => first | (go_simp; done) | (go_simp; rfl)); intro gb155 hg w3 hbox hb; have n0_ := Aside0.mk (below_step (by repeat (first | (with_reducible first | exact HB.out | apply below_alloc | apply pw_below_drewN | apply below_drew1) | exact HB.out)) hb); have n1_ := Aside0.mk (hbox); have n2_ := Aside0.mk ((by rw [hg]; exact (below_size (by repeat (first | (with_reducible first | exact HB.out | apply below_alloc | apply pw_below_drewN | apply below_drew1) | exact HB.out))) : w.heap.size ≤ gb155)); have n3_ := Aside0.mk ((by rw [hg]; exact (below_size (by repeat (first | (with_reducible first | exact HB.out | apply below_alloc | apply pw_below_drewN | apply below_drew1) | exact HB.out))) : w.heap.size ≤ gb155)); clear HB; have HB := n0_; have BK155 := n1_; have GW155 := n2_; have GE155 := n3_; clear n0_ n1_ n2_ n3_; clear hb hbox hg; have hcz4_0 : w3.cell? ⟨gb155, 0, none⟩ = some (.int .i64 a0_0) := (blk_cell BK155.out 0).trans rfl; have hcz4_1 : w3.cell? ⟨gb155, 1, none⟩ = some (.int .i64 a0_1) := (blk_cell BK155.out 1).trans rfl; have hcz4_2 : w3.cell? ⟨gb155, 2, none⟩ = some (.slice A0_2 l0_2.length c0_2) := (blk_cell BK155.out 2).trans rfl; have hfz4_0 := blk_frozen BK155.out 0; have hfz4_1 := blk_frozen BK155.out 1; have hfz4_2 := blk_frozen BK155.out 2) | ((with_reducible refine gate_callee (f := 20) rfl ?_); refine goesL_ (some 7) rfl rfl Try.func20 (by kernel_rfl) rfl #[.agg #[.int .i64 a0_0, .int .i64 a0_1, .slice A0_2 l0_2.length c0_2]] rfl (by (try simp only [List.map_toArray, List.map_cons, List.map_nil]); first | done | rfl | (simp only [List.length_drop, List.length_take]; rfl)) ?_; (with_reducible refine (impl_LedgerSum.calls k a0_0 a0_1 _ _ l0_2 t156 t157 t158 _ ?side1 ?side2 A2.out).mono ?_); (case side1 => repeat (first | exact (Kd.C_below HR0_2.out HB.out) | (with_reducible refine Kd.C_alloc ?_ _) | (with_reducible refine Kd.C_drewN ?_ _) | (with_reducible refine Kd.C_drew ?_))); (case side2 => exact HC0_2.out); rintro e w5 ⟨rfl, hb⟩; refine ⟨_, rfl, ?_⟩; have n0_ := Aside0.mk (blk_below (g := gb155) (o := .cells #[.int .i64 a0_0, .int .i64 a0_1, .slice A0_2 l0_2.length c0_2] 32 (0, 0)) (by (with_reducible repeat (first | refine blk_drewN ?_ _ | refine blk_drew ?_ | refine blk_alloc ?_ _)); exact BK155.out) hb); have n1_ := Aside0.mk (below_step (by repeat (first | (with_reducible first | exact HB.out | apply below_alloc | apply pw_below_drewN | apply below_drew1 | refine below_set ?_ GE155.out) | exact HB.out)) hb); clear BK155; clear HB; have BK155 := n0_; have HB := n1_; clear n0_ n1_; (try clear hb); (try clear hb2); (try clear hk); (try clear hi)) | ((with_reducible refine gate_dst (N := 3) rfl ?_); refine box_event ?hg (N := 3) ?hd (cs := #[.int .i64 0, .int .i64 0]) (t := 29) ?hr ?_; (case hd => rfl); (case hg => rfl); (case hr => first | (go_simp; done) | (go_simp; rfl)); intro gb159 hg w6 hbox hb; have n0_ := Aside0.mk (blk_below (g := gb155) (o := .cells #[.int .i64 a0_0, .int .i64 a0_1, .slice A0_2 l0_2.length c0_2] 32 (0, 0)) (by (with_reducible repeat (first | refine blk_drewN ?_ _ | refine blk_drew ?_ | refine blk_alloc ?_ _)); exact BK155.out) hb); have n1_ := Aside0.mk (below_step (by repeat (first | (with_reducible first | exact HB.out | apply below_alloc | apply pw_below_drewN | apply below_drew1 | refine below_set ?_ GE155.out) | exact HB.out)) hb); have n2_ := Aside0.mk (hbox); have n3_ := Aside0.mk ((by rw [hg]; exact (below_size (by repeat (first | (with_reducible first | exact HB.out | apply below_alloc | apply pw_below_drewN | apply below_drew1 | refine below_set ?_ GE155.out) | exact HB.out))) : w.heap.size ≤ gb159)); have n4_ := Aside0.mk ((by rw [hg]; exact (below_size (by repeat (first | (with_reducible first | exact HB.out | apply below_alloc | apply pw_below_drewN | apply below_drew1 | refine below_set ?_ GE155.out) | exact HB.out))) : w.heap.size ≤ gb159)); have n5_ := Aside0.mk ((by rw [hg]; exact Nat.ne_of_lt (blk_lt (g := gb155) (o := .cells #[.int .i64 a0_0, .int .i64 a0_1, .slice A0_2 l0_2.length c0_2] 32 (0, 0)) (by (with_reducible repeat (first | refine blk_drewN ?_ _ | refine blk_drew ?_ | refine blk_alloc ?_ _)); exact BK155.out)) : gb155 ≠ gb159)); have n6_ := Aside0.mk ((by rw [hg]; exact Nat.ne_of_gt (blk_lt (g := gb155) (o := .cells #[.int .i64 a0_0, .int .i64 a0_1, .slice A0_2 l0_2.length c0_2] 32 (0, 0)) (by (with_reducible repeat (first | refine blk_drewN ?_ _ | refine blk_drew ?_ | refine blk_alloc ?_ _)); exact BK155.out)) : gb159 ≠ gb155)); clear BK155; clear HB; have BK155 := n0_; have HB := n1_; have BK159 := n2_; have GW159 := n3_; have GE159 := n4_; have NB155_159 := n5_; have NB159_155 := n6_; clear n0_ n1_ n2_ n3_ n4_ n5_ n6_; clear hb hbox hg; have hnb7 := NB159_155.out; have hnc7 := NB155_159.out; have hcz8_0 : w6.cell? ⟨gb159, 0, none⟩ = some (.int .i64 0) := (blk_cell BK159.out 0).trans rfl; have hcz8_1 : w6.cell? ⟨gb159, 1, none⟩ = some (.int .i64 0) := (blk_cell BK159.out 1).trans rfl; have hfz8_0 := blk_frozen BK159.out 0; have hfz8_1 := blk_frozen BK159.out 1))
 go_ret
 exact ⟨by first | rfl | (simp [errW_none, errW_some] <;> rfl) | (simp [*, errW_none, errW_some] <;> rfl), by repeat (first | (with_reducible first | exact HB.out | apply below_alloc | apply pw_below_drewN | apply below_drew1 | refine below_set ?_ GE155.out | refine below_set ?_ GE159.out) | exact HB.out)⟩

/-- A state of type 73 at block g of W; what its slices lead to came in by w0. -/
def IsS73 (w0 W : World) (g : Nat) (f0 : List Int) (f1 : Int) : Prop := ∃ A0 c0, W.heap[g]? = some (.cells #[.slice A0 f0.length c0, .int .i64 f1] 73 (0, 0)) ∧ w0.heap.size ≤ g ∧ Kd.C (Kd.int .u8) w0 A0 f0.length f0
theorem IsS73.grown {w0 W : World} {g : Nat} {f0 : List Int} {f1 : Int} {W1 : World} {row : Option Nat} (h : IsS73 w0 W g f0 f1) (hw : W.grownBy W1 row) (hne : some g ≠ row) : IsS73 w0 W1 g f0 f1 := by
 obtain ⟨A0, c0, hb, hg, hr0⟩ := h
 exact ⟨A0, c0, blk_grown hb hw hne, hg, hr0⟩
theorem IsS73.own_neN {w0 W : World} {g : Nat} {f0 : List Int} {f1 : Int} {α : Type} {d : Kd α} {e : Nat} {base : Nat} {ok : Nat → Prop} {v : Value} {xs : List α} (h : IsS73 w0 W g f0 f1) (ho : Kd.N d e W base ok v xs) (ht : e ≠ 73) : some g ≠ v.ownBlock := by
 obtain ⟨A0, c0, hb, hg, hr0⟩ := h
 exact Kd.N_ne ho hb ht
theorem IsS73.fresh {w0 W : World} {g : Nat} {f0 : List Int} {f1 : Int} (h : IsS73 w0 W g f0 f1) : ∀ k, W.heap.size ≤ k → k ≠ g := by
 obtain ⟨A0, c0, hb, hg, hr0⟩ := h
 exact Kd.freshB hb
theorem IsS73.kept {w0 W : World} {g : Nat} {f0 : List Int} {f1 : Int} {W1 : World} {S : Nat → Prop} (h : IsS73 w0 W g f0 f1) (hk : Kept W W1 S) (hne : ¬ S g) : IsS73 w0 W1 g f0 f1 := by
 obtain ⟨A0, c0, hb, hg, hr0⟩ := h
 exact ⟨A0, c0, blk_kept hb hk hne, hg, hr0⟩
theorem IsS73.below {w0 W : World} {g : Nat} {f0 : List Int} {f1 : Int} {W1 : World} (h : IsS73 w0 W g f0 f1) (hw : Below W.heap.size W W1) : IsS73 w0 W1 g f0 f1 := h.grown (grown_of_below hw none) (by simp)
theorem IsS73.alloc {w0 W : World} {g : Nat} {f0 : List Int} {f1 : Int} (h : IsS73 w0 W g f0 f1) (o : Obj) : IsS73 w0 (W.alloc o) g f0 f1 := h.below (below_alloc (Below.refl _ _) o)
theorem IsS73.drewN {w0 W : World} {g : Nat} {f0 : List Int} {f1 : Int} (h : IsS73 w0 W g f0 f1) (m : Nat) : IsS73 w0 (W.drewN m) g f0 f1 := h
theorem IsS73.drew {w0 W : World} {g : Nat} {f0 : List Int} {f1 : Int} (h : IsS73 w0 W g f0 f1) : IsS73 w0 W.drew g f0 f1 := h
theorem IsS73.at_ {w0 W : World} {g : Nat} {f0 : List Int} {f1 : Int} {w' : World} {m : Nat} (hq : W.drewN m = w') (h : IsS73 w0 W g f0 f1) : IsS73 w0 w' g f0 f1 := by subst hq; exact IsS73.drewN h m
theorem IsS73.apart {w0 W : World} {g : Nat} {f0 : List Int} {f1 : Int} {α : Type} {d : Kd α} {e : Nat} {base : Nat} {ok : Nat → Prop} {v : Value} {xs : List α} (h : IsS73 w0 W g f0 f1) (ho : d.R e W base ok v xs) (ht : ∀ q, q ∈ e :: d.E → q ≠ 73) : d.R e W base (fun k => ok k ∧ k ≠ g) v xs := by
 obtain ⟨A0, c0, hb, hg, hr0⟩ := h
 exact Kd.R_types ho hb ht
theorem IsS73.own_ne {w0 W : World} {g : Nat} {f0 : List Int} {f1 : Int} {α : Type} {d : Kd α} {e : Nat} {base : Nat} {ok : Nat → Prop} {v : Value} {xs : List α} (h : IsS73 w0 W g f0 f1) (ho : d.R e W base ok v xs) (ht : e ≠ 73) : some g ≠ v.ownBlock := by
 obtain ⟨A0, c0, hb, hg, hr0⟩ := h
 exact Kd.R_ne ho hb ht
theorem IsS73.apartQ {w0 W : World} {g : Nat} {f0 : List Int} {f1 : Int} {α : Type} {d : Kd α} {e : Nat} {base : Nat} {ok : Nat → Prop} {v : Value} {xs : List α} (h : IsS73 w0 W g f0 f1) (ho : d.Q e W base ok v xs) (ht : ∀ q, q ∈ e :: d.E → q ≠ 73) : d.Q e W base (fun k => ok k ∧ k ≠ g) v xs := by
 obtain ⟨A0, c0, hb, hg, hr0⟩ := h
 exact Kd.Q_types ho hb ht
theorem IsS73.own_neQ {w0 W : World} {g : Nat} {f0 : List Int} {f1 : Int} {α : Type} {d : Kd α} {e : Nat} {base : Nat} {ok : Nat → Prop} {v : Value} {xs : List α} (h : IsS73 w0 W g f0 f1) (ho : d.Q e W base ok v xs) (ht : e ≠ 73) : some g ≠ v.ownBlock := by
 obtain ⟨A0, c0, hb, hg, hr0⟩ := h
 exact Kd.Q_ne ho hb ht
theorem IsS73.apartS {w0 W : World} {g : Nat} {f0 : List Int} {f1 : Int} {α : Type} {d : Kd α} {e : Nat} {base : Nat} {ok : Nat → Prop} {v : Value} {xs : List α} (h : IsS73 w0 W g f0 f1) (ho : d.S e W base ok v xs) (ht : ∀ q, q ∈ e :: d.E → q ≠ 73) : d.S e W base (fun k => ok k ∧ k ≠ g) v xs := by
 obtain ⟨A0, c0, hb, hg, hr0⟩ := h
 exact Kd.S_types ho hb ht
theorem IsS73.own_neS {w0 W : World} {g : Nat} {f0 : List Int} {f1 : Int} {α : Type} {d : Kd α} {e : Nat} {base : Nat} {ok : Nat → Prop} {v : Value} {xs : List α} (h : IsS73 w0 W g f0 f1) (ho : d.S e W base ok v xs) (ht : e ≠ 73) : some g ≠ v.ownBlock := by
 obtain ⟨A0, c0, hb, hg, hr0⟩ := h
 exact Kd.S_ne ho hb ht
theorem IsS73.lt {w0 W : World} {g : Nat} {f0 : List Int} {f1 : Int} (h : IsS73 w0 W g f0 f1) : g < W.heap.size := by
 obtain ⟨A0, c0, hb, hg, hr0⟩ := h
 exact blk_lt hb
theorem IsS73.ge {w0 W : World} {g : Nat} {f0 : List Int} {f1 : Int} (h : IsS73 w0 W g f0 f1) : w0.heap.size ≤ g := by
 obtain ⟨A0, c0, hb, hg, hr0⟩ := h
 exact hg
theorem IsS73.ne_blk {w0 W : World} {g : Nat} {f0 : List Int} {f1 : Int} {a : Nat} {cs : Array Value} {t : TypeId} {fr : Nat × Nat} (h : IsS73 w0 W g f0 f1) (hb2 : W.heap[a]? = some (.cells cs t fr)) (ht : t ≠ 73) : g ≠ a := by
 obtain ⟨A0, c0, hb, hg, hr0⟩ := h
 rintro rfl
 rw [hb] at hb2
 injection hb2 with hb2
 injection hb2 with _ ht2
 exact ht ht2.symm
theorem IsS73.far {w0 W : World} {g : Nat} {f0 : List Int} {f1 : Int} {p : Addr} (h : IsS73 w0 W g f0 f1) (hne : g ≠ p.block) (u : Value) : IsS73 w0 (W.setCell p u) g f0 f1 := by
 obtain ⟨A0, c0, hb, hg, hr0⟩ := h
 exact ⟨A0, c0, blk_far hb hne u, hg, hr0⟩
theorem cellS73_0 {W : World} {g : Nat} {A0 : Option Addr} {c0 : Nat} {f0 : List Int} {f1 : Int} (h : W.heap[g]? = some (.cells #[.slice A0 f0.length c0, .int .i64 f1] 73 (0, 0))) : W.cell? ⟨g, 0, none⟩ = some (.slice A0 f0.length c0) := (blk_cell h 0).trans rfl
theorem cellS73_1 {W : World} {g : Nat} {A0 : Option Addr} {c0 : Nat} {f0 : List Int} {f1 : Int} (h : W.heap[g]? = some (.cells #[.slice A0 f0.length c0, .int .i64 f1] 73 (0, 0))) : W.cell? ⟨g, 1, none⟩ = some (.int .i64 f1) := (blk_cell h 1).trans rfl
theorem IsS73.set_1 {w0 W : World} {g : Nat} {f0 : List Int} {f1 : Int} (h : IsS73 w0 W g f0 f1) (x : Int) : IsS73 w0 (W.setCell ⟨g, 1, none⟩ (.int .i64 x)) g f0 x := by
 obtain ⟨A0, c0, hb, hg, hr0⟩ := h
 exact ⟨A0, c0, by simpa using blk_set hb 1 (.int .i64 x), hg, hr0⟩
theorem IsS73.new (w0 W : World) (A0 : Option Addr) (c0 : Nat) (f0 : List Int) (f1 : Int) (hB : Below w0.heap.size w0 W) (hr0 : Kd.C (Kd.int .u8) w0 A0 f0.length f0) : IsS73 w0 (W.alloc (.cells #[.slice A0 f0.length c0, .int .i64 f1] 73)) W.heap.size f0 f1 := ⟨A0, c0, by simpa using heap_alloc_new W _, hB.size, hr0⟩

/-! ### spec_l6Open: function 41 -/
def spec_l6Open.f (l0 : List Int) : Option (List Int × Int) := if (l0.length : Int) > 2000 then (if 2000 ≤ (l0.length : Int) then (some (l0.take 2000, 0)) else (none)) else (some (l0, 0))
set_option maxHeartbeats 8000000 in
set_option maxRecDepth 100000 in
theorem spec_l6Open.calls (A0 : Option Addr) (c0 : Nat) (l0 : List Int) (r1 : List Int) (r2 : Int) (w0 w : World) (hB : Below w0.heap.size w0 w) (hr0 : Kd.C (Kd.int .u8) w0 A0 l0.length l0) (hc0 : l0.length ≤ c0) (h : spec_l6Open.f l0 = some (r1, r2)) :
  Calls Try.prog 41 #[.slice A0 l0.length c0] w fun e w' => ∃ g_ : Nat, e = .returned (.pointer (some ⟨g_, 0, none⟩)) ∧ IsS73 w0 w' g_ r1 r2 ∧ Below w0.heap.size w0 w' ∧ Below w.heap.size w w' := by
 have hu73 := Try.underlying73
 have HR0 := Aside0.mk hr0
 have HC0 := Aside0.mk hc0
 clear hr0 hc0
 have HBW := Aside0.mk (Below.refl w.heap.size w)
 have HW0 := Aside0.mk hB.size
 have HB := Aside0.mk hB
 clear hB
 have H : (if (l0.length : Int) > 2000 then (if 2000 ≤ (l0.length : Int) then (some (l0.take 2000, 0)) else (none)) else (some (l0, 0))) = some (r1, r2) := h
 clear h
 by_cases c2 : (l0.length : Int) > 2000
 ·rw [if_pos c2] at H
  have c2b0 : decide (2000 < (l0.length : Int)) = true := decide_eq_true c2
  have c2b1 : decide (2000 < l0.length) = true := decide_eq_true (by omega)
  clear c2
  by_cases c3 : 2000 ≤ (l0.length : Int)
  ·rw [if_pos c3] at H
   have c3b0 := eq_true c3
   have c3b1 : decide (2000 ≤ (l0.length : Int)) = true := decide_eq_true c3
   clear c3
   simp only [Option.some.injEq, Prod.mk.injEq] at H
   obtain ⟨rfl, rfl⟩ := H
   obtain ⟨i04, hi04, _, hsz4, _⟩ := info_parts info5
   obtain ⟨hcut4, hA4, hC4⟩ := print_take_of (P := Try.prog) (Value.int .u8) 0 36 5 .i64 Try.underlying36 hi04 hsz4 A0 c0 l0 2000 (by omega) (of_decide_eq_true (by first | (with_reducible assumption) | assumption)) HC0.out
   have HR160 := Aside0.mk (Kd.C_of_reads (h1 := fun _ => rfl) (hA4 _ (Kd.reads_of_C HR0.out)))
   have HC160 := Aside0.mk hC4
   clear hA4 hC4 hi04 hsz4
   go_enter Try.func41, Try.ntmps41
   go_wp2_with (first | ((with_reducible refine gate_dst (N := 10) rfl ?_); refine box_event ?hg (N := 10) ?hd (cs := #[.slice A0 (l0.take 2000).length c0, .int .i64 0]) (t := 73) ?hr ?_; (case hd => rfl); (case hg => rfl); (case hr => first | (go_simp; done) | (go_simp; rfl)); intro gb161 hg w5 hbox hb; have n0_ := Aside0.mk (below_step HBW.out hb); have n1_ := Aside0.mk (below_step (by repeat (first | (with_reducible first | exact HB.out | apply below_alloc | apply pw_below_drewN | apply below_drew1) | exact HB.out)) hb); have n2_ := Aside0.mk (hbox); have n3_ := Aside0.mk ((by rw [hg]; exact (below_size (by repeat (first | (with_reducible first | exact HBW.out | apply below_alloc | apply pw_below_drewN | apply below_drew1) | exact HBW.out))) : w.heap.size ≤ gb161)); have n4_ := Aside0.mk ((Nat.le_trans HW0.out (by rw [hg]; exact (below_size (by repeat (first | (with_reducible first | exact HBW.out | apply below_alloc | apply pw_below_drewN | apply below_drew1) | exact HBW.out))) : w.heap.size ≤ gb161) : w0.heap.size ≤ gb161)); clear HBW; clear HB; have HBW := n0_; have HB := n1_; have BK161 := n2_; have GW161 := n3_; have GE161 := n4_; clear n0_ n1_ n2_ n3_ n4_; clear hb hbox hg))
   go_ret
   exact ⟨_, rfl, (show IsS73 w0 _ gb161 (l0.take 2000) 0 from ⟨_, _, by (with_reducible repeat (first | refine blk_drewN ?_ _ | refine blk_drew ?_ | refine blk_alloc ?_ _)); exact BK161.out, GE161.out, HR160.out⟩), by repeat (first | (with_reducible first | exact HB.out | apply below_alloc | apply pw_below_drewN | apply below_drew1 | refine below_set ?_ GE161.out) | exact HB.out), by repeat (first | (with_reducible first | exact HBW.out | apply below_alloc | apply pw_below_drewN | apply below_drew1 | refine below_set ?_ GW161.out) | exact HBW.out)⟩
  ·rw [if_neg c3] at H
   exact absurd H (by simp)
 ·rw [if_neg c2] at H
  have c2b0 : decide (2000 < (l0.length : Int)) = false := decide_eq_false c2
  have c2b1 : decide (2000 < l0.length) = false := decide_eq_false (by omega)
  clear c2
  simp only [Option.some.injEq, Prod.mk.injEq] at H
  obtain ⟨rfl, rfl⟩ := H
  go_enter Try.func41, Try.ntmps41
  go_wp2_with (first | ((with_reducible refine gate_dst (N := 10) rfl ?_); refine box_event ?hg (N := 10) ?hd (cs := #[.slice A0 l0.length c0, .int .i64 0]) (t := 73) ?hr ?_; (case hd => rfl); (case hg => rfl); (case hr => first | (go_simp; done) | (go_simp; rfl)); intro gb162 hg w6 hbox hb; have n0_ := Aside0.mk (below_step HBW.out hb); have n1_ := Aside0.mk (below_step (by repeat (first | (with_reducible first | exact HB.out | apply below_alloc | apply pw_below_drewN | apply below_drew1) | exact HB.out)) hb); have n2_ := Aside0.mk (hbox); have n3_ := Aside0.mk ((by rw [hg]; exact (below_size (by repeat (first | (with_reducible first | exact HBW.out | apply below_alloc | apply pw_below_drewN | apply below_drew1) | exact HBW.out))) : w.heap.size ≤ gb162)); have n4_ := Aside0.mk ((Nat.le_trans HW0.out (by rw [hg]; exact (below_size (by repeat (first | (with_reducible first | exact HBW.out | apply below_alloc | apply pw_below_drewN | apply below_drew1) | exact HBW.out))) : w.heap.size ≤ gb162) : w0.heap.size ≤ gb162)); clear HBW; clear HB; have HBW := n0_; have HB := n1_; have BK162 := n2_; have GW162 := n3_; have GE162 := n4_; clear n0_ n1_ n2_ n3_ n4_; clear hb hbox hg))
  go_ret
  exact ⟨_, rfl, (show IsS73 w0 _ gb162 l0 0 from ⟨_, _, by (with_reducible repeat (first | refine blk_drewN ?_ _ | refine blk_drew ?_ | refine blk_alloc ?_ _)); exact BK162.out, GE162.out, HR0.out⟩), by repeat (first | (with_reducible first | exact HB.out | apply below_alloc | apply pw_below_drewN | apply below_drew1 | refine below_set ?_ GE162.out) | exact HB.out), by repeat (first | (with_reducible first | exact HBW.out | apply below_alloc | apply pw_below_drewN | apply below_drew1 | refine below_set ?_ GW162.out) | exact HBW.out)⟩

end Go.Proofs.Ytncngkfgalokoaa.PLed
