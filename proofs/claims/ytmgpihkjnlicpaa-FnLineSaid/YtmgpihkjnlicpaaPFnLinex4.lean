-- Written by a program of this session over the kit's printer, with contracts proved by hand; Lean checks it.
import Derived.Test.YtmgpihkjnlicpaaPFnLinex0
import Derived.Test.YtmgpihkjnlicpaaPFnLinex1
import Derived.Test.YtmgpihkjnlicpaaPFnLinex2
import Derived.Test.YtmgpihkjnlicpaaPFnLinex3
namespace Go.Proofs.Ytmgpihkjnlicpaa.PFnLine
open Go.RowKit Go.Proofs.YtmgpihkjnlicpaaW.PrintWords Go.Proofs.YtmgpihkjnlicpaaW.PrintLast Go.Proofs.YtmgpihkjnlicpaaW.PrintMore
attribute [local go_sem] max2_int min2_int max_two min_two max_three min_three max_four min_four   -- for this text's walks alone
set_option linter.unusedVariables false
set_option linter.unusedSimpArgs false

/-! ### impl_through: function 32 -/
namespace ThroughGiv
def cellsF (n : Nat) (f : Nat → Int) : Array Value := ((List.range n).map fun j => Value.int .i64 (f j)).toArray
/-- Block b holds the n whole numbers that f gives. -/
def HasB (W : World) (b n : Nat) (t : TypeId) (f : Nat → Int) : Prop := W.heap[b]? = some (.cells (cellsF n f) t (0, 0))
def upd (f : Nat → Int) (i : Nat) (v : Int) : Nat → Int := fun j => if j = i then v else f j
theorem cellsF_get {n : Nat} {f : Nat → Int} {i : Nat} (h : i < n) : (cellsF n f)[i]? = some (.int .i64 (f i)) := by simp [cellsF, h]
theorem HasB.congr {W : World} {b n : Nat} {t : TypeId} {f g : Nat → Int} (h : HasB W b n t f) (e : ∀ j, j < n → f j = g j) : HasB W b n t g := by
  unfold HasB at *
  rw [h]
  congr 2
  unfold cellsF
  congr 1
  apply List.map_congr_left
  intro j hj
  rw [e j (List.mem_range.1 hj)]
theorem HasB.cell {W : World} {b n : Nat} {t : TypeId} {f : Nat → Int} (h : HasB W b n t f) {i : Nat} (hi : i < n) : W.cell? ⟨b, i, none⟩ = some (.int .i64 (f i)) := by
  unfold HasB at h
  simp [World.cell?, h, cellsF_get hi]
theorem HasB.frozen {W : World} {b n : Nat} {t : TypeId} {f : Nat → Int} (h : HasB W b n t f) (i : Nat) : W.frozen? ⟨b, i, none⟩ = false := by
  unfold HasB at h
  simp [World.frozen?, h]
theorem HasB.lt {W : World} {b n : Nat} {t : TypeId} {f : Nat → Int} (h : HasB W b n t f) : b < W.heap.size := (Array.getElem?_eq_some_iff.1 h).1
theorem HasB.other {W : World} {b n : Nat} {t : TypeId} {f : Nat → Int} (h : HasB W b n t f) {a : Addr} {v : Value} (e : b ≠ a.block) : HasB (W.setCell a v) b n t f := by
  unfold HasB at *
  rw [Below.heap_setCell _ _ _ _ e]
  exact h
theorem HasB.set {W : World} {b n : Nat} {t : TypeId} {f : Nat → Int} (h : HasB W b n t f) {i : Nat} (hi : i < n) (v : Int) : HasB (W.setCell ⟨b, i, none⟩ (.int .i64 v)) b n t (upd f i v) := by
  unfold HasB at *
  show (W.heap.modify b _)[b]? = _
  rw [Array.getElem?_modify, if_pos rfl, h]
  show some _ = _
  congr 1
  simp
  unfold cellsF
  apply Array.ext
  · simp
  · intro j h1 h2
    simp [Array.getElem_setIfInBounds, upd]
    by_cases e : i = j
    · subst e; simp
    · simp [e, Ne.symm e]
theorem HasB.drewN {W : World} {b n : Nat} {t : TypeId} {f : Nat → Int} (h : HasB W b n t f) (m : Nat) : HasB (W.drewN m) b n t f := h
theorem HasB.alloc {W : World} {b n : Nat} {t : TypeId} {f : Nat → Int} (h : HasB W b n t f) (o : Obj) : HasB (W.alloc o) b n t f := by
  have := h.lt
  unfold HasB at *
  rw [Below.heap_alloc _ _ _ this]
  exact h
def elU (z : Int) : Int := Int.tmod (wrap64 (Int.tmod z 31 + 31)) 31
/-- The inverses of 1 to 8. -/
def invT (s : Nat) : Int := ([0, 1, 16, 21, 8, 25, 26, 9, 4] : List Int).getD s 0
/-- The differences, divided, when s rounds are over. -/
def dv (l : List Int) : Nat → Nat → Int
  | 0, j => if j < l.length then l.getD j 0 else 0
  | s + 1, j => if s + 1 ≤ j ∧ j < l.length then elU (wrap64 (elU (wrap64 (dv l s j - dv l s (j - 1))) * invT (s + 1))) else dv l s j
/-- The coefficients, when q rounds are over: round q takes i = n - 1 - q. -/
def oo (d : Nat → Int) (n : Nat) : Nat → Nat → Int
  | 0, _ => 0
  | q + 1, 0 => elU (wrap64 (elU (wrap64 (oo d n q 0 * elU (-((n - 1 - q : Nat) : Int)))) + d (n - 1 - q)))
  | q + 1, k + 1 => elU (wrap64 (elU (wrap64 (oo d n q (k + 1) * elU (-((n - 1 - q : Nat) : Int)))) + oo d n q k))
def thr (l : List Int) : List Int := (List.range l.length).map (oo (dv l (l.length - 1)) l.length l.length)
def cp (l : List Int) (q : Nat) : Nat → Int := fun j => if j < q then l.getD j 0 else 0
theorem cp_zero (w : World) (l : List Int) : HasB (w.alloc (.cells #[.int .i64 0, .int .i64 0, .int .i64 0, .int .i64 0, .int .i64 0, .int .i64 0, .int .i64 0, .int .i64 0, .int .i64 0] 54)) w.heap.size 9 54 (cp l 0) := by
  show (w.heap.push _)[w.heap.size]? = _
  rw [Array.getElem?_push, if_pos rfl]
  rfl
theorem cp_succ (l : List Int) (q j : Nat) : upd (cp l q) q (l.getD q 0) j = cp l (q + 1) j := by
  unfold upd cp
  by_cases e : j = q
  · subst e; simp
  · rw [if_neg e]; by_cases e2 : j < q
    · rw [if_pos e2, if_pos (by omega)]
    · rw [if_neg e2, if_neg (by omega)]
def mid (l : List Int) (t i : Nat) : Nat → Int := fun j => if i < j then dv l t j else dv l (t - 1) j
theorem cp_end (l : List Int) (j : Nat) : cp l l.length j = dv l 0 j := rfl
theorem mid_start (l : List Int) {t n : Nat} (ht : 1 ≤ t) (hn : n + 1 = l.length) (j : Nat) : dv l (t - 1) j = mid l t n j := by
  obtain ⟨s, rfl⟩ : ∃ s, t = s + 1 := ⟨t - 1, by omega⟩
  unfold mid
  by_cases e : n < j
  · rw [if_pos e, dv, if_neg (by omega)]
    rfl
  · rw [if_neg e]
theorem mid_end (l : List Int) {t : Nat} (ht : 1 ≤ t) (j : Nat) : mid l t (t - 1) j = dv l (t + 1 - 1) j := by
  obtain ⟨s, rfl⟩ : ∃ s, t = s + 1 := ⟨t - 1, by omega⟩
  unfold mid
  simp only [Nat.add_sub_cancel]
  by_cases e : s < j
  · rw [if_pos e]
  · rw [if_neg e, dv, if_neg (by omega)]
theorem mid_succ (l : List Int) {t i m : Nat} (ht : 1 ≤ t) (hi : i = m + 1) (hti : t ≤ i) (hl : i < l.length) (j : Nat) :
    upd (mid l t i) i (elU (wrap64 (elU (wrap64 (dv l (t - 1) i - dv l (t - 1) m)) * invT t))) j = mid l t m j := by
  obtain ⟨s, rfl⟩ : ∃ s, t = s + 1 := ⟨t - 1, by omega⟩
  subst hi
  unfold upd mid
  simp only [Nat.add_sub_cancel]
  by_cases e : j = m + 1
  · subst e
    rw [if_pos rfl, if_pos (by omega), dv, if_pos ⟨hti, hl⟩]
    rfl
  · rw [if_neg e]
    by_cases e2 : m + 1 < j
    · rw [if_pos e2, if_pos (by omega)]
    · rw [if_neg e2, if_neg (by omega)]
theorem mid_here (l : List Int) (t i : Nat) : mid l t i i = dv l (t - 1) i := by unfold mid; rw [if_neg (by omega)]
theorem mid_below (l : List Int) {t i m : Nat} (h : i = m + 1) : mid l t i m = dv l (t - 1) m := by unfold mid; rw [if_neg (by omega)]
/-- A round over the coefficients, but for the addition at 0. -/
def nw (o : Nat → Int) (z : Int) : Nat → Int
  | 0 => elU (wrap64 (o 0 * z))
  | j + 1 => elU (wrap64 (elU (wrap64 (o (j + 1) * z)) + o j))
def inn (o : Nat → Int) (z : Int) (kk : Nat) : Nat → Int := fun j => if kk ≤ j then nw o z j else o j
theorem inn_succ (o : Nat → Int) (z : Int) (m j : Nat) : upd (inn o z (m + 1)) m (nw o z m) j = inn o z m j := by
  unfold upd inn
  by_cases e : j = m
  · subst e; rw [if_pos rfl, if_pos (Nat.le_refl _)]
  · rw [if_neg e]
    by_cases e2 : m + 1 ≤ j
    · rw [if_pos e2, if_pos (by omega)]
    · rw [if_neg e2, if_neg (by omega)]
theorem inn_here (o : Nat → Int) (z : Int) (m : Nat) : inn o z (m + 1) m = o m := by unfold inn; rw [if_neg (by omega)]
theorem inn_below (o : Nat → Int) (z : Int) (m : Nat) : inn o z (m + 1 + 1) m = o m := by unfold inn; rw [if_neg (by omega)]
theorem inn_zero (o : Nat → Int) (z : Int) : inn o z 0 = nw o z := by funext j; unfold inn; rw [if_pos (Nat.zero_le _)]
theorem inn_start (o : Nat → Int) (z : Int) {n j : Nat} (h : j < n) : o j = inn o z n j := by unfold inn; rw [if_neg (by omega)]
theorem oo_succ (d : Nat → Int) (n q j : Nat) : upd (nw (oo d n q) (elU (-((n - 1 - q : Nat) : Int)))) 0 (elU (wrap64 (nw (oo d n q) (elU (-((n - 1 - q : Nat) : Int))) 0 + d (n - 1 - q)))) j = oo d n (q + 1) j := by
  cases j with
  | zero => rfl
  | succ j => rfl
theorem made_has (W : World) (n : Nat) : HasB (W.alloc (.cells (madeCells #[Value.int .i64 0] n) 3)) W.heap.size n 3 (fun _ => 0) := by
  show (W.heap.push _)[W.heap.size]? = _
  rw [Array.getElem?_push, if_pos rfl]
  congr 2
  unfold madeCells cellsF
  apply Array.ext
  · simp
  · intro j h1 h2
    simp [Nat.mod_one]
theorem make_run (W : World) {n : Nat} (hn : n ≤ 9) : (Instr.makeSlice 22 (.int .i64 (n : Int)) (.int .i64 (n : Int))).run Try.prog W = .ok (.slice (some ⟨W.heap.size, 0, none⟩) n n) (W.alloc (.cells (madeCells (Value.int .i64 0).cells (n * 1)) 3)) := by
  obtain ⟨i3, hi, he⟩ := Option.map_eq_some_iff.1 info3
  obtain ⟨e1, e2, e3⟩ : i3.zero = some (.int .i64 0) ∧ i3.size = 1 ∧ i3.bytes = 8 := by
    simp only [Prod.mk.injEq] at he
    exact he
  have := run_make (P := Try.prog) W 22 3 i3 (.int .i64 0) Try.underlying22 hi e1 .i64 .i64 n n (by omega) (Int.le_refl _) (by rw [e3]; omega) (by omega)
  rw [this, e2]
  rfl
theorem HasB.row {W : World} {O n base : Nat} {f : Nat → Int} (h : HasB W O n 3 f) (hb : base ≤ O) (hn : n ≤ 9) : Kd.R (Kd.int .i64) 3 W base (fun _ => True) (.slice (some ⟨O, 0, none⟩) n n) ((List.range n).map f) := by
  refine Kd.R_of_own ?_ (fun _ _ => trivial)
  refine ⟨by simp [encs], .inr ⟨O, n, cellsF n f, by simp, hb, h, by simp, by simp [maxLen]; omega, by simp [cellsF], ?_⟩⟩
  rw [List.take_of_length_le (by simp [cellsF])]
  simp [cellsF, encs]
theorem minus_f (a b : Int) : impl_element_minus.f a b = some (elU (wrap64 (a - b))) := rfl
theorem times_f (a b : Int) : impl_element_times.f a b = some (elU (wrap64 (a * b))) := rfl
theorem plus_f (a b : Int) : impl_element_plus.f a b = some (elU (wrap64 (a + b))) := rfl
theorem of_f (a : Int) : impl_elementOf.f a = some (elU a) := rfl
theorem wrapN {x : Int} (h : -1000000 ≤ x) (h' : x ≤ 1000000) : IntKind.i64.wrap x = x := by rw [IntKind.wrap_i64]; omega
theorem TG_get {w : World} {A : Option Addr} {l : List Int} (h : Kd.C (Kd.int .i64) w A l.length l) {k : Nat} (hk : k < l.length) : ∃ ad, A = some ad ∧ w.cell? (ad.add k) = some (.int .i64 (l.getD k 0)) := by
  obtain ⟨h1, h2, h3⟩ := Kd.reads_of_C (d := (0 : Int)) h
  obtain ⟨ad, e, hc⟩ := h3 (by omega)
  exact ⟨ad, e, hc k hk⟩
set_option maxRecDepth 100000 in
set_option maxHeartbeats 4000000 in
theorem through_calls (k : Nat) (hinv : ∀ s : Nat, 1 ≤ s → s ≤ 8 → impl_element_inverse.f k (s : Int) = some (invT s)) (A : Option Addr) (cap : Nat) (l : List Int) (w : World) (hr : Kd.C (Kd.int .i64) w A l.length l) (hz : l.length ≤ 9) :
    Calls Try.prog 32 #[.slice A l.length cap] w fun e w' => ∃ v0_ : Value, e = .returned v0_ ∧ Kd.R (Kd.int .i64) 3 w' w.heap.size (fun _ => True) v0_ (thr l) ∧ Below w.heap.size w w' := by
  have hlen : l.length ≤ 9223372036854775807 := by omega
  have HR := Go.Lib.hid hr
  clear hr
  have HI := Go.Lib.hid hinv
  clear hinv
  go_enter Try.func32, Try.ntmps32
  go_wp2
  go_loopw [14] (fun v14 W => ∃ q : Nat, q ≤ l.length ∧ v14 = .int .i64 q ∧ Aside0 (HasB W w.heap.size 9 54 (cp l q)) ∧ Aside0 (Below w.heap.size w W)) (fun v14 _ => l.length - (intOf v14).toNat)
  case atStart => exact ⟨0, by omega, rfl, ⟨cp_zero w l⟩, ⟨(Below.refl _ w).alloc (Nat.le_refl _) _⟩⟩
  case round =>
    obtain ⟨q, hq, rfl, hB, hb⟩ := hrel
    by_cases hlt : q < l.length
    · obtain ⟨ad, hA, hc⟩ := TG_get (Kd.C_below HR.out hb.out) hlt
      subst hA
      have HC := hB.out.frozen q
      obtain ⟨v0, hv0⟩ : ∃ v, wr.cell? ⟨w.heap.size, q, none⟩ = some v := ⟨_, hB.out.cell (by omega)⟩
      have HS := Go.Lib.hid (hB.out.set (i := q) (by omega) (l.getD q 0))
      have HSE := Go.Lib.hid (fun j (_ : j < 9) => cp_succ l q j)
      have hq9 : q < 9 := by omega
      generalize l.getD q 0 = s at *
      go_wp2
      go_roundw
      case rel => exact ⟨q + 1, by omega, by go_num, ⟨HS.out.congr HSE.out⟩, ⟨hb.out.setCell (p := ⟨w.heap.size, q, none⟩) (Nat.le_refl _) _⟩⟩
      case measure => simp [intOf]; omega
    · obtain rfl : q = l.length := by omega
      go_wp2
      go_loopw [6] (fun v6 W => ∃ t : Nat, 1 ≤ t ∧ v6 = .int .i64 t ∧ Aside0 (HasB W w.heap.size 9 54 (dv l (t - 1))) ∧ Aside0 (t = 1 ∨ t ≤ l.length) ∧ Aside0 (Below w.heap.size w W)) (fun v6 _ => l.length - (intOf v6).toNat)
      case atStart => exact ⟨1, by omega, rfl, ⟨hB.out.congr fun j _ => cp_end l j⟩, ⟨.inl rfl⟩, hb⟩
      case round =>
        clear hb hB
        obtain ⟨t, ht, rfl, hB, hto, hb⟩ := hrel
        by_cases htl : t < l.length
        · go_wp2
          go_loopw [7] (fun v7 W => ∃ i : Nat, t ≤ i + 1 ∧ i + 1 ≤ l.length ∧ v7 = .int .i64 i ∧ Aside0 (HasB W w.heap.size 9 54 (mid l t i)) ∧ Aside0 (Below w.heap.size w W)) (fun v7 _ => (intOf v7).toNat)
          case atStart =>
            obtain ⟨n, hn⟩ : ∃ n, n + 1 = l.length := ⟨l.length - 1, by omega⟩
            refine ⟨n, by omega, by omega, ?_, ⟨hB.out.congr fun j _ => mid_start l ht hn j⟩, hb⟩
            rw [← hn]
            go_num
          case round =>
            clear hb hB
            obtain ⟨i, hi1, hi2, rfl, hB, hb⟩ := hrel
            by_cases hti : t ≤ i
            · obtain ⟨m, hm⟩ : ∃ m, i = m + 1 := ⟨i - 1, by omega⟩
              have hi9 : i < 9 := by omega
              have hm9 : m < 9 := by omega
              have ci := hB.out.cell hi9
              have cm := hB.out.cell hm9
              have fi := hB.out.frozen i
              rw [mid_here] at ci
              rw [mid_below l hm] at cm
              have HS := Go.Lib.hid (fun v => hB.out.set hi9 v)
              have HSE := Go.Lib.hid (fun j (_ : j < 9) => mid_succ l ht hm hti (by omega : i < l.length) j)
              generalize dv l (t - 1) i = a at *
              generalize dv l (t - 1) m = b at *
              have e1 := minus_f a b
              have e3 := times_f (elU (wrap64 (a - b))) (invT t)
              generalize elU (wrap64 (a - b)) = c at *
              generalize elU (wrap64 (c * invT t)) = c2 at *
              have HM := Go.Lib.hid (fun W => impl_element_minus.calls a b c W e1)
              have HV := Go.Lib.hid (fun W => impl_element_inverse.calls k t (invT t) W (HI.out t ht (by omega)))
              have HT := Go.Lib.hid (fun W => impl_element_times.calls c (invT t) c2 W e3)
              generalize invT t = z at *
              have hw : IntKind.i64.wrap ((i : Int) - 1) = (m : Int) := by rw [wrapN (by omega) (by omega)]; omega
              have hi9z : (i : Int) < 9 := by omega
              have hm9z : (m : Int) < 9 := by omega
              have HMI := Go.Lib.hid hm
              clear e1 e3 hm
              go_wp2
              go_region_with (first | (go_at_call 36; (with_reducible refine (HM.out _).mono ?_); rintro e w' ⟨rfl, ⟨nd, rfl⟩⟩) | (go_at_call 37; (with_reducible refine (HV.out _).mono ?_); rintro e w' ⟨rfl, ⟨nd, rfl⟩⟩) | (go_at_call 29; (with_reducible refine (HT.out _).mono ?_); rintro e w' ⟨rfl, ⟨nd, rfl⟩⟩))
              all_goals
                go_wp2
                go_roundw
                case rel => exact ⟨m, by have := HMI.out; omega, by have := HMI.out; omega, rfl, ⟨(HS.out c2).congr HSE.out⟩, ⟨(pw_below_drewN hb.out _).setCell (p := ⟨w.heap.size, i, none⟩) (Nat.le_refl _) _⟩⟩
                case measure => have := HMI.out; simp [intOf]; omega
            · obtain rfl : i = t - 1 := by omega
              have hbe := hB.out.congr fun j _ => mid_end l ht j
              have HBE := Go.Lib.hid hbe
              have hw : IntKind.i64.wrap ((t : Int) + 1) = ((t + 1 : Nat) : Int) := by rw [wrapN (by omega) (by omega)]; omega
              clear hbe
              go_wp2
              go_roundw
              case rel => exact ⟨t + 1, by omega, rfl, ⟨HBE.out⟩, ⟨.inr (by omega)⟩, hb⟩
              case measure => simp [intOf]; omega
        · have hd := hB.out.congr (g := dv l (l.length - 1)) fun j _ => by rw [show t - 1 = l.length - 1 by have := hto.out; omega]
          have HD := Aside0.mk hd
          have hmk := fun W => make_run W hz
          clear hd hB
          go_wp2
          have hO := made_has wr l.length
          have hDO : w.heap.size < wr.heap.size := HD.out.lt
          have HDO := Aside0.mk (HD.out.alloc (.cells (madeCells #[Value.int .i64 0] l.length) 3))
          have hbO : Below w.heap.size w (wr.alloc (.cells (madeCells #[Value.int .i64 0] l.length) 3)) := hb.out.alloc (by omega) _
          have hbO := Aside0.mk hbO
          have hO := Aside0.mk (show HasB _ wr.heap.size l.length 3 (oo (dv l (l.length - 1)) l.length 0) from hO.congr fun j _ => by simp [oo])
          generalize wr.alloc (.cells (madeCells #[Value.int .i64 0] l.length) 3) = W1 at *
          obtain ⟨O, hOe⟩ : ∃ O, O = wr.heap.size := ⟨_, rfl⟩
          rw [← hOe] at hO hDO ⊢
          obtain ⟨d, hd⟩ : ∃ d, dv l (l.length - 1) = d := ⟨_, rfl⟩
          have HDE := Go.Lib.hid hd
          rw [hd] at HDO hO
          clear HD hb hto hmk hd hOe
          go_loopw [9] (fun v9 W => ∃ q : Nat, q ≤ l.length ∧ v9 = .int .i64 ((l.length : Int) - 1 - q) ∧ Aside0 (HasB W w.heap.size 9 54 d) ∧ Aside0 (HasB W O l.length 3 (oo d l.length q)) ∧ Aside0 (Below w.heap.size w W)) (fun v9 _ => (intOf v9 + 1).toNat)
          case atStart => exact ⟨0, Nat.zero_le _, by simp, HDO, hO, hbO⟩
          case round =>
            clear HDO hO hbO
            obtain ⟨q, hq, rfl, hD, hO, hb⟩ := hrel
            by_cases hqn : q < l.length
            · obtain ⟨i, hi⟩ : ∃ i, i = l.length - 1 - q := ⟨_, rfl⟩
              have HOS := Go.Lib.hid (oo_succ d l.length q)
              rw [← hi] at HOS
              have hi9 : i < 9 := by omega
              have hi9z : (i : Int) < 9 := by omega
              have hiz : (l.length : Int) - 1 - q = (i : Int) := by omega
              have HII := Go.Lib.hid hi
              rw [hiz]
              have hneg : IntKind.i64.wrap (-(i : Int)) = -(i : Int) := wrapN (by omega) (by omega)
              have HE := Go.Lib.hid (fun W => impl_elementOf.calls (-(i : Int)) _ W (of_f _))
              generalize elU (-(i : Int)) = z at *
              clear hi hiz
              obtain ⟨o, ho⟩ : ∃ o, oo d l.length q = o := ⟨_, rfl⟩
              rw [ho] at hO HOS
              go_wp2
              go_loopw [10] (fun v10 W => ∃ kk : Nat, kk ≤ l.length ∧ v10 = .int .i64 ((kk : Int) - 1) ∧ Aside0 (HasB W w.heap.size 9 54 d) ∧ Aside0 (HasB W O l.length 3 (inn o z kk)) ∧ Aside0 (Below w.heap.size w W)) (fun v10 _ => (intOf v10 + 1).toNat)
              case atStart => exact ⟨l.length, Nat.le_refl _, rfl, hD, ⟨hO.out.congr fun j hj => inn_start o z hj⟩, hb⟩
              case round =>
                clear hD hO hb
                obtain ⟨kk, hkk, rfl, hD, hO, hb⟩ := hrel
                cases kk with
                | zero =>
                  rw [inn_zero] at hO
                  rw [show ((0 : Nat) : Int) - 1 = -1 from rfl]
                  have h0l : 0 < l.length := by omega
                  have h0lz : (0 : Int) < (l.length : Int) := by omega
                  have c0 := hO.out.cell h0l
                  have f0 := hO.out.frozen 0
                  have ci := hD.out.cell hi9
                  have e2 := plus_f (nw o z 0) (d i)
                  have HS := Go.Lib.hid (hO.out.set h0l (elU (wrap64 (nw o z 0 + d i))))
                  have HSE := Go.Lib.hid (fun j (_ : j < l.length) => HOS.out j)
                  obtain ⟨c2, hc2⟩ : ∃ c2, elU (wrap64 (nw o z 0 + d i)) = c2 := ⟨_, rfl⟩
                  rw [hc2] at e2 HS HSE
                  have HP := Go.Lib.hid (fun W => impl_element_plus.calls (nw o z 0) (d i) c2 W e2)
                  have hwi : IntKind.i64.wrap ((i : Int) - 1) = (i : Int) - 1 := wrapN (by omega) (by omega)
                  generalize nw o z 0 = x at *
                  generalize d i = y at *
                  clear e2 hc2
                  go_wp2
                  go_region_with (go_at_call 27; (with_reducible refine (HP.out _).mono ?_); rintro e w' ⟨rfl, ⟨nd, rfl⟩⟩)
                  all_goals
                    go_wp2
                    go_roundw
                    case rel => exact ⟨q + 1, by omega, by have := HII.out; (congr 1; omega), ⟨(hD.out.drewN _).other (by show w.heap.size ≠ O; omega)⟩, ⟨HS.out.congr HSE.out⟩, ⟨(pw_below_drewN hb.out _).setCell (p := ⟨O, 0, none⟩) (by show w.heap.size ≤ O; omega) _⟩⟩
                    case measure => have := HII.out; simp [intOf]
                | succ j =>
                  have hjl : j < l.length := by omega
                  have hjlz : (j : Int) < (l.length : Int) := by omega
                  have hjz : ((j + 1 : Nat) : Int) - 1 = (j : Int) := by omega
                  rw [hjz]
                  have hwj : IntKind.i64.wrap ((j : Int) - 1) = (j : Int) - 1 := wrapN (by omega) (by omega)
                  have cj := hO.out.cell hjl
                  have fj := hO.out.frozen j
                  have HS := Go.Lib.hid (hO.out.set hjl (nw o z j))
                  have HSE := Go.Lib.hid (fun i (_ : i < l.length) => inn_succ o z j i)
                  rw [inn_here] at cj
                  have e1 := times_f (o j) z
                  obtain ⟨c1, hc1⟩ : ∃ c1, elU (wrap64 (o j * z)) = c1 := ⟨_, rfl⟩
                  rw [hc1] at e1
                  have HT := Go.Lib.hid (fun W => impl_element_times.calls (o j) z c1 W e1)
                  have HJZ := Go.Lib.hid hjz
                  by_cases hj0 : j = 0
                  · have hj1 : (j : Int) ≤ 0 := by omega
                    have hj2 : ¬ (0 : Int) < (j : Int) := by omega
                    have HV := Go.Lib.hid (show nw o z j = c1 by subst hj0; exact hc1)
                    generalize o j = x at *
                    clear hj0 e1 hc1 hjz
                    go_wp2
                    go_region_with (first | (go_at_call 38; (with_reducible refine (HE.out _).mono ?_); rintro e w' ⟨rfl, ⟨nd, rfl⟩⟩) | (go_at_call 29; (with_reducible refine (HT.out _).mono ?_); rintro e w' ⟨rfl, ⟨nd, rfl⟩⟩))
                    all_goals
                      go_wp2
                      go_roundw
                      case rel => exact ⟨j, by omega, rfl, ⟨(hD.out.drewN _).other (by show w.heap.size ≠ O; omega)⟩, ⟨by rw [← HV.out]; exact (HS.out).congr HSE.out⟩, ⟨(pw_below_drewN hb.out _).setCell (p := ⟨O, j, none⟩) (by show w.heap.size ≤ O; omega) _⟩⟩
                      case measure => simp [intOf]
                  · obtain ⟨m, hm⟩ : ∃ m, j = m + 1 := ⟨j - 1, by omega⟩
                    have hj2 : (0 : Int) < (j : Int) := by omega
                    have hj3 : ¬ (j : Int) ≤ 0 := by omega
                    have hml : m < l.length := by omega
                    have hmlz : (m : Int) < (l.length : Int) := by omega
                    have cm := hO.out.cell hml
                    rw [hm, inn_below] at cm
                    have hwm : IntKind.i64.wrap ((j : Int) - 1) = (m : Int) := by rw [wrapN (by omega) (by omega)]; omega
                    have e2 := plus_f c1 (o m)
                    obtain ⟨c2, hc2⟩ : ∃ c2, elU (wrap64 (c1 + o m)) = c2 := ⟨_, rfl⟩
                    rw [hc2] at e2
                    have HP := Go.Lib.hid (fun W => impl_element_plus.calls c1 (o m) c2 W e2)
                    have HMJ := Go.Lib.hid (show (m : Int) = (j : Int) - 1 by omega)
                    have HV := Go.Lib.hid (show nw o z j = c2 by subst hm; rw [← hc2, ← hc1]; rfl)
                    generalize o j = x at *
                    generalize o m = y at *
                    clear hj0 e1 hc1 hjz hm e2 hc2 hwj
                    go_wp2
                    go_region_with (first | (go_at_call 38; (with_reducible refine (HE.out _).mono ?_); rintro e w' ⟨rfl, ⟨nd, rfl⟩⟩) | (go_at_call 29; (with_reducible refine (HT.out _).mono ?_); rintro e w' ⟨rfl, ⟨nd, rfl⟩⟩))
                    all_goals
                      go_wp2_with (go_at_call 27; (with_reducible refine (HP.out _).mono ?_); rintro e w' ⟨rfl, ⟨nd, rfl⟩⟩)
                      go_roundw
                      case rel => exact ⟨j, by omega, by rw [HMJ.out], ⟨(hD.out.drewN _).other (by show w.heap.size ≠ O; omega)⟩, ⟨by rw [← HV.out]; exact (HS.out).congr HSE.out⟩, ⟨(pw_below_drewN hb.out _).setCell (p := ⟨O, j, none⟩) (by show w.heap.size ≤ O; omega) _⟩⟩
                      case measure => have := HMJ.out; simp [intOf]; omega
            · obtain rfl : q = l.length := by omega
              rw [show (l.length : Int) - 1 - (l.length : Int) = -1 by omega]
              have HR2 := Go.Lib.hid (hO.out.row (base := w.heap.size) (by omega) hz)
              go_wp2
              go_ret
              refine ⟨_, rfl, ?_, hb.out⟩
              show Kd.R (Kd.int .i64) 3 wr w.heap.size (fun _ => True) _ ((List.range l.length).map (oo (dv l (l.length - 1)) l.length l.length))
              rw [HDE.out]
              exact HR2.out
end ThroughGiv
def impl_through.f (k : Nat) (l0 : List Int) : Option (List Int) := if l0.length ≤ 9 ∧ ∀ s ∈ List.range 9, 1 ≤ s → impl_element_inverse.f k (s : Int) = some (ThroughGiv.invT s) then some (ThroughGiv.thr l0) else none
theorem impl_through.mono : ∀ l0 k, LeO (impl_through.f k l0) (impl_through.f (k + 1) l0) := fun l0 k r h => by
  unfold impl_through.f at *
  split at h
  · rename_i hh
    rw [if_pos ⟨hh.1, fun s hs h1 => impl_element_inverse.mono _ k _ (hh.2 s hs h1)⟩]
    exact h
  · cases h
theorem impl_through.calls (k : Nat) (A0 : Option Addr) (c0 : Nat) (l0 : List Int) (r : List Int) (w : World) (hr0 : Kd.C (Kd.int .i64) w A0 l0.length l0) (hc0 : l0.length ≤ c0) (h : impl_through.f k l0 = some r) :
    Calls Try.prog 32 #[.slice A0 l0.length c0] w fun e w' => ∃ v0_ : Value, e = .returned (v0_) ∧ Kd.R (Kd.int .i64) 3 w' w.heap.size (fun _ => True) v0_ r ∧ Below w.heap.size w w' := by
  unfold impl_through.f at h
  split at h
  · rename_i hh
    obtain rfl := Option.some.inj h
    exact ThroughGiv.through_calls k (fun s h1 h2 => hh.2 s (List.mem_range.2 (by omega)) h1) A0 c0 l0 w hr0 hh.1
  · cases h

/-! ### impl_PolyThrough: function 17 -/
def impl_PolyThrough.f (k : Nat) (l0 : List Int) : Option (List Int) := (impl_PolyOk.f l0).bind fun t205 => (if t205 = true then ((impl_through.f k l0).bind fun t206 => (some t206)) else (some ([] : List Int)))
theorem impl_PolyThrough.mono : ∀ a0 k, LeO (impl_PolyThrough.f k a0) (impl_PolyThrough.f (k + 1) a0) := by
  intro a0 k
  unfold impl_PolyThrough.f
  repeat' first
      | (with_reducible exact impl_through.mono _ _)
      | (with_reducible exact LeO.refl _)
      | (with_reducible exact LeO.none _)
      | (with_reducible refine LeO.ite ?_ ?_)
      | (with_reducible refine LeO.bind ?_ (fun _ => ?_))
      | exact impl_through.mono _ _
      | exact LeO.none _
      | refine LeO.ite ?_ ?_
      | refine LeO.bind ?_ (fun _ => ?_)
set_option maxHeartbeats 8000000 in
set_option maxRecDepth 100000 in
theorem impl_PolyThrough.calls (k : Nat) (A0 : Option Addr) (c0 : Nat) (l0 : List Int) (r : List Int) (w : World) (hr0 : Kd.C (Kd.int .i64) w A0 l0.length l0) (hc0 : l0.length ≤ c0) (h : impl_PolyThrough.f k l0 = some r) :
    Calls Try.prog 17 #[.slice A0 l0.length c0] w fun e w' => ∃ v0_ : Value, e = .returned (v0_) ∧ Kd.R (Kd.int .i64) 3 w' w.heap.size (fun _ => True) v0_ r ∧ Below w.heap.size w w' := by
  have HR0 := Aside0.mk hr0
  have HC0 := Aside0.mk hc0
  clear hr0 hc0
  have HB := Aside0.mk (Below.refl w.heap.size w)
  have H : ((impl_PolyOk.f l0).bind fun t205 => (if t205 = true then ((impl_through.f k l0).bind fun t206 => (some t206)) else (some ([] : List Int)))) = some r := h
  clear h
  replace H := Option.bind_eq_some_iff.mp H
  obtain ⟨t205, A20, H⟩ := H
  replace H : (if t205 = true then ((impl_through.f k l0).bind fun t206 => (some t206)) else (some ([] : List Int))) = some r := H
  have A2 := Aside0.mk A20
  clear A20
  by_cases c3 : t205 = true
  · subst c3
    have H1 : ((impl_through.f k l0).bind fun t206 => (some t206)) = some r := by rw [if_pos rfl] at H; exact H
    clear H
    have H := H1
    clear H1
    replace H := Option.bind_eq_some_iff.mp H
    obtain ⟨t206, A40, H⟩ := H
    replace H : (some t206) = some r := H
    have A4 := Aside0.mk A40
    clear A40
    obtain rfl := Option.some.inj H
    go_enter Try.func17, Try.ntmps17
    go_wp2_with (first | ((with_reducible refine gate_callee (f := 30) rfl ?_); refine goesL_ (some 4) rfl rfl Try.func30 (by kernel_rfl) rfl #[.slice A0 l0.length c0] rfl (by (try simp only [List.map_toArray, List.map_cons, List.map_nil]); first | done | rfl | (simp only [List.length_drop, List.length_take]; rfl)) ?_; (with_reducible refine (impl_PolyOk.calls _ _ l0 true _ ?side1 ?side2 A2.out).mono ?_); (case side1 => repeat (first | exact HR0.out | (with_reducible refine Kd.C_alloc ?_ _) | (with_reducible refine Kd.C_drewN ?_ _) | (with_reducible refine Kd.C_drew ?_))); (case side2 => exact HC0.out); rintro e w5 ⟨rfl, hb⟩; refine ⟨_, rfl, ?_⟩; have n0_ := Aside0.mk (below_step (by repeat (first | (with_reducible first | exact HB.out | apply below_alloc | apply pw_below_drewN | apply below_drew1) | exact HB.out)) hb); clear HB; have HB := n0_; clear n0_; (try clear hb); (try clear hb2); (try clear hk); (try clear hi)) | ((with_reducible refine gate_callee (f := 32) rfl ?_); refine goesL_ (some 7) rfl rfl Try.func32 (by kernel_rfl) rfl #[.slice A0 l0.length c0] rfl (by (try simp only [List.map_toArray, List.map_cons, List.map_nil]); first | done | rfl | (simp only [List.length_drop, List.length_take]; rfl)) ?_; (with_reducible refine (impl_through.calls k _ _ l0 t206 _ ?side1 ?side2 A4.out).mono ?_); (case side1 => repeat (first | exact (Kd.C_below HR0.out HB.out) | (with_reducible refine Kd.C_alloc ?_ _) | (with_reducible refine Kd.C_drewN ?_ _) | (with_reducible refine Kd.C_drew ?_))); (case side2 => exact HC0.out); rintro e w6 ⟨v207, rfl, ho0, hb⟩; refine ⟨_, rfl, ?_⟩; have n0_ := Aside0.mk (Kd.R_lower ho0 (below_size (by repeat (first | (with_reducible first | exact HB.out | apply below_alloc | apply pw_below_drewN | apply below_drew1) | exact HB.out)))); have n1_ := Aside0.mk (below_step (by repeat (first | (with_reducible first | exact HB.out | apply below_alloc | apply pw_below_drewN | apply below_drew1) | exact HB.out)) hb); clear HB; have HO208 := n0_; have HB := n1_; clear n0_ n1_; (try clear hb); (try clear hb2); (try clear hk); (try clear hi); (try clear ho0)))
    go_ret
    exact ⟨_, by first | rfl | (simp [errW_none, errW_some] <;> rfl) | (simp [*, errW_none, errW_some] <;> rfl), by (with_reducible repeat (first | apply Kd.R_alloc | apply Kd.R_drewN | apply Kd.R_drew)); exact HO208.out, by repeat (first | (with_reducible first | exact HB.out | apply below_alloc | apply pw_below_drewN | apply below_drew1) | exact HB.out)⟩
  · replace c3 := Bool.eq_false_iff.mpr c3
    subst c3
    have H1 : (some ([] : List Int)) = some r := by rw [if_neg (show ¬ (false = true) by decide)] at H; exact H
    clear H
    have H := H1
    clear H1
    obtain rfl := Option.some.inj H
    go_enter Try.func17, Try.ntmps17
    go_wp2_with (first | ((with_reducible refine gate_callee (f := 30) rfl ?_); refine goesL_ (some 4) rfl rfl Try.func30 (by kernel_rfl) rfl #[.slice A0 l0.length c0] rfl (by (try simp only [List.map_toArray, List.map_cons, List.map_nil]); first | done | rfl | (simp only [List.length_drop, List.length_take]; rfl)) ?_; (with_reducible refine (impl_PolyOk.calls _ _ l0 false _ ?side1 ?side2 A2.out).mono ?_); (case side1 => repeat (first | exact HR0.out | (with_reducible refine Kd.C_alloc ?_ _) | (with_reducible refine Kd.C_drewN ?_ _) | (with_reducible refine Kd.C_drew ?_))); (case side2 => exact HC0.out); rintro e w7 ⟨rfl, hb⟩; refine ⟨_, rfl, ?_⟩; have n0_ := Aside0.mk (below_step (by repeat (first | (with_reducible first | exact HB.out | apply below_alloc | apply pw_below_drewN | apply below_drew1) | exact HB.out)) hb); clear HB; have HB := n0_; clear n0_; (try clear hb); (try clear hb2); (try clear hk); (try clear hi)))
    go_ret
    exact ⟨_, by first | rfl | (simp [errW_none, errW_some] <;> rfl) | (simp [*, errW_none, errW_some] <;> rfl), by first | exact Kd.R_nil _ _ _ _ _ | exact Kd.N_nil _ _ _ _ _ | exact Kd.V_nil _ _ _ _ _ | exact Kd.Q_nil _ _ _ _ _ | exact Kd.S_nil _ _ _ _ _, by repeat (first | (with_reducible first | exact HB.out | apply below_alloc | apply pw_below_drewN | apply below_drew1) | exact HB.out)⟩

/-! ### laws_FnLine: function 5 -/
mutual
def laws_FnLine.j0 : Nat → List Int → List Int → Bool → Option (Bool)
  | 0, _, _, _ => none
  | k + 1, x0, x1, x18 => if x18 = true then (some true) else ((spec_DrawPolyLine.f k x0).bind fun bt209 => ((impl_PolyLine.f k bt209.1 bt209.2).bind fun t211 => ((spec_PolyLine.f k bt209.1 bt209.2).bind fun t214 => ((laws_loInts.f k t211 t214).bind fun t217 => (if t217 = true then (laws_FnLine.j1 k x1 bt209.1 bt209.2 t211 ((t211.length : Int) == 0)) else (laws_FnLine.j1 k x1 bt209.1 bt209.2 t211 true))))))
def laws_FnLine.j1 : Nat → List Int → Int → Int → List Int → Bool → Option (Bool)
  | 0, _, _, _, _, _ => none
  | k + 1, x1, x5, x6, x7, x37 => if x37 = true then ((spec_PolyLine.f k x5 x6).bind fun t218 => ((laws_loInts.f k x7 t218).bind fun t221 => (some t221))) else ((laws_loSome.f k (x1.length : Int) x5).bind fun t222 => (laws_FnLine.l0 k x5 x6 x7 t222 0 0))
def laws_FnLine.l0 : Nat → Int → Int → List Int → List Int → Int → Int → Option (Bool)
  | 0, _, _, _, _, _, _ => none
  | k + 1, x5, x6, x7, x8, x9, x10 => if x10 < x5 then (if 0 ≤ x10 then (if x10 < (x7.length : Int) then (if x10 < (x8.length : Int) then ((impl_FieldMul.f (rd x7 x10) (rd x8 x10)).bind fun t227 => ((impl_FieldSum.f x9 t227).bind fun t228 => (laws_FnLine.l0 k x5 x6 x7 x8 t228 (wrap64 (x10 + 1))))) else (none)) else (none)) else (none)) else ((impl_PolyThrough.f k x8).bind fun t229 => ((impl_PolyAt.f t229 x6).bind fun t232 => (if x9 = t232 then (some ((x7.length : Int) == x5)) else (some false))))
end
def laws_FnLine.f (k : Nat) (l0 : List Int) (l1 : List Int) : Option (Bool) := if (l0.length : Int) > 1048576 then (laws_FnLine.j0 k l0 l1 true) else (laws_FnLine.j0 k l0 l1 (decide ((l1.length : Int) > 1048576)))
theorem laws_FnLine.mono_l : ∀ k, (∀ y0 y1 y2, LeO (laws_FnLine.j0 k y0 y1 y2) (laws_FnLine.j0 (k + 1) y0 y1 y2)) ∧ (∀ y0 y1 y2 y3 y4, LeO (laws_FnLine.j1 k y0 y1 y2 y3 y4) (laws_FnLine.j1 (k + 1) y0 y1 y2 y3 y4)) ∧ (∀ y0 y1 y2 y3 y4 y5, LeO (laws_FnLine.l0 k y0 y1 y2 y3 y4 y5) (laws_FnLine.l0 (k + 1) y0 y1 y2 y3 y4 y5))
  | 0 => ⟨fun _ _ _ r h => by simp [laws_FnLine.j0] at h, fun _ _ _ _ _ r h => by simp [laws_FnLine.j1] at h, fun _ _ _ _ _ _ r h => by simp [laws_FnLine.l0] at h⟩
  | k + 1 => by
    obtain ⟨ih0, ih1, ih2⟩ := laws_FnLine.mono_l k
    refine ⟨?_, ?_, ?_⟩
    · intro y0 y1 y2
      unfold laws_FnLine.j0
      repeat' first
      | (with_reducible exact ih0 _ _ _)
      | (with_reducible exact ih1 _ _ _ _ _)
      | (with_reducible exact ih2 _ _ _ _ _ _)
      | (with_reducible exact impl_PolyLine.mono _ _ _)
      | (with_reducible exact impl_PolyThrough.mono _ _)
      | (with_reducible exact laws_loInts.mono _ _ _)
      | (with_reducible exact laws_loSome.mono _ _ _)
      | (with_reducible exact spec_DrawPolyLine.mono _ _)
      | (with_reducible exact spec_PolyLine.mono _ _ _)
      | (with_reducible exact LeO.refl _)
      | (with_reducible exact LeO.none _)
      | (with_reducible refine LeO.ite ?_ ?_)
      | (with_reducible refine LeO.bind ?_ (fun _ => ?_))
      | exact ih0 _ _ _
      | exact ih1 _ _ _ _ _
      | exact ih2 _ _ _ _ _ _
      | exact impl_PolyLine.mono _ _ _
      | exact impl_PolyThrough.mono _ _
      | exact laws_loInts.mono _ _ _
      | exact laws_loSome.mono _ _ _
      | exact spec_DrawPolyLine.mono _ _
      | exact spec_PolyLine.mono _ _ _
      | exact LeO.none _
      | refine LeO.ite ?_ ?_
      | refine LeO.bind ?_ (fun _ => ?_)
    · intro y0 y1 y2 y3 y4
      unfold laws_FnLine.j1
      repeat' first
      | (with_reducible exact ih0 _ _ _)
      | (with_reducible exact ih1 _ _ _ _ _)
      | (with_reducible exact ih2 _ _ _ _ _ _)
      | (with_reducible exact impl_PolyLine.mono _ _ _)
      | (with_reducible exact impl_PolyThrough.mono _ _)
      | (with_reducible exact laws_loInts.mono _ _ _)
      | (with_reducible exact laws_loSome.mono _ _ _)
      | (with_reducible exact spec_DrawPolyLine.mono _ _)
      | (with_reducible exact spec_PolyLine.mono _ _ _)
      | (with_reducible exact LeO.refl _)
      | (with_reducible exact LeO.none _)
      | (with_reducible refine LeO.ite ?_ ?_)
      | (with_reducible refine LeO.bind ?_ (fun _ => ?_))
      | exact ih0 _ _ _
      | exact ih1 _ _ _ _ _
      | exact ih2 _ _ _ _ _ _
      | exact impl_PolyLine.mono _ _ _
      | exact impl_PolyThrough.mono _ _
      | exact laws_loInts.mono _ _ _
      | exact laws_loSome.mono _ _ _
      | exact spec_DrawPolyLine.mono _ _
      | exact spec_PolyLine.mono _ _ _
      | exact LeO.none _
      | refine LeO.ite ?_ ?_
      | refine LeO.bind ?_ (fun _ => ?_)
    · intro y0 y1 y2 y3 y4 y5
      unfold laws_FnLine.l0
      repeat' first
      | (with_reducible exact ih0 _ _ _)
      | (with_reducible exact ih1 _ _ _ _ _)
      | (with_reducible exact ih2 _ _ _ _ _ _)
      | (with_reducible exact impl_PolyLine.mono _ _ _)
      | (with_reducible exact impl_PolyThrough.mono _ _)
      | (with_reducible exact laws_loInts.mono _ _ _)
      | (with_reducible exact laws_loSome.mono _ _ _)
      | (with_reducible exact spec_DrawPolyLine.mono _ _)
      | (with_reducible exact spec_PolyLine.mono _ _ _)
      | (with_reducible exact LeO.refl _)
      | (with_reducible exact LeO.none _)
      | (with_reducible refine LeO.ite ?_ ?_)
      | (with_reducible refine LeO.bind ?_ (fun _ => ?_))
      | exact ih0 _ _ _
      | exact ih1 _ _ _ _ _
      | exact ih2 _ _ _ _ _ _
      | exact impl_PolyLine.mono _ _ _
      | exact impl_PolyThrough.mono _ _
      | exact laws_loInts.mono _ _ _
      | exact laws_loSome.mono _ _ _
      | exact spec_DrawPolyLine.mono _ _
      | exact spec_PolyLine.mono _ _ _
      | exact LeO.none _
      | refine LeO.ite ?_ ?_
      | refine LeO.bind ?_ (fun _ => ?_)
theorem laws_FnLine.mono : ∀ a0 a1 k, LeO (laws_FnLine.f k a0 a1) (laws_FnLine.f (k + 1) a0 a1) := by
  intro a0 a1 k
  obtain ⟨ih0, ih1, ih2⟩ := laws_FnLine.mono_l k
  unfold laws_FnLine.f
  repeat' first
      | (with_reducible exact ih0 _ _ _)
      | (with_reducible exact ih1 _ _ _ _ _)
      | (with_reducible exact ih2 _ _ _ _ _ _)
      | (with_reducible exact impl_PolyLine.mono _ _ _)
      | (with_reducible exact impl_PolyThrough.mono _ _)
      | (with_reducible exact laws_loInts.mono _ _ _)
      | (with_reducible exact laws_loSome.mono _ _ _)
      | (with_reducible exact spec_DrawPolyLine.mono _ _)
      | (with_reducible exact spec_PolyLine.mono _ _ _)
      | (with_reducible exact LeO.refl _)
      | (with_reducible exact LeO.none _)
      | (with_reducible refine LeO.ite ?_ ?_)
      | (with_reducible refine LeO.bind ?_ (fun _ => ?_))
      | exact ih0 _ _ _
      | exact ih1 _ _ _ _ _
      | exact ih2 _ _ _ _ _ _
      | exact impl_PolyLine.mono _ _ _
      | exact impl_PolyThrough.mono _ _
      | exact laws_loInts.mono _ _ _
      | exact laws_loSome.mono _ _ _
      | exact spec_DrawPolyLine.mono _ _
      | exact spec_PolyLine.mono _ _ _
      | exact LeO.none _
      | refine LeO.ite ?_ ?_
      | refine LeO.bind ?_ (fun _ => ?_)
set_option maxHeartbeats 8000000 in
set_option maxRecDepth 100000 in
theorem laws_FnLine.calls (k : Nat) (A0 : Option Addr) (c0 : Nat) (l0 : List Int) (A1 : Option Addr) (c1 : Nat) (l1 : List Int) (r : Bool) (w : World) (hr0 : Kd.C (Kd.int .u8) w A0 l0.length l0) (hc0 : l0.length ≤ c0) (hr1 : Kd.C (Kd.int .u8) w A1 l1.length l1) (hc1 : l1.length ≤ c1) (h : laws_FnLine.f k l0 l1 = some r) (hrt : r = true) :
    Calls Try.prog 5 #[.slice A0 l0.length c0, .slice A1 l1.length c1] w fun e w' => e = .returned (.bool r) ∧ Below w.heap.size w w' := by
  have HRT := Aside0.mk hrt
  clear hrt
  have HR0 := Aside0.mk hr0
  have HC0 := Aside0.mk hc0
  clear hr0 hc0
  have HR1 := Aside0.mk hr1
  have HC1 := Aside0.mk hc1
  clear hr1 hc1
  have HB := Aside0.mk (Below.refl w.heap.size w)
  have H : (if (l0.length : Int) > 1048576 then (laws_FnLine.j0 k l0 l1 true) else (laws_FnLine.j0 k l0 l1 (decide ((l1.length : Int) > 1048576)))) = some r := h
  clear h
  have HC3 := Aside0.mk H
  clear H
  go_enter Try.func5, Try.ntmps5
  go_upto_region 1 with (fail)
  repeat (go_quiet (fail); go_upto_region 1 with (fail))
  go_cut [18] (fun v18 wc => ∃ (kq : Nat) (x18_2 : Bool), v18 = .bool x18_2 ∧ Aside0 (laws_FnLine.j0 kq l0 l1 x18_2 = some r) ∧ Aside0 (kq ≤ k) ∧ Aside0 (Below w.heap.size w wc))
  case first =>
    have H := HC3.out
    clear HC3
    by_cases c4 : (l0.length : Int) > 1048576
    · rw [if_pos c4] at H
      have c4b0 : decide (1048576 < (l0.length : Int)) = true := decide_eq_true c4
      have c4b1 : decide (1048576 < l0.length) = true := decide_eq_true (by omega)
      clear c4
      (first | rw [c4b0] | (simp only [i64_w, i32_w]; rw [c4b0]) | skip)
      have H' := Aside0.mk H
      clear H
      go_wp2
      repeat (go_quiet (fail); try go_wp2)
      go_meet
      case rel => exact ⟨_, (true), (by first | rfl | (simp; done) | (simp [*]; done)), H', ⟨by first | omega | exact Nat.le_refl _⟩, ⟨by repeat (first | (with_reducible first | exact HB.out | apply below_alloc | apply pw_below_drewN | apply below_drew1) | exact HB.out)⟩⟩
    · rw [if_neg c4] at H
      have c4b0 : decide (1048576 < (l0.length : Int)) = false := decide_eq_false c4
      have c4b1 : decide (1048576 < l0.length) = false := decide_eq_false (by omega)
      clear c4
      (first | rw [c4b0] | (simp only [i64_w, i32_w]; rw [c4b0]) | skip)
      have H' := Aside0.mk H
      clear H
      go_wp2
      repeat (go_quiet (fail); try go_wp2)
      go_meet
      case rel => exact ⟨_, (decide ((l1.length : Int) > 1048576)), (by first | rfl | (simp; done) | (simp [*]; done)), H', ⟨by first | omega | exact Nat.le_refl _⟩, ⟨by repeat (first | (with_reducible first | exact HB.out | apply below_alloc | apply pw_below_drewN | apply below_drew1) | exact HB.out)⟩⟩
  case rest =>
    clear HC3
    try clear c1
    try clear p2
    try clear c4
    try clear c4b0
    try clear c4b1
    obtain ⟨kq, x18_2, rfl, HA, HJ2, HB⟩ := hcut
    cases kq with
    | zero => exact absurd HA.out (by simp [laws_FnLine.j0])
    | succ kj2 =>
      have H := HA.out
      clear HA
      simp only [laws_FnLine.j0] at H
      by_cases c5 : x18_2 = true
      · subst c5
        have H1 : (some true) = some r := by rw [if_pos rfl] at H; exact H
        clear H
        have H := H1
        clear H1
        obtain rfl := Option.some.inj H
        go_wp2
        repeat (go_quiet (fail); try go_wp2)
        go_ret
        exact ⟨by first | rfl | (simp [errW_none, errW_some] <;> rfl) | (simp [*, errW_none, errW_some] <;> rfl), by repeat (first | (with_reducible first | exact HB.out | apply below_alloc | apply pw_below_drewN | apply below_drew1) | exact HB.out)⟩
      · replace c5 := Bool.eq_false_iff.mpr c5
        subst c5
        have H1 : ((spec_DrawPolyLine.f kj2 l0).bind fun bt209 => ((impl_PolyLine.f kj2 bt209.1 bt209.2).bind fun t211 => ((spec_PolyLine.f kj2 bt209.1 bt209.2).bind fun t214 => ((laws_loInts.f kj2 t211 t214).bind fun t217 => (if t217 = true then (laws_FnLine.j1 kj2 l1 bt209.1 bt209.2 t211 ((t211.length : Int) == 0)) else (laws_FnLine.j1 kj2 l1 bt209.1 bt209.2 t211 true)))))) = some r := by rw [if_neg (show ¬ (false = true) by decide)] at H; exact H
        clear H
        have H := H1
        clear H1
        replace H := Option.bind_eq_some_iff.mp H
        obtain ⟨⟨t209, t210⟩, A60, H⟩ := H
        replace H : ((impl_PolyLine.f kj2 t209 t210).bind fun t211 => ((spec_PolyLine.f kj2 t209 t210).bind fun t214 => ((laws_loInts.f kj2 t211 t214).bind fun t217 => (if t217 = true then (laws_FnLine.j1 kj2 l1 t209 t210 t211 ((t211.length : Int) == 0)) else (laws_FnLine.j1 kj2 l1 t209 t210 t211 true))))) = some r := H
        have A6 := Aside0.mk A60
        clear A60
        replace H := Option.bind_eq_some_iff.mp H
        obtain ⟨t211, A70, H⟩ := H
        replace H : ((spec_PolyLine.f kj2 t209 t210).bind fun t214 => ((laws_loInts.f kj2 t211 t214).bind fun t217 => (if t217 = true then (laws_FnLine.j1 kj2 l1 t209 t210 t211 ((t211.length : Int) == 0)) else (laws_FnLine.j1 kj2 l1 t209 t210 t211 true)))) = some r := H
        have A7 := Aside0.mk A70
        clear A70
        have HC8 := Aside0.mk H
        clear H
        go_upto_region 5 with (first | (go_at_call 11; (with_reducible refine (spec_DrawPolyLine.calls kj2 _ _ l0 t209 t210 _ ?side1 ?side2 A6.out).mono ?_); (case side1 => repeat (first | exact (Kd.C_below HR0.out HB.out) | (with_reducible refine Kd.C_alloc ?_ _) | (with_reducible refine Kd.C_drewN ?_ _) | (with_reducible refine Kd.C_drew ?_))); (case side2 => exact HC0.out); rintro e w9 ⟨rfl, hb⟩; have n0_ := Aside0.mk (below_step (by repeat (first | (with_reducible first | exact HB.out | apply below_alloc | apply pw_below_drewN | apply below_drew1) | exact HB.out)) hb); clear HB; have HB := n0_; clear n0_; (try clear hb); (try clear hb2); (try clear hk); (try clear hi)) | (go_at_call 7; (with_reducible refine (impl_PolyLine.calls kj2 t209 t210 t211 _ A7.out).mono ?_); rintro e w10 ⟨v212, rfl, ho0, hb⟩; have n0_ := Aside0.mk (Kd.R_lower ho0 (below_size (by repeat (first | (with_reducible first | exact HB.out | apply below_alloc | apply pw_below_drewN | apply below_drew1) | exact HB.out)))); have n1_ := Aside0.mk (below_step (by repeat (first | (with_reducible first | exact HB.out | apply below_alloc | apply pw_below_drewN | apply below_drew1) | exact HB.out)) hb); clear HB; have HO213 := n0_; have HB := n1_; clear n0_ n1_; (try clear hb); (try clear hb2); (try clear hk); (try clear hi); (try clear ho0)))
        repeat (go_quiet (first | (go_at_call 11; (with_reducible refine (spec_DrawPolyLine.calls kj2 _ _ l0 t209 t210 _ ?side1 ?side2 A6.out).mono ?_); (case side1 => repeat (first | exact (Kd.C_below HR0.out HB.out) | (with_reducible refine Kd.C_alloc ?_ _) | (with_reducible refine Kd.C_drewN ?_ _) | (with_reducible refine Kd.C_drew ?_))); (case side2 => exact HC0.out); rintro e w9 ⟨rfl, hb⟩; have n0_ := Aside0.mk (below_step (by repeat (first | (with_reducible first | exact HB.out | apply below_alloc | apply pw_below_drewN | apply below_drew1) | exact HB.out)) hb); clear HB; have HB := n0_; clear n0_; (try clear hb); (try clear hb2); (try clear hk); (try clear hi)) | (go_at_call 7; (with_reducible refine (impl_PolyLine.calls kj2 t209 t210 t211 _ A7.out).mono ?_); rintro e w10 ⟨v212, rfl, ho0, hb⟩; have n0_ := Aside0.mk (Kd.R_lower ho0 (below_size (by repeat (first | (with_reducible first | exact HB.out | apply below_alloc | apply pw_below_drewN | apply below_drew1) | exact HB.out)))); have n1_ := Aside0.mk (below_step (by repeat (first | (with_reducible first | exact HB.out | apply below_alloc | apply pw_below_drewN | apply below_drew1) | exact HB.out)) hb); clear HB; have HO213 := n0_; have HB := n1_; clear n0_ n1_; (try clear hb); (try clear hb2); (try clear hk); (try clear hi); (try clear ho0))); go_upto_region 5 with (first | (go_at_call 11; (with_reducible refine (spec_DrawPolyLine.calls kj2 _ _ l0 t209 t210 _ ?side1 ?side2 A6.out).mono ?_); (case side1 => repeat (first | exact (Kd.C_below HR0.out HB.out) | (with_reducible refine Kd.C_alloc ?_ _) | (with_reducible refine Kd.C_drewN ?_ _) | (with_reducible refine Kd.C_drew ?_))); (case side2 => exact HC0.out); rintro e w9 ⟨rfl, hb⟩; have n0_ := Aside0.mk (below_step (by repeat (first | (with_reducible first | exact HB.out | apply below_alloc | apply pw_below_drewN | apply below_drew1) | exact HB.out)) hb); clear HB; have HB := n0_; clear n0_; (try clear hb); (try clear hb2); (try clear hk); (try clear hi)) | (go_at_call 7; (with_reducible refine (impl_PolyLine.calls kj2 t209 t210 t211 _ A7.out).mono ?_); rintro e w10 ⟨v212, rfl, ho0, hb⟩; have n0_ := Aside0.mk (Kd.R_lower ho0 (below_size (by repeat (first | (with_reducible first | exact HB.out | apply below_alloc | apply pw_below_drewN | apply below_drew1) | exact HB.out)))); have n1_ := Aside0.mk (below_step (by repeat (first | (with_reducible first | exact HB.out | apply below_alloc | apply pw_below_drewN | apply below_drew1) | exact HB.out)) hb); clear HB; have HO213 := n0_; have HB := n1_; clear n0_ n1_; (try clear hb); (try clear hb2); (try clear hk); (try clear hi); (try clear ho0))))
        (try simp only [Act.put, List.setIfInBounds_toArray, List.set_cons_zero, List.set_cons_succ])
        go_cut [37] (fun v37 wc => ∃ (kq : Nat) (x37_7 : Bool), v37 = .bool x37_7 ∧ Aside0 (laws_FnLine.j1 kq l1 t209 t210 t211 x37_7 = some r) ∧ Aside0 (kq ≤ kj2) ∧ Aside0 (Kd.R (Kd.int .i64) 3 wc w.heap.size (fun _ => True) v212 t211) ∧ Aside0 (Below w.heap.size w wc))
        case first =>
          have H := HC8.out
          clear HC8
          replace H := Option.bind_eq_some_iff.mp H
          obtain ⟨t214, A110, H⟩ := H
          replace H : ((laws_loInts.f kj2 t211 t214).bind fun t217 => (if t217 = true then (laws_FnLine.j1 kj2 l1 t209 t210 t211 ((t211.length : Int) == 0)) else (laws_FnLine.j1 kj2 l1 t209 t210 t211 true))) = some r := H
          have A11 := Aside0.mk A110
          clear A110
          replace H := Option.bind_eq_some_iff.mp H
          obtain ⟨t217, A120, H⟩ := H
          replace H : (if t217 = true then (laws_FnLine.j1 kj2 l1 t209 t210 t211 ((t211.length : Int) == 0)) else (laws_FnLine.j1 kj2 l1 t209 t210 t211 true)) = some r := H
          have A12 := Aside0.mk A120
          clear A120
          by_cases c13 : t217 = true
          · subst c13
            have H1 : (laws_FnLine.j1 kj2 l1 t209 t210 t211 ((t211.length : Int) == 0)) = some r := by rw [if_pos rfl] at H; exact H
            clear H
            have H := H1
            clear H1
            have H' := Aside0.mk H
            clear H
            go_wp2_with (first | (go_at_call 6; (with_reducible refine (spec_PolyLine.calls kj2 t209 t210 t214 _ A11.out).mono ?_); rintro e w14 ⟨v215, rfl, ho0, hb⟩; have n0_ := Aside0.mk (Kd.R_elder' (by (with_reducible repeat (first | apply Kd.R_alloc | apply Kd.R_drewN | apply Kd.R_drew)); exact HO213.out) (Kd.R_base ho0) hb); have n1_ := Aside0.mk (Kd.R_lower (Kd.R_new' ho0 (Kd.R_lt (by (with_reducible repeat (first | apply Kd.R_alloc | apply Kd.R_drewN | apply Kd.R_drew)); exact HO213.out))) (below_size (by repeat (first | (with_reducible first | exact HB.out | apply below_alloc | apply pw_below_drewN | apply below_drew1) | exact HB.out)))); have n2_ := Aside0.mk (below_step (by repeat (first | (with_reducible first | exact HB.out | apply below_alloc | apply pw_below_drewN | apply below_drew1) | exact HB.out)) hb); clear HO213; clear HB; have HO213 := n0_; have HO216 := n1_; have HB := n2_; clear n0_ n1_ n2_; (try clear hb); (try clear hb2); (try clear hk); (try clear hi); (try clear ho0); obtain ⟨Ao15, co15, eo15⟩ := Kd.R_slice HO213.out; subst eo15; obtain ⟨Ao16, co16, eo16⟩ := Kd.R_slice HO216.out; subst eo16) | (go_at_call 12; (with_reducible refine (laws_loInts.calls kj2 _ _ t211 _ _ t214 true _ ?side1 ?side2 ?side3 ?side4 A12.out).mono ?_); (case side1 => repeat (first | exact (Kd.R_reads' HO213.out).2.2 | (with_reducible refine Kd.C_alloc ?_ _) | (with_reducible refine Kd.C_drewN ?_ _) | (with_reducible refine Kd.C_drew ?_))); (case side2 => exact (Kd.R_reads' HO213.out).2.1); (case side3 => repeat (first | exact (Kd.R_reads' HO216.out).2.2 | (with_reducible refine Kd.C_alloc ?_ _) | (with_reducible refine Kd.C_drewN ?_ _) | (with_reducible refine Kd.C_drew ?_))); (case side4 => exact (Kd.R_reads' HO216.out).2.1); rintro e w' ⟨rfl, ⟨nd, rfl⟩⟩; (try first | exact ⟨rfl, _, World.drewN_drewN _ _ _⟩ | exact ⟨rfl, _, Eq.trans (World.drewN_drewN _ _ _) (congrArg (World.drewN _) (Nat.add_assoc _ _ _))⟩)))
            repeat (go_quiet (first | (go_at_call 6; (with_reducible refine (spec_PolyLine.calls kj2 t209 t210 t214 _ A11.out).mono ?_); rintro e w14 ⟨v215, rfl, ho0, hb⟩; have n0_ := Aside0.mk (Kd.R_elder' (by (with_reducible repeat (first | apply Kd.R_alloc | apply Kd.R_drewN | apply Kd.R_drew)); exact HO213.out) (Kd.R_base ho0) hb); have n1_ := Aside0.mk (Kd.R_lower (Kd.R_new' ho0 (Kd.R_lt (by (with_reducible repeat (first | apply Kd.R_alloc | apply Kd.R_drewN | apply Kd.R_drew)); exact HO213.out))) (below_size (by repeat (first | (with_reducible first | exact HB.out | apply below_alloc | apply pw_below_drewN | apply below_drew1) | exact HB.out)))); have n2_ := Aside0.mk (below_step (by repeat (first | (with_reducible first | exact HB.out | apply below_alloc | apply pw_below_drewN | apply below_drew1) | exact HB.out)) hb); clear HO213; clear HB; have HO213 := n0_; have HO216 := n1_; have HB := n2_; clear n0_ n1_ n2_; (try clear hb); (try clear hb2); (try clear hk); (try clear hi); (try clear ho0); obtain ⟨Ao15, co15, eo15⟩ := Kd.R_slice HO213.out; subst eo15; obtain ⟨Ao16, co16, eo16⟩ := Kd.R_slice HO216.out; subst eo16) | (go_at_call 12; (with_reducible refine (laws_loInts.calls kj2 _ _ t211 _ _ t214 true _ ?side1 ?side2 ?side3 ?side4 A12.out).mono ?_); (case side1 => repeat (first | exact (Kd.R_reads' HO213.out).2.2 | (with_reducible refine Kd.C_alloc ?_ _) | (with_reducible refine Kd.C_drewN ?_ _) | (with_reducible refine Kd.C_drew ?_))); (case side2 => exact (Kd.R_reads' HO213.out).2.1); (case side3 => repeat (first | exact (Kd.R_reads' HO216.out).2.2 | (with_reducible refine Kd.C_alloc ?_ _) | (with_reducible refine Kd.C_drewN ?_ _) | (with_reducible refine Kd.C_drew ?_))); (case side4 => exact (Kd.R_reads' HO216.out).2.1); rintro e w' ⟨rfl, ⟨nd, rfl⟩⟩; (try first | exact ⟨rfl, _, World.drewN_drewN _ _ _⟩ | exact ⟨rfl, _, Eq.trans (World.drewN_drewN _ _ _) (congrArg (World.drewN _) (Nat.add_assoc _ _ _))⟩))); try go_wp2_with (first | (go_at_call 6; (with_reducible refine (spec_PolyLine.calls kj2 t209 t210 t214 _ A11.out).mono ?_); rintro e w14 ⟨v215, rfl, ho0, hb⟩; have n0_ := Aside0.mk (Kd.R_elder' (by (with_reducible repeat (first | apply Kd.R_alloc | apply Kd.R_drewN | apply Kd.R_drew)); exact HO213.out) (Kd.R_base ho0) hb); have n1_ := Aside0.mk (Kd.R_lower (Kd.R_new' ho0 (Kd.R_lt (by (with_reducible repeat (first | apply Kd.R_alloc | apply Kd.R_drewN | apply Kd.R_drew)); exact HO213.out))) (below_size (by repeat (first | (with_reducible first | exact HB.out | apply below_alloc | apply pw_below_drewN | apply below_drew1) | exact HB.out)))); have n2_ := Aside0.mk (below_step (by repeat (first | (with_reducible first | exact HB.out | apply below_alloc | apply pw_below_drewN | apply below_drew1) | exact HB.out)) hb); clear HO213; clear HB; have HO213 := n0_; have HO216 := n1_; have HB := n2_; clear n0_ n1_ n2_; (try clear hb); (try clear hb2); (try clear hk); (try clear hi); (try clear ho0); obtain ⟨Ao15, co15, eo15⟩ := Kd.R_slice HO213.out; subst eo15; obtain ⟨Ao16, co16, eo16⟩ := Kd.R_slice HO216.out; subst eo16) | (go_at_call 12; (with_reducible refine (laws_loInts.calls kj2 _ _ t211 _ _ t214 true _ ?side1 ?side2 ?side3 ?side4 A12.out).mono ?_); (case side1 => repeat (first | exact (Kd.R_reads' HO213.out).2.2 | (with_reducible refine Kd.C_alloc ?_ _) | (with_reducible refine Kd.C_drewN ?_ _) | (with_reducible refine Kd.C_drew ?_))); (case side2 => exact (Kd.R_reads' HO213.out).2.1); (case side3 => repeat (first | exact (Kd.R_reads' HO216.out).2.2 | (with_reducible refine Kd.C_alloc ?_ _) | (with_reducible refine Kd.C_drewN ?_ _) | (with_reducible refine Kd.C_drew ?_))); (case side4 => exact (Kd.R_reads' HO216.out).2.1); rintro e w' ⟨rfl, ⟨nd, rfl⟩⟩; (try first | exact ⟨rfl, _, World.drewN_drewN _ _ _⟩ | exact ⟨rfl, _, Eq.trans (World.drewN_drewN _ _ _) (congrArg (World.drewN _) (Nat.add_assoc _ _ _))⟩))))
            go_meet
            case rel => exact ⟨_, (((t211.length : Int) == 0)), (by first | rfl | (simp; done) | (simp [*]; done)), H', ⟨by have := HJ2.out; first | omega | exact Nat.le_refl _⟩, ⟨by (with_reducible repeat (first | apply Kd.R_alloc | apply Kd.R_drewN | apply Kd.R_drew)); exact Kd.R_mono HO213.out (fun _ hk => trivial)⟩, ⟨by repeat (first | (with_reducible first | exact HB.out | apply below_alloc | apply pw_below_drewN | apply below_drew1) | exact HB.out)⟩⟩
          · replace c13 := Bool.eq_false_iff.mpr c13
            subst c13
            have H1 : (laws_FnLine.j1 kj2 l1 t209 t210 t211 true) = some r := by rw [if_neg (show ¬ (false = true) by decide)] at H; exact H
            clear H
            have H := H1
            clear H1
            have H' := Aside0.mk H
            clear H
            go_wp2_with (first | (go_at_call 6; (with_reducible refine (spec_PolyLine.calls kj2 t209 t210 t214 _ A11.out).mono ?_); rintro e w17 ⟨v215, rfl, ho0, hb⟩; have n0_ := Aside0.mk (Kd.R_elder' (by (with_reducible repeat (first | apply Kd.R_alloc | apply Kd.R_drewN | apply Kd.R_drew)); exact HO213.out) (Kd.R_base ho0) hb); have n1_ := Aside0.mk (Kd.R_lower (Kd.R_new' ho0 (Kd.R_lt (by (with_reducible repeat (first | apply Kd.R_alloc | apply Kd.R_drewN | apply Kd.R_drew)); exact HO213.out))) (below_size (by repeat (first | (with_reducible first | exact HB.out | apply below_alloc | apply pw_below_drewN | apply below_drew1) | exact HB.out)))); have n2_ := Aside0.mk (below_step (by repeat (first | (with_reducible first | exact HB.out | apply below_alloc | apply pw_below_drewN | apply below_drew1) | exact HB.out)) hb); clear HO213; clear HB; have HO213 := n0_; have HO216 := n1_; have HB := n2_; clear n0_ n1_ n2_; (try clear hb); (try clear hb2); (try clear hk); (try clear hi); (try clear ho0); obtain ⟨Ao18, co18, eo18⟩ := Kd.R_slice HO213.out; subst eo18; obtain ⟨Ao19, co19, eo19⟩ := Kd.R_slice HO216.out; subst eo19) | (go_at_call 12; (with_reducible refine (laws_loInts.calls kj2 _ _ t211 _ _ t214 false _ ?side1 ?side2 ?side3 ?side4 A12.out).mono ?_); (case side1 => repeat (first | exact (Kd.R_reads' HO213.out).2.2 | (with_reducible refine Kd.C_alloc ?_ _) | (with_reducible refine Kd.C_drewN ?_ _) | (with_reducible refine Kd.C_drew ?_))); (case side2 => exact (Kd.R_reads' HO213.out).2.1); (case side3 => repeat (first | exact (Kd.R_reads' HO216.out).2.2 | (with_reducible refine Kd.C_alloc ?_ _) | (with_reducible refine Kd.C_drewN ?_ _) | (with_reducible refine Kd.C_drew ?_))); (case side4 => exact (Kd.R_reads' HO216.out).2.1); rintro e w' ⟨rfl, ⟨nd, rfl⟩⟩; (try first | exact ⟨rfl, _, World.drewN_drewN _ _ _⟩ | exact ⟨rfl, _, Eq.trans (World.drewN_drewN _ _ _) (congrArg (World.drewN _) (Nat.add_assoc _ _ _))⟩)))
            repeat (go_quiet (first | (go_at_call 6; (with_reducible refine (spec_PolyLine.calls kj2 t209 t210 t214 _ A11.out).mono ?_); rintro e w17 ⟨v215, rfl, ho0, hb⟩; have n0_ := Aside0.mk (Kd.R_elder' (by (with_reducible repeat (first | apply Kd.R_alloc | apply Kd.R_drewN | apply Kd.R_drew)); exact HO213.out) (Kd.R_base ho0) hb); have n1_ := Aside0.mk (Kd.R_lower (Kd.R_new' ho0 (Kd.R_lt (by (with_reducible repeat (first | apply Kd.R_alloc | apply Kd.R_drewN | apply Kd.R_drew)); exact HO213.out))) (below_size (by repeat (first | (with_reducible first | exact HB.out | apply below_alloc | apply pw_below_drewN | apply below_drew1) | exact HB.out)))); have n2_ := Aside0.mk (below_step (by repeat (first | (with_reducible first | exact HB.out | apply below_alloc | apply pw_below_drewN | apply below_drew1) | exact HB.out)) hb); clear HO213; clear HB; have HO213 := n0_; have HO216 := n1_; have HB := n2_; clear n0_ n1_ n2_; (try clear hb); (try clear hb2); (try clear hk); (try clear hi); (try clear ho0); obtain ⟨Ao18, co18, eo18⟩ := Kd.R_slice HO213.out; subst eo18; obtain ⟨Ao19, co19, eo19⟩ := Kd.R_slice HO216.out; subst eo19) | (go_at_call 12; (with_reducible refine (laws_loInts.calls kj2 _ _ t211 _ _ t214 false _ ?side1 ?side2 ?side3 ?side4 A12.out).mono ?_); (case side1 => repeat (first | exact (Kd.R_reads' HO213.out).2.2 | (with_reducible refine Kd.C_alloc ?_ _) | (with_reducible refine Kd.C_drewN ?_ _) | (with_reducible refine Kd.C_drew ?_))); (case side2 => exact (Kd.R_reads' HO213.out).2.1); (case side3 => repeat (first | exact (Kd.R_reads' HO216.out).2.2 | (with_reducible refine Kd.C_alloc ?_ _) | (with_reducible refine Kd.C_drewN ?_ _) | (with_reducible refine Kd.C_drew ?_))); (case side4 => exact (Kd.R_reads' HO216.out).2.1); rintro e w' ⟨rfl, ⟨nd, rfl⟩⟩; (try first | exact ⟨rfl, _, World.drewN_drewN _ _ _⟩ | exact ⟨rfl, _, Eq.trans (World.drewN_drewN _ _ _) (congrArg (World.drewN _) (Nat.add_assoc _ _ _))⟩))); try go_wp2_with (first | (go_at_call 6; (with_reducible refine (spec_PolyLine.calls kj2 t209 t210 t214 _ A11.out).mono ?_); rintro e w17 ⟨v215, rfl, ho0, hb⟩; have n0_ := Aside0.mk (Kd.R_elder' (by (with_reducible repeat (first | apply Kd.R_alloc | apply Kd.R_drewN | apply Kd.R_drew)); exact HO213.out) (Kd.R_base ho0) hb); have n1_ := Aside0.mk (Kd.R_lower (Kd.R_new' ho0 (Kd.R_lt (by (with_reducible repeat (first | apply Kd.R_alloc | apply Kd.R_drewN | apply Kd.R_drew)); exact HO213.out))) (below_size (by repeat (first | (with_reducible first | exact HB.out | apply below_alloc | apply pw_below_drewN | apply below_drew1) | exact HB.out)))); have n2_ := Aside0.mk (below_step (by repeat (first | (with_reducible first | exact HB.out | apply below_alloc | apply pw_below_drewN | apply below_drew1) | exact HB.out)) hb); clear HO213; clear HB; have HO213 := n0_; have HO216 := n1_; have HB := n2_; clear n0_ n1_ n2_; (try clear hb); (try clear hb2); (try clear hk); (try clear hi); (try clear ho0); obtain ⟨Ao18, co18, eo18⟩ := Kd.R_slice HO213.out; subst eo18; obtain ⟨Ao19, co19, eo19⟩ := Kd.R_slice HO216.out; subst eo19) | (go_at_call 12; (with_reducible refine (laws_loInts.calls kj2 _ _ t211 _ _ t214 false _ ?side1 ?side2 ?side3 ?side4 A12.out).mono ?_); (case side1 => repeat (first | exact (Kd.R_reads' HO213.out).2.2 | (with_reducible refine Kd.C_alloc ?_ _) | (with_reducible refine Kd.C_drewN ?_ _) | (with_reducible refine Kd.C_drew ?_))); (case side2 => exact (Kd.R_reads' HO213.out).2.1); (case side3 => repeat (first | exact (Kd.R_reads' HO216.out).2.2 | (with_reducible refine Kd.C_alloc ?_ _) | (with_reducible refine Kd.C_drewN ?_ _) | (with_reducible refine Kd.C_drew ?_))); (case side4 => exact (Kd.R_reads' HO216.out).2.1); rintro e w' ⟨rfl, ⟨nd, rfl⟩⟩; (try first | exact ⟨rfl, _, World.drewN_drewN _ _ _⟩ | exact ⟨rfl, _, Eq.trans (World.drewN_drewN _ _ _) (congrArg (World.drewN _) (Nat.add_assoc _ _ _))⟩))))
            go_meet
            case rel => exact ⟨_, (true), (by first | rfl | (simp; done) | (simp [*]; done)), H', ⟨by have := HJ2.out; first | omega | exact Nat.le_refl _⟩, ⟨by (with_reducible repeat (first | apply Kd.R_alloc | apply Kd.R_drewN | apply Kd.R_drew)); exact Kd.R_mono HO213.out (fun _ hk => trivial)⟩, ⟨by repeat (first | (with_reducible first | exact HB.out | apply below_alloc | apply pw_below_drewN | apply below_drew1) | exact HB.out)⟩⟩
        case rest =>
          clear HC8
          try clear c1
          try clear p2
          try clear c4
          try clear c4b0
          try clear c4b1
          try clear c5
          try clear c13
          try clear p2
          obtain ⟨kq, x37_7, rfl, HA, HJ7, HO_7, HB⟩ := hcut
          cases kq with
          | zero => exact absurd HA.out (by simp [laws_FnLine.j1])
          | succ kj7 =>
            have H := HA.out
            clear HA
            simp only [laws_FnLine.j1] at H
            by_cases c20 : x37_7 = true
            · subst c20
              have H1 : ((spec_PolyLine.f kj7 t209 t210).bind fun t218 => ((laws_loInts.f kj7 t211 t218).bind fun t221 => (some t221))) = some r := by rw [if_pos rfl] at H; exact H
              clear H
              have H := H1
              clear H1
              replace H := Option.bind_eq_some_iff.mp H
              obtain ⟨t218, A210, H⟩ := H
              replace H : ((laws_loInts.f kj7 t211 t218).bind fun t221 => (some t221)) = some r := H
              have A21 := Aside0.mk A210
              clear A210
              replace H := Option.bind_eq_some_iff.mp H
              obtain ⟨t221, A220, H⟩ := H
              replace H : (some t221) = some r := H
              have A22 := Aside0.mk A220
              clear A220
              obtain rfl := Option.some.inj H
              go_wp2_with (first | (go_at_call 6; (with_reducible refine (spec_PolyLine.calls kj7 t209 t210 t218 _ A21.out).mono ?_); rintro e w23 ⟨v219, rfl, ho0, hb⟩; have n0_ := Aside0.mk (Kd.R_elder' (by (with_reducible repeat (first | apply Kd.R_alloc | apply Kd.R_drewN | apply Kd.R_drew)); exact HO_7.out) (Kd.R_base ho0) hb); have n1_ := Aside0.mk (Kd.R_lower (Kd.R_new' ho0 (Kd.R_lt (by (with_reducible repeat (first | apply Kd.R_alloc | apply Kd.R_drewN | apply Kd.R_drew)); exact HO_7.out))) (below_size (by repeat (first | (with_reducible first | exact HB.out | apply below_alloc | apply pw_below_drewN | apply below_drew1) | exact HB.out)))); have n2_ := Aside0.mk (below_step (by repeat (first | (with_reducible first | exact HB.out | apply below_alloc | apply pw_below_drewN | apply below_drew1) | exact HB.out)) hb); clear HO_7; clear HB; have HO_7 := n0_; have HO220 := n1_; have HB := n2_; clear n0_ n1_ n2_; (try clear hb); (try clear hb2); (try clear hk); (try clear hi); (try clear ho0); obtain ⟨Ao24, co24, eo24⟩ := Kd.R_slice HO_7.out; subst eo24; obtain ⟨Ao25, co25, eo25⟩ := Kd.R_slice HO220.out; subst eo25) | (go_at_call 12; (with_reducible refine (laws_loInts.calls kj7 _ _ t211 _ _ t218 t221 _ ?side1 ?side2 ?side3 ?side4 A22.out).mono ?_); (case side1 => repeat (first | exact (Kd.R_reads' HO_7.out).2.2 | (with_reducible refine Kd.C_alloc ?_ _) | (with_reducible refine Kd.C_drewN ?_ _) | (with_reducible refine Kd.C_drew ?_))); (case side2 => exact (Kd.R_reads' HO_7.out).2.1); (case side3 => repeat (first | exact (Kd.R_reads' HO220.out).2.2 | (with_reducible refine Kd.C_alloc ?_ _) | (with_reducible refine Kd.C_drewN ?_ _) | (with_reducible refine Kd.C_drew ?_))); (case side4 => exact (Kd.R_reads' HO220.out).2.1); rintro e w' ⟨rfl, ⟨nd, rfl⟩⟩; (try first | exact ⟨rfl, _, World.drewN_drewN _ _ _⟩ | exact ⟨rfl, _, Eq.trans (World.drewN_drewN _ _ _) (congrArg (World.drewN _) (Nat.add_assoc _ _ _))⟩)))
              repeat (go_quiet (first | (go_at_call 6; (with_reducible refine (spec_PolyLine.calls kj7 t209 t210 t218 _ A21.out).mono ?_); rintro e w23 ⟨v219, rfl, ho0, hb⟩; have n0_ := Aside0.mk (Kd.R_elder' (by (with_reducible repeat (first | apply Kd.R_alloc | apply Kd.R_drewN | apply Kd.R_drew)); exact HO_7.out) (Kd.R_base ho0) hb); have n1_ := Aside0.mk (Kd.R_lower (Kd.R_new' ho0 (Kd.R_lt (by (with_reducible repeat (first | apply Kd.R_alloc | apply Kd.R_drewN | apply Kd.R_drew)); exact HO_7.out))) (below_size (by repeat (first | (with_reducible first | exact HB.out | apply below_alloc | apply pw_below_drewN | apply below_drew1) | exact HB.out)))); have n2_ := Aside0.mk (below_step (by repeat (first | (with_reducible first | exact HB.out | apply below_alloc | apply pw_below_drewN | apply below_drew1) | exact HB.out)) hb); clear HO_7; clear HB; have HO_7 := n0_; have HO220 := n1_; have HB := n2_; clear n0_ n1_ n2_; (try clear hb); (try clear hb2); (try clear hk); (try clear hi); (try clear ho0); obtain ⟨Ao24, co24, eo24⟩ := Kd.R_slice HO_7.out; subst eo24; obtain ⟨Ao25, co25, eo25⟩ := Kd.R_slice HO220.out; subst eo25) | (go_at_call 12; (with_reducible refine (laws_loInts.calls kj7 _ _ t211 _ _ t218 t221 _ ?side1 ?side2 ?side3 ?side4 A22.out).mono ?_); (case side1 => repeat (first | exact (Kd.R_reads' HO_7.out).2.2 | (with_reducible refine Kd.C_alloc ?_ _) | (with_reducible refine Kd.C_drewN ?_ _) | (with_reducible refine Kd.C_drew ?_))); (case side2 => exact (Kd.R_reads' HO_7.out).2.1); (case side3 => repeat (first | exact (Kd.R_reads' HO220.out).2.2 | (with_reducible refine Kd.C_alloc ?_ _) | (with_reducible refine Kd.C_drewN ?_ _) | (with_reducible refine Kd.C_drew ?_))); (case side4 => exact (Kd.R_reads' HO220.out).2.1); rintro e w' ⟨rfl, ⟨nd, rfl⟩⟩; (try first | exact ⟨rfl, _, World.drewN_drewN _ _ _⟩ | exact ⟨rfl, _, Eq.trans (World.drewN_drewN _ _ _) (congrArg (World.drewN _) (Nat.add_assoc _ _ _))⟩))); try go_wp2_with (first | (go_at_call 6; (with_reducible refine (spec_PolyLine.calls kj7 t209 t210 t218 _ A21.out).mono ?_); rintro e w23 ⟨v219, rfl, ho0, hb⟩; have n0_ := Aside0.mk (Kd.R_elder' (by (with_reducible repeat (first | apply Kd.R_alloc | apply Kd.R_drewN | apply Kd.R_drew)); exact HO_7.out) (Kd.R_base ho0) hb); have n1_ := Aside0.mk (Kd.R_lower (Kd.R_new' ho0 (Kd.R_lt (by (with_reducible repeat (first | apply Kd.R_alloc | apply Kd.R_drewN | apply Kd.R_drew)); exact HO_7.out))) (below_size (by repeat (first | (with_reducible first | exact HB.out | apply below_alloc | apply pw_below_drewN | apply below_drew1) | exact HB.out)))); have n2_ := Aside0.mk (below_step (by repeat (first | (with_reducible first | exact HB.out | apply below_alloc | apply pw_below_drewN | apply below_drew1) | exact HB.out)) hb); clear HO_7; clear HB; have HO_7 := n0_; have HO220 := n1_; have HB := n2_; clear n0_ n1_ n2_; (try clear hb); (try clear hb2); (try clear hk); (try clear hi); (try clear ho0); obtain ⟨Ao24, co24, eo24⟩ := Kd.R_slice HO_7.out; subst eo24; obtain ⟨Ao25, co25, eo25⟩ := Kd.R_slice HO220.out; subst eo25) | (go_at_call 12; (with_reducible refine (laws_loInts.calls kj7 _ _ t211 _ _ t218 t221 _ ?side1 ?side2 ?side3 ?side4 A22.out).mono ?_); (case side1 => repeat (first | exact (Kd.R_reads' HO_7.out).2.2 | (with_reducible refine Kd.C_alloc ?_ _) | (with_reducible refine Kd.C_drewN ?_ _) | (with_reducible refine Kd.C_drew ?_))); (case side2 => exact (Kd.R_reads' HO_7.out).2.1); (case side3 => repeat (first | exact (Kd.R_reads' HO220.out).2.2 | (with_reducible refine Kd.C_alloc ?_ _) | (with_reducible refine Kd.C_drewN ?_ _) | (with_reducible refine Kd.C_drew ?_))); (case side4 => exact (Kd.R_reads' HO220.out).2.1); rintro e w' ⟨rfl, ⟨nd, rfl⟩⟩; (try first | exact ⟨rfl, _, World.drewN_drewN _ _ _⟩ | exact ⟨rfl, _, Eq.trans (World.drewN_drewN _ _ _) (congrArg (World.drewN _) (Nat.add_assoc _ _ _))⟩))))
              go_ret
              exact ⟨by first | rfl | (simp [errW_none, errW_some] <;> rfl) | (simp [*, errW_none, errW_some] <;> rfl), by repeat (first | (with_reducible first | exact HB.out | apply below_alloc | apply pw_below_drewN | apply below_drew1) | exact HB.out)⟩
            · replace c20 := Bool.eq_false_iff.mpr c20
              subst c20
              have H1 : ((laws_loSome.f kj7 (l1.length : Int) t209).bind fun t222 => (laws_FnLine.l0 kj7 t209 t210 t211 t222 0 0)) = some r := by rw [if_neg (show ¬ (false = true) by decide)] at H; exact H
              clear H
              have H := H1
              clear H1
              replace H := Option.bind_eq_some_iff.mp H
              obtain ⟨t222, A260, H⟩ := H
              replace H : (laws_FnLine.l0 kj7 t209 t210 t211 t222 0 0) = some r := H
              have A26 := Aside0.mk A260
              clear A260
              have H' := Aside0.mk H
              clear H
              go_wp2_with (first | (go_at_call 14; (with_reducible refine (laws_loSome.calls kj7 (l1.length : Int) t209 t222 _ A26.out).mono ?_); rintro e w27 ⟨v223, rfl, ho0, hb⟩; have n0_ := Aside0.mk (Kd.R_elder' (by (with_reducible repeat (first | apply Kd.R_alloc | apply Kd.R_drewN | apply Kd.R_drew)); exact HO_7.out) (Kd.R_base ho0) hb); have n1_ := Aside0.mk (Kd.R_lower (Kd.R_new' ho0 (Kd.R_lt (by (with_reducible repeat (first | apply Kd.R_alloc | apply Kd.R_drewN | apply Kd.R_drew)); exact HO_7.out))) (below_size (by repeat (first | (with_reducible first | exact HB.out | apply below_alloc | apply pw_below_drewN | apply below_drew1) | exact HB.out)))); have n2_ := Aside0.mk (below_step (by repeat (first | (with_reducible first | exact HB.out | apply below_alloc | apply pw_below_drewN | apply below_drew1) | exact HB.out)) hb); clear HO_7; clear HB; have HO_7 := n0_; have HO224 := n1_; have HB := n2_; clear n0_ n1_ n2_; (try clear hb); (try clear hb2); (try clear hk); (try clear hi); (try clear ho0)))
              repeat (go_quiet (first | (go_at_call 14; (with_reducible refine (laws_loSome.calls kj7 (l1.length : Int) t209 t222 _ A26.out).mono ?_); rintro e w27 ⟨v223, rfl, ho0, hb⟩; have n0_ := Aside0.mk (Kd.R_elder' (by (with_reducible repeat (first | apply Kd.R_alloc | apply Kd.R_drewN | apply Kd.R_drew)); exact HO_7.out) (Kd.R_base ho0) hb); have n1_ := Aside0.mk (Kd.R_lower (Kd.R_new' ho0 (Kd.R_lt (by (with_reducible repeat (first | apply Kd.R_alloc | apply Kd.R_drewN | apply Kd.R_drew)); exact HO_7.out))) (below_size (by repeat (first | (with_reducible first | exact HB.out | apply below_alloc | apply pw_below_drewN | apply below_drew1) | exact HB.out)))); have n2_ := Aside0.mk (below_step (by repeat (first | (with_reducible first | exact HB.out | apply below_alloc | apply pw_below_drewN | apply below_drew1) | exact HB.out)) hb); clear HO_7; clear HB; have HO_7 := n0_; have HO224 := n1_; have HB := n2_; clear n0_ n1_ n2_; (try clear hb); (try clear hb2); (try clear hk); (try clear hi); (try clear ho0))); try go_wp2_with (first | (go_at_call 14; (with_reducible refine (laws_loSome.calls kj7 (l1.length : Int) t209 t222 _ A26.out).mono ?_); rintro e w27 ⟨v223, rfl, ho0, hb⟩; have n0_ := Aside0.mk (Kd.R_elder' (by (with_reducible repeat (first | apply Kd.R_alloc | apply Kd.R_drewN | apply Kd.R_drew)); exact HO_7.out) (Kd.R_base ho0) hb); have n1_ := Aside0.mk (Kd.R_lower (Kd.R_new' ho0 (Kd.R_lt (by (with_reducible repeat (first | apply Kd.R_alloc | apply Kd.R_drewN | apply Kd.R_drew)); exact HO_7.out))) (below_size (by repeat (first | (with_reducible first | exact HB.out | apply below_alloc | apply pw_below_drewN | apply below_drew1) | exact HB.out)))); have n2_ := Aside0.mk (below_step (by repeat (first | (with_reducible first | exact HB.out | apply below_alloc | apply pw_below_drewN | apply below_drew1) | exact HB.out)) hb); clear HO_7; clear HB; have HO_7 := n0_; have HO224 := n1_; have HB := n2_; clear n0_ n1_ n2_; (try clear hb); (try clear hb2); (try clear hk); (try clear hi); (try clear ho0))))
              go_loopg [9, 10] kj7 (fun kq v9 v10 w' => ∃ (x9_3 : Int) (x10_3 : Int), v9 = .int .i64 x9_3 ∧ v10 = .int .i64 x10_3 ∧ Aside0 (laws_FnLine.l0 kq t209 t210 t211 t222 x9_3 x10_3 = some r) ∧ Aside0 (kq ≤ kj7) ∧ Aside0 (Kd.R (Kd.int .i64) 3 w' w.heap.size (fun k_ => some k_ ≠ (v223 : Value).ownBlock) v212 t211) ∧ Aside0 (Kd.R (Kd.int .i64) 3 w' w.heap.size (fun k_ => some k_ ≠ (v212 : Value).ownBlock) v223 t222) ∧ Aside0 (Below w.heap.size w w'))
              case atStart => exact ⟨(0), (0), (by first | rfl | (simp; done) | (simp [*]; done)), (by first | rfl | (simp; done) | (simp [*]; done)), H', ⟨Nat.le_refl _⟩, ⟨by (with_reducible repeat (first | apply Kd.R_alloc | apply Kd.R_drewN | apply Kd.R_drew)); exact Kd.R_mono HO_7.out (fun _ hk => hk.2)⟩, ⟨by (with_reducible repeat (first | apply Kd.R_alloc | apply Kd.R_drewN | apply Kd.R_drew)); exact Kd.R_mono HO224.out (fun _ hk => hk.2)⟩, ⟨by repeat (first | (with_reducible first | exact HB.out | apply below_alloc | apply pw_below_drewN | apply below_drew1) | exact HB.out)⟩⟩
              case round =>
                clear H'
                try clear c1
                try clear c2
                try clear p2
                try clear c4
                try clear c4b0
                try clear c4b1
                try clear c5
                try clear c13
                try clear c20
                try clear p2
                obtain ⟨x9_3, x10_3, rfl, rfl, HA, HK3, HO_7, HO_8, HB⟩ := hrel
                cases gk with
                | zero => exact absurd HA.out (by simp [laws_FnLine.l0])
                | succ k3 =>
                  have H := HA.out
                  clear HA
                  simp only [laws_FnLine.l0] at H
                  by_cases c28 : x10_3 < t209
                  · rw [if_pos c28] at H
                    have c28b0 : decide (x10_3 < t209) = true := decide_eq_true c28
                    clear c28
                    by_cases c29 : 0 ≤ x10_3
                    · rw [if_pos c29] at H
                      have c29b0 : decide (0 ≤ x10_3) = true := decide_eq_true c29
                      clear c29
                      by_cases c30 : x10_3 < (t211.length : Int)
                      · rw [if_pos c30] at H
                        have c30b0 : decide (x10_3 < (t211.length : Int)) = true := decide_eq_true c30
                        clear c30
                        by_cases c31 : x10_3 < (t222.length : Int)
                        · rw [if_pos c31] at H
                          have c31b0 : decide (x10_3 < (t222.length : Int)) = true := decide_eq_true c31
                          clear c31
                          replace H := Option.bind_eq_some_iff.mp H
                          obtain ⟨t227, A320, H⟩ := H
                          replace H : ((impl_FieldSum.f x9_3 t227).bind fun t228 => (laws_FnLine.l0 k3 t209 t210 t211 t222 t228 (wrap64 (x10_3 + 1)))) = some r := H
                          have A32 := Aside0.mk A320
                          clear A320
                          replace H := Option.bind_eq_some_iff.mp H
                          obtain ⟨t228, A330, H⟩ := H
                          replace H : (laws_FnLine.l0 k3 t209 t210 t211 t222 t228 (wrap64 (x10_3 + 1))) = some r := H
                          have A33 := Aside0.mk A330
                          clear A330
                          have H' := Aside0.mk H
                          clear H
                          obtain ⟨Ao34, co34, eo34⟩ := Kd.R_slice HO_7.out
                          subst eo34
                          have p225 : 0 ≤ (x10_3 : Int) := of_decide_eq_true (by first | (with_reducible assumption) | assumption)
                          have q225 : x10_3 < (t211.length : Int) := of_decide_eq_true (by first | (with_reducible assumption) | assumption)
                          obtain ⟨ad225, e225, hx225_0⟩ := Kd.at_int (Kd.R_reads' HO_7.out).2.2 x10_3 p225 q225
                          cases e225
                          replace p225 := eq_true p225
                          replace q225 := eq_true q225
                          obtain ⟨Ao35, co35, eo35⟩ := Kd.R_slice HO_8.out
                          subst eo35
                          have p226 : 0 ≤ (x10_3 : Int) := of_decide_eq_true (by first | (with_reducible assumption) | assumption)
                          have q226 : x10_3 < (t222.length : Int) := of_decide_eq_true (by first | (with_reducible assumption) | assumption)
                          obtain ⟨ad226, e226, hx226_0⟩ := Kd.at_int (Kd.R_reads' HO_8.out).2.2 x10_3 p226 q226
                          cases e226
                          replace p226 := eq_true p226
                          replace q226 := eq_true q226
                          go_wp2_with (first | (go_at_call 15; (with_reducible refine (impl_FieldMul.calls (rd t211 x10_3) (rd t222 x10_3) t227 _ A32.out).mono ?_); rintro e w' ⟨rfl, ⟨nd, rfl⟩⟩; (try first | exact ⟨rfl, _, World.drewN_drewN _ _ _⟩ | exact ⟨rfl, _, Eq.trans (World.drewN_drewN _ _ _) (congrArg (World.drewN _) (Nat.add_assoc _ _ _))⟩)) | (go_at_call 13; (with_reducible refine (impl_FieldSum.calls x9_3 t227 t228 _ A33.out).mono ?_); rintro e w' ⟨rfl, ⟨nd, rfl⟩⟩; (try first | exact ⟨rfl, _, World.drewN_drewN _ _ _⟩ | exact ⟨rfl, _, Eq.trans (World.drewN_drewN _ _ _) (congrArg (World.drewN _) (Nat.add_assoc _ _ _))⟩)))
                          repeat (go_quiet (first | (go_at_call 15; (with_reducible refine (impl_FieldMul.calls (rd t211 x10_3) (rd t222 x10_3) t227 _ A32.out).mono ?_); rintro e w' ⟨rfl, ⟨nd, rfl⟩⟩; (try first | exact ⟨rfl, _, World.drewN_drewN _ _ _⟩ | exact ⟨rfl, _, Eq.trans (World.drewN_drewN _ _ _) (congrArg (World.drewN _) (Nat.add_assoc _ _ _))⟩)) | (go_at_call 13; (with_reducible refine (impl_FieldSum.calls x9_3 t227 t228 _ A33.out).mono ?_); rintro e w' ⟨rfl, ⟨nd, rfl⟩⟩; (try first | exact ⟨rfl, _, World.drewN_drewN _ _ _⟩ | exact ⟨rfl, _, Eq.trans (World.drewN_drewN _ _ _) (congrArg (World.drewN _) (Nat.add_assoc _ _ _))⟩))); try go_wp2_with (first | (go_at_call 15; (with_reducible refine (impl_FieldMul.calls (rd t211 x10_3) (rd t222 x10_3) t227 _ A32.out).mono ?_); rintro e w' ⟨rfl, ⟨nd, rfl⟩⟩; (try first | exact ⟨rfl, _, World.drewN_drewN _ _ _⟩ | exact ⟨rfl, _, Eq.trans (World.drewN_drewN _ _ _) (congrArg (World.drewN _) (Nat.add_assoc _ _ _))⟩)) | (go_at_call 13; (with_reducible refine (impl_FieldSum.calls x9_3 t227 t228 _ A33.out).mono ?_); rintro e w' ⟨rfl, ⟨nd, rfl⟩⟩; (try first | exact ⟨rfl, _, World.drewN_drewN _ _ _⟩ | exact ⟨rfl, _, Eq.trans (World.drewN_drewN _ _ _) (congrArg (World.drewN _) (Nat.add_assoc _ _ _))⟩))))
                          go_roundg k3
                          case measure => have := HJ2.out; have := HJ7.out; have := HK3.out; omega
                          case rel => exact ⟨(t228), (wrap64 (x10_3 + 1)), (by first | rfl | (simp; done) | (simp [*]; done)), (by first | rfl | (simp; done) | (simp [*]; done)), H', ⟨by have := HJ2.out; have := HJ7.out; have := HK3.out; omega⟩, ⟨by (with_reducible repeat (first | apply Kd.R_alloc | apply Kd.R_drewN | apply Kd.R_drew)); exact HO_7.out⟩, ⟨by (with_reducible repeat (first | apply Kd.R_alloc | apply Kd.R_drewN | apply Kd.R_drew)); exact HO_8.out⟩, ⟨by repeat (first | (with_reducible first | exact HB.out | apply below_alloc | apply pw_below_drewN | apply below_drew1) | exact HB.out)⟩⟩
                        · rw [if_neg c31] at H
                          exact absurd H (by simp)
                      · rw [if_neg c30] at H
                        exact absurd H (by simp)
                    · rw [if_neg c29] at H
                      exact absurd H (by simp)
                  · rw [if_neg c28] at H
                    have c28b0 : decide (x10_3 < t209) = false := decide_eq_false c28
                    clear c28
                    replace H := Option.bind_eq_some_iff.mp H
                    obtain ⟨t229, A360, H⟩ := H
                    replace H : ((impl_PolyAt.f t229 t210).bind fun t232 => (if x9_3 = t232 then (some ((t211.length : Int) == t209)) else (some false))) = some r := H
                    have A36 := Aside0.mk A360
                    clear A360
                    replace H := Option.bind_eq_some_iff.mp H
                    obtain ⟨t232, A370, H⟩ := H
                    replace H : (if x9_3 = t232 then (some ((t211.length : Int) == t209)) else (some false)) = some r := H
                    have A37 := Aside0.mk A370
                    clear A370
                    by_cases c38 : x9_3 = t232
                    · rw [if_pos c38] at H
                      have c38b0 : (x9_3 == t232) = true := beq_iff_eq.mpr c38
                      have c38b1 : (x9_3 != t232) = false := bne_eq_false_iff_eq.mpr c38
                      clear c38
                      obtain rfl := Option.some.inj H
                      obtain ⟨Ao39, co39, eo39⟩ := Kd.R_slice HO_8.out
                      subst eo39
                      go_wp2_with (first | (go_at_call 17; (with_reducible refine (impl_PolyThrough.calls k3 _ _ t222 t229 _ ?side1 ?side2 A36.out).mono ?_); (case side1 => repeat (first | exact (Kd.R_reads' HO_8.out).2.2 | (with_reducible refine Kd.C_alloc ?_ _) | (with_reducible refine Kd.C_drewN ?_ _) | (with_reducible refine Kd.C_drew ?_))); (case side2 => exact (Kd.R_reads' HO_8.out).2.1); rintro e w40 ⟨v230, rfl, ho0, hb⟩; have n0_ := Aside0.mk (Kd.R_elder' (by (with_reducible repeat (first | apply Kd.R_alloc | apply Kd.R_drewN | apply Kd.R_drew)); exact HO_7.out) (Kd.R_base ho0) hb); have n1_ := Aside0.mk (Kd.R_elder' (by (with_reducible repeat (first | apply Kd.R_alloc | apply Kd.R_drewN | apply Kd.R_drew)); exact HO_8.out) (Kd.R_base ho0) hb); have n2_ := Aside0.mk (Kd.R_lower (Kd.R_new' (Kd.R_new' ho0 (Kd.R_lt (by (with_reducible repeat (first | apply Kd.R_alloc | apply Kd.R_drewN | apply Kd.R_drew)); exact HO_7.out))) (Kd.R_lt (by (with_reducible repeat (first | apply Kd.R_alloc | apply Kd.R_drewN | apply Kd.R_drew)); exact HO_8.out))) (below_size (by repeat (first | (with_reducible first | exact HB.out | apply below_alloc | apply pw_below_drewN | apply below_drew1) | exact HB.out)))); have n3_ := Aside0.mk (below_step (by repeat (first | (with_reducible first | exact HB.out | apply below_alloc | apply pw_below_drewN | apply below_drew1) | exact HB.out)) hb); clear HO_7; clear HO_8; clear HB; have HO_7 := n0_; have HO_8 := n1_; have HO231 := n2_; have HB := n3_; clear n0_ n1_ n2_ n3_; (try clear hb); (try clear hb2); (try clear hk); (try clear hi); (try clear ho0); obtain ⟨Ao41, co41, eo41⟩ := Kd.R_slice HO231.out; subst eo41) | (go_at_call 16; (with_reducible refine (impl_PolyAt.calls _ _ t229 t210 t232 _ ?side1 ?side2 A37.out).mono ?_); (case side1 => repeat (first | exact (Kd.R_reads' HO231.out).2.2 | (with_reducible refine Kd.C_alloc ?_ _) | (with_reducible refine Kd.C_drewN ?_ _) | (with_reducible refine Kd.C_drew ?_))); (case side2 => exact (Kd.R_reads' HO231.out).2.1); rintro e w42 ⟨rfl, hb⟩; have n0_ := Aside0.mk (Kd.R_below (by (with_reducible repeat (first | apply Kd.R_alloc | apply Kd.R_drewN | apply Kd.R_drew)); exact HO_7.out) hb); have n1_ := Aside0.mk (Kd.R_below (by (with_reducible repeat (first | apply Kd.R_alloc | apply Kd.R_drewN | apply Kd.R_drew)); exact HO_8.out) hb); have n2_ := Aside0.mk (Kd.R_below (by (with_reducible repeat (first | apply Kd.R_alloc | apply Kd.R_drewN | apply Kd.R_drew)); exact HO231.out) hb); have n3_ := Aside0.mk (below_step (by repeat (first | (with_reducible first | exact HB.out | apply below_alloc | apply pw_below_drewN | apply below_drew1) | exact HB.out)) hb); clear HO_7; clear HO_8; clear HO231; clear HB; have HO_7 := n0_; have HO_8 := n1_; have HO231 := n2_; have HB := n3_; clear n0_ n1_ n2_ n3_; (try clear hb); (try clear hb2); (try clear hk); (try clear hi); obtain ⟨Ao43, co43, eo43⟩ := Kd.R_slice HO_7.out; subst eo43))
                      repeat (go_quiet (first | (go_at_call 17; (with_reducible refine (impl_PolyThrough.calls k3 _ _ t222 t229 _ ?side1 ?side2 A36.out).mono ?_); (case side1 => repeat (first | exact (Kd.R_reads' HO_8.out).2.2 | (with_reducible refine Kd.C_alloc ?_ _) | (with_reducible refine Kd.C_drewN ?_ _) | (with_reducible refine Kd.C_drew ?_))); (case side2 => exact (Kd.R_reads' HO_8.out).2.1); rintro e w40 ⟨v230, rfl, ho0, hb⟩; have n0_ := Aside0.mk (Kd.R_elder' (by (with_reducible repeat (first | apply Kd.R_alloc | apply Kd.R_drewN | apply Kd.R_drew)); exact HO_7.out) (Kd.R_base ho0) hb); have n1_ := Aside0.mk (Kd.R_elder' (by (with_reducible repeat (first | apply Kd.R_alloc | apply Kd.R_drewN | apply Kd.R_drew)); exact HO_8.out) (Kd.R_base ho0) hb); have n2_ := Aside0.mk (Kd.R_lower (Kd.R_new' (Kd.R_new' ho0 (Kd.R_lt (by (with_reducible repeat (first | apply Kd.R_alloc | apply Kd.R_drewN | apply Kd.R_drew)); exact HO_7.out))) (Kd.R_lt (by (with_reducible repeat (first | apply Kd.R_alloc | apply Kd.R_drewN | apply Kd.R_drew)); exact HO_8.out))) (below_size (by repeat (first | (with_reducible first | exact HB.out | apply below_alloc | apply pw_below_drewN | apply below_drew1) | exact HB.out)))); have n3_ := Aside0.mk (below_step (by repeat (first | (with_reducible first | exact HB.out | apply below_alloc | apply pw_below_drewN | apply below_drew1) | exact HB.out)) hb); clear HO_7; clear HO_8; clear HB; have HO_7 := n0_; have HO_8 := n1_; have HO231 := n2_; have HB := n3_; clear n0_ n1_ n2_ n3_; (try clear hb); (try clear hb2); (try clear hk); (try clear hi); (try clear ho0); obtain ⟨Ao41, co41, eo41⟩ := Kd.R_slice HO231.out; subst eo41) | (go_at_call 16; (with_reducible refine (impl_PolyAt.calls _ _ t229 t210 t232 _ ?side1 ?side2 A37.out).mono ?_); (case side1 => repeat (first | exact (Kd.R_reads' HO231.out).2.2 | (with_reducible refine Kd.C_alloc ?_ _) | (with_reducible refine Kd.C_drewN ?_ _) | (with_reducible refine Kd.C_drew ?_))); (case side2 => exact (Kd.R_reads' HO231.out).2.1); rintro e w42 ⟨rfl, hb⟩; have n0_ := Aside0.mk (Kd.R_below (by (with_reducible repeat (first | apply Kd.R_alloc | apply Kd.R_drewN | apply Kd.R_drew)); exact HO_7.out) hb); have n1_ := Aside0.mk (Kd.R_below (by (with_reducible repeat (first | apply Kd.R_alloc | apply Kd.R_drewN | apply Kd.R_drew)); exact HO_8.out) hb); have n2_ := Aside0.mk (Kd.R_below (by (with_reducible repeat (first | apply Kd.R_alloc | apply Kd.R_drewN | apply Kd.R_drew)); exact HO231.out) hb); have n3_ := Aside0.mk (below_step (by repeat (first | (with_reducible first | exact HB.out | apply below_alloc | apply pw_below_drewN | apply below_drew1) | exact HB.out)) hb); clear HO_7; clear HO_8; clear HO231; clear HB; have HO_7 := n0_; have HO_8 := n1_; have HO231 := n2_; have HB := n3_; clear n0_ n1_ n2_ n3_; (try clear hb); (try clear hb2); (try clear hk); (try clear hi); obtain ⟨Ao43, co43, eo43⟩ := Kd.R_slice HO_7.out; subst eo43)); try go_wp2_with (first | (go_at_call 17; (with_reducible refine (impl_PolyThrough.calls k3 _ _ t222 t229 _ ?side1 ?side2 A36.out).mono ?_); (case side1 => repeat (first | exact (Kd.R_reads' HO_8.out).2.2 | (with_reducible refine Kd.C_alloc ?_ _) | (with_reducible refine Kd.C_drewN ?_ _) | (with_reducible refine Kd.C_drew ?_))); (case side2 => exact (Kd.R_reads' HO_8.out).2.1); rintro e w40 ⟨v230, rfl, ho0, hb⟩; have n0_ := Aside0.mk (Kd.R_elder' (by (with_reducible repeat (first | apply Kd.R_alloc | apply Kd.R_drewN | apply Kd.R_drew)); exact HO_7.out) (Kd.R_base ho0) hb); have n1_ := Aside0.mk (Kd.R_elder' (by (with_reducible repeat (first | apply Kd.R_alloc | apply Kd.R_drewN | apply Kd.R_drew)); exact HO_8.out) (Kd.R_base ho0) hb); have n2_ := Aside0.mk (Kd.R_lower (Kd.R_new' (Kd.R_new' ho0 (Kd.R_lt (by (with_reducible repeat (first | apply Kd.R_alloc | apply Kd.R_drewN | apply Kd.R_drew)); exact HO_7.out))) (Kd.R_lt (by (with_reducible repeat (first | apply Kd.R_alloc | apply Kd.R_drewN | apply Kd.R_drew)); exact HO_8.out))) (below_size (by repeat (first | (with_reducible first | exact HB.out | apply below_alloc | apply pw_below_drewN | apply below_drew1) | exact HB.out)))); have n3_ := Aside0.mk (below_step (by repeat (first | (with_reducible first | exact HB.out | apply below_alloc | apply pw_below_drewN | apply below_drew1) | exact HB.out)) hb); clear HO_7; clear HO_8; clear HB; have HO_7 := n0_; have HO_8 := n1_; have HO231 := n2_; have HB := n3_; clear n0_ n1_ n2_ n3_; (try clear hb); (try clear hb2); (try clear hk); (try clear hi); (try clear ho0); obtain ⟨Ao41, co41, eo41⟩ := Kd.R_slice HO231.out; subst eo41) | (go_at_call 16; (with_reducible refine (impl_PolyAt.calls _ _ t229 t210 t232 _ ?side1 ?side2 A37.out).mono ?_); (case side1 => repeat (first | exact (Kd.R_reads' HO231.out).2.2 | (with_reducible refine Kd.C_alloc ?_ _) | (with_reducible refine Kd.C_drewN ?_ _) | (with_reducible refine Kd.C_drew ?_))); (case side2 => exact (Kd.R_reads' HO231.out).2.1); rintro e w42 ⟨rfl, hb⟩; have n0_ := Aside0.mk (Kd.R_below (by (with_reducible repeat (first | apply Kd.R_alloc | apply Kd.R_drewN | apply Kd.R_drew)); exact HO_7.out) hb); have n1_ := Aside0.mk (Kd.R_below (by (with_reducible repeat (first | apply Kd.R_alloc | apply Kd.R_drewN | apply Kd.R_drew)); exact HO_8.out) hb); have n2_ := Aside0.mk (Kd.R_below (by (with_reducible repeat (first | apply Kd.R_alloc | apply Kd.R_drewN | apply Kd.R_drew)); exact HO231.out) hb); have n3_ := Aside0.mk (below_step (by repeat (first | (with_reducible first | exact HB.out | apply below_alloc | apply pw_below_drewN | apply below_drew1) | exact HB.out)) hb); clear HO_7; clear HO_8; clear HO231; clear HB; have HO_7 := n0_; have HO_8 := n1_; have HO231 := n2_; have HB := n3_; clear n0_ n1_ n2_ n3_; (try clear hb); (try clear hb2); (try clear hk); (try clear hi); obtain ⟨Ao43, co43, eo43⟩ := Kd.R_slice HO_7.out; subst eo43)))
                      go_ret
                      exact ⟨by first | rfl | (simp [errW_none, errW_some] <;> rfl) | (simp [*, errW_none, errW_some] <;> rfl), by repeat (first | (with_reducible first | exact HB.out | apply below_alloc | apply pw_below_drewN | apply below_drew1) | exact HB.out)⟩
                    · rw [if_neg c38] at H
                      have c38b0 : (x9_3 == t232) = false := beq_eq_false_iff_ne.mpr c38
                      have c38b1 : (x9_3 != t232) = true := bne_iff_ne.mpr c38
                      exact absurd (Option.some.inj (H.trans (congrArg some HRT.out))) (by decide)

/-- THE ONE PURE STATEMENT of laws_FnLine: yours. -/
def laws_FnLine.Pure : Prop := ∀ (l0 : List Int) (l1 : List Int), l0.length ≤ maxLen → l0.length * 1 ≤ 140737488351232 → (∀ x ∈ l0, (Lit.int .u8 x).wf = true) → l1.length ≤ maxLen → l1.length * 1 ≤ 140737488351232 → (∀ x ∈ l1, (Lit.int .u8 x).wf = true) → ∃ k, laws_FnLine.f k l0 l1 = some true
theorem laws_FnLine.walk (P : laws_FnLine.Pure) (a0 : Option Addr) (len0 cap0 : Nat) (z0 : List Int) (a1 : Option Addr) (len1 cap1 : Nat) (z1 : List Int) (w : World) (w0 : (a0 = none ∧ len0 = 0 ∧ cap0 = 0 ∧ z0 = []) ∨ ∃ x, a0 = some x ∧ len0 ≤ cap0 ∧ cap0 ≤ maxLen ∧ z0.length = cap0 ∧ (∀ i, i < z0.length → w.cell? (x.add i) = some (.int .u8 (z0.getD i 0))) ∧ ∀ n ∈ z0, (Lit.int .u8 n).wf = true) (y0 : len0 * 1 ≤ 140737488351232) (w1 : (a1 = none ∧ len1 = 0 ∧ cap1 = 0 ∧ z1 = []) ∨ ∃ x, a1 = some x ∧ len1 ≤ cap1 ∧ cap1 ≤ maxLen ∧ z1.length = cap1 ∧ (∀ i, i < z1.length → w.cell? (x.add i) = some (.int .u8 (z1.getD i 0))) ∧ ∀ n ∈ z1, (Lit.int .u8 n).wf = true) (y1 : len1 * 1 ≤ 140737488351232) :
    Calls Try.prog 5 #[.slice a0 len0 cap0, .slice a1 len1 cap1] w fun e w' => e = .returned (.bool true) ∧ Below w.heap.size w w' := by
  obtain ⟨l0, rfl, hr0, hm0, hw0, hc0⟩ := ReadsInt.ofRowC w0
  obtain ⟨l1, rfl, hr1, hm1, hw1, hc1⟩ := ReadsInt.ofRowC w1
  obtain ⟨k, h⟩ := P l0 l1 hm0 y0 hw0 hm1 y1 hw1
  refine (laws_FnLine.calls k _ _ l0 _ _ l1 true w (Kd.C_of_reads (d := (0 : Int)) (h1 := fun _ => rfl) hr0) hc0 (Kd.C_of_reads (d := (0 : Int)) (h1 := fun _ => rfl) hr1) hc1 h rfl).mono ?_
  rintro e w' ⟨rfl, hd⟩
  exact ⟨rfl, hd⟩

end Go.Proofs.Ytmgpihkjnlicpaa.PFnLine
